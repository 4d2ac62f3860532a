/-
  What boulterlaw32_OptionLimits tells, reckoned by the kernel on its model's twin.
-/
import Derived.Test.YtkdlmohhklimjaaGreatDoorKAll
import Derived.Test.YtkdlmohhklimjaaGreatDoorAvComp
import Derived.Test.YtkdlmohhklimjaaGreatDoorAvSm
import Derived.Test.YtkdlmohhklimjaaGreatDoorAvYld
namespace Go.Av.L
open Go.Av Go.Lib
set_option linter.unusedVariables false
set_option maxRecDepth 100000

noncomputable abbrev lpN {σ ρ : Type} (n : Nat) (st : σ → Option (σ ⊕ ρ)) (s : σ) : Option ρ := loopN st n s
theorem Le.yld {X σ ρ : Type} {Y Y' : σ → X → Option (σ ⊕ ρ)} (h : ∀ a b, Le (Y a b) (Y' a b)) (y : σ ⊕ ρ) (x : X) : Le (Go.Av.yld Y y x) (Go.Av.yld Y' y x) := by
  cases y with
  | inl s =>
    intro r hr
    unfold Go.Av.yld at hr ⊢
    simp only [Option.map_eq_some_iff] at hr ⊢
    obtain ⟨o, h1, h2⟩ := hr
    exact ⟨o, h s x o h1, h2⟩
  | inr r => exact Le.none _
noncomputable def C_option_Default (n : Nat) : Option (Unit) :=
 some ()
theorem le_C_option_Default (n : Nat) (hn : n ≤ bigF) : Le (C_option_Default n ) (M_option_Default ) := by
  unfold C_option_Default M_option_Default
  repeat' (first | with_reducible (first | exact Le.refl _ | exact Le.none _ | refine Le.bind ?_ (fun _ => ?_) | refine Le.iteB ?_ ?_ | refine Le.need ?_) | refine Le.loop (fun _ => ?_) | split | dsimp only)
noncomputable def C_option_none (n : Nat) : Option (S_option_flaw) :=
 some (⟨(0 : Int), (0 : Int)⟩ : S_option_flaw)
theorem le_C_option_none (n : Nat) (hn : n ≤ bigF) : Le (C_option_none n ) (M_option_none ) := by
  unfold C_option_none M_option_none
  repeat' (first | with_reducible (first | exact Le.refl _ | exact Le.none _ | refine Le.bind ?_ (fun _ => ?_) | refine Le.iteB ?_ ?_ | refine Le.need ?_) | refine Le.loop (fun _ => ?_) | split | dsimp only)
noncomputable def C_glob_Parse_L0 (n : Nat) (p0 : List UInt8) (s : (List S_glob_Token) × Int) : Option (((List S_glob_Token) × Int) ⊕ (((List S_glob_Token)) ⊕ (Int × Int))) :=
 match s with
 | (x1, x2) => iteB (decide (x2 < (p0.length : Int))) (iteB ((x1.length : Int) == (1024 : Int)) (some (.inr (.inr (x2, (8 : Int))))) ((ixS p0 x2).bind fun x6 => iteB (x6 == (42 : Int)) (need (okN 48 (x1.length + ([(⟨(4 : Int), (0 : Int), (⟨(0 : Int), (0 : Int), (0 : Int), (0 : Int)⟩ : A4_uint64)⟩ : S_glob_Token)] : List S_glob_Token).length)) <| some (.inl ((x1 ++ ([(⟨(4 : Int), (0 : Int), (⟨(0 : Int), (0 : Int), (0 : Int), (0 : Int)⟩ : A4_uint64)⟩ : S_glob_Token)] : List S_glob_Token)), IntKind.i64.wrap (x2 + (1 : Int))))) (iteB (x6 == (63 : Int)) (need (okN 48 (x1.length + ([(⟨(2 : Int), (0 : Int), (⟨(0 : Int), (0 : Int), (0 : Int), (0 : Int)⟩ : A4_uint64)⟩ : S_glob_Token)] : List S_glob_Token).length)) <| some (.inl ((x1 ++ ([(⟨(2 : Int), (0 : Int), (⟨(0 : Int), (0 : Int), (0 : Int), (0 : Int)⟩ : A4_uint64)⟩ : S_glob_Token)] : List S_glob_Token)), IntKind.i64.wrap (x2 + (1 : Int))))) (iteB (x6 == (91 : Int)) (none) (iteB (x6 == (92 : Int)) (iteB (x2 == (IntKind.i64.wrap ((p0.length : Int) - (1 : Int)))) (some (.inr (.inr (x2, (11 : Int))))) ((ixS p0 (IntKind.i64.wrap (x2 + (1 : Int)))).bind fun x7 => need (okN 48 (x1.length + ([(⟨(1 : Int), x7, (⟨(0 : Int), (0 : Int), (0 : Int), (0 : Int)⟩ : A4_uint64)⟩ : S_glob_Token)] : List S_glob_Token).length)) <| some (.inl ((x1 ++ ([(⟨(1 : Int), x7, (⟨(0 : Int), (0 : Int), (0 : Int), (0 : Int)⟩ : A4_uint64)⟩ : S_glob_Token)] : List S_glob_Token)), IntKind.i64.wrap (x2 + (2 : Int)))))) (need (okN 48 (x1.length + ([(⟨(1 : Int), x6, (⟨(0 : Int), (0 : Int), (0 : Int), (0 : Int)⟩ : A4_uint64)⟩ : S_glob_Token)] : List S_glob_Token).length)) <| some (.inl ((x1 ++ ([(⟨(1 : Int), x6, (⟨(0 : Int), (0 : Int), (0 : Int), (0 : Int)⟩ : A4_uint64)⟩ : S_glob_Token)] : List S_glob_Token)), IntKind.i64.wrap (x2 + (1 : Int)))))))))) (some (.inr (.inl x1)))
theorem le_C_glob_Parse_L0 (n : Nat) (hn : n ≤ bigF) : ∀ (p0 : List UInt8) (s : (List S_glob_Token) × Int), Le (C_glob_Parse_L0 n p0 s) (M_glob_Parse_L0 p0 s) := by
  intro p0 s
  unfold C_glob_Parse_L0 M_glob_Parse_L0
  repeat' (first | with_reducible (first | exact Le.refl _ | exact Le.none _ | refine Le.bind ?_ (fun _ => ?_) | refine Le.iteB ?_ ?_ | refine Le.need ?_) | refine Le.loop (fun _ => ?_) | split | dsimp only)
noncomputable def C_glob_Parse (n : Nat) (p0 : List UInt8) : Option ((List S_glob_Token) × Int × Int) :=
 (lpN n (C_glob_Parse_L0 n p0) (([] : List S_glob_Token), (0 : Int))).bind fun o1 => (match o1 with | .inl x3 => some (x3, (0 : Int), (0 : Int)) | .inr (x4, x5) => some (([] : List S_glob_Token), x4, x5))
theorem le_C_glob_Parse (n : Nat) (hn : n ≤ bigF) : ∀ (p0 : List UInt8), Le (C_glob_Parse n p0) (M_glob_Parse p0) := by
  intro p0
  unfold C_glob_Parse M_glob_Parse
  repeat' (first | with_reducible (first | exact Le.refl _ | apply le_C_glob_Parse_L0 n hn | exact Le.none _ | refine Le.bind ?_ (fun _ => ?_) | refine Le.iteB ?_ ?_ | refine Le.need ?_) | refine Le.loop (fun _ => ?_) | split | dsimp only)
noncomputable def C_option_reading_pattern_sPOOOSe0II (n : Nat) (p0 : S_option_reading) (p1 : List UInt8) (p3 : Int) (p4 : Int) : Option (S_option_flaw × (List S_pattern_Rule)) :=
 (C_glob_Parse n p1).bind fun (x1, x2, x3) => iteB (x3 != (0 : Int)) (some ((⟨(11 : Int), p4⟩ : S_option_flaw), p0.c_.Includes)) (iteB ((IntKind.i64.wrap ((p0.c_.Includes.length : Int) + (p0.c_.Excludes.length : Int))) == (256 : Int)) (some ((⟨(8 : Int), p3⟩ : S_option_flaw), p0.c_.Includes)) (need (okN 24 (p0.c_.Includes.length + ([(⟨p1, p0.flags_.Anchored, p0.flags_.Fold, p0.flags_.Slash⟩ : S_pattern_Rule)] : List S_pattern_Rule).length)) <| (C_option_none n).bind fun x4 => some (x4, (p0.c_.Includes ++ ([(⟨p1, p0.flags_.Anchored, p0.flags_.Fold, p0.flags_.Slash⟩ : S_pattern_Rule)] : List S_pattern_Rule)))))
theorem le_C_option_reading_pattern_sPOOOSe0II (n : Nat) (hn : n ≤ bigF) : ∀ (p0 : S_option_reading) (p1 : List UInt8) (p3 : Int) (p4 : Int), Le (C_option_reading_pattern_sPOOOSe0II n p0 p1 p3 p4) (M_option_reading_pattern_sPOOOSe0II p0 p1 p3 p4) := by
  intro p0 p1 p3 p4
  unfold C_option_reading_pattern_sPOOOSe0II M_option_reading_pattern_sPOOOSe0II
  repeat' (first | with_reducible (first | exact Le.refl _ | apply le_C_glob_Parse n hn | apply le_C_option_none n hn | exact Le.none _ | refine Le.bind ?_ (fun _ => ?_) | refine Le.iteB ?_ ?_ | refine Le.need ?_) | refine Le.loop (fun _ => ?_) | split | dsimp only)
noncomputable def C_option_words_7_sPOOOSII (n : Nat) (p0 : S_option_reading) (p1 : List UInt8) (p2 : Int) (p3 : Int) : Option (S_option_flaw × (List S_pattern_Rule)) :=
 (C_option_reading_pattern_sPOOOSe0II n p0 p1 p2 p3).bind fun (x1, x2) => some (x1, x2)
theorem le_C_option_words_7_sPOOOSII (n : Nat) (hn : n ≤ bigF) : ∀ (p0 : S_option_reading) (p1 : List UInt8) (p2 : Int) (p3 : Int), Le (C_option_words_7_sPOOOSII n p0 p1 p2 p3) (M_option_words_7_sPOOOSII p0 p1 p2 p3) := by
  intro p0 p1 p2 p3
  unfold C_option_words_7_sPOOOSII M_option_words_7_sPOOOSII
  repeat' (first | with_reducible (first | exact Le.refl _ | apply le_C_option_reading_pattern_sPOOOSe0II n hn | exact Le.none _ | refine Le.bind ?_ (fun _ => ?_) | refine Le.iteB ?_ ?_ | refine Le.need ?_) | refine Le.loop (fun _ => ?_) | split | dsimp only)
noncomputable def C_option_number_L0 (n : Nat) (p0 : List UInt8) (s : Int × Int) : Option ((Int × Int) ⊕ ((Int) ⊕ (Int × Bool))) :=
 match s with
 | (x3, x4) => iteB (decide (x4 < (p0.length : Int))) ((ixS p0 x4).bind fun x8 => (iteB (decide (x8 < (48 : Int))) (some true) ((ixS p0 x4).bind fun x10 => some (decide (x10 > (57 : Int)))) : Option (Bool)).bind fun x9 => iteB x9 (some (.inr (.inr ((0 : Int), false)))) ((ixS p0 x4).bind fun x11 => some (.inl (IntKind.i64.wrap ((IntKind.i64.wrap ((10 : Int) * x3)) + (IntKind.i64.wrap (IntKind.u8.wrap (x11 - (48 : Int))))), IntKind.i64.wrap (x4 + (1 : Int)))))) (some (.inr (.inl x3)))
theorem le_C_option_number_L0 (n : Nat) (hn : n ≤ bigF) : ∀ (p0 : List UInt8) (s : Int × Int), Le (C_option_number_L0 n p0 s) (M_option_number_L0 p0 s) := by
  intro p0 s
  unfold C_option_number_L0 M_option_number_L0
  repeat' (first | with_reducible (first | exact Le.refl _ | exact Le.none _ | refine Le.bind ?_ (fun _ => ?_) | refine Le.iteB ?_ ?_ | refine Le.need ?_) | refine Le.loop (fun _ => ?_) | split | dsimp only)
noncomputable def C_option_number (n : Nat) (p0 : List UInt8) (p1 : Int) (p2 : Int) : Option (Int × Bool) :=
 (iteB (((p0.length : Int) == (0 : Int)) || (decide ((p0.length : Int) > (5 : Int)))) (some true) ((ixS p0 (0 : Int)).bind fun x2 => some ((x2 == (48 : Int)) && (decide ((p0.length : Int) > (1 : Int))))) : Option (Bool)).bind fun x1 => iteB x1 (some ((0 : Int), false)) ((lpN n (C_option_number_L0 n p0) ((0 : Int), (0 : Int))).bind fun o1 => (match o1 with | .inl x5 => some (x5, (decide (x5 ≥ p1)) && (decide (x5 ≤ p2))) | .inr (x6, x7) => some (x6, x7)))
theorem le_C_option_number (n : Nat) (hn : n ≤ bigF) : ∀ (p0 : List UInt8) (p1 : Int) (p2 : Int), Le (C_option_number n p0 p1 p2) (M_option_number p0 p1 p2) := by
  intro p0 p1 p2
  unfold C_option_number M_option_number
  repeat' (first | with_reducible (first | exact Le.refl _ | apply le_C_option_number_L0 n hn | exact Le.none _ | refine Le.bind ?_ (fun _ => ?_) | refine Le.iteB ?_ ?_ | refine Le.need ?_) | refine Le.loop (fun _ => ?_) | split | dsimp only)
noncomputable def C_stringslite_IndexByte (n : Nat) (p0 : List UInt8) (p1 : Int) : Option (Int) :=
 (X_IndexByte p0 p1).bind fun x1 => some x1
theorem le_C_stringslite_IndexByte (n : Nat) (hn : n ≤ bigF) : ∀ (p0 : List UInt8) (p1 : Int), Le (C_stringslite_IndexByte n p0 p1) (M_stringslite_IndexByte p0 p1) := by
  intro p0 p1
  unfold C_stringslite_IndexByte M_stringslite_IndexByte
  repeat' (first | with_reducible (first | exact Le.refl _ | exact Le.none _ | refine Le.bind ?_ (fun _ => ?_) | refine Le.iteB ?_ ?_ | refine Le.need ?_) | refine Le.loop (fun _ => ?_) | split | dsimp only)
noncomputable def C_option_reading_pattern_sPOOOSe0_1II (n : Nat) (p0 : S_option_reading) (p1 : List UInt8) (p3 : Int) (p4 : Int) : Option (S_option_flaw × (List S_pattern_Rule)) :=
 (C_glob_Parse n p1).bind fun (x1, x2, x3) => iteB (x3 != (0 : Int)) (some ((⟨(11 : Int), p4⟩ : S_option_flaw), p0.c_.Excludes)) (iteB ((IntKind.i64.wrap ((p0.c_.Includes.length : Int) + (p0.c_.Excludes.length : Int))) == (256 : Int)) (some ((⟨(8 : Int), p3⟩ : S_option_flaw), p0.c_.Excludes)) (need (okN 24 (p0.c_.Excludes.length + ([(⟨p1, p0.flags_.Anchored, p0.flags_.Fold, p0.flags_.Slash⟩ : S_pattern_Rule)] : List S_pattern_Rule).length)) <| (C_option_none n).bind fun x4 => some (x4, (p0.c_.Excludes ++ ([(⟨p1, p0.flags_.Anchored, p0.flags_.Fold, p0.flags_.Slash⟩ : S_pattern_Rule)] : List S_pattern_Rule)))))
theorem le_C_option_reading_pattern_sPOOOSe0_1II (n : Nat) (hn : n ≤ bigF) : ∀ (p0 : S_option_reading) (p1 : List UInt8) (p3 : Int) (p4 : Int), Le (C_option_reading_pattern_sPOOOSe0_1II n p0 p1 p3 p4) (M_option_reading_pattern_sPOOOSe0_1II p0 p1 p3 p4) := by
  intro p0 p1 p3 p4
  unfold C_option_reading_pattern_sPOOOSe0_1II M_option_reading_pattern_sPOOOSe0_1II
  repeat' (first | with_reducible (first | exact Le.refl _ | apply le_C_glob_Parse n hn | apply le_C_option_none n hn | exact Le.none _ | refine Le.bind ?_ (fun _ => ?_) | refine Le.iteB ?_ ?_ | refine Le.need ?_) | refine Le.loop (fun _ => ?_) | split | dsimp only)
noncomputable def C_option_words_8_sPOOOSII (n : Nat) (p0 : S_option_reading) (p1 : List UInt8) (p2 : Int) (p3 : Int) : Option (S_option_flaw × (List S_pattern_Rule)) :=
 (C_option_reading_pattern_sPOOOSe0_1II n p0 p1 p2 p3).bind fun (x1, x2) => some (x1, x2)
theorem le_C_option_words_8_sPOOOSII (n : Nat) (hn : n ≤ bigF) : ∀ (p0 : S_option_reading) (p1 : List UInt8) (p2 : Int) (p3 : Int), Le (C_option_words_8_sPOOOSII n p0 p1 p2 p3) (M_option_words_8_sPOOOSII p0 p1 p2 p3) := by
  intro p0 p1 p2 p3
  unfold C_option_words_8_sPOOOSII M_option_words_8_sPOOOSII
  repeat' (first | with_reducible (first | exact Le.refl _ | apply le_C_option_reading_pattern_sPOOOSe0_1II n hn | exact Le.none _ | refine Le.bind ?_ (fun _ => ?_) | refine Le.iteB ?_ ?_ | refine Le.need ?_) | refine Le.loop (fun _ => ?_) | split | dsimp only)
noncomputable def C_strings_IndexByte (n : Nat) (p0 : List UInt8) (p1 : Int) : Option (Int) :=
 (C_stringslite_IndexByte n p0 p1).bind fun x1 => some x1
theorem le_C_strings_IndexByte (n : Nat) (hn : n ≤ bigF) : ∀ (p0 : List UInt8) (p1 : Int), Le (C_strings_IndexByte n p0 p1) (M_strings_IndexByte p0 p1) := by
  intro p0 p1
  unfold C_strings_IndexByte M_strings_IndexByte
  repeat' (first | with_reducible (first | exact Le.refl _ | apply le_C_stringslite_IndexByte n hn | exact Le.none _ | refine Le.bind ?_ (fun _ => ?_) | refine Le.iteB ?_ ?_ | refine Le.need ?_) | refine Le.loop (fun _ => ?_) | split | dsimp only)
noncomputable def C_exfile_Cut_L0 (n : Nat) (p0 : List UInt8) (s : Int × Int) : Option ((Int × Int) ⊕ ((Int) ⊕ ((List UInt8) × (List UInt8) × Bool))) :=
 match s with
 | (x1, x2) => iteB (decide (x1 > (0 : Int))) ((iteB (x2 == (p0.length : Int)) (some (.inr (([] : List UInt8), ([] : List UInt8), false))) ((subS p0 (some x2) none).bind fun x11 => (C_strings_IndexByte n x11 (10 : Int)).bind fun x12 => iteB (decide (x12 < (0 : Int))) (some (.inl (p0.length : Int))) (some (.inl (IntKind.i64.wrap (x2 + (IntKind.i64.wrap (x12 + (1 : Int)))))))) : Option ((Int) ⊕ ((List UInt8) × (List UInt8) × Bool))).bind fun o2 => (match o2 with | .inl x7 => some (.inl (IntKind.i64.wrap (x1 - (1 : Int)), x7)) | .inr (x8, x9, x10) => some (.inr (.inr (x8, x9, x10))))) (some (.inr (.inl x2)))
theorem le_C_exfile_Cut_L0 (n : Nat) (hn : n ≤ bigF) : ∀ (p0 : List UInt8) (s : Int × Int), Le (C_exfile_Cut_L0 n p0 s) (M_exfile_Cut_L0 p0 s) := by
  intro p0 s
  unfold C_exfile_Cut_L0 M_exfile_Cut_L0
  repeat' (first | with_reducible (first | exact Le.refl _ | apply le_C_strings_IndexByte n hn | exact Le.none _ | refine Le.bind ?_ (fun _ => ?_) | refine Le.iteB ?_ ?_ | refine Le.need ?_) | refine Le.loop (fun _ => ?_) | split | dsimp only)
noncomputable def C_exfile_Cut (n : Nat) (p0 : List UInt8) (p1 : Int) : Option ((List UInt8) × (List UInt8) × Bool) :=
 iteB (decide (p1 < (0 : Int))) (some (([] : List UInt8), ([] : List UInt8), false)) ((lpN n (C_exfile_Cut_L0 n p0) (p1, (0 : Int))).bind fun o1 => (match o1 with | .inl x3 => (subS p0 none (some x3)).bind fun x13 => (subS p0 (some x3) none).bind fun x14 => some (x13, x14, true) | .inr (x4, x5, x6) => some (x4, x5, x6)))
theorem le_C_exfile_Cut (n : Nat) (hn : n ≤ bigF) : ∀ (p0 : List UInt8) (p1 : Int), Le (C_exfile_Cut n p0 p1) (M_exfile_Cut p0 p1) := by
  intro p0 p1
  unfold C_exfile_Cut M_exfile_Cut
  repeat' (first | with_reducible (first | exact Le.refl _ | apply le_C_exfile_Cut_L0 n hn | exact Le.none _ | refine Le.bind ?_ (fun _ => ?_) | refine Le.iteB ?_ ?_ | refine Le.need ?_) | refine Le.loop (fun _ => ?_) | split | dsimp only)
noncomputable def C_strings_Lines (n : Nat) (p0 : List UInt8) : Option ((List UInt8)) :=
 some p0
theorem le_C_strings_Lines (n : Nat) (hn : n ≤ bigF) : ∀ (p0 : List UInt8), Le (C_strings_Lines n p0) (M_strings_Lines p0) := by
  intro p0
  unfold C_strings_Lines M_strings_Lines
  repeat' (first | with_reducible (first | exact Le.refl _ | exact Le.none _ | refine Le.bind ?_ (fun _ => ?_) | refine Le.iteB ?_ ?_ | refine Le.need ?_) | refine Le.loop (fun _ => ?_) | split | dsimp only)
noncomputable def C_strings_Lines_1_sYP_L0 (n : Nat) {SY RY : Type} (Y : SY → (List UInt8) → Option (SY ⊕ RY)) (s : (List UInt8) × (SY ⊕ RY)) : Option (((List UInt8) × (SY ⊕ RY)) ⊕ (((List UInt8) × (SY ⊕ RY)) ⊕ ((List UInt8) × (SY ⊕ RY)))) :=
 match s with
 | (x1, y1) => iteB (decide ((x1.length : Int) > (0 : Int))) (((C_strings_IndexByte n x1 (10 : Int)).bind fun x6 => iteB (decide (x6 ≥ (0 : Int))) ((subS x1 none (some (IntKind.i64.wrap (x6 + (1 : Int))))).bind fun x7 => (subS x1 (some (IntKind.i64.wrap (x6 + (1 : Int)))) none).bind fun x8 => some (x8, x7)) (some (([] : List UInt8), x1)) : Option (((List UInt8) × (List UInt8)))).bind fun (x4, x5) => (yld Y y1 x5).bind fun (x9, y4) => iteB (!x9) (some (.inr (.inr (x4, y4)))) (some (.inl (x4, y4)))) (some (.inr (.inl (x1, y1))))
theorem le_C_strings_Lines_1_sYP_L0 (n : Nat) (hn : n ≤ bigF) {SY RY : Type} : ∀ (Y Y' : SY → (List UInt8) → Option (SY ⊕ RY)) (hY : ∀ a b, Le (Y a b) (Y' a b)) (s : (List UInt8) × (SY ⊕ RY)), Le (C_strings_Lines_1_sYP_L0 n Y s) (M_strings_Lines_1_sYP_L0 Y' s) := by
  intro Y Y' hY s
  unfold C_strings_Lines_1_sYP_L0 M_strings_Lines_1_sYP_L0
  repeat' (first | with_reducible (first | exact Le.refl _ | apply le_C_strings_IndexByte n hn | exact hY _ _ | refine Le.yld hY _ _ | exact Le.none _ | refine Le.bind ?_ (fun _ => ?_) | refine Le.iteB ?_ ?_ | refine Le.need ?_) | refine Le.loop (fun _ => ?_) | split | dsimp only)
noncomputable def C_strings_Lines_1_sYP (n : Nat) {SY RY : Type} (Y : SY → (List UInt8) → Option (SY ⊕ RY)) (y : SY ⊕ RY) (p1 : List UInt8) : Option ((List UInt8) × (SY ⊕ RY)) :=
 (lpN n (C_strings_Lines_1_sYP_L0 n Y) (p1, y)).bind fun o1 => (match o1 with | .inl (x2, y2) => some (x2, y2) | .inr (x3, y3) => some (x3, y3))
theorem le_C_strings_Lines_1_sYP (n : Nat) (hn : n ≤ bigF) {SY RY : Type} : ∀ (Y Y' : SY → (List UInt8) → Option (SY ⊕ RY)) (hY : ∀ a b, Le (Y a b) (Y' a b)) (y : SY ⊕ RY) (p1 : List UInt8), Le (C_strings_Lines_1_sYP n Y y p1) (M_strings_Lines_1_sYP Y' y p1) := by
  intro Y Y' hY y p1
  unfold C_strings_Lines_1_sYP M_strings_Lines_1_sYP
  repeat' (first | with_reducible (first | exact Le.refl _ | refine le_C_strings_Lines_1_sYP_L0 n hn _ _ (fun _ _ => ?_) _ | exact hY _ _ | refine Le.yld hY _ _ | exact Le.none _ | refine Le.bind ?_ (fun _ => ?_) | refine Le.iteB ?_ ?_ | refine Le.need ?_) | refine Le.loop (fun _ => ?_) | split | dsimp only)
noncomputable def C_stringslite_HasSuffix (n : Nat) (p0 : List UInt8) (p1 : List UInt8) : Option (Bool) :=
 (iteB (decide ((p0.length : Int) ≥ (p1.length : Int))) ((subS p0 (some (IntKind.i64.wrap ((p0.length : Int) - (p1.length : Int)))) none).bind fun x2 => some (x2 == p1)) (some false) : Option (Bool)).bind fun x1 => some x1
theorem le_C_stringslite_HasSuffix (n : Nat) (hn : n ≤ bigF) : ∀ (p0 : List UInt8) (p1 : List UInt8), Le (C_stringslite_HasSuffix n p0 p1) (M_stringslite_HasSuffix p0 p1) := by
  intro p0 p1
  unfold C_stringslite_HasSuffix M_stringslite_HasSuffix
  repeat' (first | with_reducible (first | exact Le.refl _ | exact Le.none _ | refine Le.bind ?_ (fun _ => ?_) | refine Le.iteB ?_ ?_ | refine Le.need ?_) | refine Le.loop (fun _ => ?_) | split | dsimp only)
noncomputable def C_stringslite_TrimSuffix (n : Nat) (p0 : List UInt8) (p1 : List UInt8) : Option ((List UInt8)) :=
 (C_stringslite_HasSuffix n p0 p1).bind fun x1 => iteB x1 ((subS p0 none (some (IntKind.i64.wrap ((p0.length : Int) - (p1.length : Int))))).bind fun x2 => some x2) (some p0)
theorem le_C_stringslite_TrimSuffix (n : Nat) (hn : n ≤ bigF) : ∀ (p0 : List UInt8) (p1 : List UInt8), Le (C_stringslite_TrimSuffix n p0 p1) (M_stringslite_TrimSuffix p0 p1) := by
  intro p0 p1
  unfold C_stringslite_TrimSuffix M_stringslite_TrimSuffix
  repeat' (first | with_reducible (first | exact Le.refl _ | apply le_C_stringslite_HasSuffix n hn | exact Le.none _ | refine Le.bind ?_ (fun _ => ?_) | refine Le.iteB ?_ ?_ | refine Le.need ?_) | refine Le.loop (fun _ => ?_) | split | dsimp only)
noncomputable def C_strings_TrimSuffix (n : Nat) (p0 : List UInt8) (p1 : List UInt8) : Option ((List UInt8)) :=
 (C_stringslite_TrimSuffix n p0 p1).bind fun x1 => some x1
theorem le_C_strings_TrimSuffix (n : Nat) (hn : n ≤ bigF) : ∀ (p0 : List UInt8) (p1 : List UInt8), Le (C_strings_TrimSuffix n p0 p1) (M_strings_TrimSuffix p0 p1) := by
  intro p0 p1
  unfold C_strings_TrimSuffix M_strings_TrimSuffix
  repeat' (first | with_reducible (first | exact Le.refl _ | apply le_C_stringslite_TrimSuffix n hn | exact Le.none _ | refine Le.bind ?_ (fun _ => ?_) | refine Le.iteB ?_ ?_ | refine Le.need ?_) | refine Le.loop (fun _ => ?_) | split | dsimp only)
noncomputable def C_stringslite_HasPrefix (n : Nat) (p0 : List UInt8) (p1 : List UInt8) : Option (Bool) :=
 (iteB (decide ((p0.length : Int) ≥ (p1.length : Int))) ((subS p0 none (some (p1.length : Int))).bind fun x2 => some (x2 == p1)) (some false) : Option (Bool)).bind fun x1 => some x1
theorem le_C_stringslite_HasPrefix (n : Nat) (hn : n ≤ bigF) : ∀ (p0 : List UInt8) (p1 : List UInt8), Le (C_stringslite_HasPrefix n p0 p1) (M_stringslite_HasPrefix p0 p1) := by
  intro p0 p1
  unfold C_stringslite_HasPrefix M_stringslite_HasPrefix
  repeat' (first | with_reducible (first | exact Le.refl _ | exact Le.none _ | refine Le.bind ?_ (fun _ => ?_) | refine Le.iteB ?_ ?_ | refine Le.need ?_) | refine Le.loop (fun _ => ?_) | split | dsimp only)
noncomputable def C_strings_HasPrefix (n : Nat) (p0 : List UInt8) (p1 : List UInt8) : Option (Bool) :=
 (C_stringslite_HasPrefix n p0 p1).bind fun x1 => some x1
theorem le_C_strings_HasPrefix (n : Nat) (hn : n ≤ bigF) : ∀ (p0 : List UInt8) (p1 : List UInt8), Le (C_strings_HasPrefix n p0 p1) (M_strings_HasPrefix p0 p1) := by
  intro p0 p1
  unfold C_strings_HasPrefix M_strings_HasPrefix
  repeat' (first | with_reducible (first | exact Le.refl _ | apply le_C_stringslite_HasPrefix n hn | exact Le.none _ | refine Le.bind ?_ (fun _ => ?_) | refine Le.iteB ?_ ?_ | refine Le.need ?_) | refine Le.loop (fun _ => ?_) | split | dsimp only)
noncomputable def C_exfile_Lines_Y0 (n : Nat) (s : (List (List UInt8))) (v1 : (List UInt8)) : Option (((List (List UInt8))) ⊕ (Unit)) :=
 match s with
 | x2 => (C_strings_TrimSuffix n v1 ([10] : List UInt8)).bind fun x3 => (iteB (x3 == ([] : List UInt8)) (some true) ((ixS x3 (0 : Int)).bind fun x5 => some (x5 == (35 : Int))) : Option (Bool)).bind fun x4 => iteB x4 (some (.inl x2)) (((C_strings_HasPrefix n x3 ([92, 35] : List UInt8)).bind fun x7 => iteB x7 ((subS x3 (some (1 : Int)) none).bind fun x8 => some x8) (some x3) : Option (((List UInt8)))).bind fun x6 => need (okN 16 (x2.length + ([x6] : List (List UInt8)).length)) <| some (.inl (x2 ++ ([x6] : List (List UInt8)))))
theorem le_C_exfile_Lines_Y0 (n : Nat) (hn : n ≤ bigF) : ∀ (s : (List (List UInt8))) (v1 : (List UInt8)), Le (C_exfile_Lines_Y0 n s v1) (M_exfile_Lines_Y0 s v1) := by
  intro s v1
  unfold C_exfile_Lines_Y0 M_exfile_Lines_Y0
  repeat' (first | with_reducible (first | exact Le.refl _ | apply le_C_strings_TrimSuffix n hn | apply le_C_strings_HasPrefix n hn | exact Le.none _ | refine Le.bind ?_ (fun _ => ?_) | refine Le.iteB ?_ ?_ | refine Le.need ?_) | refine Le.loop (fun _ => ?_) | split | dsimp only)
noncomputable def C_exfile_Lines (n : Nat) (p0 : List UInt8) : Option ((List (List UInt8))) :=
 (C_strings_Lines n p0).bind fun x1_10 => (C_strings_Lines_1_sYP n (C_exfile_Lines_Y0 n) (.inl ([] : List (List UInt8))) x1_10).bind fun (x9, y1) => (match y1 with | .inl x2 => some x2 | .inr _ => none)
theorem le_C_exfile_Lines (n : Nat) (hn : n ≤ bigF) : ∀ (p0 : List UInt8), Le (C_exfile_Lines n p0) (M_exfile_Lines p0) := by
  intro p0
  unfold C_exfile_Lines M_exfile_Lines
  repeat' (first | with_reducible (first | exact Le.refl _ | apply le_C_strings_Lines n hn | refine le_C_strings_Lines_1_sYP n hn _ _ (fun _ _ => ?_) _ _ | apply le_C_exfile_Lines_Y0 n hn | exact Le.none _ | refine Le.bind ?_ (fun _ => ?_) | refine Le.iteB ?_ ?_ | refine Le.need ?_) | refine Le.loop (fun _ => ?_) | split | dsimp only)
noncomputable def C_option_reading_lines_sPOOOSI_L1 (n : Nat) (p0 : S_option_reading) (x3 : List UInt8) (x4 : List UInt8) (x7 : Int) (x13 : List (List UInt8)) (s : (List S_pattern_Rule) × Int) : Option (((List S_pattern_Rule) × Int) ⊕ (((List S_pattern_Rule)) ⊕ (Int × Int × (List S_pattern_Rule)))) :=
 match s with
 | (x14, x15) => iteB (decide (x15 < (x13.length : Int))) ((ixV x13 x15).bind fun x20 => (C_option_reading_pattern_sPOOOSe0_1II n (⟨(⟨p0.c_.Includes, x14, p0.c_.Exprs, p0.c_.Vcs, p0.c_.Backups, p0.c_.Caches, p0.c_.Dated, p0.c_.Newer, p0.c_.Nth, p0.c_.Strip, p0.c_.Name, p0.c_.Head, p0.c_.States⟩ : S_option_Config), p0.flags_, x4, IntKind.i64.wrap (p0.at_ + (x3.length : Int)), p0.seen_⟩ : S_option_reading) x20 x7 x7).bind fun (x21, x22) => (C_option_none n).bind fun x23 => (eqG cfg.P 96 [.int .i64 x21.e_, .int .i64 x21.at_] [.int .i64 x23.e_, .int .i64 x23.at_]).bind fun x24 => iteB (!x24) (some (.inr (.inr (x21.e_, x21.at_, x22)))) (some (.inl (x22, IntKind.i64.wrap (x15 + (1 : Int)))))) (some (.inr (.inl x14)))
theorem le_C_option_reading_lines_sPOOOSI_L1 (n : Nat) (hn : n ≤ bigF) : ∀ (p0 : S_option_reading) (x3 : List UInt8) (x4 : List UInt8) (x7 : Int) (x13 : List (List UInt8)) (s : (List S_pattern_Rule) × Int), Le (C_option_reading_lines_sPOOOSI_L1 n p0 x3 x4 x7 x13 s) (M_option_reading_lines_sPOOOSI_L1 p0 x3 x4 x7 x13 s) := by
  intro p0 x3 x4 x7 x13 s
  unfold C_option_reading_lines_sPOOOSI_L1 M_option_reading_lines_sPOOOSI_L1
  repeat' (first | with_reducible (first | exact Le.refl _ | apply le_C_option_reading_pattern_sPOOOSe0_1II n hn | apply le_C_option_none n hn | exact Le.none _ | refine Le.bind ?_ (fun _ => ?_) | refine Le.iteB ?_ ?_ | refine Le.need ?_) | refine Le.loop (fun _ => ?_) | split | dsimp only)
noncomputable def C_option_reading_lines_sPOOOSI_Y0 (n : Nat) (p0 : S_option_reading) (x3 : List UInt8) (x4 : List UInt8) (s : Int × (List S_pattern_Rule)) (v1 : (List UInt8)) : Option ((Int × (List S_pattern_Rule)) ⊕ ((Int × Int × Int × (List S_pattern_Rule)))) :=
 match s with
 | (x7, x8) => (C_exfile_Lines n v1).bind fun x13 => (lpN n (C_option_reading_lines_sPOOOSI_L1 n p0 x3 x4 x7 x13) (x8, (0 : Int))).bind fun o1 => (match o1 with | .inl x16 => some (.inl (IntKind.i64.wrap (x7 + (v1.length : Int)), x16)) | .inr (x17, x18, x19) => some (.inr (x7, x17, x18, x19)))
theorem le_C_option_reading_lines_sPOOOSI_Y0 (n : Nat) (hn : n ≤ bigF) : ∀ (p0 : S_option_reading) (x3 : List UInt8) (x4 : List UInt8) (s : Int × (List S_pattern_Rule)) (v1 : (List UInt8)), Le (C_option_reading_lines_sPOOOSI_Y0 n p0 x3 x4 s v1) (M_option_reading_lines_sPOOOSI_Y0 p0 x3 x4 s v1) := by
  intro p0 x3 x4 s v1
  unfold C_option_reading_lines_sPOOOSI_Y0 M_option_reading_lines_sPOOOSI_Y0
  repeat' (first | with_reducible (first | exact Le.refl _ | apply le_C_exfile_Lines n hn | apply le_C_option_reading_lines_sPOOOSI_L1 n hn | exact Le.none _ | refine Le.bind ?_ (fun _ => ?_) | refine Le.iteB ?_ ?_ | refine Le.need ?_) | refine Le.loop (fun _ => ?_) | split | dsimp only)
noncomputable def C_option_reading_lines_sPOOOSI (n : Nat) (p0 : S_option_reading) (p1 : List UInt8) (p2 : Int) : Option (S_option_flaw × S_option_reading × (List S_pattern_Rule)) :=
 (C_option_number n p1 (0 : Int) (256 : Int)).bind fun (x1, x2) => iteB (!x2) (some ((⟨(11 : Int), p2⟩ : S_option_flaw), p0, p0.c_.Excludes)) ((C_exfile_Cut n p0.rest_ x1).bind fun (x3, x4, x5) => iteB (!x5) (some ((⟨(11 : Int), p2⟩ : S_option_flaw), p0, p0.c_.Excludes)) ((C_strings_Lines n x3).bind fun x6_10 => (C_strings_Lines_1_sYP n (C_option_reading_lines_sPOOOSI_Y0 n p0 x3 x4) (.inl (p0.at_, p0.c_.Excludes)) x6_10).bind fun (x25, y1) => (match y1 with | .inl (x7, x8) => (C_option_none n).bind fun x26 => some (x26, (⟨(⟨p0.c_.Includes, x8, p0.c_.Exprs, p0.c_.Vcs, p0.c_.Backups, p0.c_.Caches, p0.c_.Dated, p0.c_.Newer, p0.c_.Nth, p0.c_.Strip, p0.c_.Name, p0.c_.Head, p0.c_.States⟩ : S_option_Config), p0.flags_, x4, IntKind.i64.wrap (p0.at_ + (x3.length : Int)), p0.seen_⟩ : S_option_reading), x8) | .inr (x9, x10, x11, x12) => some ((⟨x10, x11⟩ : S_option_flaw), (⟨(⟨p0.c_.Includes, x12, p0.c_.Exprs, p0.c_.Vcs, p0.c_.Backups, p0.c_.Caches, p0.c_.Dated, p0.c_.Newer, p0.c_.Nth, p0.c_.Strip, p0.c_.Name, p0.c_.Head, p0.c_.States⟩ : S_option_Config), p0.flags_, x4, IntKind.i64.wrap (p0.at_ + (x3.length : Int)), p0.seen_⟩ : S_option_reading), x12))))
theorem le_C_option_reading_lines_sPOOOSI (n : Nat) (hn : n ≤ bigF) : ∀ (p0 : S_option_reading) (p1 : List UInt8) (p2 : Int), Le (C_option_reading_lines_sPOOOSI n p0 p1 p2) (M_option_reading_lines_sPOOOSI p0 p1 p2) := by
  intro p0 p1 p2
  unfold C_option_reading_lines_sPOOOSI M_option_reading_lines_sPOOOSI
  repeat' (first | with_reducible (first | exact Le.refl _ | apply le_C_option_number n hn | apply le_C_exfile_Cut n hn | apply le_C_strings_Lines n hn | refine le_C_strings_Lines_1_sYP n hn _ _ (fun _ _ => ?_) _ _ | apply le_C_option_reading_lines_sPOOOSI_Y0 n hn | apply le_C_option_none n hn | exact Le.none _ | refine Le.bind ?_ (fun _ => ?_) | refine Le.iteB ?_ ?_ | refine Le.need ?_) | refine Le.loop (fun _ => ?_) | split | dsimp only)
noncomputable def C_option_words_9_sPOOOSII (n : Nat) (p0 : S_option_reading) (p1 : List UInt8) (p2 : Int) (p3 : Int) : Option (S_option_flaw × S_option_reading × (List S_pattern_Rule)) :=
 (C_option_reading_lines_sPOOOSI n p0 p1 p3).bind fun (x1, x2, x3) => some (x1, (⟨(⟨p0.c_.Includes, x3, p0.c_.Exprs, x2.c_.Vcs, x2.c_.Backups, x2.c_.Caches, x2.c_.Dated, x2.c_.Newer, x2.c_.Nth, x2.c_.Strip, x2.c_.Name, x2.c_.Head, x2.c_.States⟩ : S_option_Config), x2.flags_, x2.rest_, x2.at_, p0.seen_⟩ : S_option_reading), x3)
theorem le_C_option_words_9_sPOOOSII (n : Nat) (hn : n ≤ bigF) : ∀ (p0 : S_option_reading) (p1 : List UInt8) (p2 : Int) (p3 : Int), Le (C_option_words_9_sPOOOSII n p0 p1 p2 p3) (M_option_words_9_sPOOOSII p0 p1 p2 p3) := by
  intro p0 p1 p2 p3
  unfold C_option_words_9_sPOOOSII M_option_words_9_sPOOOSII
  repeat' (first | with_reducible (first | exact Le.refl _ | apply le_C_option_reading_lines_sPOOOSI n hn | exact Le.none _ | refine Le.bind ?_ (fun _ => ?_) | refine Le.iteB ?_ ?_ | refine Le.need ?_) | refine Le.loop (fun _ => ?_) | split | dsimp only)
noncomputable def C_slices_Equal_boulter_pattern_Rule_boulter_pattern_Rule_L0 (n : Nat) (p0 : List S_pattern_Rule) (p1 : List S_pattern_Rule) (s : Int) : Option ((Int) ⊕ ((Unit) ⊕ (Bool))) :=
 match s with
 | x1 => iteB (decide (x1 < (p0.length : Int))) ((ixV p0 x1).bind fun x3 => (ixV p1 x1).bind fun x4 => (eqG cfg.P 87 [.str x3.Text, .bool x3.Anchored, .bool x3.Fold, .bool x3.Slash] [.str x4.Text, .bool x4.Anchored, .bool x4.Fold, .bool x4.Slash]).bind fun x5 => iteB (!x5) (some (.inr (.inr false))) (some (.inl (IntKind.i64.wrap (x1 + (1 : Int)))))) (some (.inr (.inl ())))
theorem le_C_slices_Equal_boulter_pattern_Rule_boulter_pattern_Rule_L0 (n : Nat) (hn : n ≤ bigF) : ∀ (p0 : List S_pattern_Rule) (p1 : List S_pattern_Rule) (s : Int), Le (C_slices_Equal_boulter_pattern_Rule_boulter_pattern_Rule_L0 n p0 p1 s) (M_slices_Equal_boulter_pattern_Rule_boulter_pattern_Rule_L0 p0 p1 s) := by
  intro p0 p1 s
  unfold C_slices_Equal_boulter_pattern_Rule_boulter_pattern_Rule_L0 M_slices_Equal_boulter_pattern_Rule_boulter_pattern_Rule_L0
  repeat' (first | with_reducible (first | exact Le.refl _ | exact Le.none _ | refine Le.bind ?_ (fun _ => ?_) | refine Le.iteB ?_ ?_ | refine Le.need ?_) | refine Le.loop (fun _ => ?_) | split | dsimp only)
noncomputable def C_slices_Equal_boulter_pattern_Rule_boulter_pattern_Rule (n : Nat) (p0 : List S_pattern_Rule) (p1 : List S_pattern_Rule) : Option (Bool) :=
 iteB ((p0.length : Int) != (p1.length : Int)) (some false) ((lpN n (C_slices_Equal_boulter_pattern_Rule_boulter_pattern_Rule_L0 n p0 p1) (0 : Int)).bind fun o1 => (match o1 with | .inl _ => some true | .inr x2 => some x2))
theorem le_C_slices_Equal_boulter_pattern_Rule_boulter_pattern_Rule (n : Nat) (hn : n ≤ bigF) : ∀ (p0 : List S_pattern_Rule) (p1 : List S_pattern_Rule), Le (C_slices_Equal_boulter_pattern_Rule_boulter_pattern_Rule n p0 p1) (M_slices_Equal_boulter_pattern_Rule_boulter_pattern_Rule p0 p1) := by
  intro p0 p1
  unfold C_slices_Equal_boulter_pattern_Rule_boulter_pattern_Rule M_slices_Equal_boulter_pattern_Rule_boulter_pattern_Rule
  repeat' (first | with_reducible (first | exact Le.refl _ | apply le_C_slices_Equal_boulter_pattern_Rule_boulter_pattern_Rule_L0 n hn | exact Le.none _ | refine Le.bind ?_ (fun _ => ?_) | refine Le.iteB ?_ ?_ | refine Le.need ?_) | refine Le.loop (fun _ => ?_) | split | dsimp only)
noncomputable def C_option_reading_line_sPOOOSIK (n : Nat) (p0 : S_option_reading) (p1 : List UInt8) (p2 : Int) : Option (S_option_flaw × S_option_reading × (List S_pattern_Rule) × (List S_pattern_Rule) × (List ((List UInt8) × Bool))) :=
 (iteB (p1 == ([] : List UInt8)) (some true) ((ixS p1 (0 : Int)).bind fun x2 => some (x2 == (35 : Int))) : Option (Bool)).bind fun x1 => iteB x1 ((C_option_none n).bind fun x3 => some (x3, p0, p0.c_.Includes, p0.c_.Excludes, p0.seen_)) (need (decide (p1.length ≤ 4294967280)) <| iteB (((Lib.cut p1 ([32] : List UInt8)).1) == ([97, 110, 99, 104, 111, 114, 101, 100] : List UInt8)) none (iteB (((Lib.cut p1 ([32] : List UInt8)).1) == ([117, 110, 97, 110, 99, 104, 111, 114, 101, 100] : List UInt8)) none (iteB (((Lib.cut p1 ([32] : List UInt8)).1) == ([102, 111, 108, 100] : List UInt8)) none (iteB (((Lib.cut p1 ([32] : List UInt8)).1) == ([110, 111, 102, 111, 108, 100] : List UInt8)) none (iteB (((Lib.cut p1 ([32] : List UInt8)).1) == ([115, 108, 97, 115, 104] : List UInt8)) none (iteB (((Lib.cut p1 ([32] : List UInt8)).1) == ([110, 111, 115, 108, 97, 115, 104] : List UInt8)) none (iteB (((Lib.cut p1 ([32] : List UInt8)).1) == ([105, 110, 99, 108, 117, 100, 101] : List UInt8)) (iteB ((!(((Lib.cut p1 ([32] : List UInt8)).2.2) == true)) || false) (some ((⟨(11 : Int), p2⟩ : S_option_flaw), p0, p0.c_.Includes, p0.c_.Excludes, p0.seen_)) ((C_option_words_7_sPOOOSII n (⟨p0.c_, p0.flags_, p0.rest_, p0.at_, (mput p0.seen_ ((Lib.cut p1 ([32] : List UInt8)).1) true)⟩ : S_option_reading) ((Lib.cut p1 ([32] : List UInt8)).2.1) p2 (IntKind.i64.wrap ((IntKind.i64.wrap (p2 + (((Lib.cut p1 ([32] : List UInt8)).1).length : Int))) + (1 : Int)))).bind fun (x4, x5) => some (x4, (⟨(⟨x5, p0.c_.Excludes, p0.c_.Exprs, p0.c_.Vcs, p0.c_.Backups, p0.c_.Caches, p0.c_.Dated, p0.c_.Newer, p0.c_.Nth, p0.c_.Strip, p0.c_.Name, p0.c_.Head, p0.c_.States⟩ : S_option_Config), p0.flags_, p0.rest_, p0.at_, (mput p0.seen_ ((Lib.cut p1 ([32] : List UInt8)).1) true)⟩ : S_option_reading), x5, p0.c_.Excludes, (mput p0.seen_ ((Lib.cut p1 ([32] : List UInt8)).1) true)))) (iteB (((Lib.cut p1 ([32] : List UInt8)).1) == ([101, 120, 99, 108, 117, 100, 101] : List UInt8)) (iteB ((!(((Lib.cut p1 ([32] : List UInt8)).2.2) == true)) || false) (some ((⟨(11 : Int), p2⟩ : S_option_flaw), p0, p0.c_.Includes, p0.c_.Excludes, p0.seen_)) ((C_option_words_8_sPOOOSII n (⟨p0.c_, p0.flags_, p0.rest_, p0.at_, (mput p0.seen_ ((Lib.cut p1 ([32] : List UInt8)).1) true)⟩ : S_option_reading) ((Lib.cut p1 ([32] : List UInt8)).2.1) p2 (IntKind.i64.wrap ((IntKind.i64.wrap (p2 + (((Lib.cut p1 ([32] : List UInt8)).1).length : Int))) + (1 : Int)))).bind fun (x6, x7) => some (x6, (⟨(⟨p0.c_.Includes, x7, p0.c_.Exprs, p0.c_.Vcs, p0.c_.Backups, p0.c_.Caches, p0.c_.Dated, p0.c_.Newer, p0.c_.Nth, p0.c_.Strip, p0.c_.Name, p0.c_.Head, p0.c_.States⟩ : S_option_Config), p0.flags_, p0.rest_, p0.at_, (mput p0.seen_ ((Lib.cut p1 ([32] : List UInt8)).1) true)⟩ : S_option_reading), p0.c_.Includes, x7, (mput p0.seen_ ((Lib.cut p1 ([32] : List UInt8)).1) true)))) (iteB (((Lib.cut p1 ([32] : List UInt8)).1) == ([101, 120, 99, 108, 117, 100, 101, 45, 108, 105, 110, 101, 115] : List UInt8)) (iteB ((!(((Lib.cut p1 ([32] : List UInt8)).2.2) == true)) || false) (some ((⟨(11 : Int), p2⟩ : S_option_flaw), p0, p0.c_.Includes, p0.c_.Excludes, p0.seen_)) ((C_option_words_9_sPOOOSII n (⟨p0.c_, p0.flags_, p0.rest_, p0.at_, (mput p0.seen_ ((Lib.cut p1 ([32] : List UInt8)).1) true)⟩ : S_option_reading) ((Lib.cut p1 ([32] : List UInt8)).2.1) p2 (IntKind.i64.wrap ((IntKind.i64.wrap (p2 + (((Lib.cut p1 ([32] : List UInt8)).1).length : Int))) + (1 : Int)))).bind fun (x8, x9, x10) => some (x8, (⟨(⟨p0.c_.Includes, x10, p0.c_.Exprs, x9.c_.Vcs, x9.c_.Backups, x9.c_.Caches, x9.c_.Dated, x9.c_.Newer, x9.c_.Nth, x9.c_.Strip, x9.c_.Name, x9.c_.Head, x9.c_.States⟩ : S_option_Config), x9.flags_, x9.rest_, x9.at_, (mput p0.seen_ ((Lib.cut p1 ([32] : List UInt8)).1) true)⟩ : S_option_reading), p0.c_.Includes, x10, (mput p0.seen_ ((Lib.cut p1 ([32] : List UInt8)).1) true)))) (iteB (((Lib.cut p1 ([32] : List UInt8)).1) == ([118, 99, 115] : List UInt8)) none (iteB (((Lib.cut p1 ([32] : List UInt8)).1) == ([98, 97, 99, 107, 117, 112, 115] : List UInt8)) none (iteB (((Lib.cut p1 ([32] : List UInt8)).1) == ([99, 97, 99, 104, 101, 115] : List UInt8)) none (iteB (((Lib.cut p1 ([32] : List UInt8)).1) == ([110, 101, 119, 101, 114] : List UInt8)) none (iteB (((Lib.cut p1 ([32] : List UInt8)).1) == ([110, 116, 104] : List UInt8)) none (iteB (((Lib.cut p1 ([32] : List UInt8)).1) == ([115, 116, 114, 105, 112] : List UInt8)) none (iteB (((Lib.cut p1 ([32] : List UInt8)).1) == ([116, 114, 97, 110, 115, 102, 111, 114, 109] : List UInt8)) none (iteB (((Lib.cut p1 ([32] : List UInt8)).1) == ([99, 97, 112, 45, 110, 97, 109, 101] : List UInt8)) none (iteB (((Lib.cut p1 ([32] : List UInt8)).1) == ([99, 97, 112, 45, 104, 101, 97, 100] : List UInt8)) none (iteB (((Lib.cut p1 ([32] : List UInt8)).1) == ([99, 97, 112, 45, 115, 116, 97, 116, 101, 115] : List UInt8)) none (some ((⟨(11 : Int), p2⟩ : S_option_flaw), p0, p0.c_.Includes, p0.c_.Excludes, p0.seen_)))))))))))))))))))))
theorem le_C_option_reading_line_sPOOOSIK (n : Nat) (hn : n ≤ bigF) : ∀ (p0 : S_option_reading) (p1 : List UInt8) (p2 : Int), Le (C_option_reading_line_sPOOOSIK n p0 p1 p2) (M_option_reading_line_sPOOOSIK p0 p1 p2) := by
  intro p0 p1 p2
  unfold C_option_reading_line_sPOOOSIK M_option_reading_line_sPOOOSIK
  repeat' (first | with_reducible (first | exact Le.refl _ | apply le_C_option_none n hn | apply le_C_option_words_7_sPOOOSII n hn | apply le_C_option_words_8_sPOOOSII n hn | apply le_C_option_words_9_sPOOOSII n hn | exact Le.none _ | refine Le.bind ?_ (fun _ => ?_) | refine Le.iteB ?_ ?_ | refine Le.need ?_) | refine Le.loop (fun _ => ?_) | split | dsimp only)
noncomputable def C_option_Parse_L0 (n : Nat) (s : (List S_pattern_Rule) × (List S_pattern_Rule) × Bool × Bool × Int × Bool × Int × Int × Int × Int × Int × Int × Int × (List UInt8) × Bool × Bool × Bool × (List UInt8) × Int × (List ((List UInt8) × Bool))) : Option (((List S_pattern_Rule) × (List S_pattern_Rule) × Bool × Bool × Int × Bool × Int × Int × Int × Int × Int × Int × Int × (List UInt8) × Bool × Bool × Bool × (List UInt8) × Int × (List ((List UInt8) × Bool))) ⊕ (((List S_pattern_Rule) × (List S_pattern_Rule) × Bool × Bool × Int × Bool × Int × Int × Int × Int × Int × Int × Int × (List UInt8) × Bool × Bool × Bool × (List UInt8) × Int × (List ((List UInt8) × Bool))) ⊕ ((List S_pattern_Rule) × (List S_pattern_Rule) × Bool × Bool × Int × Bool × Int × Int × Int × Int × Int × Int × Int × (List UInt8) × Bool × Bool × Bool × (List UInt8) × Int × (List ((List UInt8) × Bool)) × Int × Int))) :=
 match s with
 | (x2, x3, x4, x5, x6, x7, x8, x9, x10, x11, x12, x13, x14, x15, x16, x17, x18, x19, x20, x21) => iteB (!(x19 == ([] : List UInt8))) (need (decide (x19.length ≤ 4294967280)) <| (C_option_reading_line_sPOOOSIK n (⟨(⟨x3, x2, ([] : List S_rewrite_Expr), x4, x5, x6, x7, (⟨x8, x9⟩ : S_api_Stamp), x10, x11, x12, x13, x14⟩ : S_option_Config), (⟨x15, x16, x17, x18⟩ : S_pattern_Rule), (Lib.cut x19 ([10] : List UInt8)).2.1, IntKind.i64.wrap (x20 + (IntKind.i64.wrap ((x19.length : Int) - (((Lib.cut x19 ([10] : List UInt8)).2.1).length : Int)))), x21⟩ : S_option_reading) ((Lib.cut x19 ([10] : List UInt8)).1) x20).bind fun (x64, x65, x66, x67, x68) => (C_option_none n).bind fun x69 => (eqG cfg.P 96 [.int .i64 x64.e_, .int .i64 x64.at_] [.int .i64 x69.e_, .int .i64 x69.at_]).bind fun x70 => iteB (!x70) (some (.inr (.inr (x67, x66, x65.c_.Vcs, x65.c_.Backups, x65.c_.Caches, x65.c_.Dated, x65.c_.Newer.Sec, x65.c_.Newer.Nsec, x65.c_.Nth, x65.c_.Strip, x65.c_.Name, x65.c_.Head, x65.c_.States, x65.flags_.Text, x65.flags_.Anchored, x65.flags_.Fold, x65.flags_.Slash, x65.rest_, x65.at_, x68, x64.at_, x64.e_)))) (some (.inl (x67, x66, x65.c_.Vcs, x65.c_.Backups, x65.c_.Caches, x65.c_.Dated, x65.c_.Newer.Sec, x65.c_.Newer.Nsec, x65.c_.Nth, x65.c_.Strip, x65.c_.Name, x65.c_.Head, x65.c_.States, x65.flags_.Text, x65.flags_.Anchored, x65.flags_.Fold, x65.flags_.Slash, x65.rest_, x65.at_, x68)))) (some (.inr (.inl (x2, x3, x4, x5, x6, x7, x8, x9, x10, x11, x12, x13, x14, x15, x16, x17, x18, x19, x20, x21))))
theorem le_C_option_Parse_L0 (n : Nat) (hn : n ≤ bigF) : ∀ (s : (List S_pattern_Rule) × (List S_pattern_Rule) × Bool × Bool × Int × Bool × Int × Int × Int × Int × Int × Int × Int × (List UInt8) × Bool × Bool × Bool × (List UInt8) × Int × (List ((List UInt8) × Bool))), Le (C_option_Parse_L0 n s) (M_option_Parse_L0 s) := by
  intro s
  unfold C_option_Parse_L0 M_option_Parse_L0
  repeat' (first | with_reducible (first | exact Le.refl _ | apply le_C_option_reading_line_sPOOOSIK n hn | apply le_C_option_none n hn | exact Le.none _ | refine Le.bind ?_ (fun _ => ?_) | refine Le.iteB ?_ ?_ | refine Le.need ?_) | refine Le.loop (fun _ => ?_) | split | dsimp only)
noncomputable def C_option_Parse (n : Nat) (p0 : List UInt8) : Option (S_option_Config × Int × Int) :=
 iteB (decide ((p0.length : Int) > (65536 : Int))) (some ((⟨([] : List S_pattern_Rule), ([] : List S_pattern_Rule), ([] : List S_rewrite_Expr), false, false, (0 : Int), false, (⟨(0 : Int), (0 : Int)⟩ : S_api_Stamp), (0 : Int), (0 : Int), (0 : Int), (0 : Int), (0 : Int)⟩ : S_option_Config), (0 : Int), (12 : Int))) ((C_option_Default n).bind fun _ => (lpN n (C_option_Parse_L0 n) (([] : List S_pattern_Rule), ([] : List S_pattern_Rule), false, false, (0 : Int), false, (0 : Int), (0 : Int), (0 : Int), (0 : Int), (4096 : Int), (65536 : Int), (4096 : Int), ([] : List UInt8), false, false, true, p0, (0 : Int), ([] : List ((List UInt8) × Bool)))).bind fun o1 => (match o1 with | .inl (x22, x23, x24, x25, x26, x27, x28, x29, x30, x31, x32, x33, x34, x35, x36, x37, x38, x39, x40, x41) => some ((⟨x23, x22, ([] : List S_rewrite_Expr), x24, x25, x26, x27, (⟨x28, x29⟩ : S_api_Stamp), x30, x31, x32, x33, x34⟩ : S_option_Config), (0 : Int), (0 : Int)) | .inr (x42, x43, x44, x45, x46, x47, x48, x49, x50, x51, x52, x53, x54, x55, x56, x57, x58, x59, x60, x61, x62, x63) => some ((⟨([] : List S_pattern_Rule), ([] : List S_pattern_Rule), ([] : List S_rewrite_Expr), false, false, (0 : Int), false, (⟨(0 : Int), (0 : Int)⟩ : S_api_Stamp), (0 : Int), (0 : Int), (0 : Int), (0 : Int), (0 : Int)⟩ : S_option_Config), x62, x63)))
theorem le_C_option_Parse (n : Nat) (hn : n ≤ bigF) : ∀ (p0 : List UInt8), Le (C_option_Parse n p0) (M_option_Parse p0) := by
  intro p0
  unfold C_option_Parse M_option_Parse
  repeat' (first | with_reducible (first | exact Le.refl _ | apply le_C_option_Default n hn | apply le_C_option_Parse_L0 n hn | exact Le.none _ | refine Le.bind ?_ (fun _ => ?_) | refine Le.iteB ?_ ?_ | refine Le.need ?_) | refine Le.loop (fun _ => ?_) | split | dsimp only)
noncomputable def C_slices_Equal_boulter_rewrite_Expr_boulter_rewrite_Expr_L0 (n : Nat) (p0 : List S_rewrite_Expr) (p1 : List S_rewrite_Expr) (s : Int) : Option ((Int) ⊕ ((Unit) ⊕ (Bool))) :=
 match s with
 | x1 => iteB (decide (x1 < (p0.length : Int))) ((ixV p0 x1).bind fun x3 => (ixV p1 x1).bind fun x4 => (eqG cfg.P 24 [.str x3.Re, .str x3.Template, .bool x3.Global, .bool x3.Fold, .bool x3.Extended, .int .i64 x3.Number, .bool x3.Names, .bool x3.Soft, .bool x3.Hard] [.str x4.Re, .str x4.Template, .bool x4.Global, .bool x4.Fold, .bool x4.Extended, .int .i64 x4.Number, .bool x4.Names, .bool x4.Soft, .bool x4.Hard]).bind fun x5 => iteB (!x5) (some (.inr (.inr false))) (some (.inl (IntKind.i64.wrap (x1 + (1 : Int)))))) (some (.inr (.inl ())))
theorem le_C_slices_Equal_boulter_rewrite_Expr_boulter_rewrite_Expr_L0 (n : Nat) (hn : n ≤ bigF) : ∀ (p0 : List S_rewrite_Expr) (p1 : List S_rewrite_Expr) (s : Int), Le (C_slices_Equal_boulter_rewrite_Expr_boulter_rewrite_Expr_L0 n p0 p1 s) (M_slices_Equal_boulter_rewrite_Expr_boulter_rewrite_Expr_L0 p0 p1 s) := by
  intro p0 p1 s
  unfold C_slices_Equal_boulter_rewrite_Expr_boulter_rewrite_Expr_L0 M_slices_Equal_boulter_rewrite_Expr_boulter_rewrite_Expr_L0
  repeat' (first | with_reducible (first | exact Le.refl _ | exact Le.none _ | refine Le.bind ?_ (fun _ => ?_) | refine Le.iteB ?_ ?_ | refine Le.need ?_) | refine Le.loop (fun _ => ?_) | split | dsimp only)
noncomputable def C_slices_Equal_boulter_rewrite_Expr_boulter_rewrite_Expr (n : Nat) (p0 : List S_rewrite_Expr) (p1 : List S_rewrite_Expr) : Option (Bool) :=
 iteB ((p0.length : Int) != (p1.length : Int)) (some false) ((lpN n (C_slices_Equal_boulter_rewrite_Expr_boulter_rewrite_Expr_L0 n p0 p1) (0 : Int)).bind fun o1 => (match o1 with | .inl _ => some true | .inr x2 => some x2))
theorem le_C_slices_Equal_boulter_rewrite_Expr_boulter_rewrite_Expr (n : Nat) (hn : n ≤ bigF) : ∀ (p0 : List S_rewrite_Expr) (p1 : List S_rewrite_Expr), Le (C_slices_Equal_boulter_rewrite_Expr_boulter_rewrite_Expr n p0 p1) (M_slices_Equal_boulter_rewrite_Expr_boulter_rewrite_Expr p0 p1) := by
  intro p0 p1
  unfold C_slices_Equal_boulter_rewrite_Expr_boulter_rewrite_Expr M_slices_Equal_boulter_rewrite_Expr_boulter_rewrite_Expr
  repeat' (first | with_reducible (first | exact Le.refl _ | apply le_C_slices_Equal_boulter_rewrite_Expr_boulter_rewrite_Expr_L0 n hn | exact Le.none _ | refine Le.bind ?_ (fun _ => ?_) | refine Le.iteB ?_ ?_ | refine Le.need ?_) | refine Le.loop (fun _ => ?_) | split | dsimp only)
noncomputable def C_option_Equal (n : Nat) (p0 : S_option_Config) (p1 : S_option_Config) : Option (Bool) :=
 (C_slices_Equal_boulter_pattern_Rule_boulter_pattern_Rule n p0.Includes p1.Includes).bind fun x1 => (iteB x1 ((C_slices_Equal_boulter_pattern_Rule_boulter_pattern_Rule n p0.Excludes p1.Excludes).bind fun x3 => some x3) (some false) : Option (Bool)).bind fun x2 => (iteB x2 ((C_slices_Equal_boulter_rewrite_Expr_boulter_rewrite_Expr n p0.Exprs p1.Exprs).bind fun x5 => some x5) (some false) : Option (Bool)).bind fun x4 => (iteB ((((x4 && (p0.Vcs == p1.Vcs)) && (p0.Backups == p1.Backups)) && (p0.Caches == p1.Caches)) && (p0.Dated == p1.Dated)) ((eqG cfg.P 41 [.int .i64 p0.Newer.Sec, .int .i64 p0.Newer.Nsec] [.int .i64 p1.Newer.Sec, .int .i64 p1.Newer.Nsec]).bind fun x7 => some x7) (some false) : Option (Bool)).bind fun x6 => some (((((x6 && (p0.Nth == p1.Nth)) && (p0.Strip == p1.Strip)) && (p0.Name == p1.Name)) && (p0.Head == p1.Head)) && (p0.States == p1.States))
theorem le_C_option_Equal (n : Nat) (hn : n ≤ bigF) : ∀ (p0 : S_option_Config) (p1 : S_option_Config), Le (C_option_Equal n p0 p1) (M_option_Equal p0 p1) := by
  intro p0 p1
  unfold C_option_Equal M_option_Equal
  repeat' (first | with_reducible (first | exact Le.refl _ | apply le_C_slices_Equal_boulter_pattern_Rule_boulter_pattern_Rule n hn | apply le_C_slices_Equal_boulter_rewrite_Expr_boulter_rewrite_Expr n hn | exact Le.none _ | refine Le.bind ?_ (fun _ => ?_) | refine Le.iteB ?_ ?_ | refine Le.need ?_) | refine Le.loop (fun _ => ?_) | split | dsimp only)
noncomputable def C_boulterlaw32_OptionLimits_L0 (n : Nat) (p0 : Int) (p1 : Bool) (s : (List UInt8) × Int) : Option (((List UInt8) × Int) ⊕ (((List UInt8)))) :=
 match s with
 | (x2, x3) => iteB (decide (x3 < (256 : Int))) ((iteB (p1 && (decide (x3 < (IntKind.i64.wrap ((IntKind.i64.wrap ((254 : Int) + (Int.tmod (IntKind.i64.wrap p0) (5 : Int)))) - (1 : Int)))))) (need (decide (x2.length + ([98, 10] : List UInt8).length ≤ 9223372036854775807)) <| some (x2 ++ ([98, 10] : List UInt8))) (iteB p1 (need (decide (x2.length + ([35, 10] : List UInt8).length ≤ 9223372036854775807)) <| some (x2 ++ ([35, 10] : List UInt8))) (iteB (decide (x3 < (IntKind.i64.wrap ((254 : Int) + (Int.tmod (IntKind.i64.wrap p0) (5 : Int)))))) (need (decide (x2.length + ([105, 110, 99, 108, 117, 100, 101, 32, 97, 10] : List UInt8).length ≤ 9223372036854775807)) <| some (x2 ++ ([105, 110, 99, 108, 117, 100, 101, 32, 97, 10] : List UInt8))) (some x2))) : Option (((List UInt8)))).bind fun x5 => some (.inl (x5, IntKind.i64.wrap (x3 + (1 : Int))))) (some (.inr x2))
theorem le_C_boulterlaw32_OptionLimits_L0 (n : Nat) (hn : n ≤ bigF) : ∀ (p0 : Int) (p1 : Bool) (s : (List UInt8) × Int), Le (C_boulterlaw32_OptionLimits_L0 n p0 p1 s) (M_boulterlaw32_OptionLimits_L0 p0 p1 s) := by
  intro p0 p1 s
  unfold C_boulterlaw32_OptionLimits_L0 M_boulterlaw32_OptionLimits_L0
  repeat' (first | with_reducible (first | exact Le.refl _ | exact Le.none _ | refine Le.bind ?_ (fun _ => ?_) | refine Le.iteB ?_ ?_ | refine Le.need ?_) | refine Le.loop (fun _ => ?_) | split | dsimp only)
noncomputable def C_boulterlaw32_OptionLimits (n : Nat) (p0 : Int) (p1 : Bool) : Option (Bool) :=
 (iteB p1 (some ([101, 120, 99, 108, 117, 100, 101, 32, 97, 10, 101, 120, 99, 108, 117, 100, 101, 45, 108, 105, 110, 101, 115, 32, 50, 53, 54, 10] : List UInt8)) (some ([] : List UInt8)) : Option (((List UInt8)))).bind fun x1 => (lpN n (C_boulterlaw32_OptionLimits_L0 n p0 p1) (x1, (0 : Int))).bind fun x4 => (iteB ((!p1) && (decide ((IntKind.i64.wrap ((254 : Int) + (Int.tmod (IntKind.i64.wrap p0) (5 : Int)))) > (256 : Int)))) (need (decide (x4.length + ([101, 120, 99, 108, 117, 100, 101, 32, 97, 10, 101, 120, 99, 108, 117, 100, 101, 32, 97, 10] : List UInt8).length ≤ 9223372036854775807)) <| some (x4 ++ ([101, 120, 99, 108, 117, 100, 101, 32, 97, 10, 101, 120, 99, 108, 117, 100, 101, 32, 97, 10] : List UInt8))) (some x4) : Option (((List UInt8)))).bind fun x6 => (C_option_Parse n x6).bind fun (x7, x8, x9) => need (mkN 1 (65537 : Int)) <| (C_option_Parse n (List.replicate (65537 : Int).toNat (0 : UInt8))).bind fun (x10, x11, x12) => iteB ((x12 != (12 : Int)) || (x11 != (0 : Int))) (some false) (iteB (decide ((IntKind.i64.wrap ((254 : Int) + (Int.tmod (IntKind.i64.wrap p0) (5 : Int)))) > (256 : Int))) ((iteB p1 (some (538 : Int)) (some (2560 : Int)) : Option ((Int))).bind fun x13 => (iteB ((x9 == (8 : Int)) && (x8 == x13)) ((C_option_Equal n x7 (⟨([] : List S_pattern_Rule), ([] : List S_pattern_Rule), ([] : List S_rewrite_Expr), false, false, (0 : Int), false, (⟨(0 : Int), (0 : Int)⟩ : S_api_Stamp), (0 : Int), (0 : Int), (0 : Int), (0 : Int), (0 : Int)⟩ : S_option_Config)).bind fun x15 => some x15) (some false) : Option (Bool)).bind fun x14 => some (x14 || false)) (some (((x9 == (0 : Int)) && ((IntKind.i64.wrap ((x7.Includes.length : Int) + (x7.Excludes.length : Int))) == (IntKind.i64.wrap ((254 : Int) + (Int.tmod (IntKind.i64.wrap p0) (5 : Int)))))) || false)))
theorem le_C_boulterlaw32_OptionLimits (n : Nat) (hn : n ≤ bigF) : ∀ (p0 : Int) (p1 : Bool), Le (C_boulterlaw32_OptionLimits n p0 p1) (M_boulterlaw32_OptionLimits p0 p1) := by
  intro p0 p1
  unfold C_boulterlaw32_OptionLimits M_boulterlaw32_OptionLimits
  repeat' (first | with_reducible (first | exact Le.refl _ | apply le_C_boulterlaw32_OptionLimits_L0 n hn | apply le_C_option_Parse n hn | apply le_C_option_Equal n hn | exact Le.none _ | refine Le.bind ?_ (fun _ => ?_) | refine Le.iteB ?_ ?_ | refine Le.need ?_) | refine Le.loop (fun _ => ?_) | split | dsimp only)
end Go.Av.L
