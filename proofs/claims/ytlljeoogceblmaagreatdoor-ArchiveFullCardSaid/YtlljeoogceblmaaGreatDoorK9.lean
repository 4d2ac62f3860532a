/-
 A part.
-/
import Derived.Test.YtlljeoogceblmaaGreatDoorKCfg
import Derived.Test.YtlljeoogceblmaaGreatDoorK3
import Derived.Test.YtlljeoogceblmaaGreatDoorK8
namespace Go.Av.L
open Go.Av Go.Lib
open IntKind (i64)
set_option maxRecDepth 10000
set_option linter.unusedVariables false
set_option linter.unusedSimpArgs false
variable {g : Gd} {h : AF} {F : List Ck} {av : List AB}
noncomputable section
def Bn (p0 : Int) (s : (List AG) × Int) : Option (((List AG) × Int) ⊕ (((List AG)))) :=
 match s with
 | (x1, x2) => Ao (decide (x2 < ((List.replicate (i64.wrap ((4094 : Int) + (Int.tmod (i64.wrap p0) (4 : Int)))).toNat (⟨([] : UV), ([] : UV), (0 : Int), (0 : Int), (0 : Int), (0 : Int), ([] : UV), ([] : UV), (0 : Int), (0 : Int), (⟨(0 : Int), (0 : Int)⟩ : Ad), ([] : List AA), ([] : UV)⟩ : AG)).length : Int))) ((Ii x1 x2).bind fun x4 => some (.inl ((x1.set x2.toNat (⟨([97] : UV), ([] : UV), (53 : Int), (0 : Int), (0 : Int), (0 : Int), ([] : UV), ([] : UV), (0 : Int), (0 : Int), (⟨(0 : Int), (0 : Int)⟩ : Ad), ([] : List AA), ([] : UV)⟩ : AG)), i64.wrap (x2 + 1)))) (some (.inr x1))
def Bl (p0 : Int) (x8 : List UInt8) (s : (List UInt8) × Int) : Option (((List UInt8) × Int) ⊕ (((List UInt8)))) :=
 match s with
 | (x11, x12) => Ao (decide (x12 < (i64.wrap ((4094 : Int) + (Int.tmod (i64.wrap p0) (4 : Int)))))) ((IX x8 none (some (512 : Int))).bind fun x14 => Cl (Hs 1 (x11.length + x14.length)) <| some (.inl ((x11 ++ x14), i64.wrap (x12 + 1)))) (some (.inr x11))
def C4 (p0 : Int) : Option (Bool) :=
 Cl (TH 168 (i64.wrap ((4094 : Int) + (Int.tmod (i64.wrap p0) (4 : Int))))) <| (loop (Bn p0) ((List.replicate (i64.wrap ((4094 : Int) + (Int.tmod (i64.wrap p0) (4 : Int)))).toNat (⟨([] : UV), ([] : UV), (0 : Int), (0 : Int), (0 : Int), (0 : Int), ([] : UV), ([] : UV), (0 : Int), (0 : Int), (⟨(0 : Int), (0 : Int)⟩ : Ad), ([] : List AA), ([] : UV)⟩ : AG)), (0 : Int))).bind fun x3 => (CC x3).bind fun (x5, x6) => (Kd x3 none (some (1 : Int))).bind fun x7 => (EA x7).bind fun (x8, x9, x10) => Ao ((x9 != 0) || ((x8.length : Int) != 1536)) (some false) (Cl (TH 1 (i64.wrap ((512 : Int) * (i64.wrap ((i64.wrap ((4094 : Int) + (Int.tmod (i64.wrap p0) (4 : Int)))) + 2))))) <| (loop (Bl p0 x8) (([] : UV), (0 : Int))).bind fun x13 => (IX x8 (some (512 : Int)) none).bind fun x15 => Cl (Hs 1 (x13.length + x15.length)) <| (Ce (x13 ++ x15) (⟨(1 : Int), (1 : Int)⟩ : CW)).bind fun (x16, x17, x18) => Ao (decide ((i64.wrap ((4094 : Int) + (Int.tmod (i64.wrap p0) (4 : Int)))) > 4096)) ((Ao (((((x5 == ([] : UV)) && (x6 == 8)) && ((x16.length : Int) == 0)) && (x17 == 7)) && (x18 == 0)) ((DW).bind fun x20 => some x20) (some false) : Option (Bool)).bind fun x19 => some x19) ((Ao ((((x6 == 0) && (x5 == (x13 ++ x15))) && (x17 == 0)) && ((x16.length : Int) == (i64.wrap ((4094 : Int) + (Int.tmod (i64.wrap p0) (4 : Int)))))) ((DW).bind fun x22 => some x22) (some false) : Option (Bool)).bind fun x21 => some x21))
theorem G9 {p0 q0} (M : C4 p0 = some q0) (A : HH g h [] F) (hc : BP (cfg.still 9) av = [Ab p0] := by kernel_rfl) : ∃ v Q, BZ cfg g h 9 av v Q ∧ v = .bool q0 ∧ HH g Q [] F := by
 refine EE 117 [.tmp 2] hc ?_
 clear hc
 unfold C4 at M
 refine bg 117 [(0, Ab p0)] fun D H => ?_
 refine AH 1 (B5 1 [] 5 H fun D H => B5 5 [(3, Ai (i64.wrap ((4094 : Int) + (Int.tmod (i64.wrap p0) (4 : Int)))))] 3 H fun D H => ?_)
 obtain ⟨B, M⟩ := Aq M
 obtain ⟨h1, e1, A⟩ := A.pL 26 (AQ AE (List.replicate (i64.wrap ((4094 : Int) + (Int.tmod (i64.wrap p0) (4 : Int)))).toNat (⟨([] : UV), ([] : UV), (0 : Int), (0 : Int), (0 : Int), (0 : Int), ([] : UV), ([] : UV), (0 : Int), (0 : Int), (⟨(0 : Int), (0 : Int)⟩ : Ad), ([] : List AA), ([] : UV)⟩ : AG)))
 refine B0 1 [] 19 (AP (some h.size) (List.replicate (i64.wrap ((4094 : Int) + (Int.tmod (i64.wrap p0) (4 : Int)))).toNat (⟨([] : UV), ([] : UV), (0 : Int), (0 : Int), (0 : Int), (0 : Int), ([] : UV), ([] : UV), (0 : Int), (0 : Int), (⟨(0 : Int), (0 : Int)⟩ : Ad), ([] : List AA), ([] : UV)⟩ : AG)).length) h1 H (fun D => .of (SM (e := AE) CK (x := (⟨([] : UV), ([] : UV), (0 : Int), (0 : Int), (0 : Int), (0 : Int), ([] : UV), ([] : UV), (0 : Int), (0 : Int), (⟨(0 : Int), (0 : Int)⟩ : Ad), ([] : List AA), ([] : UV)⟩ : AG)) (by kernel_rfl) B (congrArg some e1.symm))) fun D t H => ?_
 refine AN 1 [(4, AP (some h.size) ((List.replicate (i64.wrap ((4094 : Int) + (Int.tmod (i64.wrap p0) (4 : Int)))).toNat (⟨([] : UV), ([] : UV), (0 : Int), (0 : Int), (0 : Int), (0 : Int), ([] : UV), ([] : UV), (0 : Int), (0 : Int), (⟨(0 : Int), (0 : Int)⟩ : Ad), ([] : List AA), ([] : UV)⟩ : AG)).length))] H fun D H => AS (AH 3 (AN 3 [(21, Ai ((List.replicate (i64.wrap ((4094 : Int) + (Int.tmod (i64.wrap p0) (4 : Int)))).toNat (⟨([] : UV), ([] : UV), (0 : Int), (0 : Int), (0 : Int), (0 : Int), ([] : UV), ([] : UV), (0 : Int), (0 : Int), (⟨(0 : Int), (0 : Int)⟩ : Ad), ([] : List AA), ([] : UV)⟩ : AG)).length : Int)), (22, Ai 0)] H fun D H => Aa (id := 0) (by kernel_rfl) ?_))
 obtain ⟨o1, O, M⟩ := bind_some M
 refine Bb (Q' := fun e N Q => (∃ x3, e = .exit 0 ∧ x3 = o1 ∧ ∃ (hl2 : x3.length = (List.replicate (i64.wrap ((4094 : Int) + (Int.tmod (i64.wrap p0) (4 : Int)))).toNat (⟨([] : UV), ([] : UV), (0 : Int), (0 : Int), (0 : Int), (0 : Int), ([] : UV), ([] : UV), (0 : Int), (0 : Int), (⟨(0 : Int), (0 : Int)⟩ : Ad), ([] : List AA), ([] : UV)⟩ : AG)).length), Has N 117 [(3, Ai (i64.wrap ((4094 : Int) + (Int.tmod (i64.wrap p0) (4 : Int))))), (4, AP (some h.size) x3.length)] ∧ HH g Q [.AQ (some h.size) 26 (AQ AE x3)] F) ∨ False) ?_ ?_
 ·refine C2 (by kernel_rfl) (fun (s : (List AG) × Int) N Q => ∃ x1 x2, (x1, x2) = s ∧ ∃ (I : x1.length = (List.replicate (i64.wrap ((4094 : Int) + (Int.tmod (i64.wrap p0) (4 : Int)))).toNat (⟨([] : UV), ([] : UV), (0 : Int), (0 : Int), (0 : Int), (0 : Int), ([] : UV), ([] : UV), (0 : Int), (0 : Int), (⟨(0 : Int), (0 : Int)⟩ : Ad), ([] : List AA), ([] : UV)⟩ : AG)).length), Has N 117 [(3, Ai (i64.wrap ((4094 : Int) + (Int.tmod (i64.wrap p0) (4 : Int))))), (4, AP (some h.size) x1.length), (21, Ai ((List.replicate (i64.wrap ((4094 : Int) + (Int.tmod (i64.wrap p0) (4 : Int)))).toNat (⟨([] : UV), ([] : UV), (0 : Int), (0 : Int), (0 : Int), (0 : Int), ([] : UV), ([] : UV), (0 : Int), (0 : Int), (⟨(0 : Int), (0 : Int)⟩ : Ad), ([] : List AA), ([] : UV)⟩ : AG)).length : Int)), (22, Ai x2)] ∧ HH g Q [.AQ (some h.size) 26 (AQ AE x1)] F) O ⟨_, _, rfl, rfl, H.ls, A⟩ ?_
  clear O M H A
  intro s q D h2 S M
  obtain ⟨x1, x2, rfl, I, H, A⟩ := S
  unfold Bn at M
  refine AH 1 (AN 1 [(23, .bool (decide (x2 < ((List.replicate (i64.wrap ((4094 : Int) + (Int.tmod (i64.wrap p0) (4 : Int)))).toNat (⟨([] : UV), ([] : UV), (0 : Int), (0 : Int), (0 : Int), (0 : Int), ([] : UV), ([] : UV), (0 : Int), (0 : Int), (⟨(0 : Int), (0 : Int)⟩ : Ad), ([] : List AA), ([] : UV)⟩ : AG)).length : Int))))] H fun D H => AS (Ac 23 H M (fun B M H => ?_) fun B M H => ?_))
  ·refine CT id (AS (Aa (id := 1) (by kernel_rfl) ?_))
   refine AH 2 (RW 2 [(5, Ai x2)] 5 H fun D H => ?_)
   obtain ⟨x4, X, M⟩ := bind_some M
   obtain ⟨i1, er1, _, X, hq1⟩ := HH.Ra CK (by decide) A 0 (xs := x1) rfl X
   refine B0 3 [(27, .agg [.str ([97] : UV), .str ([] : UV), Ab (53 : Int), Ai (0 : Int), Ai (0 : Int), Ai (0 : Int), .str ([] : UV), .str ([] : UV), Ai (0 : Int), Ai (0 : Int), Ai (0 : Int), Ai (0 : Int), .slice none 0, .str ([] : UV)])] 28 (.ptr (some (i1, x2.toNat * 14))) h2 H (fun D => .of (G1 (s := CF (some h.size) x1.length) (by kernel_rfl) X)) fun D t H => ?_
   obtain ⟨h3, X, E⟩ := HH.Yh CK A 0 rfl er1 hq1 (y := (⟨([97] : UV), ([] : UV), (53 : Int), (0 : Int), (0 : Int), (0 : Int), ([] : UV), ([] : UV), (0 : Int), (0 : Int), (⟨(0 : Int), (0 : Int)⟩ : Ad), ([] : List AA), ([] : UV)⟩ : AG)) (o := 0) (new := [.str ([97] : UV), .str ([] : UV), Ab 53, Ai 0, Ai 0, Ai 0, .str ([] : UV), .str ([] : UV), Ai 0, Ai 0, Ai 0, Ai 0, .slice none 0, .str ([] : UV)]) rfl rfl (Nat.le_of_ble_eq_true rfl)
   have hl3 : (x1.set x2.toNat (⟨([97] : UV), ([] : UV), (53 : Int), (0 : Int), (0 : Int), (0 : Int), ([] : UV), ([] : UV), (0 : Int), (0 : Int), (⟨(0 : Int), (0 : Int)⟩ : Ad), ([] : List AA), ([] : UV)⟩ : AG)).length = (List.replicate (i64.wrap ((4094 : Int) + (Int.tmod (i64.wrap p0) (4 : Int)))).toNat (⟨([] : UV), ([] : UV), (0 : Int), (0 : Int), (0 : Int), (0 : Int), ([] : UV), ([] : UV), (0 : Int), (0 : Int), (⟨(0 : Int), (0 : Int)⟩ : Ad), ([] : List AA), ([] : UV)⟩ : AG)).length := List.length_set.trans I
   have el : AP (some h.size) x1.length = AP (some h.size) (x1.set x2.toNat (⟨([97] : UV), ([] : UV), (53 : Int), (0 : Int), (0 : Int), (0 : Int), ([] : UV), ([] : UV), (0 : Int), (0 : Int), (⟨(0 : Int), (0 : Int)⟩ : Ad), ([] : List AA), ([] : UV)⟩ : AG)).length := congrArg _ List.length_set.symm
   try rw [el] at H
   try rw [el] at E
   replace A : HH g h3 [.AQ (some h.size) 26 (AQ AE (x1.set x2.toNat (⟨([97] : UV), ([] : UV), (53 : Int), (0 : Int), (0 : Int), (0 : Int), ([] : UV), ([] : UV), (0 : Int), (0 : Int), (⟨(0 : Int), (0 : Int)⟩ : Ad), ([] : List AA), ([] : UV)⟩ : AG)))] F := E
   refine C9 X H fun D t H => ?_
   refine ED 2 id (Bv 2 [(3, Ai (i64.wrap ((4094 : Int) + (Int.tmod (i64.wrap p0) (4 : Int))))), (4, AP (some h.size) ((x1.set x2.toNat (⟨([97] : UV), ([] : UV), (53 : Int), (0 : Int), (0 : Int), (0 : Int), ([] : UV), ([] : UV), (0 : Int), (0 : Int), (⟨(0 : Int), (0 : Int)⟩ : Ad), ([] : List AA), ([] : UV)⟩ : AG)).length)), (21, Ai ((List.replicate (i64.wrap ((4094 : Int) + (Int.tmod (i64.wrap p0) (4 : Int)))).toNat (⟨([] : UV), ([] : UV), (0 : Int), (0 : Int), (0 : Int), (0 : Int), ([] : UV), ([] : UV), (0 : Int), (0 : Int), (⟨(0 : Int), (0 : Int)⟩ : Ad), ([] : List AA), ([] : UV)⟩ : AG)).length : Int)), (22, Ai (i64.wrap (x2 + 1)))] H fun D H => at_nil ?_)
   exact nx M ⟨_, _, rfl, hl3, H.ls, A⟩
  refine Bp (i := 0) (by kernel_rfl) ?_
  exact nr M fun e => .inl ⟨_, rfl, e, I, H.ls, A⟩
 clear O
 clear A
 intro e D h4 P
 rcases P with ⟨x3, rfl, rfl, hl2, H, A⟩ | T
 ·show AW _ _ _ _ _ _ _
  refine AH 7 ?_
  obtain ⟨⟨x5, x6⟩, X, M⟩ := bind_some M
  obtain ⟨v1, U, R, rfl, E⟩ := Gg (av := [AP (some h.size) x3.length]) X (A.cut 1)
  replace A := A.g11 E
  refine BC 1 [] 32 R H fun D t H => ?_
  refine B5 5 [(6, .str x5), (7, Ai x6)] 8 H fun D H => ?_
  obtain ⟨x7, X, M⟩ := bind_some M
  replace A : HH g U [.AQ (some h.size) 26 (AQ AE (x3 ++ []))] F := A.Zu 0 rfl
  have Aw1 := A
  obtain ⟨tl1, E⟩ := HH.Yo A 0 (xs := x3) (tl := []) rfl X
  replace A : HH g U [.AQ (some h.size) 26 (AQ AE (x7 ++ tl1))] F := E
  refine B0 1 [] 37 (AP (some h.size) x7.length) U H (fun D => .of (Wx CK (by decide) Aw1 0 (xs := x3) (tl := []) (k' := .i64) rfl (by kernel_rfl) (by kernel_rfl) X)) fun D t H => ?_
  obtain ⟨⟨x8, x9, x10⟩, X, M⟩ := bind_some M
  obtain ⟨v1, J, R, r1, tl2, rfl, E⟩ := Jg (av := [AP (some h.size) x7.length]) X (A.cut 1)
  replace A := A.g11 E
  refine BM 38 R H fun D t H => ?_
  refine AN 5 [(8, .str x8), (9, Ai x9)] H fun D H => AS (AH 7 (AO 3 [(43, .bool (x9 != 0))] H fun D H => Bi 4 (fun N Q => J = Q ∧ Has N 117 [(3, Ai (i64.wrap ((4094 : Int) + (Int.tmod (i64.wrap p0) (4 : Int))))), (6, .str x5), (7, Ai x6), (8, .str x8), (47, .bool ((x9 != 0) || ((x8.length : Int) != 1536)))]) ?_ ?_))
  ·cases B : (x9 != 0 : Bool) with
   | true =>
    replace H := H.kn 43 B
    exact AO 4 [(47, .bool true)] H fun D H => A8 H B
   | false =>
    replace H := H.kn 43 B
    exact AO 4 [(47, .bool ((x8.length : Int) != 1536))] H fun D H => A8 H B
  intro t D Q C
  obtain ⟨e, H⟩ := C
  subst e
  refine Bq id (Ac 47 H M (fun B M H => ?_) fun B M H => ?_)
  ·refine AH 1 (AN 1 [(2, .bool false)] H fun D H => AZ ?_)
   obtain rfl := BB M
   refine ⟨.inl rfl, .bool false, rH H, ?_⟩
   replace A := A.d0
   exact ⟨rfl, A⟩
  refine B3 5 id ?_
  obtain ⟨B, M⟩ := Aq M
  obtain ⟨V, e2, A⟩ := A.pL 5 (AQ eY (([] : UV) ++ (List.replicate (i64.wrap ((512 : Int) * (i64.wrap ((i64.wrap ((4094 : Int) + (Int.tmod (i64.wrap p0) (4 : Int)))) + 2)))).toNat (0 : UInt8))))
  refine B0 3 [] 51 (AP (some J.size) ([] : UV).length) V H (fun D => .of (W1 (e := eY) (x := (0 : UInt8)) (by kernel_rfl) B (congrArg some e2.symm))) fun D t H => ?_
  refine AN 1 [(10, AP (some J.size) (([] : UV).length))] H fun D H => AS (AH 2 (AN 2 [(52, Ai (i64.wrap ((4094 : Int) + (Int.tmod (i64.wrap p0) (4 : Int))))), (53, Ai 0)] H fun D H => Aa (id := 2) (by kernel_rfl) ?_))
  replace A : HH g V [.AQ (some J.size) 5 (AQ eY (([] : UV) ++ (List.replicate (i64.wrap ((512 : Int) * (i64.wrap ((i64.wrap ((4094 : Int) + (Int.tmod (i64.wrap p0) (4 : Int)))) + 2)))).toNat (0 : UInt8))))] F := (HH.Nz (A.front 0 rfl) 1)
  obtain ⟨o2, O, M⟩ := bind_some M
  refine Bb (Q' := fun e N Q => (∃ x13, e = .exit 2 ∧ x13 = o2 ∧ ∃ r3 tl4, Has N 117 [(3, Ai (i64.wrap ((4094 : Int) + (Int.tmod (i64.wrap p0) (4 : Int))))), (6, .str x5), (7, Ai x6), (8, .str x8), (10, AP r3 x13.length)] ∧ HH g Q [.AQ r3 5 (AQ eY (x13 ++ tl4))] F) ∨ False) ?_ ?_
  ·refine C2 (by kernel_rfl) (fun (s : (List UInt8) × Int) N Q => ∃ x11 x12, (x11, x12) = s ∧ ∃ r2 tl3, Has N 117 [(3, Ai (i64.wrap ((4094 : Int) + (Int.tmod (i64.wrap p0) (4 : Int))))), (6, .str x5), (7, Ai x6), (8, .str x8), (10, AP r2 x11.length), (52, Ai (i64.wrap ((4094 : Int) + (Int.tmod (i64.wrap p0) (4 : Int))))), (53, Ai x12)] ∧ HH g Q [.AQ r2 5 (AQ eY (x11 ++ tl3))] F) O ⟨_, _, rfl, some J.size, (List.replicate (i64.wrap ((512 : Int) * (i64.wrap ((i64.wrap ((4094 : Int) + (Int.tmod (i64.wrap p0) (4 : Int)))) + 2)))).toNat (0 : UInt8)), H.ls, A⟩ ?_
   clear O M H A
   intro s q D h8 S M
   obtain ⟨x11, x12, rfl, r2, tl3, H, A⟩ := S
   unfold Bl at M
   refine AH 1 (AN 1 [(54, .bool (decide (x12 < (i64.wrap ((4094 : Int) + (Int.tmod (i64.wrap p0) (4 : Int)))))))] H fun D H => AS (Ac 54 H M (fun B M H => ?_) fun B M H => ?_))
   ·refine CT id (AS (Aa (id := 3) (by kernel_rfl) ?_))
    refine CE 5 ?_
    obtain ⟨x14, X, M⟩ := bind_some M
    refine B0 2 [(55, AP r2 x11.length)] 57 (.str x14) h8 H (fun D => .of (HW (k := .i64) (k' := .i64) (lo := none) (hi := (some (512 : Int))) (by kernel_rfl) X)) fun D t H => ?_
    obtain ⟨B, M⟩ := Aq M
    obtain ⟨r4, tl5, h9, X, E⟩ := HH.Xo Df (by decide) A 0 (xs := x11) (tl := tl3) (ys := x14) rfl (FF _ x14) (Df.BP _) rfl B
    replace A : HH g h9 [.AQ r4 5 (AQ eY ((x11 ++ x14) ++ tl5))] F := E
    refine Ae 58 _ _ H (fun D => .of (DU (s := CF r2 x11.length) (by kernel_rfl) X)) fun D t H => ?_
    refine Bv 1 [(3, Ai (i64.wrap ((4094 : Int) + (Int.tmod (i64.wrap p0) (4 : Int))))), (6, .str x5), (7, Ai x6), (8, .str x8), (10, AP r4 ((x11 ++ x14).length)), (52, Ai (i64.wrap ((4094 : Int) + (Int.tmod (i64.wrap p0) (4 : Int))))), (53, Ai x12)] H fun D H => ED 2 id (Bv 2 [(3, Ai (i64.wrap ((4094 : Int) + (Int.tmod (i64.wrap p0) (4 : Int))))), (6, .str x5), (7, Ai x6), (8, .str x8), (10, AP r4 ((x11 ++ x14).length)), (52, Ai (i64.wrap ((4094 : Int) + (Int.tmod (i64.wrap p0) (4 : Int))))), (53, Ai (i64.wrap (x12 + 1)))] H fun D H => at_nil ?_)
    exact nx M ⟨_, _, rfl, _, tl5, H.ls, A⟩
   refine Bp (i := 2) (by kernel_rfl) ?_
   exact nr M fun e => .inl ⟨_, rfl, e, _, tl3, H.ls, A⟩
  clear O
  clear A
  intro e D h10 P
  rcases P with ⟨x13, rfl, rfl, r3, tl4, H, A⟩ | T
  ·show AW _ _ _ _ _ _ _
   refine AH 5 ?_
   obtain ⟨x15, X, M⟩ := bind_some M
   refine B0 2 [(60, AP r3 x13.length)] 62 (.str x15) h10 H (fun D => .of (HW (k := .i64) (k' := .i64) (lo := (some (512 : Int))) (hi := none) (by kernel_rfl) X)) fun D t H => ?_
   obtain ⟨B, M⟩ := Aq M
   obtain ⟨r5, tl6, K, X, E⟩ := HH.Xo Df (by decide) A 0 (xs := x13) (tl := tl4) (ys := x15) rfl (FF _ x15) (Df.BP _) rfl B
   replace A : HH g K [.AQ r5 5 (AQ eY ((x13 ++ x15) ++ tl6))] F := E
   refine Ae 63 _ _ H (fun D => .of (DU (s := CF r3 x13.length) (by kernel_rfl) X)) fun D t H => ?_
   refine Bv 1 [(3, Ai (i64.wrap ((4094 : Int) + (Int.tmod (i64.wrap p0) (4 : Int))))), (6, .str x5), (7, Ai x6), (10, AP r5 ((x13 ++ x15).length))] H fun D H => Bs 11 id (AO 1 [(65, AP r5 ((x13 ++ x15).length))] H fun D H => Ae 66 (.str (x13 ++ x15)) K H (fun D => .of (Un (xs := (x13 ++ x15)) (tl := tl6) A 0 rfl (by kernel_rfl))) fun D t H => ?_)
   obtain ⟨⟨x16, x17, x18⟩, X, M⟩ := bind_some M
   obtain ⟨v1, G, R, rqw5, rfl, E⟩ := H3 (av := [.str (x13 ++ x15), .agg [Ai 1, Ai 1]]) X (A.cut 0)
   replace A := A.VA E
   refine BC 1 [] 68 R H fun D t H => ?_
   refine AN 7 [(11, AP rqw5 x16.length), (12, Ai x17), (13, Ai x18)] H fun D H => AS (AH 2 (AN 2 [(73, .bool (decide ((i64.wrap ((4094 : Int) + (Int.tmod (i64.wrap p0) (4 : Int)))) > 4096)))] H fun D H => Ac 73 H M (fun B M H => ?_) fun B M H => ?_))
   ·refine AH 23 (AO 3 [(76, .bool (x5 == ([] : UV)))] H fun D H => Bi 3 (fun N Q => G = Q ∧ Has N 117 [(11, AP rqw5 x16.length), (12, Ai x17), (13, Ai x18), (79, .bool ((x5 == ([] : UV)) && (x6 == 8)))]) ?_ ?_)
    ·cases B : (x5 == ([] : UV) : Bool) with
     | true =>
      replace H := H.kn 76 B
      exact AO 3 [(79, .bool (x6 == 8))] H fun D H => A8 H B
     | false =>
      replace H := H.kn 76 B
      exact AO 3 [(79, .bool false)] H fun D H => A8 H B
    intro t D Q C
    obtain ⟨e, H⟩ := C
    subst e
    refine AO 1 [(80, .bool ((x5 == ([] : UV)) && (x6 == 8)))] H fun D H => Bi 4 (fun N Q => G = Q ∧ Has N 117 [(12, Ai x17), (13, Ai x18), (84, .bool (((x5 == ([] : UV)) && (x6 == 8)) && ((x16.length : Int) == 0)))]) ?_ ?_
    ·cases B : ((x5 == ([] : UV)) && (x6 == 8) : Bool) with
     | true =>
      replace H := H.kn 80 B
      exact AO 4 [(84, .bool ((x16.length : Int) == 0))] H fun D H => A8 H B
     | false =>
      replace H := H.kn 80 B
      exact AO 4 [(84, .bool false)] H fun D H => A8 H B
    intro t D Q C
    obtain ⟨e, H⟩ := C
    subst e
    refine AO 1 [(85, .bool (((x5 == ([] : UV)) && (x6 == 8)) && ((x16.length : Int) == 0)))] H fun D H => Bi 3 (fun N Q => G = Q ∧ Has N 117 [(13, Ai x18), (88, .bool ((((x5 == ([] : UV)) && (x6 == 8)) && ((x16.length : Int) == 0)) && (x17 == 7)))]) ?_ ?_
    ·cases B : (((x5 == ([] : UV)) && (x6 == 8)) && ((x16.length : Int) == 0) : Bool) with
     | true =>
      replace H := H.kn 85 B
      exact AO 3 [(88, .bool (x17 == 7))] H fun D H => A8 H B
     | false =>
      replace H := H.kn 85 B
      exact AO 3 [(88, .bool false)] H fun D H => A8 H B
    intro t D Q C
    obtain ⟨e, H⟩ := C
    subst e
    refine AO 1 [(89, .bool ((((x5 == ([] : UV)) && (x6 == 8)) && ((x16.length : Int) == 0)) && (x17 == 7)))] H fun D H => Bi 3 (fun N Q => G = Q ∧ Has N 117 [(92, .bool (((((x5 == ([] : UV)) && (x6 == 8)) && ((x16.length : Int) == 0)) && (x17 == 7)) && (x18 == 0)))]) ?_ ?_
    ·cases B : ((((x5 == ([] : UV)) && (x6 == 8)) && ((x16.length : Int) == 0)) && (x17 == 7) : Bool) with
     | true =>
      replace H := H.kn 89 B
      exact AO 3 [(92, .bool (x18 == 0))] H fun D H => A8 H B
     | false =>
      replace H := H.kn 89 B
      exact AO 3 [(92, .bool false)] H fun D H => A8 H B
    intro t D Q C
    obtain ⟨e, H⟩ := C
    subst e
    refine AO 1 [(93, .bool (((((x5 == ([] : UV)) && (x6 == 8)) && ((x16.length : Int) == 0)) && (x17 == 7)) && (x18 == 0)))] H fun D H => ?_
    obtain ⟨x19, O, M⟩ := bind_some M
    refine Bi 2 (fun N Q => Has N 117 [(95, .bool x19)] ∧ HH g Q [] F) ?_ ?_
    ·rcases BT O with ⟨B, M⟩ | ⟨B, M⟩
     ·replace H := H.kn 93 B
      obtain ⟨x20, X, M⟩ := bind_some M
      obtain ⟨v1, h14, R, rfl, E⟩ := GC (av := []) X (A.cut 0)
      replace A := A.Dx E
      refine BM 94 R H fun D t H => ?_
      refine AO 1 [(95, .bool x20)] H fun D H => ?_
      obtain rfl := BB M
      replace A := A.d0
      exact at_nil ⟨H.ls, A⟩
     replace H := H.kn 93 B
     refine AO 2 [(95, .bool false)] H fun D H => ?_
     obtain rfl := BB M
     replace A := A.d0
     exact at_nil ⟨H.ls, A⟩
    clear A
    intro t D h13 C
    obtain ⟨H, A⟩ := C
    refine AN 1 [(2, .bool x19)] H fun D H => AZ ?_
    obtain rfl := BB M
    exact ⟨.inl rfl, _, rH H, rfl, A⟩
   refine B3 22 id (AO 3 [(98, .bool (x6 == 0))] H fun D H => Bi 5 (fun N Q => G = Q ∧ Has N 117 [(3, Ai (i64.wrap ((4094 : Int) + (Int.tmod (i64.wrap p0) (4 : Int))))), (11, AP rqw5 x16.length), (12, Ai x17), (103, .bool ((x6 == 0) && (x5 == (x13 ++ x15))))]) ?_ ?_)
   ·cases B : (x6 == 0 : Bool) with
    | true =>
     replace H := H.kn 98 B
     refine AO 2 [(99, .str x5), (100, AP r5 ((x13 ++ x15).length))] H fun D H => Ae 101 (.str (x13 ++ x15)) G H (fun D => .of (Un (xs := (x13 ++ x15)) (tl := tl6) A 1 rfl (by kernel_rfl))) fun D t H => ?_
     exact AO 2 [(103, .bool (x5 == (x13 ++ x15)))] H fun D H => A8 H B
    | false =>
     replace H := H.kn 98 B
     exact AO 5 [(103, .bool false)] H fun D H => A8 H B
   intro t D Q C
   obtain ⟨e, H⟩ := C
   subst e
   refine AO 1 [(104, .bool ((x6 == 0) && (x5 == (x13 ++ x15))))] H fun D H => Bi 3 (fun N Q => G = Q ∧ Has N 117 [(3, Ai (i64.wrap ((4094 : Int) + (Int.tmod (i64.wrap p0) (4 : Int))))), (11, AP rqw5 x16.length), (107, .bool (((x6 == 0) && (x5 == (x13 ++ x15))) && (x17 == 0)))]) ?_ ?_
   ·cases B : ((x6 == 0) && (x5 == (x13 ++ x15)) : Bool) with
    | true =>
     replace H := H.kn 104 B
     exact AO 3 [(107, .bool (x17 == 0))] H fun D H => A8 H B
    | false =>
     replace H := H.kn 104 B
     exact AO 3 [(107, .bool false)] H fun D H => A8 H B
   intro t D Q C
   obtain ⟨e, H⟩ := C
   subst e
   refine AO 1 [(108, .bool (((x6 == 0) && (x5 == (x13 ++ x15))) && (x17 == 0)))] H fun D H => Bi 5 (fun N Q => G = Q ∧ Has N 117 [(113, .bool ((((x6 == 0) && (x5 == (x13 ++ x15))) && (x17 == 0)) && ((x16.length : Int) == (i64.wrap ((4094 : Int) + (Int.tmod (i64.wrap p0) (4 : Int)))))))]) ?_ ?_
   ·cases B : (((x6 == 0) && (x5 == (x13 ++ x15))) && (x17 == 0) : Bool) with
    | true =>
     replace H := H.kn 108 B
     exact AO 5 [(113, .bool ((x16.length : Int) == (i64.wrap ((4094 : Int) + (Int.tmod (i64.wrap p0) (4 : Int))))))] H fun D H => A8 H B
    | false =>
     replace H := H.kn 108 B
     exact AO 5 [(113, .bool false)] H fun D H => A8 H B
   intro t D Q C
   obtain ⟨e, H⟩ := C
   subst e
   refine AO 1 [(114, .bool ((((x6 == 0) && (x5 == (x13 ++ x15))) && (x17 == 0)) && ((x16.length : Int) == (i64.wrap ((4094 : Int) + (Int.tmod (i64.wrap p0) (4 : Int)))))))] H fun D H => ?_
   obtain ⟨x21, O, M⟩ := bind_some M
   refine Bi 2 (fun N Q => Has N 117 [(116, .bool x21)] ∧ HH g Q [] F) ?_ ?_
   ·rcases BT O with ⟨B, M⟩ | ⟨B, M⟩
    ·replace H := H.kn 114 B
     obtain ⟨x22, X, M⟩ := bind_some M
     obtain ⟨v1, h16, R, rfl, E⟩ := GC (av := []) X (A.cut 0)
     replace A := A.Dx E
     refine BM 115 R H fun D t H => ?_
     refine AO 1 [(116, .bool x22)] H fun D H => ?_
     obtain rfl := BB M
     replace A := A.d0
     exact at_nil ⟨H.ls, A⟩
    replace H := H.kn 114 B
    refine AO 2 [(116, .bool false)] H fun D H => ?_
    obtain rfl := BB M
    replace A := A.d0
    exact at_nil ⟨H.ls, A⟩
   clear A
   intro t D h15 C
   obtain ⟨H, A⟩ := C
   refine AN 1 [(2, .bool x21)] H fun D H => AZ ?_
   obtain rfl := BB M
   exact ⟨.inl rfl, _, rH H, rfl, A⟩
  exact T.elim
 exact T.elim
end
end Go.Av.L
