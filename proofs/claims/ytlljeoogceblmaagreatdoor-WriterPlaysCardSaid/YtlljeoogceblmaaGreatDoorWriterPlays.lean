/-
 A part.
-/
import Derived.Test.YtlljeoogceblmaaGreatDoorRows
import Derived.Test.YtlljeoogceblmaaGreatDoorAvGlob
import Derived.WalkKit
import Derived.ProofKit
import Derived.OpenShut
import Derived.JoinedCond
import Derived.Shelf.Vars
import Derived.HandedShaped
import Derived.Test.YtlljeoogceblmaaGreatDoorCards
import Derived.Test.YtlljeoogceblmaaGreatDoorTie
import Derived.Deep.DeepHandedRow
import Derived.Lib.LaidTab
namespace Go.Proofs.YtlljeoogceblmaaGreatDoor.writerPlays
open Go.ChangeShapes Go.WideShapes Go.ChangeAt Go.RowKit Go.Av Go.Av.L
set_option linter.unusedVariables false
set_option linter.unusedSimpArgs false
theorem own : ownKnob Tryz.prog.godebug = none := by kernel_rfl
theorem aK : Sy Tryz.prog 51 (eL AO) (ZS (fun x : Bn => (Ll .i64) x.Kind ∧ (Ll .i64) x.N ∧ (fun x : AS => M5 x.Name ∧ M5 x.Ax ∧ (Ll .u8) x.Kind ∧ (Ll .i64) x.Mode ∧ (Ll .i64) x.Bm ∧ (Ll .i64) x.B3 ∧ M5 x.Aj ∧ M5 x.Al ∧ (Ll .i64) x.Ap ∧ (Ll .i64) x.Ay ∧ (fun x : BS => (Ll .i64) x.Ci ∧ (Ll .i64) x.BQ ∧ True) x.Time ∧ (ZS (fun x : AA => M5 x.Key ∧ M5 x.Value ∧ True)) x.Extra ∧ M5 x.Data ∧ True) x.M ∧ M5 x.S ∧ True)) := Zp (t := 51) (el := 55) EB (by kernel_rfl) (by kernel_rfl) (by decide) (Xq (P := Tryz.prog) (t := 55) (e' := AO) (ok' := (fun x : Bn => (Ll .i64) x.Kind ∧ (Ll .i64) x.N ∧ (fun x : AS => M5 x.Name ∧ M5 x.Ax ∧ (Ll .u8) x.Kind ∧ (Ll .i64) x.Mode ∧ (Ll .i64) x.Bm ∧ (Ll .i64) x.B3 ∧ M5 x.Aj ∧ M5 x.Al ∧ (Ll .i64) x.Ap ∧ (Ll .i64) x.Ay ∧ (fun x : BS => (Ll .i64) x.Ci ∧ (Ll .i64) x.BQ ∧ True) x.Time ∧ (ZS (fun x : AA => M5 x.Key ∧ M5 x.Value ∧ True)) x.Extra ∧ M5 x.Data ∧ True) x.M ∧ M5 x.S ∧ True)) (ts := [3, 3, 26, 9]) (by kernel_rfl) (fun x : (Int) × (Int) × (AS) × (List UInt8) × Unit => (⟨x.1, x.2.1, x.2.2.1, x.2.2.2.1⟩ : Bn)) (fun x => rfl) (fun x h => h) (CN (O6 (t := 3) (k := .i64) (by kernel_rfl)) (CN (O6 (t := 3) (k := .i64) (by kernel_rfl)) (CN (Xq (P := Tryz.prog) (t := 26) (e' := AE) (ok' := (fun x : AS => M5 x.Name ∧ M5 x.Ax ∧ (Ll .u8) x.Kind ∧ (Ll .i64) x.Mode ∧ (Ll .i64) x.Bm ∧ (Ll .i64) x.B3 ∧ M5 x.Aj ∧ M5 x.Al ∧ (Ll .i64) x.Ap ∧ (Ll .i64) x.Ay ∧ (fun x : BS => (Ll .i64) x.Ci ∧ (Ll .i64) x.BQ ∧ True) x.Time ∧ (ZS (fun x : AA => M5 x.Key ∧ M5 x.Value ∧ True)) x.Extra ∧ M5 x.Data ∧ True)) (ts := [9, 9, 5, 3, 3, 3, 9, 9, 3, 3, 23, 24, 9]) (by kernel_rfl) (fun x : (List UInt8) × (List UInt8) × (Int) × (Int) × (Int) × (Int) × (List UInt8) × (List UInt8) × (Int) × (Int) × (BS) × (List AA) × (List UInt8) × Unit => (⟨x.1, x.2.1, x.2.2.1, x.2.2.2.1, x.2.2.2.2.1, x.2.2.2.2.2.1, x.2.2.2.2.2.2.1, x.2.2.2.2.2.2.2.1, x.2.2.2.2.2.2.2.2.1, x.2.2.2.2.2.2.2.2.2.1, x.2.2.2.2.2.2.2.2.2.2.1, x.2.2.2.2.2.2.2.2.2.2.2.1, x.2.2.2.2.2.2.2.2.2.2.2.2.1⟩ : AS)) (fun x => rfl) (fun x h => h) (CN (Q5 (t := 9) (by kernel_rfl)) (CN (Q5 (t := 9) (by kernel_rfl)) (CN (O6 (t := 5) (k := .u8) (by kernel_rfl)) (CN (O6 (t := 3) (k := .i64) (by kernel_rfl)) (CN (O6 (t := 3) (k := .i64) (by kernel_rfl)) (CN (O6 (t := 3) (k := .i64) (by kernel_rfl)) (CN (Q5 (t := 9) (by kernel_rfl)) (CN (Q5 (t := 9) (by kernel_rfl)) (CN (O6 (t := 3) (k := .i64) (by kernel_rfl)) (CN (O6 (t := 3) (k := .i64) (by kernel_rfl)) (CN (Xq (P := Tryz.prog) (t := 23) (e' := O9) (ok' := (fun x : BS => (Ll .i64) x.Ci ∧ (Ll .i64) x.BQ ∧ True)) (ts := [3, 3]) (by kernel_rfl) (fun x : (Int) × (Int) × Unit => (⟨x.1, x.2.1⟩ : BS)) (fun x => rfl) (fun x h => h) (CN (O6 (t := 3) (k := .i64) (by kernel_rfl)) (CN (O6 (t := 3) (k := .i64) (by kernel_rfl)) (Nh)))) (CN (Zp (t := 24) (el := 117) AY (by kernel_rfl) (by kernel_rfl) (by decide) (Xq (P := Tryz.prog) (t := 117) (e' := AI) (ok' := (fun x : AA => M5 x.Key ∧ M5 x.Value ∧ True)) (ts := [9, 9]) (by kernel_rfl) (fun x : (List UInt8) × (List UInt8) × Unit => (⟨x.1, x.2.1⟩ : AA)) (fun x => rfl) (fun x h => h) (CN (Q5 (t := 9) (by kernel_rfl)) (CN (Q5 (t := 9) (by kernel_rfl)) (Nh))))) (CN (Q5 (t := 9) (by kernel_rfl)) (Nh))))))))))))))) (CN (Q5 (t := 9) (by kernel_rfl)) (Nh))))))
theorem maxLen {W : World} (hs : W.ShapedOpen Tryz.prog) : ∃ n : Int, W.cell? ⟨0, 0, none⟩ = some (.int .i64 n) :=
 cell_of_shapedOpen_int (g := 0) (t := 3) (zero := #[.int .i64 0]) (k := .i64) hs (of_decide_eq_true (by kernel_rfl)) (by kernel_rfl) rfl (by kernel_rfl) (by kernel_rfl) (by kernel_rfl)
theorem Xn {W : World} (hL : laidMetH Tryz.prog Rows.writerPlaysRow.laid W) (hs : W.ShapedOpen Tryz.prog) : BX cfg.CX W := by
 have l0 : laidMet Tryz.prog Rows.writerPlaysRow.laid W := hL
 have e0 := IA (P := Tryz.prog) (W := W) (g := 2) (by kernel_rfl) (Lib.tabIs_of_head (P := Tryz.prog) (g := 2) (name := "math/bits.deBruijn32tab") (k := .u8) (zs := [0, 1, 28, 2, 29, 14, 24, 3, 30, 22, 20, 15, 25, 17, 4, 8, 31, 27, 13, 23, 21, 19, 16, 7, 26, 12, 18, 6, 11, 5, 10, 9]) (t := 307) (e := 5) (n := 32) (by kernel_rfl) (by kernel_rfl) (by kernel_rfl) (by kernel_rfl) (by kernel_rfl) (by kernel_rfl) l0)
 have l1 := JH l0
 have e1 := IA (P := Tryz.prog) (W := W) (g := 3) (by kernel_rfl) (Lib.tabIs_of_head (P := Tryz.prog) (g := 3) (name := "math/bits.deBruijn64tab") (k := .u8) (zs := [0, 1, 56, 2, 57, 49, 28, 3, 61, 58, 42, 50, 38, 29, 17, 4, 62, 47, 59, 36, 45, 43, 51, 22, 53, 39, 33, 30, 24, 18, 12, 5, 63, 55, 48, 27, 60, 41, 37, 16, 46, 35, 44, 21, 52, 32, 23, 11, 54, 26, 40, 15, 34, 20, 31, 10, 25, 14, 19, 9, 13, 8, 7, 6]) (t := 308) (e := 5) (n := 64) (by kernel_rfl) (by kernel_rfl) (by kernel_rfl) (by kernel_rfl) (by kernel_rfl) (by kernel_rfl) l1)
 have l2 := JH l1
 have e2 := IA (P := Tryz.prog) (W := W) (g := 1) (by kernel_rfl) (Lib.tabIs_of_head (P := Tryz.prog) (g := 1) (name := "internal/strconv.uint64pow10") (k := .u64) (zs := [1, 10, 100, 1000, 10000, 100000, 1000000, 10000000, 100000000, 1000000000, 10000000000, 100000000000, 1000000000000, 10000000000000, 100000000000000, 1000000000000000, 10000000000000000, 100000000000000000, 1000000000000000000, 10000000000000000000]) (t := 299) (e := 245) (n := 20) (by kernel_rfl) (by kernel_rfl) (by kernel_rfl) (by kernel_rfl) (by kernel_rfl) (by kernel_rfl) l2)
 have l3 := JH l2
 have l4 := JH l3
 have l5 := JH l4
 exact Sp (maxLen hs) (KU e2 (KU e0 (KU e1 (TF W))))
set_option maxRecDepth 100000 in
theorem V2 (H : Type) (enc : TypeId × Value → H) (W : World) (base : Nat) (args : Array Value) (ds gs : List (DataW H)) (before : List MemPlace)
  (hval : ∀ (j : Nat) t v, Tryz.f5.params[j]? = some t → args[j]? = some v → Value.okWide Tryz.prog W .any base t v)
  (hW : DataW.Whole enc Tryz.prog Tryz.f5.params.toList Rows.writerPlaysSpec.vars false W args.toList ds gs before) (hL : laidMetH Tryz.prog Rows.writerPlaysRow.laid W) (hs : W.ShapedOpen Tryz.prog) :
  Calls Tryz.prog 5 args W fun e W' => ∃ v, e = .returned v ∧ Rows.writerPlaysSpec.post enc Tryz.prog Tryz.f5 false true false false W args v W' := by
 have hW' := hW
 obtain ⟨p, q, hA0, hV, rfl, hfz, hnd⟩ := hW
 have hA : DataW.TrodAll enc Tryz.prog W 0 (fun _ => true) true Tryz.f5.params.toList args.toList ds p := hA0
 rw [Tryz.params5] at hA
 obtain ⟨v0, vs0, d0, ds0, p0, q0, g0, rfl, _, ⟨fu0, t0⟩, r0⟩ := trodAll_cons hA
 obtain ⟨gE, rfl, _⟩ := trodAll_nil r0
 have hargs : args.toList = [v0] := by rw [g0, gE]
 obtain ⟨x0, c0, k0⟩ := aK.h fu0 _ d0 p0 t0
 have V0 := Vb (hval 0 51 v0 (by rw [Tryz.params5]; rfl) (by rw [← Array.getElem?_toList, hargs]; rfl)) c0 (show toArg Tryz.prog 51 ((eL AO) x0) = some (vs AO x0) from by kernel_rfl)
 have hm := N3 x0 k0
 obtain ⟨v, h', hr, ev, _⟩ := Ha (g := ⟨0, []⟩) (h := ⟨0, .leaf⟩) (F := []) (av := [vs AO x0]) hm (hc := rfl) HH.start
 subst ev
 exact US (C := cfg) Y3 (Xn hL hs) (by kernel_rfl) Tryz.func5 (by kernel_rfl) (c := Fx cfg.P 5) (by kernel_rfl) (by rw [Tryz.params5]; intro t ht; simp only [List.mem_cons, List.not_mem_nil, or_false] at ht; rcases ht with rfl <;> exact ⟨by kernel_rfl, of_decide_eq_true (by kernel_rfl)⟩) (tb := 4) (by kernel_rfl) (by kernel_rfl) rfl (by rfl) hW' (by rw [hargs]; exact .cons V0 (.nil _)) hr
noncomputable def My (os : Os) : World := { World.holding Tryz.prog os ⟨#[], #[], []⟩ with heap := ((((((World.holding Tryz.prog os ⟨#[], #[], []⟩).heap.modify 2 fun
      | .cells _ t frozen => .cells #[.int .u8 0, .int .u8 1, .int .u8 28, .int .u8 2, .int .u8 29, .int .u8 14, .int .u8 24, .int .u8 3, .int .u8 30, .int .u8 22, .int .u8 20, .int .u8 15, .int .u8 25, .int .u8 17, .int .u8 4, .int .u8 8, .int .u8 31, .int .u8 27, .int .u8 13, .int .u8 23, .int .u8 21, .int .u8 19, .int .u8 16, .int .u8 7, .int .u8 26, .int .u8 12, .int .u8 18, .int .u8 6, .int .u8 11, .int .u8 5, .int .u8 10, .int .u8 9] t frozen
      | o => o).modify 3 fun
      | .cells _ t frozen => .cells #[.int .u8 0, .int .u8 1, .int .u8 56, .int .u8 2, .int .u8 57, .int .u8 49, .int .u8 28, .int .u8 3, .int .u8 61, .int .u8 58, .int .u8 42, .int .u8 50, .int .u8 38, .int .u8 29, .int .u8 17, .int .u8 4, .int .u8 62, .int .u8 47, .int .u8 59, .int .u8 36, .int .u8 45, .int .u8 43, .int .u8 51, .int .u8 22, .int .u8 53, .int .u8 39, .int .u8 33, .int .u8 30, .int .u8 24, .int .u8 18, .int .u8 12, .int .u8 5, .int .u8 63, .int .u8 55, .int .u8 48, .int .u8 27, .int .u8 60, .int .u8 41, .int .u8 37, .int .u8 16, .int .u8 46, .int .u8 35, .int .u8 44, .int .u8 21, .int .u8 52, .int .u8 32, .int .u8 23, .int .u8 11, .int .u8 54, .int .u8 26, .int .u8 40, .int .u8 15, .int .u8 34, .int .u8 20, .int .u8 31, .int .u8 10, .int .u8 25, .int .u8 14, .int .u8 19, .int .u8 9, .int .u8 13, .int .u8 8, .int .u8 7, .int .u8 6] t frozen
      | o => o).modify 1 fun
      | .cells _ t frozen => .cells #[.int .u64 1, .int .u64 10, .int .u64 100, .int .u64 1000, .int .u64 10000, .int .u64 100000, .int .u64 1000000, .int .u64 10000000, .int .u64 100000000, .int .u64 1000000000, .int .u64 10000000000, .int .u64 100000000000, .int .u64 1000000000000, .int .u64 10000000000000, .int .u64 100000000000000, .int .u64 1000000000000000, .int .u64 10000000000000000, .int .u64 100000000000000000, .int .u64 1000000000000000000, .int .u64 10000000000000000000] t frozen
      | o => o).modify 5 fun
      | .cells _ t frozen => .cells #[.int .u8 128, .int .u8 191, .int .u8 160, .int .u8 191, .int .u8 128, .int .u8 159, .int .u8 144, .int .u8 191, .int .u8 128, .int .u8 143, .int .u8 0, .int .u8 0, .int .u8 0, .int .u8 0, .int .u8 0, .int .u8 0, .int .u8 0, .int .u8 0, .int .u8 0, .int .u8 0, .int .u8 0, .int .u8 0, .int .u8 0, .int .u8 0, .int .u8 0, .int .u8 0, .int .u8 0, .int .u8 0, .int .u8 0, .int .u8 0, .int .u8 0, .int .u8 0] t frozen
      | o => o).modify 4 fun
      | .cells _ t frozen => .cells (Go.Pinned.utf8FirstZ.map fun n => Value.int .u8 (Int.ofNat n)).toArray t frozen
      | o => o) }
theorem Vd (os : Os) : laidMet Tryz.prog Rows.writerPlaysRow.laid ((My os).forCall (fun _ _ => 0) ⟨#[], #[.slice none 0 0], []⟩).memory :=
 laidMet_of_run' 8 (by kernel_rfl) (by kernel_rfl)
theorem reads (os : Os) {H : Type} (enc : TypeId × Value → H) : ∃ places, DataW.whole enc Tryz.prog ((My os).forCall (fun _ _ => 0) ⟨#[], #[.slice none 0 0], []⟩).memory Tryz.f5.params.toList Rows.writerPlaysSpec.vars false (#[.slice none 0 0] : Array Value).toList 8 = some ([.nil], [], places) :=
 ⟨[], by kernel_rfl⟩
set_option maxRecDepth 100000 in
theorem lifted (os : Os) (started : os.Started) (H : Type) (enc : TypeId × Value → H) (F : Stop.Interp) :
  ReturnsInHanded {} Tryz.checked os 5 .any ((OpenSpec.ofChange Rows.writerPlaysSpec).preRow enc Tryz.prog Tryz.f5 Rows.writerPlaysRow.domain false Rows.writerPlaysRow.laid) (((OpenSpec.ofChange Rows.writerPlaysSpec).at F).post enc Tryz.prog Tryz.f5 false true false false) := by
 obtain ⟨places, hx⟩ := reads os enc
 refine returnsInHanded_of_row (C := Tryz.checked) (s := OpenSpec.ofChange Rows.writerPlaysSpec) own started (by kernel_rfl) Tryz.func5
  (witness_row_at (enc := enc) (C := Tryz.checked) false (My os) #[.slice none 0 0] rfl (by kernel_rfl) (by kernel_rfl) (by kernel_rfl)
   (OpenSpec.preRow_of_cond 8 hx (by kernel_rfl) (fun k hk => by cases hk) (by kernel_rfl) (Vd os))) ?_
 intro W base args ds gs before hval hW _ hcond _ hL hs _
 exact V2 H enc W base args ds gs before hval hW hL hs
set_option maxRecDepth 100000 in
theorem a8 : laidOutB Tryz.pinned.checked.prog = true := by kernel_rfl
set_option maxRecDepth 100000 in
theorem ao : mapsRowed Tryz.pinned.checked.prog = true := by kernel_rfl
set_option maxRecDepth 100000 in
theorem ar : (Rows.writerPlaysRow.inPlace == Tryz.pinned.checked.prog.inPlace 5) = true := by kernel_rfl
set_option maxRecDepth 100000 in
theorem ai : (Rows.writerPlaysRow.unfollowed == Tryz.pinned.checked.prog.unfollowed 5) = true := by kernel_rfl
set_option maxRecDepth 100000 in
theorem ay : (Rows.writerPlaysRow.recurses == Tryz.pinned.checked.prog.recurses 5) = true := by kernel_rfl
set_option maxRecDepth 100000 in
theorem ax : (Rows.writerPlaysRow.named == Tryz.pinned.checked.prog.varsNamed 5) = true := by kernel_rfl
set_option maxRecDepth 100000 in
theorem ah : (Rows.writerPlaysRow.plainKeys == Tryz.pinned.checked.prog.plainKeys) = true := by kernel_rfl
set_option maxRecDepth 100000 in
theorem al : Tryz.pinned.checked.prog.stopsHeard = true := by kernel_rfl
set_option maxRecDepth 100000 in
theorem ak : Tryz.pinned.checked.prog.mayEnter = true := by kernel_rfl
set_option maxRecDepth 100000 in
theorem au : (Rows.writerPlaysRow.lifted == Tryz.pinned.checked.prog.liftsFinal) = true := by kernel_rfl
set_option maxRecDepth 100000 in
theorem closed : joinedFacts Tryz.pinned.checked.prog 5 Tryz.f5 (OpenSpec.ofChange Rows.writerPlaysSpec).bare Rows.writerPlaysRow = true := by
 unfold joinedFacts
 rw [a8, ao, ar, ai, ay, ax, ah, al, ak, au]
 kernel_rfl
set_option maxRecDepth 100000 in
theorem said : Rows.WriterPlaysSaid :=
 OpenClaim.holds_of_cond 5 Tryz.f5 rfl rfl rfl rfl rfl rfl rfl ⟨rfl, rfl, rfl, rfl, rfl⟩ rfl rfl rfl rfl rfl (by kernel_rfl) Tryz.func5 closed
  (of_decide_eq_true (by kernel_rfl)) (by unfold Func.isWrapper; first | (rw [if_pos (by decide +kernel)]; kernel_rfl) | (rw [if_neg (by decide +kernel)]; exact ⟨rfl, rfl⟩))
  (fun os started H enc _ F => by rw [OpenClaim.pre_eq_preRow]; exact lifted os started H enc F)
theorem plain (f : FuncId) (fn : Func) (hf : Tryz.pinned.checked.prog.funcNamed "boulter/boulterlaw11.WriterPlays" = some f) (hfn : Tryz.pinned.checked.prog.funcs[f]? = some fn) :
  false = Tryz.pinned.checked.prog.looks [] ∧ ∀ (j : Nat) t, fn.params[j]? = some t → Tryz.pinned.checked.prog.wantsStandIn t = false := by
 obtain rfl : f = 5 := Option.some.inj ((show Tryz.prog.funcNamed "boulter/boulterlaw11.WriterPlays" = some 5 by kernel_rfl).symm.trans hf) |>.symm
 obtain rfl : fn = Tryz.f5 := (Option.some.inj (Tryz.func5.symm.trans hfn)).symm
 refine ⟨by kernel_rfl, fun j t ht => ?_⟩
 rw [Tryz.params5] at ht
 have hm := Array.mem_of_getElem? ht
 simp only [List.mem_toArray, List.mem_cons, List.not_mem_nil, or_false] at hm
 rcases hm with rfl
 ·exact (show Tryz.prog.wantsStandIn 51 = false by kernel_rfl)
theorem proved : Rows.WriterPlaysCardSaid :=
 Claim7.holds_tied_plain_at .later [] _ _ _ _ said (fun _ h => by cases h) (by kernel_rfl) (fun _ h => by cases h) writerPlays_row_tie rfl ⟨rfl, rfl⟩ (by kernel_rfl) rfl plain (by kernel_rfl)
#print axioms proved
end Go.Proofs.YtlljeoogceblmaaGreatDoor.writerPlays
