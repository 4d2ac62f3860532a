/-
 A part.
-/
import Derived.Test.YtlljeoogceblmaaGreatDoorKCfg
import Derived.Test.YtlljeoogceblmaaGreatDoorK0
namespace Go.Av.L
open Go.Av Go.Lib
open IntKind (i64 u8)
set_option maxRecDepth 10000
set_option linter.unusedVariables false
set_option linter.unusedSimpArgs false
variable {g : Gd} {h : AD} {F : List Ck} {av : List AB}
noncomputable section
def Ba (p0 : AN) : Option ((List (Int × (List UInt8))) × Bool) :=
 (DJ p0.Name).bind fun (x1, x2, x3) => some ((CM (CM (CM (CM (CM ([] : List (Int × (List UInt8))) (0 : Int) x2) (11 : Int) x1) (6 : Int) p0.Ax) (7 : Int) p0.Aj) (8 : Int) p0.Al), x3)
theorem Jh {p0 q0 q1} (M : Ba p0 = some (q0, q1)) (A : HH g h [] F) (hc : BB (cfg.still 71) av = [.agg (AJ p0)] := by kernel_rfl) : ∃ v Q, BE cfg g h 71 av v Q ∧ ∃ (bq0 : Nat), v = .tuple [.map (some bq0), .bool q1] ∧ HH g Q [.obj bq0 (.map 2 (E8 (fun k : Int => Ai k) (fun v : List UInt8 => .str v) q0))] F := by
 refine Dp 25 [.tmp 2, .tmp 3] hc ?_
 clear hc
 unfold Ba at M
 refine bg 25 [(0, .agg (AJ p0))] fun D H => ?_
 refine AG 3 ?_
 obtain ⟨h1, e1, A⟩ := A.pu (.cells none 2 (AJ p0))
 refine BI 1 (.ptr (some (h.size, 0))) e1 H fun D t H => ?_
 refine Bg 2 [] 10 H fun D H => AV 1 [] 9 0 0 A H fun D t H => ?_
 obtain ⟨⟨x1, x2, x3⟩, X, M⟩ := bind_some M
 obtain ⟨v1, h2, R, rfl, E⟩ := QV (av := [.str p0.Name]) X (A.cut 0)
 replace A : HH g h2 [.obj h.size (.cells none 2 (AJ p0))] F := A.GM (n := 0) E
 refine A9 10 R H fun D t H => ?_
 refine Bg 7 [(4, .str x1), (5, .str x2), (6, .bool x3)] 18 H fun D H => ?_
 obtain ⟨h3, e2⟩ : ∃ x, x = h2.push (.map 2 []) := ⟨_, rfl⟩
 replace A : HH g h3 [.obj h2.size (.map 2 (E8 (fun k : Int => Ai k) (fun v : List UInt8 => .str v) ([] : List (Int × (List UInt8))))), _] F := (A.push _).to e2
 refine BI 14 (.map (some h2.size)) e2 H fun D t H => ?_
 refine AF 1 [(15, .str x2)] H fun D H => ?_
 obtain ⟨h4, X, E⟩ := HH.NY (kt := 3) (et := 9) (ek := fun k : Int => Ai k) (ev := fun v : List UInt8 => .str v) (NS (by kernel_rfl)) A 0 rfl (t := 122) (by kernel_rfl) (0 : Int) x2
 replace A : HH g h4 [.obj h2.size (.map 2 (E8 (fun k : Int => Ai k) (fun v : List UInt8 => .str v) (CM ([] : List (Int × (List UInt8))) (0 : Int) x2))), _] F := E
 refine G3 (.tuple []) h4 H (fun D => .of (NU (by kernel_rfl) X)) fun D t H => ?_
 refine AF 1 [(16, .str x1)] H fun D H => ?_
 obtain ⟨h5, X, E⟩ := HH.NY (kt := 3) (et := 9) (ek := fun k : Int => Ai k) (ev := fun v : List UInt8 => .str v) (NS (by kernel_rfl)) A 0 rfl (t := 122) (by kernel_rfl) (11 : Int) x1
 replace A : HH g h5 [.obj h2.size (.map 2 (E8 (fun k : Int => Ai k) (fun v : List UInt8 => .str v) (CM (CM ([] : List (Int × (List UInt8))) (0 : Int) x2) (11 : Int) x1))), _] F := E
 refine G3 (.tuple []) h5 H (fun D => .of (NU (by kernel_rfl) X)) fun D t H => ?_
 refine AV 1 [] 18 1 1 A H fun D t H => ?_
 obtain ⟨h6, X, E⟩ := HH.NY (kt := 3) (et := 9) (ek := fun k : Int => Ai k) (ev := fun v : List UInt8 => .str v) (NS (by kernel_rfl)) A 0 rfl (t := 122) (by kernel_rfl) (6 : Int) p0.Ax
 replace A : HH g h6 [.obj h2.size (.map 2 (E8 (fun k : Int => Ai k) (fun v : List UInt8 => .str v) (CM (CM (CM ([] : List (Int × (List UInt8))) (0 : Int) x2) (11 : Int) x1) (6 : Int) p0.Ax))), _] F := E
 refine G3 (.tuple []) h6 H (fun D => .of (NU (by kernel_rfl) X)) fun D t H => ?_
 refine AV 1 [] 20 1 8 A H fun D t H => ?_
 obtain ⟨h7, X, E⟩ := HH.NY (kt := 3) (et := 9) (ek := fun k : Int => Ai k) (ev := fun v : List UInt8 => .str v) (NS (by kernel_rfl)) A 0 rfl (t := 122) (by kernel_rfl) (7 : Int) p0.Aj
 replace A : HH g h7 [.obj h2.size (.map 2 (E8 (fun k : Int => Ai k) (fun v : List UInt8 => .str v) (CM (CM (CM (CM ([] : List (Int × (List UInt8))) (0 : Int) x2) (11 : Int) x1) (6 : Int) p0.Ax) (7 : Int) p0.Aj))), _] F := E
 refine G3 (.tuple []) h7 H (fun D => .of (NU (by kernel_rfl) X)) fun D t H => ?_
 refine AV 1 [] 22 1 9 A H fun D t H => ?_
 obtain ⟨h8, X, E⟩ := HH.NY (kt := 3) (et := 9) (ek := fun k : Int => Ai k) (ev := fun v : List UInt8 => .str v) (NS (by kernel_rfl)) A 0 rfl (t := 122) (by kernel_rfl) (8 : Int) p0.Al
 replace A : HH g h8 [.obj h2.size (.map 2 (E8 (fun k : Int => Ai k) (fun v : List UInt8 => .str v) (CM (CM (CM (CM (CM ([] : List (Int × (List UInt8))) (0 : Int) x2) (11 : Int) x1) (6 : Int) p0.Ax) (7 : Int) p0.Aj) (8 : Int) p0.Al))), _] F := E
 refine G3 (.tuple []) h8 H (fun D => .of (NU (by kernel_rfl) X)) fun D t H => ?_
 refine AM 4 [(2, .map (some h2.size)), (3, .bool x3)] H fun D H => AX ?_
 obtain ⟨rfl, rfl⟩ := Cx M
 refine ⟨.inl rfl, .tuple [.map (some h2.size), .bool x3], rH H, ?_⟩
 replace A := A.d1
 exact ⟨h2.size, rfl, A⟩
def Db : Option (Gn) :=
 some (⟨(⟨(0 : Int), (100 : Int)⟩ : Am), (⟨(100 : Int), (8 : Int)⟩ : Am), (⟨(108 : Int), (8 : Int)⟩ : Am), (⟨(116 : Int), (8 : Int)⟩ : Am), (⟨(124 : Int), (12 : Int)⟩ : Am), (⟨(136 : Int), (12 : Int)⟩ : Am), (⟨(157 : Int), (100 : Int)⟩ : Am), (⟨(265 : Int), (32 : Int)⟩ : Am), (⟨(297 : Int), (32 : Int)⟩ : Am), (⟨(329 : Int), (8 : Int)⟩ : Am), (⟨(337 : Int), (8 : Int)⟩ : Am), (⟨(345 : Int), (155 : Int)⟩ : Am)⟩ : Gn)
theorem ET {q0} (M : Db = some q0) (A : HH g h [] F) (hc : BB (cfg.still 72) av = [] := by kernel_rfl) : ∃ v Q, BE cfg g h 72 av v Q ∧ v = .agg (LU q0) ∧ HH g Q [] F := by
 refine Dp 14 [.cell 0 127] hc ?_
 clear hc
 unfold Db at M
 refine bg 14 [] fun D H => ?_
 refine AG 1 ?_
 obtain ⟨h1, e1, A⟩ := A.pu (.cells none 2 [Ai 0, Ai 0, Ai 0, Ai 0, Ai 0, Ai 0, Ai 0, Ai 0, Ai 0, Ai 0, Ai 0, Ai 0, Ai 0, Ai 0, Ai 0, Ai 0, Ai 0, Ai 0, Ai 0, Ai 0, Ai 0, Ai 0, Ai 0, Ai 0])
 refine BI 0 (.ptr (some (h.size, 0))) e1 H fun D t H => ?_
 refine CT 14 id ?_
 obtain ⟨h2, X, A⟩ := A.s0 0 [Ai 0, Ai 100, Ai 100, Ai 8, Ai 108, Ai 8, Ai 116, Ai 8, Ai 124, Ai 12, Ai 136, Ai 12, Ai 157, Ai 100, Ai 265, Ai 32, Ai 297, Ai 32, Ai 329, Ai 8, Ai 337, Ai 8, Ai 345, Ai 155] [_, _, _, _, _, _, _, _, _, _, _, _, _, _, _, _, _, _, _, _, _, _, _, _]
 refine PZ 13 [] X H fun D t H => ?_
 refine BZ id (AX ?_)
 obtain rfl := Ah M
 refine ⟨.inl rfl, .agg [Ai 0, Ai 100, Ai 100, Ai 8, Ai 108, Ai 8, Ai 116, Ai 8, Ai 124, Ai 12, Ai 136, Ai 12, Ai 157, Ai 100, Ai 265, Ai 32, Ai 297, Ai 32, Ai 329, Ai 8, Ai 337, Ai 8, Ai 345, Ai 155], Ln (.cell (rT H) (Cb (by kernel_rfl) (by kernel_rfl) (A.la 0 0 24)) .nil), ?_⟩
 replace A := A.d0
 exact ⟨rfl, A⟩
def By (p0 : AN) : Option ((List (Int × Int))) :=
 some (CM (CM (CM (CM (CM (CM (CM ([] : List (Int × Int)) (1 : Int) p0.Mode) (2 : Int) p0.Bm) (3 : Int) p0.B3) (4 : Int) p0.DE) (5 : Int) p0.Time) (9 : Int) p0.Ap) (10 : Int) p0.Ay)
theorem JE {p0 q0} (M : By p0 = some q0) (A : HH g h [] F) (hc : BB (cfg.still 73) av = [.agg (AJ p0)] := by kernel_rfl) : ∃ v Q, BE cfg g h 73 av v Q ∧ ∃ (bq0 : Nat), v = .map (some bq0) ∧ HH g Q [.obj bq0 (.map 2 (E8 (fun k : Int => Ai k) (fun v : Int => Ai v) q0))] F := by
 refine Dp 19 [.tmp 2] hc ?_
 clear hc
 unfold By at M
 refine bg 19 [(0, .agg (AJ p0))] fun D H => ?_
 refine AG 2 ?_
 obtain ⟨h1, e1, A⟩ := A.pu (.cells none 2 (AJ p0))
 refine BI 1 (.ptr (some (h.size, 0))) e1 H fun D t H => ?_
 refine Bg 1 [] 24 H fun D H => ?_
 obtain ⟨h2, e2⟩ : ∃ x, x = h1.push (.map 2 []) := ⟨_, rfl⟩
 replace A : HH g h2 [.obj h1.size (.map 2 (E8 (fun k : Int => Ai k) (fun v : Int => Ai v) ([] : List (Int × Int)))), .obj h.size (.cells none 2 (AJ p0))] F := (A.push _).to e2
 refine BI 3 (.map (some h1.size)) e2 H fun D t H => ?_
 refine AV 1 [] 5 1 3 A H fun D t H => ?_
 obtain ⟨h3, X, E⟩ := HH.NY (kt := 3) (et := 3) (ek := fun k : Int => Ai k) (ev := fun v : Int => Ai v) (NS (by kernel_rfl)) A 0 rfl (t := 129) (by kernel_rfl) (1 : Int) p0.Mode
 replace A : HH g h3 [.obj h1.size (.map 2 (E8 (fun k : Int => Ai k) (fun v : Int => Ai v) (CM ([] : List (Int × Int)) (1 : Int) p0.Mode))), _] F := E
 refine G3 (.tuple []) h3 H (fun D => .of (NU (by kernel_rfl) X)) fun D t H => ?_
 refine AV 1 [] 7 1 4 A H fun D t H => ?_
 obtain ⟨h4, X, E⟩ := HH.NY (kt := 3) (et := 3) (ek := fun k : Int => Ai k) (ev := fun v : Int => Ai v) (NS (by kernel_rfl)) A 0 rfl (t := 129) (by kernel_rfl) (2 : Int) p0.Bm
 replace A : HH g h4 [.obj h1.size (.map 2 (E8 (fun k : Int => Ai k) (fun v : Int => Ai v) (CM (CM ([] : List (Int × Int)) (1 : Int) p0.Mode) (2 : Int) p0.Bm))), _] F := E
 refine G3 (.tuple []) h4 H (fun D => .of (NU (by kernel_rfl) X)) fun D t H => ?_
 refine AV 1 [] 9 1 5 A H fun D t H => ?_
 obtain ⟨h5, X, E⟩ := HH.NY (kt := 3) (et := 3) (ek := fun k : Int => Ai k) (ev := fun v : Int => Ai v) (NS (by kernel_rfl)) A 0 rfl (t := 129) (by kernel_rfl) (3 : Int) p0.B3
 replace A : HH g h5 [.obj h1.size (.map 2 (E8 (fun k : Int => Ai k) (fun v : Int => Ai v) (CM (CM (CM ([] : List (Int × Int)) (1 : Int) p0.Mode) (2 : Int) p0.Bm) (3 : Int) p0.B3))), _] F := E
 refine G3 (.tuple []) h5 H (fun D => .of (NU (by kernel_rfl) X)) fun D t H => ?_
 refine AV 1 [] 11 1 6 A H fun D t H => ?_
 obtain ⟨h6, X, E⟩ := HH.NY (kt := 3) (et := 3) (ek := fun k : Int => Ai k) (ev := fun v : Int => Ai v) (NS (by kernel_rfl)) A 0 rfl (t := 129) (by kernel_rfl) (4 : Int) p0.DE
 replace A : HH g h6 [.obj h1.size (.map 2 (E8 (fun k : Int => Ai k) (fun v : Int => Ai v) (CM (CM (CM (CM ([] : List (Int × Int)) (1 : Int) p0.Mode) (2 : Int) p0.Bm) (3 : Int) p0.B3) (4 : Int) p0.DE))), _] F := E
 refine G3 (.tuple []) h6 H (fun D => .of (NU (by kernel_rfl) X)) fun D t H => ?_
 refine AV 1 [] 13 1 7 A H fun D t H => ?_
 obtain ⟨h7, X, E⟩ := HH.NY (kt := 3) (et := 3) (ek := fun k : Int => Ai k) (ev := fun v : Int => Ai v) (NS (by kernel_rfl)) A 0 rfl (t := 129) (by kernel_rfl) (5 : Int) p0.Time
 replace A : HH g h7 [.obj h1.size (.map 2 (E8 (fun k : Int => Ai k) (fun v : Int => Ai v) (CM (CM (CM (CM (CM ([] : List (Int × Int)) (1 : Int) p0.Mode) (2 : Int) p0.Bm) (3 : Int) p0.B3) (4 : Int) p0.DE) (5 : Int) p0.Time))), _] F := E
 refine G3 (.tuple []) h7 H (fun D => .of (NU (by kernel_rfl) X)) fun D t H => ?_
 refine AV 1 [] 15 1 10 A H fun D t H => ?_
 obtain ⟨h8, X, E⟩ := HH.NY (kt := 3) (et := 3) (ek := fun k : Int => Ai k) (ev := fun v : Int => Ai v) (NS (by kernel_rfl)) A 0 rfl (t := 129) (by kernel_rfl) (9 : Int) p0.Ap
 replace A : HH g h8 [.obj h1.size (.map 2 (E8 (fun k : Int => Ai k) (fun v : Int => Ai v) (CM (CM (CM (CM (CM (CM ([] : List (Int × Int)) (1 : Int) p0.Mode) (2 : Int) p0.Bm) (3 : Int) p0.B3) (4 : Int) p0.DE) (5 : Int) p0.Time) (9 : Int) p0.Ap))), _] F := E
 refine G3 (.tuple []) h8 H (fun D => .of (NU (by kernel_rfl) X)) fun D t H => ?_
 refine AV 1 [] 17 1 11 A H fun D t H => ?_
 obtain ⟨h9, X, E⟩ := HH.NY (kt := 3) (et := 3) (ek := fun k : Int => Ai k) (ev := fun v : Int => Ai v) (NS (by kernel_rfl)) A 0 rfl (t := 129) (by kernel_rfl) (10 : Int) p0.Ay
 replace A : HH g h9 [.obj h1.size (.map 2 (E8 (fun k : Int => Ai k) (fun v : Int => Ai v) (CM (CM (CM (CM (CM (CM (CM ([] : List (Int × Int)) (1 : Int) p0.Mode) (2 : Int) p0.Bm) (3 : Int) p0.B3) (4 : Int) p0.DE) (5 : Int) p0.Time) (9 : Int) p0.Ap) (10 : Int) p0.Ay))), _] F := E
 refine G3 (.tuple []) h9 H (fun D => .of (NU (by kernel_rfl) X)) fun D t H => ?_
 refine AM 2 [(2, .map (some h1.size))] H fun D H => AX ?_
 obtain rfl := Ah M
 refine ⟨.inl rfl, .map (some h1.size), rH H, ?_⟩
 replace A := A.d1
 exact ⟨h1.size, rfl, A⟩
def EV (s : (List UInt8) × Int × Int) : Option (((List UInt8) × Int × Int) ⊕ (((List UInt8)))) :=
 match s with
 | (x3, x4, x5) => Af (decide (x5 ≥ 0)) ((HJ x3 x5).bind fun x7 => (Wf (u8.wrap (i64.wrap ((48 : Int) + (W1 .i64 x4 (7 : Int)))))).bind fun x8 => some (.inl ((x3.set x5.toNat x8), Vk .i64 x4 (3 : Int), i64.wrap (x5 - 1)))) (some (.inr x3))
def CL (p0 : Int) (p1 : Int) : Option ((List UInt8) × Bool) :=
 (IS p1).bind fun x1 => (Af ((!x1) || (decide (p0 < 0))) (some true) (BW (decide (0 ≤ (i64.wrap ((3 : Int) * (i64.wrap (p1 - 1)))))) <| some (decide (p0 ≥ (Ug .i64 (1 : Int) (i64.wrap ((3 : Int) * (i64.wrap (p1 - 1)))))))) : Option (Bool)).bind fun x2 => Af x2 (some (([] : UV), false)) (BW (X6 1 p1) <| (loop (EV) ((List.replicate p1.toNat (0 : UInt8)), p0, i64.wrap (p1 - 2))).bind fun x6 => some (x6, true))
theorem Hr {p0 p1 q0 q1} (M : CL p0 p1 = some (q0, q1)) (A : HH g h [] F) (hc : BB (cfg.still 74) av = [Ai p0, Ai p1] := by kernel_rfl) : ∃ v Q, BE cfg g h 74 av v Q ∧ v = .tuple [.str q0, .bool q1] ∧ HH g Q [] F := by
 refine Dp 42 [.tmp 4, .tmp 5] hc ?_
 clear hc
 unfold CL at M
 refine bg 42 [(0, Ai p0), (1, Ai p1)] fun D H => ?_
 refine AG 2 (AM 2 [] H fun D H => AQ (AG 15 ?_))
 obtain ⟨x1, X, M⟩ := bind_some M
 obtain ⟨v1, h1, R, rfl, E⟩ := Qt (av := [Ai p1]) X (A.cut 0)
 replace A := A.Ee E
 refine A6 1 [] 9 R H fun D t H => ?_
 refine AF 2 [(11, .bool (!x1))] H fun D H => An 3 (fun N Q => h1 = Q ∧ Has N 42 [(0, Ai p0), (1, Ai p1), (14, .bool ((!x1) || (decide (p0 < 0))))]) ?_ ?_
 ·cases B : (!x1 : Bool) with
  | true =>
   replace H := H.kn 11 B
   exact AF 3 [(14, .bool true)] H fun D H => AZ H B
  | false =>
   replace H := H.kn 11 B
   exact AF 3 [(14, .bool (decide (p0 < 0)))] H fun D H => AZ H B
 intro t D Q hK
 obtain ⟨e, H⟩ := hK
 subst e
 refine AF 1 [(15, .bool ((!x1) || (decide (p0 < 0))))] H fun D H => ?_
 obtain ⟨x2, O, M⟩ := bind_some M
 refine An 7 (fun N Q => Has N 42 [(0, Ai p0), (1, Ai p1), (22, .bool x2)] ∧ HH g Q [] F) ?_ ?_
 ·rcases A0 O with ⟨B, M⟩ | ⟨B, M⟩
  ·replace H := H.kn 15 B
   refine AF 7 [(22, .bool true)] H fun D H => ?_
   obtain rfl := Ah M
   exact at_nil ⟨H.ls, A⟩
  replace H := H.kn 15 B
  refine AF 4 [(16, Ai p0), (19, Ai (i64.wrap ((3 : Int) * (i64.wrap (p1 - 1)))))] H fun D H => ?_
  obtain ⟨B, M⟩ := AP M
  refine Ac 20 (Ai (Ug .i64 (1 : Int) (i64.wrap ((3 : Int) * (i64.wrap (p1 - 1)))))) h1 H (fun D => .of (Zq (by kernel_rfl) B)) fun D t H => ?_
  refine AF 2 [(22, .bool (decide (p0 ≥ (Ug .i64 (1 : Int) (i64.wrap ((3 : Int) * (i64.wrap (p1 - 1))))))))] H fun D H => ?_
  obtain rfl := Ah M
  exact at_nil ⟨H.ls, A⟩
 clear A
 intro t D h2 hK
 obtain ⟨H, A⟩ := hK
 refine BZ id (Ae 22 H M (fun B M H => ?_) fun B M H => ?_)
 ·refine AG 2 (AM 2 [(4, .str ([] : UV)), (5, .bool false)] H fun D H => AX ?_)
  obtain ⟨rfl, rfl⟩ := Cx M
  exact ⟨.inl rfl, _, rH H, rfl, A⟩
 refine Cr 3 id ?_
 obtain ⟨B, M⟩ := AP M
 obtain ⟨h3, e1, A⟩ := A.pL 5 (Ag eY (List.replicate p1.toNat (0 : UInt8)))
 refine BC 1 [] 24 (AR (some h2.size) (List.replicate p1.toNat (0 : UInt8)).length) h3 H (fun D => .of (VH (e := eY) I3 (x := (0 : UInt8)) (by kernel_rfl) B (congrArg some e1.symm))) fun D t H => ?_
 refine AM 1 [(6, AR (some h2.size) ((List.replicate p1.toNat (0 : UInt8)).length))] H fun D H => AQ (AG 3 (AM 3 [(7, Ai (i64.wrap (p1 - 2)))] H fun D H => Ak (id := 0) (by kernel_rfl) ?_))
 obtain ⟨o1, O, M⟩ := bind_some M
 refine Az (Q' := fun e N Q => (∃ x6, e = .exit 0 ∧ x6 = o1 ∧ ∃ (hl2 : x6.length = (List.replicate p1.toNat (0 : UInt8)).length), Has N 42 [(6, AR (some h2.size) x6.length)] ∧ HH g Q [.Ag (some h2.size) 5 (Ag eY x6)] F) ∨ False) ?_ ?_
 ·refine Bi (by kernel_rfl) (fun (s : (List UInt8) × Int × Int) N Q => ∃ x3 x4 x5, (x3, x4, x5) = s ∧ ∃ (hl1 : x3.length = (List.replicate p1.toNat (0 : UInt8)).length), Has N 42 [(0, Ai x4), (6, AR (some h2.size) x3.length), (7, Ai x5)] ∧ HH g Q [.Ag (some h2.size) 5 (Ag eY x3)] F) O ⟨_, _, _, rfl, rfl, H.ls, A⟩ ?_
  clear O M H A
  intro s q D h4 hI M
  obtain ⟨x3, x4, x5, rfl, hl1, H, A⟩ := hI
  unfold EV at M
  refine AQ (AG 2 (AM 2 [(28, .bool (decide (x5 ≥ 0)))] H fun D H => Ae 28 H M (fun B M H => ?_) fun B M H => ?_))
  ·refine B0 id (AQ (Ak (id := 1) (by kernel_rfl) ?_))
   refine AG 8 ?_
   obtain ⟨x7, X, M⟩ := bind_some M
   obtain ⟨i1, er1, _, X, hq1⟩ := HH.SD I3 (by decide) A 0 (xs := x3) rfl X
   refine BC 6 [(36, Ab (u8.wrap (i64.wrap ((48 : Int) + (W1 .i64 x4 (7 : Int))))))] 37 (.ptr (some (i1, x5.toNat * 1))) h4 H (fun D => .of (HM (s := DW (some h2.size) x3.length) (by kernel_rfl) X)) fun D t H => ?_
   obtain ⟨x8, X, M⟩ := bind_some M
   have X := SJ X
   rw [X] at H
   obtain ⟨h5, X, E⟩ := HH.aU I3 A 0 rfl er1 hq1 (y := x8) (o := 0) (new := [Ab (x8.toNat : Int)]) rfl rfl (Nat.le_of_ble_eq_true rfl)
   have hl3 : (x3.set x5.toNat x8).length = (List.replicate p1.toNat (0 : UInt8)).length := List.length_set.trans hl1
   have el : AR (some h2.size) x3.length = AR (some h2.size) (x3.set x5.toNat x8).length := congrArg _ List.length_set.symm
   try rw [el] at H
   try rw [el] at E
   replace A : HH g h5 [.Ag (some h2.size) 5 (Ag eY (x3.set x5.toNat x8))] F := E
   refine KZ X H fun D t H => ?_
   refine G6 3 id (BF 3 [(0, Ai (Vk .i64 x4 (3 : Int))), (6, AR (some h2.size) ((x3.set x5.toNat x8).length)), (7, Ai x5)] H fun D H => G6 3 id (BF 3 [(0, Ai (Vk .i64 x4 (3 : Int))), (6, AR (some h2.size) ((x3.set x5.toNat x8).length)), (7, Ai (i64.wrap (x5 - 1)))] H fun D H => at_nil ?_))
   exact nx M ⟨_, _, _, rfl, hl3, H.ls, A⟩
  refine Bk (i := 0) (by kernel_rfl) ?_
  exact nr M fun e => .inl ⟨_, rfl, e, hl1, H.ls, A⟩
 clear O
 clear A
 intro e D h6 hQ
 rcases hQ with ⟨x6, rfl, rfl, hl2, H, A⟩ | hF
 ·show AW _ _ _ _ _ _ _
  refine AG 4 (AF 1 [(40, AR (some h2.size) x6.length)] H fun D H => Ac 41 (.str x6) h6 H (fun D => .of (PJ (xs := x6) A 0 rfl (by kernel_rfl))) fun D t H => ?_)
  refine AM 2 [(4, .str x6), (5, .bool true)] H fun D H => AX ?_
  obtain ⟨rfl, rfl⟩ := Cx M
  refine ⟨.inl rfl, .tuple [.str x6, .bool true], rH H, ?_⟩
  replace A := A.d0
  exact ⟨rfl, A⟩
 exact hF.elim
def Ch (p0 : AN) (s : Int) : Option ((Int) ⊕ ((Unit) ⊕ (Int))) :=
 match s with
 | x1 => Af (decide (x1 < (([p0.Name, p0.Ax, p0.Aj, p0.Al] : List (List UInt8)).length : Int))) ((HJ ([p0.Name, p0.Ax, p0.Aj, p0.Al] : List (List UInt8)) x1).bind fun x3 => (BV x3 (0 : Int)).bind fun x4 => Af (decide (x4 ≥ 0)) (some (.inr (.inr (2 : Int)))) (some (.inl (i64.wrap (x1 + 1))))) (some (.inr (.inl ())))
def DC (pp : Int × (List UInt8)) (s : Bool) : Option ((Bool) ⊕ (Unit)) :=
 match s with
 | z1 => (Af z1 ((Db).bind fun x8 => (HJ ([x8.w0, x8.w1, x8.w2, x8.w3, x8.w4, x8.w5, x8.w6, x8.w7, x8.w8, x8.w9, x8.Up, x8.Uv] : List Am) pp.1).bind fun x9 => some (decide ((pp.2.length : Int) ≤ x9.DF))) (some false) : Option (Bool)).bind fun x7 => some (.inl x7)
def DD (pp : Int × Int) (s : Unit) : Option ((Unit) ⊕ (Int)) :=
 match s with
 | _ => (Db).bind fun x11 => (HJ ([x11.w0, x11.w1, x11.w2, x11.w3, x11.w4, x11.w5, x11.w6, x11.w7, x11.w8, x11.w9, x11.Up, x11.Uv] : List Am) pp.1).bind fun x12 => (CL pp.2 x12.DF).bind fun (x13, x14) => Af (!x14) (some (.inr (6 : Int))) (some (.inl ()))
def TE (k : Int) : Int := if k = 0 ∨ k = 6 then 100 else if k = 11 then 155 else 32
theorem Yq {k : Nat} (hk : k ≤ 11) : Ug .i64 (1 : Int) ((3 * k : Nat) : Int) = 8 ^ k := by
 have : k = 0 ∨ k = 1 ∨ k = 2 ∨ k = 3 ∨ k = 4 ∨ k = 5 ∨ k = 6 ∨ k = 7 ∨ k = 8 ∨ k = 9 ∨ k = 10 ∨ k = 11 := by omega
 rcases this with rfl | rfl | rfl | rfl | rfl | rfl | rfl | rfl | rfl | rfl | rfl | rfl <;> rfl
def JR : Nat → Nat → List UInt8
 | _, 0 => []
 | v, k + 1 => JR (v / 8) k ++ [UInt8.ofNat (48 + v % 8)]
theorem G1 : ∀ (k v : Nat), (JR v k).length = k
 | 0, v => rfl
 | k + 1, v => by simp [JR, G1 k (v / 8)]
theorem Y8 (v : Nat) (hv : v < 9223372036854775808) : W1 .i64 (v : Int) 7 = ((v % 8 : Nat) : Int) := by
 unfold W1
 have e1 : (BitVec.ofInt 64 (v : Int)).toNat = v := by rw [BitVec.toNat_ofInt]; omega
 show i64.wrap ((BitVec.ofInt 64 (v : Int) &&& BitVec.ofInt 64 7).toNat : Int) = _
 rw [BitVec.toNat_and, e1, show (BitVec.ofInt 64 7).toNat = 2 ^ 3 - 1 from rfl, Nat.and_two_pow_sub_one_eq_mod, GA (by omega) (by omega)]
theorem YU (v : Nat) : Vk .i64 (v : Int) 3 = ((v / 8 : Nat) : Int) := by
 unfold Vk
 rw [show (2 : Int) ^ (min (3 : Int).toNat i64.bits) = 8 from rfl, Int.fdiv_eq_ediv_of_nonneg _ (by omega)]
 omega
theorem TX : ∀ (k v : Nat) (t : List UInt8), v < 9223372036854775808 → k ≤ 1000 → loop EV (List.replicate k 0 ++ t, (v : Int), (k : Int) - 1) = some (JR v k ++ t)
 | 0, v, t, hv, hk => by
  refine D5 ?_
  rw [EV]
  rfl
 | k + 1, v, t, hv, hk => by
  have e : ((k + 1 : Nat) : Int) - 1 = (k : Int) := by omega
  rw [e]
  refine (DY (s' := (List.replicate k 0 ++ (UInt8.ofNat (48 + v % 8) :: t), ((v / 8 : Nat) : Int), (k : Int) - 1)) ?_).trans ?_
  ·rw [EV, decide_eq_true (by omega), AU, FI (by simp; omega), Option.bind_some, Y8 v hv, GA (x := 48 + ((v % 8 : Nat) : Int)) (by omega) (by omega), az (by omega) (by omega)]
   have et : Wf (48 + ((v % 8 : Nat) : Int)) = some (UInt8.ofNat (48 + v % 8)) := by
    unfold Wf
    rw [if_pos (by omega)]
    congr 2
   rw [et, Option.bind_some, YU, GA (by omega) (by omega), Int.toNat_natCast]
   congr 3
   rw [List.replicate_succ', List.append_assoc, List.set_append_right _ _ (by simp)]
   simp
  ·rw [TX k (v / 8) _ (by omega) (by omega), JR, List.append_assoc]
   rfl
def Bb (v : Nat) (n : Nat) : List UInt8 := JR v (n - 1) ++ [0]
theorem CY {v n : Nat} (h : 1 ≤ n) : (Bb v n).length = n := by simp [Bb, G1]; omega
theorem W4 {k : Nat} (hk : k ≤ 11) : (8 : Int) ^ k ≤ 8589934592 := by
 have : k = 0 ∨ k = 1 ∨ k = 2 ∨ k = 3 ∨ k = 4 ∨ k = 5 ∨ k = 6 ∨ k = 7 ∨ k = 8 ∨ k = 9 ∨ k = 10 ∨ k = 11 := by omega
 rcases this with rfl | rfl | rfl | rfl | rfl | rfl | rfl | rfl | rfl | rfl | rfl | rfl <;> decide
theorem KE (v : Int) {k : Nat} (hk : 1 ≤ k) (hk2 : k ≤ 11) :
  CL v ((k + 1 : Nat) : Int) = some (if 0 ≤ v ∧ v < 8 ^ k then (Bb v.toNat (k + 1), true) else ([], false)) := by
 unfold CL IS
 rw [Option.bind_some, decide_eq_true (p := ((k + 1 : Nat) : Int) ≥ 2) (by omega), decide_eq_true (p := ((k + 1 : Nat) : Int) ≤ 12) (by omega), Bool.and_self, Bool.not_true, Bool.false_or, Ej]
 by_cases h0 : v < 0
 ·rw [if_pos h0, Option.bind_some, AU, if_neg (by omega)]
 ·have e1 : ((k + 1 : Nat) : Int) - 1 = (k : Int) := by omega
  rw [if_neg h0, e1, GA (x := (k : Int)) (by omega) (by omega), show (3 : Int) * (k : Int) = ((3 * k : Nat) : Int) by omega, GA (x := ((3 * k : Nat) : Int)) (by omega) (by omega), Yq hk2, decide_eq_true (p := (0 : Int) ≤ ((3 * k : Nat) : Int)) (by omega), Ad, Option.bind_some, Ej]
  by_cases h3 : v ≥ 8 ^ k
  ·rw [if_pos h3, if_neg (by omega)]
  ·have hp := W4 hk2
   obtain ⟨m, rfl⟩ := Int.eq_ofNat_of_zero_le (show 0 ≤ v by omega)
   have hk3 : ((k + 1 : Nat) : Int) - 2 = (k : Int) - 1 := by omega
   rw [if_neg h3, if_pos (by omega), show X6 1 ((k + 1 : Nat) : Int) = true from decide_eq_true (by omega), Ad, hk3, GA (by omega) (by omega), Int.toNat_natCast, List.replicate_succ', TX k m [0] (by omega) (by omega), Option.bind_some]
   rfl
theorem H2 {a : Int × List UInt8} (h : a.1 = 0 ∨ a.1 = 11 ∨ a.1 = 6 ∨ a.1 = 7 ∨ a.1 = 8) (z : Bool) :
  DC a z = some (.inl (z && decide ((a.2.length : Int) ≤ TE a.1))) := by
 obtain ⟨k, s⟩ := a
 dsimp only at h
 rcases h with rfl | rfl | rfl | rfl | rfl <;> cases z <;> rfl
theorem RX {p0 : AN} {l : List (Int × List UInt8)} {b : Bool} (X : Ba p0 = some (l, b)) : ∃ p q, DJ p0.Name = some (p, q, b) ∧ l = [(0, q), (11, p), (6, p0.Ax), (7, p0.Aj), (8, p0.Al)] := by
 unfold Ba at X
 obtain ⟨⟨p, q, r⟩, h1, h2⟩ := bind_some X
 dsimp only at h2
 have := Option.some.inj h2
 obtain ⟨e1, e2⟩ := Prod.mk.inj this
 subst e2
 exact ⟨p, q, h1, e1.symm⟩
theorem Gp {p0 : AN} {l : List (Int × List UInt8)} {b : Bool} (X : Ba p0 = some (l, b)) : ∀ a ∈ l, a.1 = 0 ∨ a.1 = 11 ∨ a.1 = 6 ∨ a.1 = 7 ∨ a.1 = 8 := by
 obtain ⟨p, q, _, rfl⟩ := RX X
 intro a ha
 simp only [List.mem_cons, List.not_mem_nil, or_false] at ha
 rcases ha with rfl | rfl | rfl | rfl | rfl <;> simp
theorem Pl {p0 : AN} {l : List (Int × Int)} (X : By p0 = some l) : l = [(1, p0.Mode), (2, p0.Bm), (3, p0.B3), (4, p0.DE), (5, p0.Time), (9, p0.Ap), (10, p0.Ay)] := (Option.some.inj X).symm
theorem KG {p0 : AN} {l : List (Int × Int)} (X : By p0 = some l) : ∀ a ∈ l, a.1 = 1 ∨ a.1 = 2 ∨ a.1 = 3 ∨ a.1 = 4 ∨ a.1 = 5 ∨ a.1 = 9 ∨ a.1 = 10 := by
 rw [Pl X]
 intro a ha
 simp only [List.mem_cons, List.not_mem_nil, or_false] at ha
 rcases ha with rfl | rfl | rfl | rfl | rfl | rfl | rfl <;> simp
theorem HO {p0 : AN} {l : List (Int × List UInt8)} {b : Bool} (X : Ba p0 = some (l, b)) : ∀ l', l'.Perm l → Bc DC l' b = Bc DC l b := by
 have hk := Gp X
 refine fun l' hl' => Lk (fun _ => True) (fun _ _ _ _ _ _ => trivial) (fun a ha c hc s _ => ?_) l' hl' b trivial
 unfold TC
 rw [H2 (hk a ha), H2 (hk c hc)]
 dsimp only
 rw [H2 (hk c hc), H2 (hk a ha), Bool.and_right_comm]
theorem Mw : ∀ (l : List (Int × List UInt8)) (z : Bool), (∀ a ∈ l, a.1 = 0 ∨ a.1 = 11 ∨ a.1 = 6 ∨ a.1 = 7 ∨ a.1 = 8) → Bc DC l z = some (.inl (z && l.all fun a => decide ((a.2.length : Int) ≤ TE a.1)))
 | [], z, _ => by simp [Bc]
 | a :: l, z, h => by
  rw [Bc, H2 (h a (by simp))]
  dsimp only
  rw [Mw l _ fun c hc => h c (by simp [hc]), List.all_cons, Bool.and_assoc]
def MR (a : Int × Int) : Bool := decide (0 ≤ a.2 ∧ a.2 < (if a.1 = 4 ∨ a.1 = 5 then 8589934592 else 2097152))
theorem Hf {a : Int × Int} (h : a.1 = 1 ∨ a.1 = 2 ∨ a.1 = 3 ∨ a.1 = 4 ∨ a.1 = 5 ∨ a.1 = 9 ∨ a.1 = 10) : DD a () = some (if MR a then .inl () else .inr 6) := by
 obtain ⟨k, v⟩ := a
 dsimp only at h
 have e8 := KE v (k := 7) (by omega) (by omega)
 have e12 := KE v (k := 11) (by omega) (by omega)
 have p8 : (8 : Int) ^ 7 = 2097152 := rfl
 have p12 : (8 : Int) ^ 11 = 8589934592 := rfl
 rw [p8] at e8
 rw [p12] at e12
 have g8 : (CL v 8).bind (fun (x : List UInt8 × Bool) => match x with | (x13, x14) => Af (!x14) (some (.inr (6 : Int))) (some (.inl ()))) = some (if decide (0 ≤ v ∧ v < 2097152) then (.inl () : Unit ⊕ Int) else .inr 6) := by
  rw [show (8 : Int) = ((7 + 1 : Nat) : Int) from rfl, e8, Option.bind_some]
  by_cases hv : 0 ≤ v ∧ v < 2097152
  ·simp [hv]
  ·simp only [if_neg hv, decide_eq_false hv]; rfl
 have g12 : (CL v 12).bind (fun (x : List UInt8 × Bool) => match x with | (x13, x14) => Af (!x14) (some (.inr (6 : Int))) (some (.inl ()))) = some (if decide (0 ≤ v ∧ v < 8589934592) then (.inl () : Unit ⊕ Int) else .inr 6) := by
  rw [show (12 : Int) = ((11 + 1 : Nat) : Int) from rfl, e12, Option.bind_some]
  by_cases hv : 0 ≤ v ∧ v < 8589934592
  ·simp [hv]
  ·simp only [if_neg hv, decide_eq_false hv]; rfl
 rcases h with rfl | rfl | rfl | rfl | rfl | rfl | rfl
 ·exact g8
 ·exact g8
 ·exact g8
 ·exact g12
 ·exact g12
 ·exact g8
 ·exact g8
theorem HL {p0 : AN} {l : List (Int × Int)} (X : By p0 = some l) : ∀ l', l'.Perm l → Bc DD l' () = Bc DD l () := by
 have hk := KG X
 refine fun l' hl' => Lk (fun _ => True) (fun _ _ _ _ _ _ => trivial) (fun a ha c hc s _ => ?_) l' hl' () trivial
 unfold TC
 rw [Hf (hk a ha), Hf (hk c hc)]
 cases h1 : MR a <;> cases h2 : MR c <;> simp [Hf (hk a ha), Hf (hk c hc), h1, h2]
def BL (p0 : AN) : Option (Int) :=
 (loop (Ch p0) (0 : Int)).bind fun o1 => (match o1 with | .inl _ => (Ba p0).bind fun (x5, x6) => (Bc (DC) x5 x6).bind fun o => (match o with | .inl z2 => Af (!z2) (some (12 : Int)) ((By p0).bind fun x10 => (Bc (DD) x10 ()).bind fun o => (match o with | .inl _ => some (0 : Int) | .inr y1 => some y1)) | .inr _ => none) | .inr x2 => some x2)
theorem Cj {p0 q0} (M : BL p0 = some q0) (A : HH g h [] F) (hc : BB (cfg.still 70) av = [.agg (AJ p0)] := by kernel_rfl) : ∃ v Q, BE cfg g h 70 av v Q ∧ v = Ai q0 ∧ HH g Q [] F := by
 refine Te (n := 74) (rs := [.tmp 2]) (by kernel_rfl) hc (by kernel_rfl) ?_
 clear hc
 unfold BL at M
 refine WE (n := 74) [(0, .agg (AJ p0))] (by kernel_rfl) (by kernel_rfl) ?_
 intro D H
 refine Fc ?_
 refine Im ?_
 refine BY 2 ?_
 obtain ⟨h1, e1, A⟩ := A.pu (.cells none 2 (AJ p0))
 refine BI 1 (.ptr (some (h.size, 0))) e1 H fun D t H => ?_
 refine AF 1 [] H fun D H => at_nil ?_
 show Pu cfg 70 g (right (Fx cfg.P 70)) D h1 _
 refine Fc ?_
 refine Im ?_
 refine AG 11 (AV 1 [] 14 0 0 A H fun D t H => ?_)
 refine AV 1 [] 16 0 1 A H fun D t H => ?_
 refine AV 1 [] 18 0 8 A H fun D t H => ?_
 refine AV 1 [] 20 0 9 A H fun D t H => ?_
 obtain ⟨h2, e2, A⟩ := A.pL 9 [.str p0.Name, .str p0.Ax, .str p0.Aj, .str p0.Al]
 refine BI 21 (AR (some h1.size) (([p0.Name, p0.Ax, p0.Aj, p0.Al] : List (List UInt8)).length)) e2 H fun D t H => ?_
 refine AM 2 [(22, Ai (([p0.Name, p0.Ax, p0.Aj, p0.Al] : List (List UInt8)).length : Int)), (23, Ai 0)] H fun D H => Ak (id := 0) (by kernel_rfl) ?_
 replace A : HH g h2 [.Ag (some h1.size) 9 (Ag eS ([p0.Name, p0.Ax, p0.Aj, p0.Al] : List (List UInt8))), .obj h.size (.cells none 2 (AJ p0))] F := A
 obtain ⟨o1, O, M⟩ := bind_some M
 refine Az (Q' := fun e N Q => (e = .exit 0 ∧ .inl () = o1 ∧ Has N 74 [(1, .ptr (some (h.size, 0)))] ∧ HH g Q [.obj h.size (.cells none 2 (AJ p0))] F) ∨ (∃ x2, e = .ret ∧ .inr x2 = o1 ∧ Has N 74 [(2, Ai x2)] ∧ HH g Q [.obj h.size (.cells none 2 (AJ p0))] F) ∨ False) ?_ ?_
 ·refine Bi (by kernel_rfl) (fun (s : Int) N Q => ∃ x1, x1 = s ∧ Has N 74 [(1, .ptr (some (h.size, 0))), (21, AR (some h1.size) (([p0.Name, p0.Ax, p0.Aj, p0.Al] : List (List UInt8)).length)), (22, Ai (([p0.Name, p0.Ax, p0.Aj, p0.Al] : List (List UInt8)).length : Int)), (23, Ai x1)] ∧ HH g Q [.Ag (some h1.size) 9 (Ag eS ([p0.Name, p0.Ax, p0.Aj, p0.Al] : List (List UInt8))), .obj h.size (.cells none 2 (AJ p0))] F) O ⟨_, rfl, H.ls, A⟩ ?_
  clear O M H A
  intro s q D h3 hI M
  obtain ⟨x1, rfl, H, A⟩ := hI
  unfold Ch at M
  refine AG 1 (AM 1 [(24, .bool (decide (x1 < (([p0.Name, p0.Ax, p0.Aj, p0.Al] : List (List UInt8)).length : Int))))] H fun D H => AQ (Ae 24 H M (fun B M H => ?_) fun B M H => ?_))
  ·refine B0 id (AQ (Ak (id := 1) (by kernel_rfl) ?_))
   refine AG 3 ?_
   obtain ⟨x3, X, M⟩ := bind_some M
   obtain ⟨i1, er1, _, X, hq1⟩ := HH.SD encS (by decide) A 0 (xs := ([p0.Name, p0.Ax, p0.Aj, p0.Al] : List (List UInt8))) rfl X
   refine Ac 25 (.ptr (some (i1, x1.toNat * 1))) h3 H (fun D => .of (HM (s := DW (some h1.size) (([p0.Name, p0.Ax, p0.Aj, p0.Al] : List (List UInt8)).length)) (by kernel_rfl) X)) fun D t H => ?_
   refine Ac 26 _ _ H (fun D => .of (Fo (by kernel_rfl) (IV encS (HH.row A 0 rfl er1) hq1 (o := 0) rfl))) fun D t H => ?_
   refine Bg 1 [(4, .str x3)] 3 H fun D H => ?_
   obtain ⟨x4, X, M⟩ := bind_some M
   obtain ⟨v1, h4, R, rfl, E⟩ := EK (av := [.str x3, Ab 0]) X (A.cut 0)
   replace A := A.Ee E
   refine A6 1 [] 28 R H fun D t H => ?_
   refine AM 1 [(29, .bool (decide (x4 ≥ 0)))] H fun D H => Ae 29 H M (fun B M H => ?_) fun B M H => ?_
   ·refine AG 1 (AM 1 [(2, Ai 2)] H fun D H => AX ?_)
    replace A := A.k1 1
    exact nr M fun e => Or.inr (.inl ⟨_, rfl, e, H.ls, A⟩)
   refine FM 2 id (BF 2 [(1, .ptr (some (h.size, 0))), (21, AR (some h1.size) (([p0.Name, p0.Ax, p0.Aj, p0.Al] : List (List UInt8)).length)), (22, Ai (([p0.Name, p0.Ax, p0.Aj, p0.Al] : List (List UInt8)).length : Int)), (23, Ai (i64.wrap (x1 + 1)))] H fun D H => at_nil ?_)
   exact nx M ⟨_, rfl, H.ls, A⟩
  refine Bk (i := 0) (by kernel_rfl) ?_
  replace A := A.k1 1
  exact nr M fun e => .inl ⟨rfl, e, H.ls, A⟩
 clear O
 clear A
 intro e D h5 hQ
 rcases hQ with ⟨rfl, rfl, H, A⟩ | ⟨x2, rfl, rfl, H, A⟩ | hF
 ·show Pu cfg 70 g (right (right (Fx cfg.P 70))) D h5 _
  refine Fc ?_
  refine Im ?_
  refine BY 7 (Ac 32 _ _ H (fun D => .of (BH (by kernel_rfl) (A.EX 0 rfl (o := 0) (n := 13) ⟨Nat.le_of_ble_eq_true rfl, rfl⟩))) fun D t H => ?_)
  obtain ⟨⟨x5, x6⟩, X, M⟩ := bind_some M
  obtain ⟨v1, h6, R, bqw2, rfl, E⟩ := Jh (av := [.agg (AJ p0)]) X (A.cut 0)
  replace A := A.Xr E
  refine A9 33 R H fun D t H => ?_
  refine AF 5 [(5, .map (some bqw2)), (6, .bool x6)] H fun D H => at_nil ?_
  show Pu cfg 70 g (right (right (right (Fx cfg.P 70)))) D h6 _
  refine Fc ?_
  refine Nt 1 [37, 1, 6] [] none ?_
  refine AF 1 [(36, .map (some bqw2))] H fun D H => at_nil ?_
  obtain ⟨o2, O, M⟩ := bind_some M
  refine Rw (step := DC) (l := x5) (s0 := x6) (x0 := o2) (enc := fun p => ((fun k : Int => Ai k) p.1, (fun v : List UInt8 => .str v) p.2)) (V := (fun (z1 : Bool) => [(1, .ptr (some (h.size, 0))), (6, .bool z1)])) (Y := (fun (s : Unit) => [])) 0 37 38 40 4 122 3 9 (.tmp 36) A H O (by first | exact HO | (apply HO <;> assumption)) rfl (fun D => by kernel_rfl) (fun D => by kernel_rfl) (fun _ => rfl) (fun _ => rfl) (fun s => by exact (JQ.cons (A.Yv 1 rfl _) (JQ.cons rfl JQ.nil))) (fun s => by exact JQ.nil) ?_ ?_ ?_
  ·clear O M H A
   intro pp hpp s x M D h7 it g F A H
   obtain ⟨z1, hzz⟩ : ∃ z, z = s := ⟨_, rfl⟩
   subst hzz
   unfold DC at M
   replace H := H.less [(1, .ptr (some (h.size, 0))), (6, .bool z1), (37, it), (40, .tuple [Ai pp.1, .str pp.2])] (fun D => by kernel_rfl)
   refine W3 4 [(7, Ai pp.1), (8, .str pp.2)] 11 H fun D H => AF 2 [(44, .bool z1)] H fun D H => ?_
   obtain ⟨x7, O, M⟩ := bind_some M
   refine An 8 (fun N Q => Has N 74 [(1, .ptr (some (h.size, 0))), (37, it), (52, .bool x7)] ∧ HH g Q [] F) ?_ ?_
   ·rcases A0 O with ⟨B, M⟩ | ⟨B, M⟩
    ·replace H := H.kn 44 B
     obtain ⟨x8, X, M⟩ := bind_some M
     obtain ⟨v1, h9, R, rfl, E⟩ := ET (av := []) X (A.cut 0)
     replace A := A.Ee E
     refine A6 2 [(46, Ai (pp.2.length : Int))] 47 R H fun D t H => ?_
     obtain ⟨x9, hq2, M⟩ := bind_some M
     refine BC 1 [] 49 (.agg [Ai x9.from_, Ai x9.DF]) h9 H (fun D => .of (L7 (e := Dq) (x := x9) D2 [x8.w0, x8.w1, x8.w2, x8.w3, x8.w4, x8.w5, x8.w6, x8.w7, x8.w8, x8.w9, x8.Up, x8.Uv] (by kernel_rfl) rfl rfl hq2)) fun D t H => ?_
     refine AF 3 [(52, .bool (decide ((pp.2.length : Int) ≤ x9.DF)))] H fun D H => ?_
     obtain rfl := Ah M
     exact at_nil ⟨H.ls, A⟩
    replace H := H.kn 44 B
    refine AF 8 [(52, .bool false)] H fun D H => ?_
    obtain rfl := Ah M
    exact at_nil ⟨H.ls, A⟩
   clear A
   intro t D h8 hK
   obtain ⟨H, A⟩ := hK
   refine AF 1 [(6, .bool x7)] H fun D H => at_nil ?_
   exact .inl ⟨.inl rfl, _, (Option.some.inj M).symm, H.ls⟩
  ·intro s hs D h10 A H
   subst hs
   obtain ⟨z2, hzz⟩ : ∃ z, z = s := ⟨_, rfl⟩
   subst hzz
   replace H := H.less [(1, .ptr (some (h.size, 0))), (6, .bool z2)] (fun D => by kernel_rfl)
   show Pu cfg 70 g (right (right (right (right (Fx cfg.P 70))))) D h10 _
   refine Fc ?_
   refine Im ?_
   refine AG 2 (AM 2 [(54, .bool (!z2))] H fun D H => Ae 54 H M (fun B M H => ?_) fun B M H => ?_)
   ·refine AG 1 (AM 1 [(2, Ai 12)] H fun D H => AX ?_)
    obtain rfl := Ah M
    refine ⟨.inl rfl, Ai 12, rH H, ?_⟩
    replace A := A.d0
    exact ⟨rfl, A⟩
   refine GU ?_
   show Pu cfg 70 g (right (right (right (right (right (Fx cfg.P 70)))))) D h10 _
   refine Fc ?_
   refine Nt 2 [57] [2] none ?_
   refine Ac 55 _ _ H (fun D => .of (BH (by kernel_rfl) (A.EX 0 rfl (o := 0) (n := 13) ⟨Nat.le_of_ble_eq_true rfl, rfl⟩))) fun D t H => ?_
   obtain ⟨x10, X, M⟩ := bind_some M
   obtain ⟨v1, h11, R, bqw5, rfl, E⟩ := JE (av := [.agg (AJ p0)]) X (A.cut 0)
   replace A := A.Xr E
   refine A9 56 R H fun D t H => ?_
   refine at_nil ?_
   obtain ⟨o3, O, M⟩ := bind_some M
   refine Rw (step := DD) (l := x10) (s0 := ()) (x0 := o3) (enc := fun p => ((fun k : Int => Ai k) p.1, (fun v : Int => Ai v) p.2)) (V := (fun (s : Unit) => [])) (Y := (fun (y1 : Int) => [(2, Ai y1)])) 0 57 58 60 4 129 3 3 (.tmp 56) A H O (by first | exact HL | (apply HL <;> assumption)) rfl (fun D => by kernel_rfl) (fun D => by kernel_rfl) (fun _ => rfl) (fun _ => rfl) (fun s => by exact JQ.nil) (fun s => by exact (JQ.cons rfl JQ.nil)) ?_ ?_ ?_
   ·clear O M H A
    intro pp hpp s x M D h12 it g F A H
    unfold DD at M
    replace H := H.less [(57, it), (60, .tuple [Ai pp.1, Ai pp.2])] (fun D => by kernel_rfl)
    refine Bg 4 [(9, Ai pp.1), (10, Ai pp.2)] 11 H fun D H => ?_
    obtain ⟨x11, X, M⟩ := bind_some M
    obtain ⟨v1, h13, R, rfl, E⟩ := ET (av := []) X (A.cut 0)
    replace A := A.Ee E
    refine A6 1 [(64, Ai pp.2)] 65 R H fun D t H => ?_
    obtain ⟨x12, hq3, M⟩ := bind_some M
    refine BC 1 [] 67 (.agg [Ai x12.from_, Ai x12.DF]) h13 H (fun D => .of (L7 (e := Dq) (x := x12) D2 [x11.w0, x11.w1, x11.w2, x11.w3, x11.w4, x11.w5, x11.w6, x11.w7, x11.w8, x11.w9, x11.Up, x11.Uv] (by kernel_rfl) rfl rfl hq3)) fun D t H => ?_
    obtain ⟨⟨x13, x14⟩, X, M⟩ := bind_some M
    obtain ⟨v1, h14, R, rfl, E⟩ := Hr (av := [Ai pp.2, Ai x12.DF]) X (A.cut 0)
    replace A := A.Ee E
    refine A6 1 [] 69 R H fun D t H => ?_
    refine Bg 5 [(12, .bool x14)] 2 H fun D H => AM 2 [(73, .bool (!x14))] H fun D H => Ae 73 H M (fun B M H => ?_) fun B M H => ?_
    ·refine AG 1 (AM 1 [(2, Ai 6)] H fun D H => AX ?_)
     exact .inr ⟨rfl, _, (Option.some.inj M).symm, H.ls⟩
    exact GU (.inl ⟨.inl rfl, _, (Option.some.inj M).symm, H.ls⟩)
   ·intro s hs D h15 A H
    subst hs
    replace H := H.less [] (fun D => by kernel_rfl)
    show Pu cfg 70 g (right (right (right (right (right (right (Fx cfg.P 70))))))) D h15 _
    refine Im ?_
    refine AG 1 (AM 1 [(2, Ai 0)] H fun D H => AX ?_)
    obtain rfl := Ah M
    refine ⟨.inl rfl, Ai 0, rH H, ?_⟩
    replace A := A.d0
    exact ⟨rfl, A⟩
   intro s hs D h16 A H
   subst hs
   obtain ⟨y1, hzz⟩ : ∃ z, z = s := ⟨_, rfl⟩
   subst hzz
   replace H := H.less [(2, Ai y1)] (fun D => by kernel_rfl)
   obtain rfl := Ah M
   refine ⟨.inl rfl, Ai y1, rH H, ?_⟩
   replace A := A.d0
   exact ⟨rfl, A⟩
  intro s hs D R A H
  subst hs
  cases M
 ·obtain rfl := Ah M
  refine ⟨.inl rfl, Ai x2, rH H, ?_⟩
  replace A := A.d0
  exact ⟨rfl, A⟩
 exact hF.elim
def Cf (p0 : List UInt8) (p1 : List UInt8) (p2_10 : AS) (p3 : AN) (p4 : List AA) : Option (AN × (List AA)) :=
 (Fm p3 p2_10).bind fun x1 => (BL x1).bind fun x2 => Af (x2 == 0) (some (x1, p4)) (BW (Ou 32 (p4.length + ([(⟨p0, p1⟩ : AA)] : List AA).length)) <| some (p3, (p4 ++ ([(⟨p0, p1⟩ : AA)] : List AA))))
theorem Ir {p0 p1 p2_10 p3 p4 bp2_10 bp3 bp4 rp4_0 u1 u3} (M : Cf p0 p1 p2_10 p3 p4 = some (u1, u3)) (A : HH g h [.obj bp2_10 (.cells none 2 (AE p2_10)), .obj bp3 (.cells none 2 (AJ p3)), .obj bp4 (.cells none 2 [AR rp4_0 p4.length]), .Ag rp4_0 117 (Ag AI p4)] F) (hc : BB (cfg.still 120) av = [.str p0, .str p1, .func (.func 122) [] [.ptr (some (bp2_10, 0))], .ptr (some (bp3, 0)), .ptr (some (bp4, 0))] := by kernel_rfl) : ∃ v Q, BE cfg g h 120 av v Q ∧ ∃ (r'3 : Option Nat), v = .tuple [] ∧ HH g Q [.obj bp2_10 (.cells none 2 (AE p2_10)), .obj bp3 (.cells none 2 (AJ u1)), .obj bp4 (.cells none 2 [AR r'3 u3.length]), .Ag r'3 117 (Ag AI u3)] F := by
 refine Dp 22 [] hc ?_
 clear hc
 unfold Cf at M
 refine bg 22 [(0, .str p0), (1, .str p1), (2, .func (.func 122) [] [.ptr (some (bp2_10, 0))]), (3, .ptr (some (bp3, 0))), (4, .ptr (some (bp4, 0)))] fun D H => ?_
 refine AG 3 (Ac 9 _ _ H (fun D => .of (BH (by kernel_rfl) (A.EX 1 rfl (o := 0) (n := 13) ⟨Nat.le_of_ble_eq_true rfl, rfl⟩))) fun D t H => ?_)
 obtain ⟨h1, e1, A⟩ := A.pu (.cells none 2 [.str ([] : UV), .str ([] : UV), Ab 0, Ai 0, Ai 0, Ai 0, Ai 0, Ai 0, .str ([] : UV), .str ([] : UV), Ai 0, Ai 0, Ai 0])
 refine BI 8 (.ptr (some (h.size, 0))) e1 H fun D t H => ?_
 obtain ⟨h2, X, A⟩ := A.s0 0 (AJ p3) [_, _, _, _, _, _, _, _, _, _, _, _, _]
 refine CU X H fun D t H => ?_
 refine BZ id (AQ (AG 2 ?_))
 obtain ⟨x1, X, M⟩ := bind_some M
 obtain ⟨v1, h3, R, rfl, E⟩ := Kx (av := [.ptr (some (h.size, 0)), .ptr (some (bp2_10, 0))]) X (A.cut 2)
 replace A := A.g22 E
 refine Eu 1 [] R H fun D t H => ?_
 refine CT 3 id (Ac 12 _ _ H (fun D => .of (BH (by kernel_rfl) (A.EX 0 rfl (o := 0) (n := 13) ⟨Nat.le_of_ble_eq_true rfl, rfl⟩))) fun D t H => ?_)
 obtain ⟨x2, X, M⟩ := bind_some M
 obtain ⟨v1, h4, R, rfl, E⟩ := Cj (av := [.agg (AJ x1)]) X (A.cut 0)
 replace A := A.Ee E
 refine A9 13 R H fun D t H => ?_
 refine AM 1 [(14, .bool (x2 == 0))] H fun D H => Ae 14 H M (fun B M H => ?_) fun B M H => ?_
 ·refine AG 2 (Ac 15 _ _ H (fun D => .of (BH (by kernel_rfl) (A.EX 0 rfl (o := 0) (n := 13) ⟨Nat.le_of_ble_eq_true rfl, rfl⟩))) fun D t H => ?_)
  obtain ⟨h5, X, A⟩ := A.s2 0 (AJ x1) [_, _, _, _, _, _, _, _, _, _, _, _, _]
  refine CU X H fun D t H => ?_
  refine BZ id (AX ?_)
  obtain ⟨rfl, rfl⟩ := Cx M
  refine ⟨.inl rfl, .tuple [], rH H, ?_⟩
  replace A := A.k4 1 2 3 4
  exact ⟨rp4_0, rfl, A⟩
 refine FM 7 id (NR 16 3 0 A H fun D t H => ?_)
 refine AF 3 [(19, .agg [.str p0, .str p1])] H fun D H => ?_
 obtain ⟨h6, e2, A⟩ := A.pL 117 [.str p0, .str p1]
 refine BI 20 (AR (some h4.size) (([(⟨p0, p1⟩ : AA)] : List AA).length)) e2 H fun D t H => ?_
 obtain ⟨B, M⟩ := AP M
 obtain ⟨r1, h7, X, E⟩ := HH.Js AY (by decide) A 5 (xs := p4) (ys := ([(⟨p0, p1⟩ : AA)] : List AA)) rfl (Du A 0 rfl (n := ([(⟨p0, p1⟩ : AA)] : List AA).length) (z := 2) rfl (by decide)) rfl rfl B
 replace A : HH g h7 [.Ag (some h4.size) 117 ([.str p0, .str p1]), _, _, _, _, .Ag r1 117 (Ag AI (p4 ++ ([(⟨p0, p1⟩ : AA)] : List AA)))] F := E
 replace A := A.k5 1 2 3 4 5
 refine Ac 21 _ _ H (fun D => .of (Ge (s := DW rp4_0 p4.length) (by kernel_rfl) X)) fun D t H => ?_
 obtain ⟨h8, X, E⟩ := A.st 3 rfl (o := 0) (new := [AR r1 ((p4 ++ ([(⟨p0, p1⟩ : AA)] : List AA)).length)]) (ds := [AR r1 ((p4 ++ ([(⟨p0, p1⟩ : AA)] : List AA)).length)]) (Nat.le_of_ble_eq_true rfl) rfl rfl
 replace A : HH g h8 [_, _, _, .obj bp4 (.cells none 2 [AR r1 ((p4 ++ ([(⟨p0, p1⟩ : AA)] : List AA)).length)]), _] F := E
 refine KZ X H fun D t H => ?_
 refine at_nil ?_
 obtain ⟨rfl, rfl⟩ := Cx M
 refine ⟨.inr rfl, .tuple [], rH H, ?_⟩
 replace A := A.k4 1 2 3 4
 exact ⟨r1, rfl, A⟩
def B5 (p0 : List UInt8) (p1 : List UInt8) (p2_10 : AS) (p3 : AN) (p4 : List AA) : Option (AN × (List AA)) :=
 (Fk p3 p2_10).bind fun x1 => (BL x1).bind fun x2 => Af (x2 == 0) (some (x1, p4)) (BW (Ou 32 (p4.length + ([(⟨p0, p1⟩ : AA)] : List AA).length)) <| some (p3, (p4 ++ ([(⟨p0, p1⟩ : AA)] : List AA))))
theorem H6 {p0 p1 p2_10 p3 p4 bp2_10 bp3 bp4 rp4_0 u1 u3} (M : B5 p0 p1 p2_10 p3 p4 = some (u1, u3)) (A : HH g h [.obj bp2_10 (.cells none 2 (AE p2_10)), .obj bp3 (.cells none 2 (AJ p3)), .obj bp4 (.cells none 2 [AR rp4_0 p4.length]), .Ag rp4_0 117 (Ag AI p4)] F) (hc : BB (cfg.still 120) av = [.str p0, .str p1, .func (.func 123) [] [.ptr (some (bp2_10, 0))], .ptr (some (bp3, 0)), .ptr (some (bp4, 0))] := by kernel_rfl) : ∃ v Q, BE cfg g h 120 av v Q ∧ ∃ (r'3 : Option Nat), v = .tuple [] ∧ HH g Q [.obj bp2_10 (.cells none 2 (AE p2_10)), .obj bp3 (.cells none 2 (AJ u1)), .obj bp4 (.cells none 2 [AR r'3 u3.length]), .Ag r'3 117 (Ag AI u3)] F := by
 refine Dp 22 [] hc ?_
 clear hc
 unfold B5 at M
 refine bg 22 [(0, .str p0), (1, .str p1), (2, .func (.func 123) [] [.ptr (some (bp2_10, 0))]), (3, .ptr (some (bp3, 0))), (4, .ptr (some (bp4, 0)))] fun D H => ?_
 refine AG 3 (Ac 9 _ _ H (fun D => .of (BH (by kernel_rfl) (A.EX 1 rfl (o := 0) (n := 13) ⟨Nat.le_of_ble_eq_true rfl, rfl⟩))) fun D t H => ?_)
 obtain ⟨h1, e1, A⟩ := A.pu (.cells none 2 [.str ([] : UV), .str ([] : UV), Ab 0, Ai 0, Ai 0, Ai 0, Ai 0, Ai 0, .str ([] : UV), .str ([] : UV), Ai 0, Ai 0, Ai 0])
 refine BI 8 (.ptr (some (h.size, 0))) e1 H fun D t H => ?_
 obtain ⟨h2, X, A⟩ := A.s0 0 (AJ p3) [_, _, _, _, _, _, _, _, _, _, _, _, _]
 refine CU X H fun D t H => ?_
 refine BZ id (AQ (AG 2 ?_))
 obtain ⟨x1, X, M⟩ := bind_some M
 obtain ⟨v1, h3, R, rfl, E⟩ := K5 (av := [.ptr (some (h.size, 0)), .ptr (some (bp2_10, 0))]) X (A.cut 2)
 replace A := A.g22 E
 refine Eu 1 [] R H fun D t H => ?_
 refine CT 3 id (Ac 12 _ _ H (fun D => .of (BH (by kernel_rfl) (A.EX 0 rfl (o := 0) (n := 13) ⟨Nat.le_of_ble_eq_true rfl, rfl⟩))) fun D t H => ?_)
 obtain ⟨x2, X, M⟩ := bind_some M
 obtain ⟨v1, h4, R, rfl, E⟩ := Cj (av := [.agg (AJ x1)]) X (A.cut 0)
 replace A := A.Ee E
 refine A9 13 R H fun D t H => ?_
 refine AM 1 [(14, .bool (x2 == 0))] H fun D H => Ae 14 H M (fun B M H => ?_) fun B M H => ?_
 ·refine AG 2 (Ac 15 _ _ H (fun D => .of (BH (by kernel_rfl) (A.EX 0 rfl (o := 0) (n := 13) ⟨Nat.le_of_ble_eq_true rfl, rfl⟩))) fun D t H => ?_)
  obtain ⟨h5, X, A⟩ := A.s2 0 (AJ x1) [_, _, _, _, _, _, _, _, _, _, _, _, _]
  refine CU X H fun D t H => ?_
  refine BZ id (AX ?_)
  obtain ⟨rfl, rfl⟩ := Cx M
  refine ⟨.inl rfl, .tuple [], rH H, ?_⟩
  replace A := A.k4 1 2 3 4
  exact ⟨rp4_0, rfl, A⟩
 refine FM 7 id (NR 16 3 0 A H fun D t H => ?_)
 refine AF 3 [(19, .agg [.str p0, .str p1])] H fun D H => ?_
 obtain ⟨h6, e2, A⟩ := A.pL 117 [.str p0, .str p1]
 refine BI 20 (AR (some h4.size) (([(⟨p0, p1⟩ : AA)] : List AA).length)) e2 H fun D t H => ?_
 obtain ⟨B, M⟩ := AP M
 obtain ⟨r1, h7, X, E⟩ := HH.Js AY (by decide) A 5 (xs := p4) (ys := ([(⟨p0, p1⟩ : AA)] : List AA)) rfl (Du A 0 rfl (n := ([(⟨p0, p1⟩ : AA)] : List AA).length) (z := 2) rfl (by decide)) rfl rfl B
 replace A : HH g h7 [.Ag (some h4.size) 117 ([.str p0, .str p1]), _, _, _, _, .Ag r1 117 (Ag AI (p4 ++ ([(⟨p0, p1⟩ : AA)] : List AA)))] F := E
 replace A := A.k5 1 2 3 4 5
 refine Ac 21 _ _ H (fun D => .of (Ge (s := DW rp4_0 p4.length) (by kernel_rfl) X)) fun D t H => ?_
 obtain ⟨h8, X, E⟩ := A.st 3 rfl (o := 0) (new := [AR r1 ((p4 ++ ([(⟨p0, p1⟩ : AA)] : List AA)).length)]) (ds := [AR r1 ((p4 ++ ([(⟨p0, p1⟩ : AA)] : List AA)).length)]) (Nat.le_of_ble_eq_true rfl) rfl rfl
 replace A : HH g h8 [_, _, _, .obj bp4 (.cells none 2 [AR r1 ((p4 ++ ([(⟨p0, p1⟩ : AA)] : List AA)).length)]), _] F := E
 refine KZ X H fun D t H => ?_
 refine at_nil ?_
 obtain ⟨rfl, rfl⟩ := Cx M
 refine ⟨.inr rfl, .tuple [], rH H, ?_⟩
 replace A := A.k4 1 2 3 4
 exact ⟨r1, rfl, A⟩
def Fh (p0 : AN) (p1 : AS) : Option (AN) :=
 some (⟨p0.Name, p1.Ax, p0.Kind, p0.Mode, p0.Bm, p0.B3, p0.DE, p0.Time, p0.Aj, p0.Al, p0.Ap, p0.Ay, p0.Form⟩ : AN)
theorem K9 {p0 p1 bp0 bp1 u0} (M : Fh p0 p1 = some u0) (A : HH g h [.obj bp0 (.cells none 2 (AJ p0)), .obj bp1 (.cells none 2 (AE p1))] F) (hc : BB (cfg.still 124) av = [.ptr (some (bp0, 0)), .ptr (some (bp1, 0))] := by kernel_rfl) : ∃ v Q, BE cfg g h 124 av v Q ∧ v = .tuple [] ∧ HH g Q [.obj bp0 (.cells none 2 (AJ u0)), .obj bp1 (.cells none 2 (AE p1))] F := by
 refine Dp 8 [] hc ?_
 clear hc
 unfold Fh at M
 refine bg 8 [(0, .ptr (some (bp0, 0))), (1, .ptr (some (bp1, 0)))] fun D H => ?_
 refine BY 6 (AV 2 [(3, .ptr (some (bp0, 0)))] 5 1 1 A H fun D t H => ?_)
 obtain ⟨h1, X, A⟩ := A.s0 1 [.str p1.Ax] [_, _, _, _, _, _, _, _, _, _, _, _, _]
 refine ER 2 [] X H fun D t H => ?_
 refine at_nil ?_
 obtain rfl := Ah M
 refine ⟨.inr rfl, .tuple [], rH H, ?_⟩
 exact ⟨rfl, A⟩
def B7 (p0 : List UInt8) (p1 : List UInt8) (p2_10 : AS) (p3 : AN) (p4 : List AA) : Option (AN × (List AA)) :=
 (Fh p3 p2_10).bind fun x1 => (BL x1).bind fun x2 => Af (x2 == 0) (some (x1, p4)) (BW (Ou 32 (p4.length + ([(⟨p0, p1⟩ : AA)] : List AA).length)) <| some (p3, (p4 ++ ([(⟨p0, p1⟩ : AA)] : List AA))))
theorem Ho {p0 p1 p2_10 p3 p4 bp2_10 bp3 bp4 rp4_0 u1 u3} (M : B7 p0 p1 p2_10 p3 p4 = some (u1, u3)) (A : HH g h [.obj bp2_10 (.cells none 2 (AE p2_10)), .obj bp3 (.cells none 2 (AJ p3)), .obj bp4 (.cells none 2 [AR rp4_0 p4.length]), .Ag rp4_0 117 (Ag AI p4)] F) (hc : BB (cfg.still 120) av = [.str p0, .str p1, .func (.func 124) [] [.ptr (some (bp2_10, 0))], .ptr (some (bp3, 0)), .ptr (some (bp4, 0))] := by kernel_rfl) : ∃ v Q, BE cfg g h 120 av v Q ∧ ∃ (r'3 : Option Nat), v = .tuple [] ∧ HH g Q [.obj bp2_10 (.cells none 2 (AE p2_10)), .obj bp3 (.cells none 2 (AJ u1)), .obj bp4 (.cells none 2 [AR r'3 u3.length]), .Ag r'3 117 (Ag AI u3)] F := by
 refine Dp 22 [] hc ?_
 clear hc
 unfold B7 at M
 refine bg 22 [(0, .str p0), (1, .str p1), (2, .func (.func 124) [] [.ptr (some (bp2_10, 0))]), (3, .ptr (some (bp3, 0))), (4, .ptr (some (bp4, 0)))] fun D H => ?_
 refine AG 3 (Ac 9 _ _ H (fun D => .of (BH (by kernel_rfl) (A.EX 1 rfl (o := 0) (n := 13) ⟨Nat.le_of_ble_eq_true rfl, rfl⟩))) fun D t H => ?_)
 obtain ⟨h1, e1, A⟩ := A.pu (.cells none 2 [.str ([] : UV), .str ([] : UV), Ab 0, Ai 0, Ai 0, Ai 0, Ai 0, Ai 0, .str ([] : UV), .str ([] : UV), Ai 0, Ai 0, Ai 0])
 refine BI 8 (.ptr (some (h.size, 0))) e1 H fun D t H => ?_
 obtain ⟨h2, X, A⟩ := A.s0 0 (AJ p3) [_, _, _, _, _, _, _, _, _, _, _, _, _]
 refine CU X H fun D t H => ?_
 refine BZ id (AQ (AG 2 ?_))
 obtain ⟨x1, X, M⟩ := bind_some M
 obtain ⟨v1, h3, R, rfl, E⟩ := K9 (av := [.ptr (some (h.size, 0)), .ptr (some (bp2_10, 0))]) X (A.cut 2)
 replace A := A.g22 E
 refine Eu 1 [] R H fun D t H => ?_
 refine CT 3 id (Ac 12 _ _ H (fun D => .of (BH (by kernel_rfl) (A.EX 0 rfl (o := 0) (n := 13) ⟨Nat.le_of_ble_eq_true rfl, rfl⟩))) fun D t H => ?_)
 obtain ⟨x2, X, M⟩ := bind_some M
 obtain ⟨v1, h4, R, rfl, E⟩ := Cj (av := [.agg (AJ x1)]) X (A.cut 0)
 replace A := A.Ee E
 refine A9 13 R H fun D t H => ?_
 refine AM 1 [(14, .bool (x2 == 0))] H fun D H => Ae 14 H M (fun B M H => ?_) fun B M H => ?_
 ·refine AG 2 (Ac 15 _ _ H (fun D => .of (BH (by kernel_rfl) (A.EX 0 rfl (o := 0) (n := 13) ⟨Nat.le_of_ble_eq_true rfl, rfl⟩))) fun D t H => ?_)
  obtain ⟨h5, X, A⟩ := A.s2 0 (AJ x1) [_, _, _, _, _, _, _, _, _, _, _, _, _]
  refine CU X H fun D t H => ?_
  refine BZ id (AX ?_)
  obtain ⟨rfl, rfl⟩ := Cx M
  refine ⟨.inl rfl, .tuple [], rH H, ?_⟩
  replace A := A.k4 1 2 3 4
  exact ⟨rp4_0, rfl, A⟩
 refine FM 7 id (NR 16 3 0 A H fun D t H => ?_)
 refine AF 3 [(19, .agg [.str p0, .str p1])] H fun D H => ?_
 obtain ⟨h6, e2, A⟩ := A.pL 117 [.str p0, .str p1]
 refine BI 20 (AR (some h4.size) (([(⟨p0, p1⟩ : AA)] : List AA).length)) e2 H fun D t H => ?_
 obtain ⟨B, M⟩ := AP M
 obtain ⟨r1, h7, X, E⟩ := HH.Js AY (by decide) A 5 (xs := p4) (ys := ([(⟨p0, p1⟩ : AA)] : List AA)) rfl (Du A 0 rfl (n := ([(⟨p0, p1⟩ : AA)] : List AA).length) (z := 2) rfl (by decide)) rfl rfl B
 replace A : HH g h7 [.Ag (some h4.size) 117 ([.str p0, .str p1]), _, _, _, _, .Ag r1 117 (Ag AI (p4 ++ ([(⟨p0, p1⟩ : AA)] : List AA)))] F := E
 replace A := A.k5 1 2 3 4 5
 refine Ac 21 _ _ H (fun D => .of (Ge (s := DW rp4_0 p4.length) (by kernel_rfl) X)) fun D t H => ?_
 obtain ⟨h8, X, E⟩ := A.st 3 rfl (o := 0) (new := [AR r1 ((p4 ++ ([(⟨p0, p1⟩ : AA)] : List AA)).length)]) (ds := [AR r1 ((p4 ++ ([(⟨p0, p1⟩ : AA)] : List AA)).length)]) (Nat.le_of_ble_eq_true rfl) rfl rfl
 replace A : HH g h8 [_, _, _, .obj bp4 (.cells none 2 [AR r1 ((p4 ++ ([(⟨p0, p1⟩ : AA)] : List AA)).length)]), _] F := E
 refine KZ X H fun D t H => ?_
 refine at_nil ?_
 obtain ⟨rfl, rfl⟩ := Cx M
 refine ⟨.inr rfl, .tuple [], rH H, ?_⟩
 replace A := A.k4 1 2 3 4
 exact ⟨r1, rfl, A⟩
def GP (p0 : BS) : Option (BS) :=
 Af (p0.BQ == 0) (some (⟨i64.wrap (0 - p0.Ci), (0 : Int)⟩ : BS)) (some (⟨i64.wrap ((i64.wrap (0 - p0.Ci)) - 1), i64.wrap ((1000000000 : Int) - p0.BQ)⟩ : BS))
theorem PD {p0 q0} (M : GP p0 = some q0) (A : HH g h [] F) (hc : BB (cfg.still 176) av = [.agg [Ai p0.Ci, Ai p0.BQ]] := by kernel_rfl) : ∃ v Q, BE cfg g h 176 av v Q ∧ v = .agg [Ai q0.Ci, Ai q0.BQ] ∧ HH g Q [] F := by
 refine Dp 18 [.cell 2 23] hc ?_
 clear hc
 unfold GP at M
 refine bg 18 [(0, .agg [Ai p0.Ci, Ai p0.BQ])] fun D H => ?_
 refine AG 2 ?_
 obtain ⟨h1, e1, A⟩ := A.pu (.cells none 2 [Ai p0.Ci, Ai p0.BQ])
 refine BI 1 (.ptr (some (h.size, 0))) e1 H fun D t H => ?_
 obtain ⟨h2, e2, A⟩ := A.pu (.cells none 2 [Ai 0, Ai 0])
 refine BI 2 (.ptr (some (h1.size, 0))) e2 H fun D t H => ?_
 refine BZ id (AQ (AG 3 (AV 1 [] 4 1 1 A H fun D t H => ?_)))
 refine AM 1 [(5, .bool (p0.BQ == 0))] H fun D H => Ae 5 H M (fun B M H => ?_) fun B M H => ?_
 ·refine AG 5 (AV 1 [] 7 1 0 A H fun D t H => ?_)
  obtain ⟨h3, X, E⟩ := A.st 0 rfl (o := 0) (new := [Ai (i64.wrap (0 - p0.Ci)), Ai 0]) (ds := [Ai (i64.wrap (0 - p0.Ci)), Ai 0]) (Nat.le_of_ble_eq_true rfl) rfl rfl
  replace A : HH g h3 [.obj h1.size (.cells none 2 [Ai (i64.wrap (0 - p0.Ci)), Ai 0]), .obj h.size (.cells none 2 [Ai p0.Ci, Ai p0.BQ])] F := E
  refine PZ 2 [] X H fun D t H => ?_
  refine BZ id (AX ?_)
  obtain rfl := Ah M
  refine ⟨.inl rfl, .agg [Ai (i64.wrap (0 - p0.Ci)), Ai 0], Ln (.cell (rT H) (Cb (by kernel_rfl) (by kernel_rfl) (A.la 0 0 2)) .nil), ?_⟩
  replace A := A.d0
  exact ⟨rfl, A⟩
 refine Cr 9 id (AV 1 [] 11 1 0 A H fun D t H => ?_)
 refine AV 3 [(13, Ai (i64.wrap ((i64.wrap (0 - p0.Ci)) - 1)))] 15 1 1 A H fun D t H => ?_
 obtain ⟨h4, X, E⟩ := A.st 0 rfl (o := 0) (new := [Ai (i64.wrap ((i64.wrap (0 - p0.Ci)) - 1)), Ai (i64.wrap ((1000000000 : Int) - p0.BQ))]) (ds := [Ai (i64.wrap ((i64.wrap (0 - p0.Ci)) - 1)), Ai (i64.wrap ((1000000000 : Int) - p0.BQ))]) (Nat.le_of_ble_eq_true rfl) rfl rfl
 replace A : HH g h4 [.obj h1.size (.cells none 2 [Ai (i64.wrap ((i64.wrap (0 - p0.Ci)) - 1)), Ai (i64.wrap ((1000000000 : Int) - p0.BQ))]), .obj h.size (.cells none 2 [Ai p0.Ci, Ai p0.BQ])] F := E
 refine PZ 2 [] X H fun D t H => ?_
 refine BZ id (AX ?_)
 obtain rfl := Ah M
 refine ⟨.inl rfl, .agg [Ai (i64.wrap ((i64.wrap (0 - p0.Ci)) - 1)), Ai (i64.wrap ((1000000000 : Int) - p0.BQ))], Ln (.cell (rT H) (Cb (by kernel_rfl) (by kernel_rfl) (A.la 0 0 2)) .nil), ?_⟩
 replace A := A.d0
 exact ⟨rfl, A⟩
def Dw (p1 : Int) (s : (List UInt8)) : Option (((List UInt8)) ⊕ (((List UInt8)))) :=
 match s with
 | x1 => (Af (decide ((x1.length : Int) > 0)) ((SK x1 (i64.wrap ((x1.length : Int) - 1))).bind fun x4 => some (x4 == p1)) (some false) : Option (Bool)).bind fun x3 => Af x3 ((GB x1 none (some (i64.wrap ((x1.length : Int) - 1)))).bind fun x5 => some (.inl x5)) (some (.inr x1))
def DX (p0 : List UInt8) (p1 : Int) : Option ((List UInt8)) :=
 (loop (Dw p1) p0).bind fun x2 => some x2
theorem Iu {p0 p1 q0} (M : DX p0 p1 = some q0) (A : HH g h [] F) (hc : BB (cfg.still 215) av = [.str p0, Ab p1] := by kernel_rfl) : ∃ v Q, BE cfg g h 215 av v Q ∧ v = .str q0 ∧ HH g Q [] F := by
 refine Dp 23 [.tmp 4] hc ?_
 clear hc
 unfold DX at M
 refine bg 23 [(0, .str p0), (1, Ab p1)] fun D H => ?_
 refine AG 1 (AM 1 [] H fun D H => AQ (Ak (id := 0) (by kernel_rfl) ?_))
 obtain ⟨o1, O, M⟩ := bind_some M
 refine Az (Q' := fun e N Q => (∃ x2, e = .exit 0 ∧ x2 = o1 ∧ Has N 23 [(0, .str x2)] ∧ HH g Q [] F) ∨ False) ?_ ?_
 ·refine Bi (by kernel_rfl) (fun (s : (List UInt8)) N Q => ∃ x1, x1 = s ∧ Has N 23 [(0, .str x1), (1, Ab p1)] ∧ HH g Q [] F) O ⟨_, rfl, H.ls, A⟩ ?_
  clear O M H A
  intro s q D h1 hI M
  obtain ⟨x1, rfl, H, A⟩ := hI
  unfold Dw at M
  refine AQ (AG 12 (AF 4 [(8, .bool (decide ((x1.length : Int) > 0)))] H fun D H => ?_))
  obtain ⟨x3, O, M⟩ := bind_some M
  refine An 8 (fun N Q => Has N 23 [(0, .str x1), (1, Ab p1), (16, .bool x3)] ∧ HH g Q [] F) ?_ ?_
  ·rcases A0 O with ⟨B, M⟩ | ⟨B, M⟩
   ·replace H := H.kn 8 B
    obtain ⟨x4, X, M⟩ := bind_some M
    refine BC 4 [] 13 (Ab x4) h1 H (fun D => .of (LM (by kernel_rfl) X)) fun D t H => ?_
    refine AF 3 [(16, .bool (x4 == p1))] H fun D H => ?_
    obtain rfl := Ah M
    exact at_nil ⟨H.ls, A⟩
   replace H := H.kn 8 B
   refine AF 8 [(16, .bool false)] H fun D H => ?_
   obtain rfl := Ah M
   exact at_nil ⟨H.ls, A⟩
  clear A
  intro t D h2 hK
  obtain ⟨H, A⟩ := hK
  refine BZ id (Ae 16 H M (fun B M H => ?_) fun B M H => ?_)
  ·refine B0 id (Ak (id := 1) (by kernel_rfl) ?_)
   refine BY 6 ?_
   obtain ⟨x5, X, M⟩ := bind_some M
   refine BC 4 [] 21 (.str x5) h2 H (fun D => .of (EZ (k := .i64) (k' := .i64) (lo := none) (hi := (some (i64.wrap ((x1.length : Int) - 1)))) (by kernel_rfl) X)) fun D t H => ?_
   refine BF 1 [(0, .str x5), (1, Ab p1)] H fun D H => at_nil ?_
   exact nx M ⟨_, rfl, H.ls, A⟩
  refine Bk (i := 0) (by kernel_rfl) ?_
  exact nr M fun e => .inl ⟨_, rfl, e, H.ls, A⟩
 clear O
 clear A
 intro e D h3 hQ
 rcases hQ with ⟨x2, rfl, rfl, H, A⟩ | hF
 ·show AW _ _ _ _ _ _ _
  refine AG 2 (AM 2 [(4, .str x2)] H fun D H => AX ?_)
  obtain rfl := Ah M
  exact ⟨.inl rfl, _, rH H, rfl, A⟩
 exact hF.elim
def Ce (p0 : List UInt8) : Option ((List UInt8)) :=
 Af ((p0 == ([] : UV)) || (([48] : UV) == ([] : UV))) (some p0) ((DX p0 (48 : Int)).bind fun x1 => some x1)
theorem Ij {p0 q0} (M : Ce p0 = some q0) (A : HH g h [] F) (hc : BB (cfg.still 177) av = [.str p0, .str ([48] : UV)] := by kernel_rfl) : ∃ v Q, BE cfg g h 177 av v Q ∧ v = .str q0 ∧ HH g Q [] F := by
 refine Dp 37 [.tmp 4] hc ?_
 clear hc
 unfold Ce at M
 refine bg 37 [(0, .str p0), (1, .str ([48] : UV))] fun D H => ?_
 refine AG 1 (AM 1 [] H fun D H => AQ (AG 6 (AF 3 [(9, .bool (p0 == ([] : UV)))] H fun D H => An 3 (fun N Q => h = Q ∧ Has N 37 [(0, .str p0), (1, .str ([48] : UV)), (12, .bool ((p0 == ([] : UV)) || (([48] : UV) == ([] : UV))))]) ?_ ?_)))
 ·cases B : (p0 == ([] : UV) : Bool) with
  | true =>
   replace H := H.kn 9 B
   exact AF 3 [(12, .bool true)] H fun D H => AZ H B
  | false =>
   replace H := H.kn 9 B
   exact AF 3 [(12, .bool (([48] : UV) == ([] : UV)))] H fun D H => AZ H B
 intro t D Q hK
 obtain ⟨e, H⟩ := hK
 subst e
 refine BZ id (Ae 12 H M (fun B M H => ?_) fun B M H => ?_)
 ·refine AG 2 (AM 2 [(4, .str p0)] H fun D H => AX ?_)
  obtain rfl := Ah M
  exact ⟨.inl rfl, _, rH H, rfl, A⟩
 refine B0 id (AQ (AG 8 (AM 8 [(21, .bool true)] H fun D H => GF (x := .tmp 21) (by kernel_rfl) H (fun D => by kernel_rfl) ?_)))
 refine AG 5 ?_
 obtain ⟨x1, X, M⟩ := bind_some M
 obtain ⟨v1, h1, R, rfl, E⟩ := Iu (av := [.str p0, Ab 48]) X (A.cut 0)
 replace A := A.Ee E
 refine A6 3 [] 25 R H fun D t H => ?_
 refine AM 1 [(4, .str x1)] H fun D H => AX ?_
 obtain rfl := Ah M
 exact ⟨.inl rfl, _, rH H, rfl, A⟩
def EE (p0 : BS) : Option ((List UInt8) × Int) :=
 (EM p0).bind fun x1 => Af (!x1) (some (([] : UV), (1 : Int))) ((Af (decide (p0.Ci < 0)) ((GP p0).bind fun x5 => some (x5.Ci, x5.BQ, ([45] : UV))) (some (p0.Ci, p0.BQ, ([] : UV))) : Option ((Int × Int × (List UInt8)))).bind fun (x2, x3, x4) => BW (decide (-9223372036854775808 ≤ x2 ∧ x2 ≤ 9223372036854775807)) <| BW (decide (x4.length + (Lib.itoa x2).length ≤ 9223372036854775807)) <| Af (x3 == 0) (some (x4 ++ (Lib.itoa x2), (0 : Int))) (BW (decide (-9223372036854775808 ≤ i64.wrap ((1000000000 : Int) + x3) ∧ i64.wrap ((1000000000 : Int) + x3) ≤ 9223372036854775807)) <| (GB (Lib.itoa (i64.wrap ((1000000000 : Int) + x3))) (some (1 : Int)) none).bind fun x6 => BW (decide ((x4 ++ (Lib.itoa x2)).length + ([46] : UV).length ≤ 9223372036854775807)) <| (Ce x6).bind fun x7 => BW (decide (((x4 ++ (Lib.itoa x2)) ++ ([46] : UV)).length + x7.length ≤ 9223372036854775807)) <| some (((x4 ++ (Lib.itoa x2)) ++ ([46] : UV)) ++ x7, (0 : Int))))
theorem O0 {p0 q0 q1} (M : EE p0 = some (q0, q1)) (A : HH g h [] F) (hc : BB (cfg.still 125) av = [.agg [Ai p0.Ci, Ai p0.BQ]] := by kernel_rfl) : ∃ v Q, BE cfg g h 125 av v Q ∧ v = .tuple [.str q0, Ai q1] ∧ HH g Q [] F := by
 refine Dp 34 [.tmp 2, .tmp 3] hc ?_
 clear hc
 unfold EE at M
 refine bg 34 [(0, .agg [Ai p0.Ci, Ai p0.BQ])] fun D H => ?_
 refine AG 3 ?_
 obtain ⟨h1, e1, A⟩ := A.pu (.cells none 2 [Ai p0.Ci, Ai p0.BQ])
 refine BI 1 (.ptr (some (h.size, 0))) e1 H fun D t H => ?_
 refine AM 2 [] H fun D H => AQ (AG 3 (Ac 7 _ _ H (fun D => .of (BH (by kernel_rfl) (A.EX 0 rfl (o := 0) (n := 2) ⟨Nat.le_of_ble_eq_true rfl, rfl⟩))) fun D t H => ?_))
 obtain ⟨x1, X, M⟩ := bind_some M
 obtain ⟨v1, h2, R, rfl, E⟩ := J4 (av := [.agg [Ai p0.Ci, Ai p0.BQ]]) X (A.cut 0)
 replace A : HH g h2 [.obj h.size (.cells none 2 [Ai p0.Ci, Ai p0.BQ])] F := A.GM (n := 0) E
 refine A9 8 R H fun D t H => ?_
 refine AM 1 [(9, .bool (!x1))] H fun D H => Ae 9 H M (fun B M H => ?_) fun B M H => ?_
 ·refine AG 2 (AM 2 [(2, .str ([] : UV)), (3, Ai 1)] H fun D H => AX ?_)
  obtain ⟨rfl, rfl⟩ := Cx M
  refine ⟨.inl rfl, .tuple [.str ([] : UV), Ai 1], rH H, ?_⟩
  replace A := A.d0
  exact ⟨rfl, A⟩
 refine Cr 1 id (AM 1 [(4, .str ([] : UV))] H fun D H => AQ ?_)
 obtain ⟨o1, O, M⟩ := bind_some M
 refine Az (Q' := fun e N Q => (∃ x2 x3 x4, e = .normal ∧ (x2, x3, x4) = o1 ∧ Has N 34 [(1, .ptr (some (h.size, 0))), (4, .str x4)] ∧ HH g Q [.obj h.size (.cells none 2 [Ai x2, Ai x3])] F) ∨ False) ?_ ?_
 ·replace M := O
  clear O
  refine AG 3 (AV 1 [] 11 0 0 A H fun D t H => ?_)
  refine AM 1 [(12, .bool (decide (p0.Ci < 0)))] H fun D H => Ae 12 H M (fun B M H => ?_) fun B M H => ?_
  ·refine BY 4 (Ac 13 _ _ H (fun D => .of (BH (by kernel_rfl) (A.EX 0 rfl (o := 0) (n := 2) ⟨Nat.le_of_ble_eq_true rfl, rfl⟩))) fun D t H => ?_)
   obtain ⟨x5, X, M⟩ := bind_some M
   obtain ⟨v1, h3, R, rfl, E⟩ := PD (av := [.agg [Ai p0.Ci, Ai p0.BQ]]) X (A.cut 0)
   replace A := A.Ee E
   refine A9 14 R H fun D t H => ?_
   refine BF 1 [(1, .ptr (some (h.size, 0))), (4, .str ([45] : UV)), (14, .agg [Ai x5.Ci, Ai x5.BQ])] H fun D H => ?_
   obtain ⟨h4, X, A⟩ := A.s0 0 [Ai x5.Ci, Ai x5.BQ] [_, _]
   refine CU X H fun D t H => ?_
   refine at_nil ?_
   exact .inl ⟨_, _, _, rfl, Ah M, H.ls, A⟩
  exact GU (.inl ⟨_, _, _, rfl, Ah M, H.ls, A⟩)
 clear O
 clear A
 intro e D h5 hQ
 rcases hQ with ⟨x2, x3, x4, rfl, rfl, H, A⟩ | hF
 ·show AW _ _ _ _ _ _ _
  refine AG 6 (AV 2 [(15, .str x4)] 17 0 0 A H fun D t H => ?_)
  obtain ⟨B, M⟩ := AP M
  refine Ac 18 (.str (Lib.itoa x2)) h5 H (fun D => Steps.call (by kernel_rfl) (Hg (C := cfg) (f := 121) (by kernel_rfl) (l := exts) rfl (by kernel_rfl) B)) fun D t H => ?_
  obtain ⟨B, M⟩ := AP M
  refine Ac 19 (.str (x4 ++ (Lib.itoa x2))) h5 H (fun D => .of (B8 (by kernel_rfl) B)) fun D t H => ?_
  refine AM 1 [(5, .str (x4 ++ (Lib.itoa x2)))] H fun D H => AQ (AG 3 (AV 1 [] 21 0 1 A H fun D t H => ?_))
  refine AM 1 [(22, .bool (x3 == 0))] H fun D H => Ae 22 H M (fun B M H => ?_) fun B M H => ?_
  ·refine AG 3 (AM 3 [(2, .str (x4 ++ (Lib.itoa x2))), (3, Ai 0)] H fun D H => AX ?_)
   obtain ⟨rfl, rfl⟩ := Cx M
   refine ⟨.inl rfl, .tuple [.str (x4 ++ (Lib.itoa x2)), Ai 0], rH H, ?_⟩
   replace A := A.d0
   exact ⟨rfl, A⟩
  refine Cr 6 id (AV 1 [] 25 0 1 A H fun D t H => ?_)
  obtain ⟨B, M⟩ := AP M
  refine BC 1 [] 27 (.str (Lib.itoa (i64.wrap ((1000000000 : Int) + x3)))) h5 H (fun D => Steps.call (by kernel_rfl) (Hg (C := cfg) (f := 121) (by kernel_rfl) (l := exts) rfl (by kernel_rfl) B)) fun D t H => ?_
  obtain ⟨x6, X, M⟩ := bind_some M
  refine Ac 28 (.str x6) h5 H (fun D => .of (EZ (k := .i64) (k' := .i64) (lo := (some (1 : Int))) (hi := none) (by kernel_rfl) X)) fun D t H => ?_
  refine Bg 1 [(6, .str x6)] 7 H fun D H => AF 1 [(29, .str (x4 ++ (Lib.itoa x2)))] H fun D H => ?_
  obtain ⟨B, M⟩ := AP M
  refine Ac 30 (.str ((x4 ++ (Lib.itoa x2)) ++ ([46] : UV))) h5 H (fun D => .of (B8 (by kernel_rfl) B)) fun D t H => ?_
  obtain ⟨x7, X, M⟩ := bind_some M
  obtain ⟨v1, h6, R, rfl, E⟩ := Ij (av := [.str x6, .str ([48] : UV)]) X (A.cut 0)
  replace A := A.Ee E
  refine A6 1 [] 32 R H fun D t H => ?_
  obtain ⟨B, M⟩ := AP M
  refine Ac 33 (.str (((x4 ++ (Lib.itoa x2)) ++ ([46] : UV)) ++ x7)) h6 H (fun D => .of (B8 (by kernel_rfl) B)) fun D t H => ?_
  refine AM 2 [(2, .str (((x4 ++ (Lib.itoa x2)) ++ ([46] : UV)) ++ x7)), (3, Ai 0)] H fun D H => AX ?_
  obtain ⟨rfl, rfl⟩ := Cx M
  refine ⟨.inl rfl, .tuple [.str (((x4 ++ (Lib.itoa x2)) ++ ([46] : UV)) ++ x7), Ai 0], rH H, ?_⟩
  replace A := A.d0
  exact ⟨rfl, A⟩
 exact hF.elim
def Dv (p0 : AN) (p1 : AS) : Option (AN) :=
 Af (p1.Time.BQ != 0) (some (⟨p0.Name, p0.Ax, p0.Kind, p0.Mode, p0.Bm, p0.B3, p0.DE, (-1 : Int), p0.Aj, p0.Al, p0.Ap, p0.Ay, p0.Form⟩ : AN)) (some (⟨p0.Name, p0.Ax, p0.Kind, p0.Mode, p0.Bm, p0.B3, p0.DE, p1.Time.Ci, p0.Aj, p0.Al, p0.Ap, p0.Ay, p0.Form⟩ : AN))
theorem K7 {p0 p1 bp0 bp1 u0} (M : Dv p0 p1 = some u0) (A : HH g h [.obj bp0 (.cells none 2 (AJ p0)), .obj bp1 (.cells none 2 (AE p1))] F) (hc : BB (cfg.still 126) av = [.ptr (some (bp0, 0)), .ptr (some (bp1, 0))] := by kernel_rfl) : ∃ v Q, BE cfg g h 126 av v Q ∧ v = .tuple [] ∧ HH g Q [.obj bp0 (.cells none 2 (AJ u0)), .obj bp1 (.cells none 2 (AE p1))] F := by
 refine Dp 16 [] hc ?_
 clear hc
 unfold Dv at M
 refine bg 16 [(0, .ptr (some (bp0, 0))), (1, .ptr (some (bp1, 0)))] fun D H => ?_
 refine AG 7 (AV 3 [(3, .ptr (some (bp0, 0)))] 6 1 10 A H fun D t H => ?_)
 obtain ⟨h1, X, A⟩ := A.s0 7 [Ai p1.Time.Ci] [_, _, _, _, _, _, _, _, _, _, _, _, _]
 refine ER 2 [] X H fun D t H => ?_
 refine CT 4 id (AV 2 [] 11 1 11 A H fun D t H => ?_)
 refine AM 1 [(12, .bool (p1.Time.BQ != 0))] H fun D H => Ae 12 H M (fun B M H => ?_) fun B M H => ?_
 ·refine BY 4 ?_
  obtain ⟨h2, X, A⟩ := A.s0 7 [Ai (-1)] [_, _, _, _, _, _, _, _, _, _, _, _, _]
  refine ER 3 [] X H fun D t H => ?_
  refine at_nil ?_
  obtain rfl := Ah M
  refine ⟨.inr rfl, .tuple [], rH H, ?_⟩
  exact ⟨rfl, A⟩
 refine GU ?_
 obtain rfl := Ah M
 refine ⟨.inr rfl, .tuple [], rH H, ?_⟩
 exact ⟨rfl, A⟩
def Bd (p0 : List UInt8) (p1 : List UInt8) (p2_10 : AS) (p3 : AN) (p4 : List AA) : Option (AN × (List AA)) :=
 (Dv p3 p2_10).bind fun x1 => (BL x1).bind fun x2 => Af (x2 == 0) (some (x1, p4)) (BW (Ou 32 (p4.length + ([(⟨p0, p1⟩ : AA)] : List AA).length)) <| some (p3, (p4 ++ ([(⟨p0, p1⟩ : AA)] : List AA))))
theorem H0 {p0 p1 p2_10 p3 p4 bp2_10 bp3 bp4 rp4_0 u1 u3} (M : Bd p0 p1 p2_10 p3 p4 = some (u1, u3)) (A : HH g h [.obj bp2_10 (.cells none 2 (AE p2_10)), .obj bp3 (.cells none 2 (AJ p3)), .obj bp4 (.cells none 2 [AR rp4_0 p4.length]), .Ag rp4_0 117 (Ag AI p4)] F) (hc : BB (cfg.still 120) av = [.str p0, .str p1, .func (.func 126) [] [.ptr (some (bp2_10, 0))], .ptr (some (bp3, 0)), .ptr (some (bp4, 0))] := by kernel_rfl) : ∃ v Q, BE cfg g h 120 av v Q ∧ ∃ (r'3 : Option Nat), v = .tuple [] ∧ HH g Q [.obj bp2_10 (.cells none 2 (AE p2_10)), .obj bp3 (.cells none 2 (AJ u1)), .obj bp4 (.cells none 2 [AR r'3 u3.length]), .Ag r'3 117 (Ag AI u3)] F := by
 refine Dp 22 [] hc ?_
 clear hc
 unfold Bd at M
 refine bg 22 [(0, .str p0), (1, .str p1), (2, .func (.func 126) [] [.ptr (some (bp2_10, 0))]), (3, .ptr (some (bp3, 0))), (4, .ptr (some (bp4, 0)))] fun D H => ?_
 refine AG 3 (Ac 9 _ _ H (fun D => .of (BH (by kernel_rfl) (A.EX 1 rfl (o := 0) (n := 13) ⟨Nat.le_of_ble_eq_true rfl, rfl⟩))) fun D t H => ?_)
 obtain ⟨h1, e1, A⟩ := A.pu (.cells none 2 [.str ([] : UV), .str ([] : UV), Ab 0, Ai 0, Ai 0, Ai 0, Ai 0, Ai 0, .str ([] : UV), .str ([] : UV), Ai 0, Ai 0, Ai 0])
 refine BI 8 (.ptr (some (h.size, 0))) e1 H fun D t H => ?_
 obtain ⟨h2, X, A⟩ := A.s0 0 (AJ p3) [_, _, _, _, _, _, _, _, _, _, _, _, _]
 refine CU X H fun D t H => ?_
 refine BZ id (AQ (AG 2 ?_))
 obtain ⟨x1, X, M⟩ := bind_some M
 obtain ⟨v1, h3, R, rfl, E⟩ := K7 (av := [.ptr (some (h.size, 0)), .ptr (some (bp2_10, 0))]) X (A.cut 2)
 replace A := A.g22 E
 refine Eu 1 [] R H fun D t H => ?_
 refine CT 3 id (Ac 12 _ _ H (fun D => .of (BH (by kernel_rfl) (A.EX 0 rfl (o := 0) (n := 13) ⟨Nat.le_of_ble_eq_true rfl, rfl⟩))) fun D t H => ?_)
 obtain ⟨x2, X, M⟩ := bind_some M
 obtain ⟨v1, h4, R, rfl, E⟩ := Cj (av := [.agg (AJ x1)]) X (A.cut 0)
 replace A := A.Ee E
 refine A9 13 R H fun D t H => ?_
 refine AM 1 [(14, .bool (x2 == 0))] H fun D H => Ae 14 H M (fun B M H => ?_) fun B M H => ?_
 ·refine AG 2 (Ac 15 _ _ H (fun D => .of (BH (by kernel_rfl) (A.EX 0 rfl (o := 0) (n := 13) ⟨Nat.le_of_ble_eq_true rfl, rfl⟩))) fun D t H => ?_)
  obtain ⟨h5, X, A⟩ := A.s2 0 (AJ x1) [_, _, _, _, _, _, _, _, _, _, _, _, _]
  refine CU X H fun D t H => ?_
  refine BZ id (AX ?_)
  obtain ⟨rfl, rfl⟩ := Cx M
  refine ⟨.inl rfl, .tuple [], rH H, ?_⟩
  replace A := A.k4 1 2 3 4
  exact ⟨rp4_0, rfl, A⟩
 refine FM 7 id (NR 16 3 0 A H fun D t H => ?_)
 refine AF 3 [(19, .agg [.str p0, .str p1])] H fun D H => ?_
 obtain ⟨h6, e2, A⟩ := A.pL 117 [.str p0, .str p1]
 refine BI 20 (AR (some h4.size) (([(⟨p0, p1⟩ : AA)] : List AA).length)) e2 H fun D t H => ?_
 obtain ⟨B, M⟩ := AP M
 obtain ⟨r1, h7, X, E⟩ := HH.Js AY (by decide) A 5 (xs := p4) (ys := ([(⟨p0, p1⟩ : AA)] : List AA)) rfl (Du A 0 rfl (n := ([(⟨p0, p1⟩ : AA)] : List AA).length) (z := 2) rfl (by decide)) rfl rfl B
 replace A : HH g h7 [.Ag (some h4.size) 117 ([.str p0, .str p1]), _, _, _, _, .Ag r1 117 (Ag AI (p4 ++ ([(⟨p0, p1⟩ : AA)] : List AA)))] F := E
 replace A := A.k5 1 2 3 4 5
 refine Ac 21 _ _ H (fun D => .of (Ge (s := DW rp4_0 p4.length) (by kernel_rfl) X)) fun D t H => ?_
 obtain ⟨h8, X, E⟩ := A.st 3 rfl (o := 0) (new := [AR r1 ((p4 ++ ([(⟨p0, p1⟩ : AA)] : List AA)).length)]) (ds := [AR r1 ((p4 ++ ([(⟨p0, p1⟩ : AA)] : List AA)).length)]) (Nat.le_of_ble_eq_true rfl) rfl rfl
 replace A : HH g h8 [_, _, _, .obj bp4 (.cells none 2 [AR r1 ((p4 ++ ([(⟨p0, p1⟩ : AA)] : List AA)).length)]), _] F := E
 refine KZ X H fun D t H => ?_
 refine at_nil ?_
 obtain ⟨rfl, rfl⟩ := Cx M
 refine ⟨.inr rfl, .tuple [], rH H, ?_⟩
 replace A := A.k4 1 2 3 4
 exact ⟨r1, rfl, A⟩
def Fy (p0 : Int) : Option (Int) :=
 some (Int.tmod (i64.wrap ((512 : Int) - (Int.tmod p0 (512 : Int)))) (512 : Int))
theorem MA {p0 q0} (M : Fy p0 = some q0) (A : HH g h [] F) (hc : BB (cfg.still 114) av = [Ai p0] := by kernel_rfl) : ∃ v Q, BE cfg g h 114 av v Q ∧ v = Ai q0 ∧ HH g Q [] F := by
 refine Dp 7 [.tmp 2] hc ?_
 clear hc
 unfold Fy at M
 refine bg 7 [(0, Ai p0)] fun D H => ?_
 refine AG 1 (Bg 1 [] 5 H fun D H => AM 5 [(2, Ai (Int.tmod (i64.wrap ((512 : Int) - (Int.tmod p0 (512 : Int)))) (512 : Int)))] H fun D H => AX ?_)
 obtain rfl := Ah M
 exact ⟨.inl rfl, _, rH H, rfl, A⟩
end
end Go.Av.L
