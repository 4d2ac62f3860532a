/-
 A part.
-/
import Derived.Test.YtlljeoogceblmaaGreatDoorKCfg
import Derived.Test.YtlljeoogceblmaaGreatDoorK0
namespace Go.Av.L
open Go.Av Go.Lib
open IntKind (i64 u8)
set_option maxRecDepth 10000
set_option linter.unusedVariables false
set_option linter.unusedSimpArgs false
variable {g : Gd} {h : AD} {F : List Ck} {av : List AB}
noncomputable section
def Bd (p0 : AK) : Option ((List (Int × (List UInt8))) × Bool) :=
 (DN p0.Name).bind fun (x1, x2, x3) => some ((CW (CW (CW (CW (CW ([] : List (Int × (List UInt8))) (0 : Int) x2) (11 : Int) x1) (6 : Int) p0.Az) (7 : Int) p0.Ah) (8 : Int) p0.Aj), x3)
theorem Jl {p0 q0 q1} (M : Bd p0 = some (q0, q1)) (A : HH g h [] F) (hc : A9 (cfg.still 71) av = [.agg (AI p0)] := by kernel_rfl) : ∃ v Q, BB cfg g h 71 av v Q ∧ ∃ (bq0 : Nat), v = .tuple [.map (some bq0), .bool q1] ∧ HH g Q [.obj bq0 (.map 2 (FB (fun k : Int => Ai k) (fun v : List UInt8 => .str v) q0))] F := by
 refine Dj 25 [.tmp 2, .tmp 3] hc ?_
 clear hc
 unfold Bd at M
 refine bg 25 [(0, .agg (AI p0))] fun D H => ?_
 refine AF 3 ?_
 obtain ⟨h1, e1, A⟩ := A.pu (.cells none 2 (AI p0))
 refine BF 1 (.ptr (some (h.size, 0))) e1 H fun D t H => ?_
 refine Be 2 [] 10 H fun D H => AV 1 [] 9 0 0 A H fun D t H => ?_
 obtain ⟨⟨x1, x2, x3⟩, X, M⟩ := bind_some M
 obtain ⟨v1, h2, R, rfl, E⟩ := Qb (av := [.str p0.Name]) X (A.cut 0)
 replace A : HH g h2 [.obj h.size (.cells none 2 (AI p0))] F := A.GC (n := 0) E
 refine A0 10 R H fun D t H => ?_
 refine Be 7 [(4, .str x1), (5, .str x2), (6, .bool x3)] 18 H fun D H => ?_
 obtain ⟨h3, e2⟩ : ∃ x, x = h2.push (.map 2 []) := ⟨_, rfl⟩
 replace A : HH g h3 [.obj h2.size (.map 2 (FB (fun k : Int => Ai k) (fun v : List UInt8 => .str v) ([] : List (Int × (List UInt8))))), _] F := (A.push _).to e2
 refine BF 14 (.map (some h2.size)) e2 H fun D t H => ?_
 refine AG 1 [(15, .str x2)] H fun D H => ?_
 obtain ⟨h4, X, E⟩ := HH.Nj (kt := 3) (et := 9) (ek := fun k : Int => Ai k) (ev := fun v : List UInt8 => .str v) (Ni (by kernel_rfl)) A 0 rfl (t := 122) (by kernel_rfl) (0 : Int) x2
 replace A : HH g h4 [.obj h2.size (.map 2 (FB (fun k : Int => Ai k) (fun v : List UInt8 => .str v) (CW ([] : List (Int × (List UInt8))) (0 : Int) x2))), _] F := E
 refine G2 (.tuple []) h4 H (fun D => .of (NZ (by kernel_rfl) X)) fun D t H => ?_
 refine AG 1 [(16, .str x1)] H fun D H => ?_
 obtain ⟨h5, X, E⟩ := HH.Nj (kt := 3) (et := 9) (ek := fun k : Int => Ai k) (ev := fun v : List UInt8 => .str v) (Ni (by kernel_rfl)) A 0 rfl (t := 122) (by kernel_rfl) (11 : Int) x1
 replace A : HH g h5 [.obj h2.size (.map 2 (FB (fun k : Int => Ai k) (fun v : List UInt8 => .str v) (CW (CW ([] : List (Int × (List UInt8))) (0 : Int) x2) (11 : Int) x1))), _] F := E
 refine G2 (.tuple []) h5 H (fun D => .of (NZ (by kernel_rfl) X)) fun D t H => ?_
 refine AV 1 [] 18 1 1 A H fun D t H => ?_
 obtain ⟨h6, X, E⟩ := HH.Nj (kt := 3) (et := 9) (ek := fun k : Int => Ai k) (ev := fun v : List UInt8 => .str v) (Ni (by kernel_rfl)) A 0 rfl (t := 122) (by kernel_rfl) (6 : Int) p0.Az
 replace A : HH g h6 [.obj h2.size (.map 2 (FB (fun k : Int => Ai k) (fun v : List UInt8 => .str v) (CW (CW (CW ([] : List (Int × (List UInt8))) (0 : Int) x2) (11 : Int) x1) (6 : Int) p0.Az))), _] F := E
 refine G2 (.tuple []) h6 H (fun D => .of (NZ (by kernel_rfl) X)) fun D t H => ?_
 refine AV 1 [] 20 1 8 A H fun D t H => ?_
 obtain ⟨h7, X, E⟩ := HH.Nj (kt := 3) (et := 9) (ek := fun k : Int => Ai k) (ev := fun v : List UInt8 => .str v) (Ni (by kernel_rfl)) A 0 rfl (t := 122) (by kernel_rfl) (7 : Int) p0.Ah
 replace A : HH g h7 [.obj h2.size (.map 2 (FB (fun k : Int => Ai k) (fun v : List UInt8 => .str v) (CW (CW (CW (CW ([] : List (Int × (List UInt8))) (0 : Int) x2) (11 : Int) x1) (6 : Int) p0.Az) (7 : Int) p0.Ah))), _] F := E
 refine G2 (.tuple []) h7 H (fun D => .of (NZ (by kernel_rfl) X)) fun D t H => ?_
 refine AV 1 [] 22 1 9 A H fun D t H => ?_
 obtain ⟨h8, X, E⟩ := HH.Nj (kt := 3) (et := 9) (ek := fun k : Int => Ai k) (ev := fun v : List UInt8 => .str v) (Ni (by kernel_rfl)) A 0 rfl (t := 122) (by kernel_rfl) (8 : Int) p0.Aj
 replace A : HH g h8 [.obj h2.size (.map 2 (FB (fun k : Int => Ai k) (fun v : List UInt8 => .str v) (CW (CW (CW (CW (CW ([] : List (Int × (List UInt8))) (0 : Int) x2) (11 : Int) x1) (6 : Int) p0.Az) (7 : Int) p0.Ah) (8 : Int) p0.Aj))), _] F := E
 refine G2 (.tuple []) h8 H (fun D => .of (NZ (by kernel_rfl) X)) fun D t H => ?_
 refine AL 4 [(2, .map (some h2.size)), (3, .bool x3)] H fun D H => AQ ?_
 obtain ⟨rfl, rfl⟩ := Bn M
 refine ⟨.inl rfl, .tuple [.map (some h2.size), .bool x3], rH H, ?_⟩
 replace A := A.d1
 exact ⟨h2.size, rfl, A⟩
def Da : Option (Gi) :=
 some (⟨(⟨(0 : Int), (100 : Int)⟩ : Ak), (⟨(100 : Int), (8 : Int)⟩ : Ak), (⟨(108 : Int), (8 : Int)⟩ : Ak), (⟨(116 : Int), (8 : Int)⟩ : Ak), (⟨(124 : Int), (12 : Int)⟩ : Ak), (⟨(136 : Int), (12 : Int)⟩ : Ak), (⟨(157 : Int), (100 : Int)⟩ : Ak), (⟨(265 : Int), (32 : Int)⟩ : Ak), (⟨(297 : Int), (32 : Int)⟩ : Ak), (⟨(329 : Int), (8 : Int)⟩ : Ak), (⟨(337 : Int), (8 : Int)⟩ : Ak), (⟨(345 : Int), (155 : Int)⟩ : Ak)⟩ : Gi)
theorem EO {q0} (M : Da = some q0) (A : HH g h [] F) (hc : A9 (cfg.still 72) av = [] := by kernel_rfl) : ∃ v Q, BB cfg g h 72 av v Q ∧ v = .agg (Lk q0) ∧ HH g Q [] F := by
 refine Dj 14 [.cell 0 127] hc ?_
 clear hc
 unfold Da at M
 refine bg 14 [] fun D H => ?_
 refine AF 1 ?_
 obtain ⟨h1, e1, A⟩ := A.pu (.cells none 2 [Ai 0, Ai 0, Ai 0, Ai 0, Ai 0, Ai 0, Ai 0, Ai 0, Ai 0, Ai 0, Ai 0, Ai 0, Ai 0, Ai 0, Ai 0, Ai 0, Ai 0, Ai 0, Ai 0, Ai 0, Ai 0, Ai 0, Ai 0, Ai 0])
 refine BF 0 (.ptr (some (h.size, 0))) e1 H fun D t H => ?_
 refine CT 14 id ?_
 obtain ⟨h2, X, A⟩ := A.s0 0 [Ai 0, Ai 100, Ai 100, Ai 8, Ai 108, Ai 8, Ai 116, Ai 8, Ai 124, Ai 12, Ai 136, Ai 12, Ai 157, Ai 100, Ai 265, Ai 32, Ai 297, Ai 32, Ai 329, Ai 8, Ai 337, Ai 8, Ai 345, Ai 155] [_, _, _, _, _, _, _, _, _, _, _, _, _, _, _, _, _, _, _, _, _, _, _, _]
 refine JI 13 [] X H fun D t H => ?_
 refine BK id (AQ ?_)
 obtain rfl := Ad M
 refine ⟨.inl rfl, .agg [Ai 0, Ai 100, Ai 100, Ai 8, Ai 108, Ai 8, Ai 116, Ai 8, Ai 124, Ai 12, Ai 136, Ai 12, Ai 157, Ai 100, Ai 265, Ai 32, Ai 297, Ai 32, Ai 329, Ai 8, Ai 337, Ai 8, Ai 345, Ai 155], L1 (.cell (rT H) (C7 (by kernel_rfl) (by kernel_rfl) (A.la 0 0 24)) .nil), ?_⟩
 replace A := A.d0
 exact ⟨rfl, A⟩
def B3 (p0 : AK) : Option ((List (Int × Int))) :=
 some (CW (CW (CW (CW (CW (CW (CW ([] : List (Int × Int)) (1 : Int) p0.Mode) (2 : Int) p0.Br) (3 : Int) p0.CH) (4 : Int) p0.Eu) (5 : Int) p0.Time) (9 : Int) p0.An) (10 : Int) p0.A2)
theorem JF {p0 q0} (M : B3 p0 = some q0) (A : HH g h [] F) (hc : A9 (cfg.still 73) av = [.agg (AI p0)] := by kernel_rfl) : ∃ v Q, BB cfg g h 73 av v Q ∧ ∃ (bq0 : Nat), v = .map (some bq0) ∧ HH g Q [.obj bq0 (.map 2 (FB (fun k : Int => Ai k) (fun v : Int => Ai v) q0))] F := by
 refine Dj 19 [.tmp 2] hc ?_
 clear hc
 unfold B3 at M
 refine bg 19 [(0, .agg (AI p0))] fun D H => ?_
 refine AF 2 ?_
 obtain ⟨h1, e1, A⟩ := A.pu (.cells none 2 (AI p0))
 refine BF 1 (.ptr (some (h.size, 0))) e1 H fun D t H => ?_
 refine Be 1 [] 24 H fun D H => ?_
 obtain ⟨h2, e2⟩ : ∃ x, x = h1.push (.map 2 []) := ⟨_, rfl⟩
 replace A : HH g h2 [.obj h1.size (.map 2 (FB (fun k : Int => Ai k) (fun v : Int => Ai v) ([] : List (Int × Int)))), .obj h.size (.cells none 2 (AI p0))] F := (A.push _).to e2
 refine BF 3 (.map (some h1.size)) e2 H fun D t H => ?_
 refine AV 1 [] 5 1 3 A H fun D t H => ?_
 obtain ⟨h3, X, E⟩ := HH.Nj (kt := 3) (et := 3) (ek := fun k : Int => Ai k) (ev := fun v : Int => Ai v) (Ni (by kernel_rfl)) A 0 rfl (t := 129) (by kernel_rfl) (1 : Int) p0.Mode
 replace A : HH g h3 [.obj h1.size (.map 2 (FB (fun k : Int => Ai k) (fun v : Int => Ai v) (CW ([] : List (Int × Int)) (1 : Int) p0.Mode))), _] F := E
 refine G2 (.tuple []) h3 H (fun D => .of (NZ (by kernel_rfl) X)) fun D t H => ?_
 refine AV 1 [] 7 1 4 A H fun D t H => ?_
 obtain ⟨h4, X, E⟩ := HH.Nj (kt := 3) (et := 3) (ek := fun k : Int => Ai k) (ev := fun v : Int => Ai v) (Ni (by kernel_rfl)) A 0 rfl (t := 129) (by kernel_rfl) (2 : Int) p0.Br
 replace A : HH g h4 [.obj h1.size (.map 2 (FB (fun k : Int => Ai k) (fun v : Int => Ai v) (CW (CW ([] : List (Int × Int)) (1 : Int) p0.Mode) (2 : Int) p0.Br))), _] F := E
 refine G2 (.tuple []) h4 H (fun D => .of (NZ (by kernel_rfl) X)) fun D t H => ?_
 refine AV 1 [] 9 1 5 A H fun D t H => ?_
 obtain ⟨h5, X, E⟩ := HH.Nj (kt := 3) (et := 3) (ek := fun k : Int => Ai k) (ev := fun v : Int => Ai v) (Ni (by kernel_rfl)) A 0 rfl (t := 129) (by kernel_rfl) (3 : Int) p0.CH
 replace A : HH g h5 [.obj h1.size (.map 2 (FB (fun k : Int => Ai k) (fun v : Int => Ai v) (CW (CW (CW ([] : List (Int × Int)) (1 : Int) p0.Mode) (2 : Int) p0.Br) (3 : Int) p0.CH))), _] F := E
 refine G2 (.tuple []) h5 H (fun D => .of (NZ (by kernel_rfl) X)) fun D t H => ?_
 refine AV 1 [] 11 1 6 A H fun D t H => ?_
 obtain ⟨h6, X, E⟩ := HH.Nj (kt := 3) (et := 3) (ek := fun k : Int => Ai k) (ev := fun v : Int => Ai v) (Ni (by kernel_rfl)) A 0 rfl (t := 129) (by kernel_rfl) (4 : Int) p0.Eu
 replace A : HH g h6 [.obj h1.size (.map 2 (FB (fun k : Int => Ai k) (fun v : Int => Ai v) (CW (CW (CW (CW ([] : List (Int × Int)) (1 : Int) p0.Mode) (2 : Int) p0.Br) (3 : Int) p0.CH) (4 : Int) p0.Eu))), _] F := E
 refine G2 (.tuple []) h6 H (fun D => .of (NZ (by kernel_rfl) X)) fun D t H => ?_
 refine AV 1 [] 13 1 7 A H fun D t H => ?_
 obtain ⟨h7, X, E⟩ := HH.Nj (kt := 3) (et := 3) (ek := fun k : Int => Ai k) (ev := fun v : Int => Ai v) (Ni (by kernel_rfl)) A 0 rfl (t := 129) (by kernel_rfl) (5 : Int) p0.Time
 replace A : HH g h7 [.obj h1.size (.map 2 (FB (fun k : Int => Ai k) (fun v : Int => Ai v) (CW (CW (CW (CW (CW ([] : List (Int × Int)) (1 : Int) p0.Mode) (2 : Int) p0.Br) (3 : Int) p0.CH) (4 : Int) p0.Eu) (5 : Int) p0.Time))), _] F := E
 refine G2 (.tuple []) h7 H (fun D => .of (NZ (by kernel_rfl) X)) fun D t H => ?_
 refine AV 1 [] 15 1 10 A H fun D t H => ?_
 obtain ⟨h8, X, E⟩ := HH.Nj (kt := 3) (et := 3) (ek := fun k : Int => Ai k) (ev := fun v : Int => Ai v) (Ni (by kernel_rfl)) A 0 rfl (t := 129) (by kernel_rfl) (9 : Int) p0.An
 replace A : HH g h8 [.obj h1.size (.map 2 (FB (fun k : Int => Ai k) (fun v : Int => Ai v) (CW (CW (CW (CW (CW (CW ([] : List (Int × Int)) (1 : Int) p0.Mode) (2 : Int) p0.Br) (3 : Int) p0.CH) (4 : Int) p0.Eu) (5 : Int) p0.Time) (9 : Int) p0.An))), _] F := E
 refine G2 (.tuple []) h8 H (fun D => .of (NZ (by kernel_rfl) X)) fun D t H => ?_
 refine AV 1 [] 17 1 11 A H fun D t H => ?_
 obtain ⟨h9, X, E⟩ := HH.Nj (kt := 3) (et := 3) (ek := fun k : Int => Ai k) (ev := fun v : Int => Ai v) (Ni (by kernel_rfl)) A 0 rfl (t := 129) (by kernel_rfl) (10 : Int) p0.A2
 replace A : HH g h9 [.obj h1.size (.map 2 (FB (fun k : Int => Ai k) (fun v : Int => Ai v) (CW (CW (CW (CW (CW (CW (CW ([] : List (Int × Int)) (1 : Int) p0.Mode) (2 : Int) p0.Br) (3 : Int) p0.CH) (4 : Int) p0.Eu) (5 : Int) p0.Time) (9 : Int) p0.An) (10 : Int) p0.A2))), _] F := E
 refine G2 (.tuple []) h9 H (fun D => .of (NZ (by kernel_rfl) X)) fun D t H => ?_
 refine AL 2 [(2, .map (some h1.size))] H fun D H => AQ ?_
 obtain rfl := Ad M
 refine ⟨.inl rfl, .map (some h1.size), rH H, ?_⟩
 replace A := A.d1
 exact ⟨h1.size, rfl, A⟩
def EP (s : (List UInt8) × Int × Int) : Option (((List UInt8) × Int × Int) ⊕ (((List UInt8)))) :=
 match s with
 | (x3, x4, x5) => Aa (decide (x5 ≥ 0)) ((Hj x3 x5).bind fun x7 => (Wp (u8.wrap (i64.wrap ((48 : Int) + (XO .i64 x4 (7 : Int)))))).bind fun x8 => some (.inl ((x3.set x5.toNat x8), VS .i64 x4 (3 : Int), i64.wrap (x5 - 1)))) (some (.inr x3))
def CU (p0 : Int) (p1 : Int) : Option ((List UInt8) × Bool) :=
 (Ic p1).bind fun x1 => (Aa ((!x1) || (decide (p0 < 0))) (some true) (BS (decide (0 ≤ (i64.wrap ((3 : Int) * (i64.wrap (p1 - 1)))))) <| some (decide (p0 ≥ (Ud .i64 (1 : Int) (i64.wrap ((3 : Int) * (i64.wrap (p1 - 1)))))))) : Option (Bool)).bind fun x2 => Aa x2 (some (([] : UV), false)) (BS (ZR 1 p1) <| (loop (EP) ((List.replicate p1.toNat (0 : UInt8)), p0, i64.wrap (p1 - 2))).bind fun x6 => some (x6, true))
theorem IA {p0 p1 q0 q1} (M : CU p0 p1 = some (q0, q1)) (A : HH g h [] F) (hc : A9 (cfg.still 74) av = [Ai p0, Ai p1] := by kernel_rfl) : ∃ v Q, BB cfg g h 74 av v Q ∧ v = .tuple [.str q0, .bool q1] ∧ HH g Q [] F := by
 refine Dj 42 [.tmp 4, .tmp 5] hc ?_
 clear hc
 unfold CU at M
 refine bg 42 [(0, Ai p0), (1, Ai p1)] fun D H => ?_
 refine AF 2 (AL 2 [] H fun D H => AN (AF 15 ?_))
 obtain ⟨x1, X, M⟩ := bind_some M
 obtain ⟨v1, h1, R, rfl, E⟩ := QG (av := [Ai p1]) X (A.cut 0)
 replace A := A.De E
 refine Aq 1 [] 9 R H fun D t H => ?_
 refine AG 2 [(11, .bool (!x1))] H fun D H => Al 3 (fun N Q => h1 = Q ∧ Has N 42 [(0, Ai p0), (1, Ai p1), (14, .bool ((!x1) || (decide (p0 < 0))))]) ?_ ?_
 ·cases B : (!x1 : Bool) with
  | true =>
   replace H := H.kn 11 B
   exact AG 3 [(14, .bool true)] H fun D H => Ac H B
  | false =>
   replace H := H.kn 11 B
   exact AG 3 [(14, .bool (decide (p0 < 0)))] H fun D H => Ac H B
 intro t D Q hK
 obtain ⟨e, H⟩ := hK
 subst e
 refine AG 1 [(15, .bool ((!x1) || (decide (p0 < 0))))] H fun D H => ?_
 obtain ⟨x2, O, M⟩ := bind_some M
 refine Al 7 (fun N Q => Has N 42 [(0, Ai p0), (1, Ai p1), (22, .bool x2)] ∧ HH g Q [] F) ?_ ?_
 ·rcases Ar O with ⟨B, M⟩ | ⟨B, M⟩
  ·replace H := H.kn 15 B
   refine AG 7 [(22, .bool true)] H fun D H => ?_
   obtain rfl := Ad M
   exact at_nil ⟨H.ls, A⟩
  replace H := H.kn 15 B
  refine AG 4 [(16, Ai p0), (19, Ai (i64.wrap ((3 : Int) * (i64.wrap (p1 - 1)))))] H fun D H => ?_
  obtain ⟨B, M⟩ := AO M
  refine AZ 20 (Ai (Ud .i64 (1 : Int) (i64.wrap ((3 : Int) * (i64.wrap (p1 - 1)))))) h1 H (fun D => .of (Z2 (by kernel_rfl) B)) fun D t H => ?_
  refine AG 2 [(22, .bool (decide (p0 ≥ (Ud .i64 (1 : Int) (i64.wrap ((3 : Int) * (i64.wrap (p1 - 1))))))))] H fun D H => ?_
  obtain rfl := Ad M
  exact at_nil ⟨H.ls, A⟩
 clear A
 intro t D h2 hK
 obtain ⟨H, A⟩ := hK
 refine BK id (AX 22 H M (fun B M H => ?_) fun B M H => ?_)
 ·refine AF 2 (AL 2 [(4, .str ([] : UV)), (5, .bool false)] H fun D H => AQ ?_)
  obtain ⟨rfl, rfl⟩ := Bn M
  exact ⟨.inl rfl, _, rH H, rfl, A⟩
 refine Bs 3 id ?_
 obtain ⟨B, M⟩ := AO M
 obtain ⟨h3, e1, A⟩ := A.pL 5 (Ag eY (List.replicate p1.toNat (0 : UInt8)))
 refine Ax 1 [] 24 (AP (some h2.size) (List.replicate p1.toNat (0 : UInt8)).length) h3 H (fun D => .of (WD (e := eY) JA (x := (0 : UInt8)) (by kernel_rfl) B (congrArg some e1.symm))) fun D t H => ?_
 refine AL 1 [(6, AP (some h2.size) ((List.replicate p1.toNat (0 : UInt8)).length))] H fun D H => AN (AF 3 (AL 3 [(7, Ai (i64.wrap (p1 - 2)))] H fun D H => Ae (id := 0) (by kernel_rfl) ?_))
 obtain ⟨o1, O, M⟩ := bind_some M
 refine Ao (Q' := fun e N Q => (∃ x6, e = .exit 0 ∧ x6 = o1 ∧ ∃ (hl2 : x6.length = (List.replicate p1.toNat (0 : UInt8)).length), Has N 42 [(6, AP (some h2.size) x6.length)] ∧ HH g Q [.Ag (some h2.size) 5 (Ag eY x6)] F) ∨ False) ?_ ?_
 ·refine Bc (by kernel_rfl) (fun (s : (List UInt8) × Int × Int) N Q => ∃ x3 x4 x5, (x3, x4, x5) = s ∧ ∃ (hl1 : x3.length = (List.replicate p1.toNat (0 : UInt8)).length), Has N 42 [(0, Ai x4), (6, AP (some h2.size) x3.length), (7, Ai x5)] ∧ HH g Q [.Ag (some h2.size) 5 (Ag eY x3)] F) O ⟨_, _, _, rfl, rfl, H.ls, A⟩ ?_
  clear O M H A
  intro s q D h4 hI M
  obtain ⟨x3, x4, x5, rfl, hl1, H, A⟩ := hI
  unfold EP at M
  refine AN (AF 2 (AL 2 [(28, .bool (decide (x5 ≥ 0)))] H fun D H => AX 28 H M (fun B M H => ?_) fun B M H => ?_))
  ·refine Bl id (AN (Ae (id := 1) (by kernel_rfl) ?_))
   refine AF 8 ?_
   obtain ⟨x7, X, M⟩ := bind_some M
   obtain ⟨i1, er1, _, X, hq1⟩ := HH.SL JA (by decide) A 0 (xs := x3) rfl X
   refine Ax 6 [(36, Ab (u8.wrap (i64.wrap ((48 : Int) + (XO .i64 x4 (7 : Int))))))] 37 (.ptr (some (i1, x5.toNat * 1))) h4 H (fun D => .of (HN (s := DT (some h2.size) x3.length) (by kernel_rfl) X)) fun D t H => ?_
   obtain ⟨x8, X, M⟩ := bind_some M
   have X := TP X
   rw [X] at H
   obtain ⟨h5, X, E⟩ := HH.ab JA A 0 rfl er1 hq1 (y := x8) (o := 0) (new := [Ab (x8.toNat : Int)]) rfl rfl (Nat.le_of_ble_eq_true rfl)
   have hl3 : (x3.set x5.toNat x8).length = (List.replicate p1.toNat (0 : UInt8)).length := List.length_set.trans hl1
   have el : AP (some h2.size) x3.length = AP (some h2.size) (x3.set x5.toNat x8).length := congrArg _ List.length_set.symm
   try rw [el] at H
   try rw [el] at E
   replace A : HH g h5 [.Ag (some h2.size) 5 (Ag eY (x3.set x5.toNat x8))] F := E
   refine KY X H fun D t H => ?_
   refine FY 3 id (A5 3 [(0, Ai (VS .i64 x4 (3 : Int))), (6, AP (some h2.size) ((x3.set x5.toNat x8).length)), (7, Ai x5)] H fun D H => FY 3 id (A5 3 [(0, Ai (VS .i64 x4 (3 : Int))), (6, AP (some h2.size) ((x3.set x5.toNat x8).length)), (7, Ai (i64.wrap (x5 - 1)))] H fun D H => at_nil ?_))
   exact nx M ⟨_, _, _, rfl, hl3, H.ls, A⟩
  refine Bb (i := 0) (by kernel_rfl) ?_
  exact nr M fun e => .inl ⟨_, rfl, e, hl1, H.ls, A⟩
 clear O
 clear A
 intro e D h6 hQ
 rcases hQ with ⟨x6, rfl, rfl, hl2, H, A⟩ | hF
 ·show AW _ _ _ _ _ _ _
  refine AF 4 (AG 1 [(40, AP (some h2.size) x6.length)] H fun D H => AZ 41 (.str x6) h6 H (fun D => .of (Pe (xs := x6) A 0 rfl (by kernel_rfl))) fun D t H => ?_)
  refine AL 2 [(4, .str x6), (5, .bool true)] H fun D H => AQ ?_
  obtain ⟨rfl, rfl⟩ := Bn M
  refine ⟨.inl rfl, .tuple [.str x6, .bool true], rH H, ?_⟩
  replace A := A.d0
  exact ⟨rfl, A⟩
 exact hF.elim
def Cj (p0 : AK) (s : Int) : Option ((Int) ⊕ ((Unit) ⊕ (Int))) :=
 match s with
 | x1 => Aa (decide (x1 < (([p0.Name, p0.Az, p0.Ah, p0.Aj] : List (List UInt8)).length : Int))) ((Hj ([p0.Name, p0.Az, p0.Ah, p0.Aj] : List (List UInt8)) x1).bind fun x3 => (BX x3 (0 : Int)).bind fun x4 => Aa (decide (x4 ≥ 0)) (some (.inr (.inr (2 : Int)))) (some (.inl (i64.wrap (x1 + 1))))) (some (.inr (.inl ())))
def DE (pp : Int × (List UInt8)) (s : Bool) : Option ((Bool) ⊕ (Unit)) :=
 match s with
 | z1 => (Aa z1 ((Da).bind fun x8 => (Hj ([x8.w0, x8.w1, x8.w2, x8.w3, x8.w4, x8.w5, x8.w6, x8.w7, x8.w8, x8.w9, x8.U5, x8.U9] : List Ak) pp.1).bind fun x9 => some (decide ((pp.2.length : Int) ≤ x9.D2))) (some false) : Option (Bool)).bind fun x7 => some (.inl x7)
def DF (pp : Int × Int) (s : Unit) : Option ((Unit) ⊕ (Int)) :=
 match s with
 | _ => (Da).bind fun x11 => (Hj ([x11.w0, x11.w1, x11.w2, x11.w3, x11.w4, x11.w5, x11.w6, x11.w7, x11.w8, x11.w9, x11.U5, x11.U9] : List Ak) pp.1).bind fun x12 => (CU pp.2 x12.D2).bind fun (x13, x14) => Aa (!x14) (some (.inr (6 : Int))) (some (.inl ()))
def SO (k : Int) : Int := if k = 0 ∨ k = 6 then 100 else if k = 11 then 155 else 32
theorem Yz {k : Nat} (hk : k ≤ 11) : Ud .i64 (1 : Int) ((3 * k : Nat) : Int) = 8 ^ k := by
 have : k = 0 ∨ k = 1 ∨ k = 2 ∨ k = 3 ∨ k = 4 ∨ k = 5 ∨ k = 6 ∨ k = 7 ∨ k = 8 ∨ k = 9 ∨ k = 10 ∨ k = 11 := by omega
 rcases this with rfl | rfl | rfl | rfl | rfl | rfl | rfl | rfl | rfl | rfl | rfl | rfl <;> rfl
def Ev : Nat → Nat → List UInt8
 | _, 0 => []
 | v, k + 1 => Ev (v / 8) k ++ [UInt8.ofNat (48 + v % 8)]
theorem EF : ∀ (k v : Nat), (Ev v k).length = k
 | 0, v => rfl
 | k + 1, v => by simp [Ev, EF k (v / 8)]
theorem Yg (v : Nat) (hv : v < 9223372036854775808) : XO .i64 (v : Int) 7 = ((v % 8 : Nat) : Int) := by
 unfold XO
 have e1 : (BitVec.ofInt 64 (v : Int)).toNat = v := by rw [BitVec.toNat_ofInt]; omega
 show i64.wrap ((BitVec.ofInt 64 (v : Int) &&& BitVec.ofInt 64 7).toNat : Int) = _
 rw [BitVec.toNat_and, e1, show (BitVec.ofInt 64 7).toNat = 2 ^ 3 - 1 from rfl, Nat.and_two_pow_sub_one_eq_mod, Fk (by omega) (by omega)]
theorem Yx (v : Nat) : VS .i64 (v : Int) 3 = ((v / 8 : Nat) : Int) := by
 unfold VS
 rw [show (2 : Int) ^ (min (3 : Int).toNat i64.bits) = 8 from rfl, Int.fdiv_eq_ediv_of_nonneg _ (by omega)]
 omega
theorem Ti : ∀ (k v : Nat) (t : List UInt8), v < 9223372036854775808 → k ≤ 1000 → loop EP (List.replicate k 0 ++ t, (v : Int), (k : Int) - 1) = some (Ev v k ++ t)
 | 0, v, t, hv, hk => by
  refine Cu ?_
  rw [EP]
  rfl
 | k + 1, v, t, hv, hk => by
  have e : ((k + 1 : Nat) : Int) - 1 = (k : Int) := by omega
  rw [e]
  refine (CR (s' := (List.replicate k 0 ++ (UInt8.ofNat (48 + v % 8) :: t), ((v / 8 : Nat) : Int), (k : Int) - 1)) ?_).trans ?_
  ·rw [EP, decide_eq_true (by omega), AU, Ff (by simp; omega), Option.bind_some, Yg v hv, Fk (x := 48 + ((v % 8 : Nat) : Int)) (by omega) (by omega), bN (by omega) (by omega)]
   have et : Wp (48 + ((v % 8 : Nat) : Int)) = some (UInt8.ofNat (48 + v % 8)) := by
    unfold Wp
    rw [if_pos (by omega)]
    congr 2
   rw [et, Option.bind_some, Yx, Fk (by omega) (by omega), Int.toNat_natCast]
   congr 3
   rw [List.replicate_succ', List.append_assoc, List.set_append_right _ _ (by simp)]
   simp
  ·rw [Ti k (v / 8) _ (by omega) (by omega), Ev, List.append_assoc]
   rfl
def Ba (v : Nat) (n : Nat) : List UInt8 := Ev v (n - 1) ++ [0]
theorem CP {v n : Nat} (h : 1 ≤ n) : (Ba v n).length = n := by simp [Ba, EF]; omega
theorem XF {k : Nat} (hk : k ≤ 11) : (8 : Int) ^ k ≤ 8589934592 := by
 have : k = 0 ∨ k = 1 ∨ k = 2 ∨ k = 3 ∨ k = 4 ∨ k = 5 ∨ k = 6 ∨ k = 7 ∨ k = 8 ∨ k = 9 ∨ k = 10 ∨ k = 11 := by omega
 rcases this with rfl | rfl | rfl | rfl | rfl | rfl | rfl | rfl | rfl | rfl | rfl | rfl <;> decide
theorem Ki (v : Int) {k : Nat} (hk : 1 ≤ k) (hk2 : k ≤ 11) :
  CU v ((k + 1 : Nat) : Int) = some (if 0 ≤ v ∧ v < 8 ^ k then (Ba v.toNat (k + 1), true) else ([], false)) := by
 unfold CU Ic
 rw [Option.bind_some, decide_eq_true (p := ((k + 1 : Nat) : Int) ≥ 2) (by omega), decide_eq_true (p := ((k + 1 : Nat) : Int) ≤ 12) (by omega), Bool.and_self, Bool.not_true, Bool.false_or, Ec]
 by_cases h0 : v < 0
 ·rw [if_pos h0, Option.bind_some, AU, if_neg (by omega)]
 ·have e1 : ((k + 1 : Nat) : Int) - 1 = (k : Int) := by omega
  rw [if_neg h0, e1, Fk (x := (k : Int)) (by omega) (by omega), show (3 : Int) * (k : Int) = ((3 * k : Nat) : Int) by omega, Fk (x := ((3 * k : Nat) : Int)) (by omega) (by omega), Yz hk2, decide_eq_true (p := (0 : Int) ≤ ((3 * k : Nat) : Int)) (by omega), Af, Option.bind_some, Ec]
  by_cases h3 : v ≥ 8 ^ k
  ·rw [if_pos h3, if_neg (by omega)]
  ·have hp := XF hk2
   obtain ⟨m, rfl⟩ := Int.eq_ofNat_of_zero_le (show 0 ≤ v by omega)
   have hk3 : ((k + 1 : Nat) : Int) - 2 = (k : Int) - 1 := by omega
   rw [if_neg h3, if_pos (by omega), show ZR 1 ((k + 1 : Nat) : Int) = true from decide_eq_true (by omega), Af, hk3, Fk (by omega) (by omega), Int.toNat_natCast, List.replicate_succ', Ti k m [0] (by omega) (by omega), Option.bind_some]
   rfl
theorem Hl {a : Int × List UInt8} (h : a.1 = 0 ∨ a.1 = 11 ∨ a.1 = 6 ∨ a.1 = 7 ∨ a.1 = 8) (z : Bool) :
  DE a z = some (.inl (z && decide ((a.2.length : Int) ≤ SO a.1))) := by
 obtain ⟨k, s⟩ := a
 dsimp only at h
 rcases h with rfl | rfl | rfl | rfl | rfl <;> cases z <;> rfl
theorem R6 {p0 : AK} {l : List (Int × List UInt8)} {b : Bool} (X : Bd p0 = some (l, b)) : ∃ p q, DN p0.Name = some (p, q, b) ∧ l = [(0, q), (11, p), (6, p0.Az), (7, p0.Ah), (8, p0.Aj)] := by
 unfold Bd at X
 obtain ⟨⟨p, q, r⟩, h1, h2⟩ := bind_some X
 dsimp only at h2
 have := Option.some.inj h2
 obtain ⟨e1, e2⟩ := Prod.mk.inj this
 subst e2
 exact ⟨p, q, h1, e1.symm⟩
theorem Gf {p0 : AK} {l : List (Int × List UInt8)} {b : Bool} (X : Bd p0 = some (l, b)) : ∀ a ∈ l, a.1 = 0 ∨ a.1 = 11 ∨ a.1 = 6 ∨ a.1 = 7 ∨ a.1 = 8 := by
 obtain ⟨p, q, _, rfl⟩ := R6 X
 intro a ha
 simp only [List.mem_cons, List.not_mem_nil, or_false] at ha
 rcases ha with rfl | rfl | rfl | rfl | rfl <;> simp
theorem PW {p0 : AK} {l : List (Int × Int)} (X : B3 p0 = some l) : l = [(1, p0.Mode), (2, p0.Br), (3, p0.CH), (4, p0.Eu), (5, p0.Time), (9, p0.An), (10, p0.A2)] := (Option.some.inj X).symm
theorem KA {p0 : AK} {l : List (Int × Int)} (X : B3 p0 = some l) : ∀ a ∈ l, a.1 = 1 ∨ a.1 = 2 ∨ a.1 = 3 ∨ a.1 = 4 ∨ a.1 = 5 ∨ a.1 = 9 ∨ a.1 = 10 := by
 rw [PW X]
 intro a ha
 simp only [List.mem_cons, List.not_mem_nil, or_false] at ha
 rcases ha with rfl | rfl | rfl | rfl | rfl | rfl | rfl <;> simp
theorem HL {p0 : AK} {l : List (Int × List UInt8)} {b : Bool} (X : Bd p0 = some (l, b)) : ∀ l', l'.Perm l → Bg DE l' b = Bg DE l b := by
 have hk := Gf X
 refine fun l' hl' => Lo (fun _ => True) (fun _ _ _ _ _ _ => trivial) (fun a ha c hc s _ => ?_) l' hl' b trivial
 unfold Sn
 rw [Hl (hk a ha), Hl (hk c hc)]
 dsimp only
 rw [Hl (hk c hc), Hl (hk a ha), Bool.and_right_comm]
theorem M3 : ∀ (l : List (Int × List UInt8)) (z : Bool), (∀ a ∈ l, a.1 = 0 ∨ a.1 = 11 ∨ a.1 = 6 ∨ a.1 = 7 ∨ a.1 = 8) → Bg DE l z = some (.inl (z && l.all fun a => decide ((a.2.length : Int) ≤ SO a.1)))
 | [], z, _ => by simp [Bg]
 | a :: l, z, h => by
  rw [Bg, Hl (h a (by simp))]
  dsimp only
  rw [M3 l _ fun c hc => h c (by simp [hc]), List.all_cons, Bool.and_assoc]
def MV (a : Int × Int) : Bool := decide (0 ≤ a.2 ∧ a.2 < (if a.1 = 4 ∨ a.1 = 5 then 8589934592 else 2097152))
theorem Hr {a : Int × Int} (h : a.1 = 1 ∨ a.1 = 2 ∨ a.1 = 3 ∨ a.1 = 4 ∨ a.1 = 5 ∨ a.1 = 9 ∨ a.1 = 10) : DF a () = some (if MV a then .inl () else .inr 6) := by
 obtain ⟨k, v⟩ := a
 dsimp only at h
 have e8 := Ki v (k := 7) (by omega) (by omega)
 have e12 := Ki v (k := 11) (by omega) (by omega)
 have p8 : (8 : Int) ^ 7 = 2097152 := rfl
 have p12 : (8 : Int) ^ 11 = 8589934592 := rfl
 rw [p8] at e8
 rw [p12] at e12
 have g8 : (CU v 8).bind (fun (x : List UInt8 × Bool) => match x with | (x13, x14) => Aa (!x14) (some (.inr (6 : Int))) (some (.inl ()))) = some (if decide (0 ≤ v ∧ v < 2097152) then (.inl () : Unit ⊕ Int) else .inr 6) := by
  rw [show (8 : Int) = ((7 + 1 : Nat) : Int) from rfl, e8, Option.bind_some]
  by_cases hv : 0 ≤ v ∧ v < 2097152
  ·simp [hv]
  ·simp only [if_neg hv, decide_eq_false hv]; rfl
 have g12 : (CU v 12).bind (fun (x : List UInt8 × Bool) => match x with | (x13, x14) => Aa (!x14) (some (.inr (6 : Int))) (some (.inl ()))) = some (if decide (0 ≤ v ∧ v < 8589934592) then (.inl () : Unit ⊕ Int) else .inr 6) := by
  rw [show (12 : Int) = ((11 + 1 : Nat) : Int) from rfl, e12, Option.bind_some]
  by_cases hv : 0 ≤ v ∧ v < 8589934592
  ·simp [hv]
  ·simp only [if_neg hv, decide_eq_false hv]; rfl
 rcases h with rfl | rfl | rfl | rfl | rfl | rfl | rfl
 ·exact g8
 ·exact g8
 ·exact g8
 ·exact g12
 ·exact g12
 ·exact g8
 ·exact g8
theorem HO {p0 : AK} {l : List (Int × Int)} (X : B3 p0 = some l) : ∀ l', l'.Perm l → Bg DF l' () = Bg DF l () := by
 have hk := KA X
 refine fun l' hl' => Lo (fun _ => True) (fun _ _ _ _ _ _ => trivial) (fun a ha c hc s _ => ?_) l' hl' () trivial
 unfold Sn
 rw [Hr (hk a ha), Hr (hk c hc)]
 cases h1 : MV a <;> cases h2 : MV c <;> simp [Hr (hk a ha), Hr (hk c hc), h1, h2]
def BG (p0 : AK) : Option (Int) :=
 (loop (Cj p0) (0 : Int)).bind fun o1 => (match o1 with | .inl _ => (Bd p0).bind fun (x5, x6) => (Bg (DE) x5 x6).bind fun o => (match o with | .inl z2 => Aa (!z2) (some (12 : Int)) ((B3 p0).bind fun x10 => (Bg (DF) x10 ()).bind fun o => (match o with | .inl _ => some (0 : Int) | .inr y1 => some y1)) | .inr _ => none) | .inr x2 => some x2)
theorem Ct {p0 q0} (M : BG p0 = some q0) (A : HH g h [] F) (hc : A9 (cfg.still 70) av = [.agg (AI p0)] := by kernel_rfl) : ∃ v Q, BB cfg g h 70 av v Q ∧ v = Ai q0 ∧ HH g Q [] F := by
 refine UC (n := 74) (rs := [.tmp 2]) (by kernel_rfl) hc (by kernel_rfl) ?_
 clear hc
 unfold BG at M
 refine V9 (n := 74) [(0, .agg (AI p0))] (by kernel_rfl) (by kernel_rfl) ?_
 intro D H
 refine Fh ?_
 refine Io ?_
 refine BO 2 ?_
 obtain ⟨h1, e1, A⟩ := A.pu (.cells none 2 (AI p0))
 refine BF 1 (.ptr (some (h.size, 0))) e1 H fun D t H => ?_
 refine AG 1 [] H fun D H => at_nil ?_
 show PX cfg 70 g (right (GF cfg.P 70)) D h1 _
 refine Fh ?_
 refine Io ?_
 refine AF 11 (AV 1 [] 14 0 0 A H fun D t H => ?_)
 refine AV 1 [] 16 0 1 A H fun D t H => ?_
 refine AV 1 [] 18 0 8 A H fun D t H => ?_
 refine AV 1 [] 20 0 9 A H fun D t H => ?_
 obtain ⟨h2, e2, A⟩ := A.pL 9 [.str p0.Name, .str p0.Az, .str p0.Ah, .str p0.Aj]
 refine BF 21 (AP (some h1.size) (([p0.Name, p0.Az, p0.Ah, p0.Aj] : List (List UInt8)).length)) e2 H fun D t H => ?_
 refine AL 2 [(22, Ai (([p0.Name, p0.Az, p0.Ah, p0.Aj] : List (List UInt8)).length : Int)), (23, Ai 0)] H fun D H => Ae (id := 0) (by kernel_rfl) ?_
 replace A : HH g h2 [.Ag (some h1.size) 9 (Ag eS ([p0.Name, p0.Az, p0.Ah, p0.Aj] : List (List UInt8))), .obj h.size (.cells none 2 (AI p0))] F := A
 obtain ⟨o1, O, M⟩ := bind_some M
 refine Ao (Q' := fun e N Q => (e = .exit 0 ∧ .inl () = o1 ∧ Has N 74 [(1, .ptr (some (h.size, 0)))] ∧ HH g Q [.obj h.size (.cells none 2 (AI p0))] F) ∨ (∃ x2, e = .ret ∧ .inr x2 = o1 ∧ Has N 74 [(2, Ai x2)] ∧ HH g Q [.obj h.size (.cells none 2 (AI p0))] F) ∨ False) ?_ ?_
 ·refine Bc (by kernel_rfl) (fun (s : Int) N Q => ∃ x1, x1 = s ∧ Has N 74 [(1, .ptr (some (h.size, 0))), (21, AP (some h1.size) (([p0.Name, p0.Az, p0.Ah, p0.Aj] : List (List UInt8)).length)), (22, Ai (([p0.Name, p0.Az, p0.Ah, p0.Aj] : List (List UInt8)).length : Int)), (23, Ai x1)] ∧ HH g Q [.Ag (some h1.size) 9 (Ag eS ([p0.Name, p0.Az, p0.Ah, p0.Aj] : List (List UInt8))), .obj h.size (.cells none 2 (AI p0))] F) O ⟨_, rfl, H.ls, A⟩ ?_
  clear O M H A
  intro s q D h3 hI M
  obtain ⟨x1, rfl, H, A⟩ := hI
  unfold Cj at M
  refine AF 1 (AL 1 [(24, .bool (decide (x1 < (([p0.Name, p0.Az, p0.Ah, p0.Aj] : List (List UInt8)).length : Int))))] H fun D H => AN (AX 24 H M (fun B M H => ?_) fun B M H => ?_))
  ·refine Bl id (AN (Ae (id := 1) (by kernel_rfl) ?_))
   refine AF 3 ?_
   obtain ⟨x3, X, M⟩ := bind_some M
   obtain ⟨i1, er1, _, X, hq1⟩ := HH.SL encS (by decide) A 0 (xs := ([p0.Name, p0.Az, p0.Ah, p0.Aj] : List (List UInt8))) rfl X
   refine AZ 25 (.ptr (some (i1, x1.toNat * 1))) h3 H (fun D => .of (HN (s := DT (some h1.size) (([p0.Name, p0.Az, p0.Ah, p0.Aj] : List (List UInt8)).length)) (by kernel_rfl) X)) fun D t H => ?_
   refine AZ 26 _ _ H (fun D => .of (GN (by kernel_rfl) (IW encS (HH.row A 0 rfl er1) hq1 (o := 0) rfl))) fun D t H => ?_
   refine Be 1 [(4, .str x3)] 3 H fun D H => ?_
   obtain ⟨x4, X, M⟩ := bind_some M
   obtain ⟨v1, h4, R, rfl, E⟩ := EE (av := [.str x3, Ab 0]) X (A.cut 0)
   replace A := A.De E
   refine Aq 1 [] 28 R H fun D t H => ?_
   refine AL 1 [(29, .bool (decide (x4 ≥ 0)))] H fun D H => AX 29 H M (fun B M H => ?_) fun B M H => ?_
   ·refine AF 1 (AL 1 [(2, Ai 2)] H fun D H => AQ ?_)
    replace A := A.k1 1
    exact nr M fun e => Or.inr (.inl ⟨_, rfl, e, H.ls, A⟩)
   refine FL 2 id (A5 2 [(1, .ptr (some (h.size, 0))), (21, AP (some h1.size) (([p0.Name, p0.Az, p0.Ah, p0.Aj] : List (List UInt8)).length)), (22, Ai (([p0.Name, p0.Az, p0.Ah, p0.Aj] : List (List UInt8)).length : Int)), (23, Ai (i64.wrap (x1 + 1)))] H fun D H => at_nil ?_)
   exact nx M ⟨_, rfl, H.ls, A⟩
  refine Bb (i := 0) (by kernel_rfl) ?_
  replace A := A.k1 1
  exact nr M fun e => .inl ⟨rfl, e, H.ls, A⟩
 clear O
 clear A
 intro e D h5 hQ
 rcases hQ with ⟨rfl, rfl, H, A⟩ | ⟨x2, rfl, rfl, H, A⟩ | hF
 ·show PX cfg 70 g (right (right (GF cfg.P 70))) D h5 _
  refine Fh ?_
  refine Io ?_
  refine BO 7 (AZ 32 _ _ H (fun D => .of (BD (by kernel_rfl) (A.ET 0 rfl (o := 0) (n := 13) ⟨Nat.le_of_ble_eq_true rfl, rfl⟩))) fun D t H => ?_)
  obtain ⟨⟨x5, x6⟩, X, M⟩ := bind_some M
  obtain ⟨v1, h6, R, bqw2, rfl, E⟩ := Jl (av := [.agg (AI p0)]) X (A.cut 0)
  replace A := A.YV E
  refine A0 33 R H fun D t H => ?_
  refine AG 5 [(5, .map (some bqw2)), (6, .bool x6)] H fun D H => at_nil ?_
  show PX cfg 70 g (right (right (right (GF cfg.P 70)))) D h6 _
  refine Fh ?_
  refine Nu 1 [37, 1, 6] [] none ?_
  refine AG 1 [(36, .map (some bqw2))] H fun D H => at_nil ?_
  obtain ⟨o2, O, M⟩ := bind_some M
  refine RA (step := DE) (l := x5) (s0 := x6) (x0 := o2) (enc := fun p => ((fun k : Int => Ai k) p.1, (fun v : List UInt8 => .str v) p.2)) (V := (fun (z1 : Bool) => [(1, .ptr (some (h.size, 0))), (6, .bool z1)])) (Y := (fun (s : Unit) => [])) 0 37 38 40 4 122 3 9 (.tmp 36) A H O (by first | exact HL | (apply HL <;> assumption)) rfl (fun D => by kernel_rfl) (fun D => by kernel_rfl) (fun _ => rfl) (fun _ => rfl) (fun s => by exact (JU.cons (A.Ye 1 rfl _) (JU.cons rfl JU.nil))) (fun s => by exact JU.nil) ?_ ?_ ?_
  ·clear O M H A
   intro pp hpp s x M D h7 it g F A H
   obtain ⟨z1, hzz⟩ : ∃ z, z = s := ⟨_, rfl⟩
   subst hzz
   unfold DE at M
   replace H := H.less [(1, .ptr (some (h.size, 0))), (6, .bool z1), (37, it), (40, .tuple [Ai pp.1, .str pp.2])] (fun D => by kernel_rfl)
   refine XT 4 [(7, Ai pp.1), (8, .str pp.2)] 11 H fun D H => AG 2 [(44, .bool z1)] H fun D H => ?_
   obtain ⟨x7, O, M⟩ := bind_some M
   refine Al 8 (fun N Q => Has N 74 [(1, .ptr (some (h.size, 0))), (37, it), (52, .bool x7)] ∧ HH g Q [] F) ?_ ?_
   ·rcases Ar O with ⟨B, M⟩ | ⟨B, M⟩
    ·replace H := H.kn 44 B
     obtain ⟨x8, X, M⟩ := bind_some M
     obtain ⟨v1, h9, R, rfl, E⟩ := EO (av := []) X (A.cut 0)
     replace A := A.De E
     refine Aq 2 [(46, Ai (pp.2.length : Int))] 47 R H fun D t H => ?_
     obtain ⟨x9, hq2, M⟩ := bind_some M
     refine Ax 1 [] 49 (.agg [Ai x9.from_, Ai x9.D2]) h9 H (fun D => .of (MN (e := Du) (x := x9) Dz [x8.w0, x8.w1, x8.w2, x8.w3, x8.w4, x8.w5, x8.w6, x8.w7, x8.w8, x8.w9, x8.U5, x8.U9] (by kernel_rfl) rfl rfl hq2)) fun D t H => ?_
     refine AG 3 [(52, .bool (decide ((pp.2.length : Int) ≤ x9.D2)))] H fun D H => ?_
     obtain rfl := Ad M
     exact at_nil ⟨H.ls, A⟩
    replace H := H.kn 44 B
    refine AG 8 [(52, .bool false)] H fun D H => ?_
    obtain rfl := Ad M
    exact at_nil ⟨H.ls, A⟩
   clear A
   intro t D h8 hK
   obtain ⟨H, A⟩ := hK
   refine AG 1 [(6, .bool x7)] H fun D H => at_nil ?_
   exact .inl ⟨.inl rfl, _, (Option.some.inj M).symm, H.ls⟩
  ·intro s hs D h10 A H
   subst hs
   obtain ⟨z2, hzz⟩ : ∃ z, z = s := ⟨_, rfl⟩
   subst hzz
   replace H := H.less [(1, .ptr (some (h.size, 0))), (6, .bool z2)] (fun D => by kernel_rfl)
   show PX cfg 70 g (right (right (right (right (GF cfg.P 70))))) D h10 _
   refine Fh ?_
   refine Io ?_
   refine AF 2 (AL 2 [(54, .bool (!z2))] H fun D H => AX 54 H M (fun B M H => ?_) fun B M H => ?_)
   ·refine AF 1 (AL 1 [(2, Ai 12)] H fun D H => AQ ?_)
    obtain rfl := Ad M
    refine ⟨.inl rfl, Ai 12, rH H, ?_⟩
    replace A := A.d0
    exact ⟨rfl, A⟩
   refine F9 ?_
   show PX cfg 70 g (right (right (right (right (right (GF cfg.P 70)))))) D h10 _
   refine Fh ?_
   refine Nu 2 [57] [2] none ?_
   refine AZ 55 _ _ H (fun D => .of (BD (by kernel_rfl) (A.ET 0 rfl (o := 0) (n := 13) ⟨Nat.le_of_ble_eq_true rfl, rfl⟩))) fun D t H => ?_
   obtain ⟨x10, X, M⟩ := bind_some M
   obtain ⟨v1, h11, R, bqw5, rfl, E⟩ := JF (av := [.agg (AI p0)]) X (A.cut 0)
   replace A := A.YV E
   refine A0 56 R H fun D t H => ?_
   refine at_nil ?_
   obtain ⟨o3, O, M⟩ := bind_some M
   refine RA (step := DF) (l := x10) (s0 := ()) (x0 := o3) (enc := fun p => ((fun k : Int => Ai k) p.1, (fun v : Int => Ai v) p.2)) (V := (fun (s : Unit) => [])) (Y := (fun (y1 : Int) => [(2, Ai y1)])) 0 57 58 60 4 129 3 3 (.tmp 56) A H O (by first | exact HO | (apply HO <;> assumption)) rfl (fun D => by kernel_rfl) (fun D => by kernel_rfl) (fun _ => rfl) (fun _ => rfl) (fun s => by exact JU.nil) (fun s => by exact (JU.cons rfl JU.nil)) ?_ ?_ ?_
   ·clear O M H A
    intro pp hpp s x M D h12 it g F A H
    unfold DF at M
    replace H := H.less [(57, it), (60, .tuple [Ai pp.1, Ai pp.2])] (fun D => by kernel_rfl)
    refine Be 4 [(9, Ai pp.1), (10, Ai pp.2)] 11 H fun D H => ?_
    obtain ⟨x11, X, M⟩ := bind_some M
    obtain ⟨v1, h13, R, rfl, E⟩ := EO (av := []) X (A.cut 0)
    replace A := A.De E
    refine Aq 1 [(64, Ai pp.2)] 65 R H fun D t H => ?_
    obtain ⟨x12, hq3, M⟩ := bind_some M
    refine Ax 1 [] 67 (.agg [Ai x12.from_, Ai x12.D2]) h13 H (fun D => .of (MN (e := Du) (x := x12) Dz [x11.w0, x11.w1, x11.w2, x11.w3, x11.w4, x11.w5, x11.w6, x11.w7, x11.w8, x11.w9, x11.U5, x11.U9] (by kernel_rfl) rfl rfl hq3)) fun D t H => ?_
    obtain ⟨⟨x13, x14⟩, X, M⟩ := bind_some M
    obtain ⟨v1, h14, R, rfl, E⟩ := IA (av := [Ai pp.2, Ai x12.D2]) X (A.cut 0)
    replace A := A.De E
    refine Aq 1 [] 69 R H fun D t H => ?_
    refine Be 5 [(12, .bool x14)] 2 H fun D H => AL 2 [(73, .bool (!x14))] H fun D H => AX 73 H M (fun B M H => ?_) fun B M H => ?_
    ·refine AF 1 (AL 1 [(2, Ai 6)] H fun D H => AQ ?_)
     exact .inr ⟨rfl, _, (Option.some.inj M).symm, H.ls⟩
    exact F9 (.inl ⟨.inl rfl, _, (Option.some.inj M).symm, H.ls⟩)
   ·intro s hs D h15 A H
    subst hs
    replace H := H.less [] (fun D => by kernel_rfl)
    show PX cfg 70 g (right (right (right (right (right (right (GF cfg.P 70))))))) D h15 _
    refine Io ?_
    refine AF 1 (AL 1 [(2, Ai 0)] H fun D H => AQ ?_)
    obtain rfl := Ad M
    refine ⟨.inl rfl, Ai 0, rH H, ?_⟩
    replace A := A.d0
    exact ⟨rfl, A⟩
   intro s hs D h16 A H
   subst hs
   obtain ⟨y1, hzz⟩ : ∃ z, z = s := ⟨_, rfl⟩
   subst hzz
   replace H := H.less [(2, Ai y1)] (fun D => by kernel_rfl)
   obtain rfl := Ad M
   refine ⟨.inl rfl, Ai y1, rH H, ?_⟩
   replace A := A.d0
   exact ⟨rfl, A⟩
  intro s hs D R A H
  subst hs
  cases M
 ·obtain rfl := Ad M
  refine ⟨.inl rfl, Ai x2, rH H, ?_⟩
  replace A := A.d0
  exact ⟨rfl, A⟩
 exact hF.elim
def Ch (p0 : List UInt8) (p1 : List UInt8) (p2_10 : AR) (p3 : AK) (p4 : List AA) : Option (AK × (List AA)) :=
 (Fj p3 p2_10).bind fun x1 => (BG x1).bind fun x2 => Aa (x2 == 0) (some (x1, p4)) (BS (Ov 32 (p4.length + ([(⟨p0, p1⟩ : AA)] : List AA).length)) <| some (p3, (p4 ++ ([(⟨p0, p1⟩ : AA)] : List AA))))
theorem It {p0 p1 p2_10 p3 p4 bp2_10 bp3 bp4 rp4_0 u1 u3} (M : Ch p0 p1 p2_10 p3 p4 = some (u1, u3)) (A : HH g h [.obj bp2_10 (.cells none 2 (AE p2_10)), .obj bp3 (.cells none 2 (AI p3)), .obj bp4 (.cells none 2 [AP rp4_0 p4.length]), .Ag rp4_0 117 (Ag AJ p4)] F) (hc : A9 (cfg.still 120) av = [.str p0, .str p1, .func (.func 122) [] [.ptr (some (bp2_10, 0))], .ptr (some (bp3, 0)), .ptr (some (bp4, 0))] := by kernel_rfl) : ∃ v Q, BB cfg g h 120 av v Q ∧ ∃ (r'3 : Option Nat), v = .tuple [] ∧ HH g Q [.obj bp2_10 (.cells none 2 (AE p2_10)), .obj bp3 (.cells none 2 (AI u1)), .obj bp4 (.cells none 2 [AP r'3 u3.length]), .Ag r'3 117 (Ag AJ u3)] F := by
 refine Dj 22 [] hc ?_
 clear hc
 unfold Ch at M
 refine bg 22 [(0, .str p0), (1, .str p1), (2, .func (.func 122) [] [.ptr (some (bp2_10, 0))]), (3, .ptr (some (bp3, 0))), (4, .ptr (some (bp4, 0)))] fun D H => ?_
 refine AF 3 (AZ 9 _ _ H (fun D => .of (BD (by kernel_rfl) (A.ET 1 rfl (o := 0) (n := 13) ⟨Nat.le_of_ble_eq_true rfl, rfl⟩))) fun D t H => ?_)
 obtain ⟨h1, e1, A⟩ := A.pu (.cells none 2 [.str ([] : UV), .str ([] : UV), Ab 0, Ai 0, Ai 0, Ai 0, Ai 0, Ai 0, .str ([] : UV), .str ([] : UV), Ai 0, Ai 0, Ai 0])
 refine BF 8 (.ptr (some (h.size, 0))) e1 H fun D t H => ?_
 obtain ⟨h2, X, A⟩ := A.s0 0 (AI p3) [_, _, _, _, _, _, _, _, _, _, _, _, _]
 refine DG X H fun D t H => ?_
 refine BK id (AN (AF 2 ?_))
 obtain ⟨x1, X, M⟩ := bind_some M
 obtain ⟨v1, h3, R, rfl, E⟩ := LI (av := [.ptr (some (h.size, 0)), .ptr (some (bp2_10, 0))]) X (A.cut 2)
 replace A := A.g22 E
 refine Em 1 [] R H fun D t H => ?_
 refine CT 3 id (AZ 12 _ _ H (fun D => .of (BD (by kernel_rfl) (A.ET 0 rfl (o := 0) (n := 13) ⟨Nat.le_of_ble_eq_true rfl, rfl⟩))) fun D t H => ?_)
 obtain ⟨x2, X, M⟩ := bind_some M
 obtain ⟨v1, h4, R, rfl, E⟩ := Ct (av := [.agg (AI x1)]) X (A.cut 0)
 replace A := A.De E
 refine A0 13 R H fun D t H => ?_
 refine AL 1 [(14, .bool (x2 == 0))] H fun D H => AX 14 H M (fun B M H => ?_) fun B M H => ?_
 ·refine AF 2 (AZ 15 _ _ H (fun D => .of (BD (by kernel_rfl) (A.ET 0 rfl (o := 0) (n := 13) ⟨Nat.le_of_ble_eq_true rfl, rfl⟩))) fun D t H => ?_)
  obtain ⟨h5, X, A⟩ := A.s2 0 (AI x1) [_, _, _, _, _, _, _, _, _, _, _, _, _]
  refine DG X H fun D t H => ?_
  refine BK id (AQ ?_)
  obtain ⟨rfl, rfl⟩ := Bn M
  refine ⟨.inl rfl, .tuple [], rH H, ?_⟩
  replace A := A.k4 1 2 3 4
  exact ⟨rp4_0, rfl, A⟩
 refine FL 7 id (NO 16 3 0 A H fun D t H => ?_)
 refine AG 3 [(19, .agg [.str p0, .str p1])] H fun D H => ?_
 obtain ⟨h6, e2, A⟩ := A.pL 117 [.str p0, .str p1]
 refine BF 20 (AP (some h4.size) (([(⟨p0, p1⟩ : AA)] : List AA).length)) e2 H fun D t H => ?_
 obtain ⟨B, M⟩ := AO M
 obtain ⟨r1, h7, X, E⟩ := HH.Ju AS (by decide) A 5 (xs := p4) (ys := ([(⟨p0, p1⟩ : AA)] : List AA)) rfl (Dr A 0 rfl (n := ([(⟨p0, p1⟩ : AA)] : List AA).length) (z := 2) rfl (by decide)) rfl rfl B
 replace A : HH g h7 [.Ag (some h4.size) 117 ([.str p0, .str p1]), _, _, _, _, .Ag r1 117 (Ag AJ (p4 ++ ([(⟨p0, p1⟩ : AA)] : List AA)))] F := E
 replace A := A.k5 1 2 3 4 5
 refine AZ 21 _ _ H (fun D => .of (GY (s := DT rp4_0 p4.length) (by kernel_rfl) X)) fun D t H => ?_
 obtain ⟨h8, X, E⟩ := A.st 3 rfl (o := 0) (new := [AP r1 ((p4 ++ ([(⟨p0, p1⟩ : AA)] : List AA)).length)]) (ds := [AP r1 ((p4 ++ ([(⟨p0, p1⟩ : AA)] : List AA)).length)]) (Nat.le_of_ble_eq_true rfl) rfl rfl
 replace A : HH g h8 [_, _, _, .obj bp4 (.cells none 2 [AP r1 ((p4 ++ ([(⟨p0, p1⟩ : AA)] : List AA)).length)]), _] F := E
 refine KY X H fun D t H => ?_
 refine at_nil ?_
 obtain ⟨rfl, rfl⟩ := Bn M
 refine ⟨.inr rfl, .tuple [], rH H, ?_⟩
 replace A := A.k4 1 2 3 4
 exact ⟨r1, rfl, A⟩
def CC (p0 : List UInt8) (p1 : List UInt8) (p2_10 : AR) (p3 : AK) (p4 : List AA) : Option (AK × (List AA)) :=
 (Fm p3 p2_10).bind fun x1 => (BG x1).bind fun x2 => Aa (x2 == 0) (some (x1, p4)) (BS (Ov 32 (p4.length + ([(⟨p0, p1⟩ : AA)] : List AA).length)) <| some (p3, (p4 ++ ([(⟨p0, p1⟩ : AA)] : List AA))))
theorem Hn {p0 p1 p2_10 p3 p4 bp2_10 bp3 bp4 rp4_0 u1 u3} (M : CC p0 p1 p2_10 p3 p4 = some (u1, u3)) (A : HH g h [.obj bp2_10 (.cells none 2 (AE p2_10)), .obj bp3 (.cells none 2 (AI p3)), .obj bp4 (.cells none 2 [AP rp4_0 p4.length]), .Ag rp4_0 117 (Ag AJ p4)] F) (hc : A9 (cfg.still 120) av = [.str p0, .str p1, .func (.func 123) [] [.ptr (some (bp2_10, 0))], .ptr (some (bp3, 0)), .ptr (some (bp4, 0))] := by kernel_rfl) : ∃ v Q, BB cfg g h 120 av v Q ∧ ∃ (r'3 : Option Nat), v = .tuple [] ∧ HH g Q [.obj bp2_10 (.cells none 2 (AE p2_10)), .obj bp3 (.cells none 2 (AI u1)), .obj bp4 (.cells none 2 [AP r'3 u3.length]), .Ag r'3 117 (Ag AJ u3)] F := by
 refine Dj 22 [] hc ?_
 clear hc
 unfold CC at M
 refine bg 22 [(0, .str p0), (1, .str p1), (2, .func (.func 123) [] [.ptr (some (bp2_10, 0))]), (3, .ptr (some (bp3, 0))), (4, .ptr (some (bp4, 0)))] fun D H => ?_
 refine AF 3 (AZ 9 _ _ H (fun D => .of (BD (by kernel_rfl) (A.ET 1 rfl (o := 0) (n := 13) ⟨Nat.le_of_ble_eq_true rfl, rfl⟩))) fun D t H => ?_)
 obtain ⟨h1, e1, A⟩ := A.pu (.cells none 2 [.str ([] : UV), .str ([] : UV), Ab 0, Ai 0, Ai 0, Ai 0, Ai 0, Ai 0, .str ([] : UV), .str ([] : UV), Ai 0, Ai 0, Ai 0])
 refine BF 8 (.ptr (some (h.size, 0))) e1 H fun D t H => ?_
 obtain ⟨h2, X, A⟩ := A.s0 0 (AI p3) [_, _, _, _, _, _, _, _, _, _, _, _, _]
 refine DG X H fun D t H => ?_
 refine BK id (AN (AF 2 ?_))
 obtain ⟨x1, X, M⟩ := bind_some M
 obtain ⟨v1, h3, R, rfl, E⟩ := LG (av := [.ptr (some (h.size, 0)), .ptr (some (bp2_10, 0))]) X (A.cut 2)
 replace A := A.g22 E
 refine Em 1 [] R H fun D t H => ?_
 refine CT 3 id (AZ 12 _ _ H (fun D => .of (BD (by kernel_rfl) (A.ET 0 rfl (o := 0) (n := 13) ⟨Nat.le_of_ble_eq_true rfl, rfl⟩))) fun D t H => ?_)
 obtain ⟨x2, X, M⟩ := bind_some M
 obtain ⟨v1, h4, R, rfl, E⟩ := Ct (av := [.agg (AI x1)]) X (A.cut 0)
 replace A := A.De E
 refine A0 13 R H fun D t H => ?_
 refine AL 1 [(14, .bool (x2 == 0))] H fun D H => AX 14 H M (fun B M H => ?_) fun B M H => ?_
 ·refine AF 2 (AZ 15 _ _ H (fun D => .of (BD (by kernel_rfl) (A.ET 0 rfl (o := 0) (n := 13) ⟨Nat.le_of_ble_eq_true rfl, rfl⟩))) fun D t H => ?_)
  obtain ⟨h5, X, A⟩ := A.s2 0 (AI x1) [_, _, _, _, _, _, _, _, _, _, _, _, _]
  refine DG X H fun D t H => ?_
  refine BK id (AQ ?_)
  obtain ⟨rfl, rfl⟩ := Bn M
  refine ⟨.inl rfl, .tuple [], rH H, ?_⟩
  replace A := A.k4 1 2 3 4
  exact ⟨rp4_0, rfl, A⟩
 refine FL 7 id (NO 16 3 0 A H fun D t H => ?_)
 refine AG 3 [(19, .agg [.str p0, .str p1])] H fun D H => ?_
 obtain ⟨h6, e2, A⟩ := A.pL 117 [.str p0, .str p1]
 refine BF 20 (AP (some h4.size) (([(⟨p0, p1⟩ : AA)] : List AA).length)) e2 H fun D t H => ?_
 obtain ⟨B, M⟩ := AO M
 obtain ⟨r1, h7, X, E⟩ := HH.Ju AS (by decide) A 5 (xs := p4) (ys := ([(⟨p0, p1⟩ : AA)] : List AA)) rfl (Dr A 0 rfl (n := ([(⟨p0, p1⟩ : AA)] : List AA).length) (z := 2) rfl (by decide)) rfl rfl B
 replace A : HH g h7 [.Ag (some h4.size) 117 ([.str p0, .str p1]), _, _, _, _, .Ag r1 117 (Ag AJ (p4 ++ ([(⟨p0, p1⟩ : AA)] : List AA)))] F := E
 replace A := A.k5 1 2 3 4 5
 refine AZ 21 _ _ H (fun D => .of (GY (s := DT rp4_0 p4.length) (by kernel_rfl) X)) fun D t H => ?_
 obtain ⟨h8, X, E⟩ := A.st 3 rfl (o := 0) (new := [AP r1 ((p4 ++ ([(⟨p0, p1⟩ : AA)] : List AA)).length)]) (ds := [AP r1 ((p4 ++ ([(⟨p0, p1⟩ : AA)] : List AA)).length)]) (Nat.le_of_ble_eq_true rfl) rfl rfl
 replace A : HH g h8 [_, _, _, .obj bp4 (.cells none 2 [AP r1 ((p4 ++ ([(⟨p0, p1⟩ : AA)] : List AA)).length)]), _] F := E
 refine KY X H fun D t H => ?_
 refine at_nil ?_
 obtain ⟨rfl, rfl⟩ := Bn M
 refine ⟨.inr rfl, .tuple [], rH H, ?_⟩
 replace A := A.k4 1 2 3 4
 exact ⟨r1, rfl, A⟩
def Fs (p0 : AK) (p1 : AR) : Option (AK) :=
 some (⟨p0.Name, p1.Az, p0.Kind, p0.Mode, p0.Br, p0.CH, p0.Eu, p0.Time, p0.Ah, p0.Aj, p0.An, p0.A2, p0.Form⟩ : AK)
theorem LC {p0 p1 bp0 bp1 u0} (M : Fs p0 p1 = some u0) (A : HH g h [.obj bp0 (.cells none 2 (AI p0)), .obj bp1 (.cells none 2 (AE p1))] F) (hc : A9 (cfg.still 124) av = [.ptr (some (bp0, 0)), .ptr (some (bp1, 0))] := by kernel_rfl) : ∃ v Q, BB cfg g h 124 av v Q ∧ v = .tuple [] ∧ HH g Q [.obj bp0 (.cells none 2 (AI u0)), .obj bp1 (.cells none 2 (AE p1))] F := by
 refine Dj 8 [] hc ?_
 clear hc
 unfold Fs at M
 refine bg 8 [(0, .ptr (some (bp0, 0))), (1, .ptr (some (bp1, 0)))] fun D H => ?_
 refine BO 6 (AV 2 [(3, .ptr (some (bp0, 0)))] 5 1 1 A H fun D t H => ?_)
 obtain ⟨h1, X, A⟩ := A.s0 1 [.str p1.Az] [_, _, _, _, _, _, _, _, _, _, _, _, _]
 refine CO 2 [] X H fun D t H => ?_
 refine at_nil ?_
 obtain rfl := Ad M
 refine ⟨.inr rfl, .tuple [], rH H, ?_⟩
 exact ⟨rfl, A⟩
def CD (p0 : List UInt8) (p1 : List UInt8) (p2_10 : AR) (p3 : AK) (p4 : List AA) : Option (AK × (List AA)) :=
 (Fs p3 p2_10).bind fun x1 => (BG x1).bind fun x2 => Aa (x2 == 0) (some (x1, p4)) (BS (Ov 32 (p4.length + ([(⟨p0, p1⟩ : AA)] : List AA).length)) <| some (p3, (p4 ++ ([(⟨p0, p1⟩ : AA)] : List AA))))
theorem H9 {p0 p1 p2_10 p3 p4 bp2_10 bp3 bp4 rp4_0 u1 u3} (M : CD p0 p1 p2_10 p3 p4 = some (u1, u3)) (A : HH g h [.obj bp2_10 (.cells none 2 (AE p2_10)), .obj bp3 (.cells none 2 (AI p3)), .obj bp4 (.cells none 2 [AP rp4_0 p4.length]), .Ag rp4_0 117 (Ag AJ p4)] F) (hc : A9 (cfg.still 120) av = [.str p0, .str p1, .func (.func 124) [] [.ptr (some (bp2_10, 0))], .ptr (some (bp3, 0)), .ptr (some (bp4, 0))] := by kernel_rfl) : ∃ v Q, BB cfg g h 120 av v Q ∧ ∃ (r'3 : Option Nat), v = .tuple [] ∧ HH g Q [.obj bp2_10 (.cells none 2 (AE p2_10)), .obj bp3 (.cells none 2 (AI u1)), .obj bp4 (.cells none 2 [AP r'3 u3.length]), .Ag r'3 117 (Ag AJ u3)] F := by
 refine Dj 22 [] hc ?_
 clear hc
 unfold CD at M
 refine bg 22 [(0, .str p0), (1, .str p1), (2, .func (.func 124) [] [.ptr (some (bp2_10, 0))]), (3, .ptr (some (bp3, 0))), (4, .ptr (some (bp4, 0)))] fun D H => ?_
 refine AF 3 (AZ 9 _ _ H (fun D => .of (BD (by kernel_rfl) (A.ET 1 rfl (o := 0) (n := 13) ⟨Nat.le_of_ble_eq_true rfl, rfl⟩))) fun D t H => ?_)
 obtain ⟨h1, e1, A⟩ := A.pu (.cells none 2 [.str ([] : UV), .str ([] : UV), Ab 0, Ai 0, Ai 0, Ai 0, Ai 0, Ai 0, .str ([] : UV), .str ([] : UV), Ai 0, Ai 0, Ai 0])
 refine BF 8 (.ptr (some (h.size, 0))) e1 H fun D t H => ?_
 obtain ⟨h2, X, A⟩ := A.s0 0 (AI p3) [_, _, _, _, _, _, _, _, _, _, _, _, _]
 refine DG X H fun D t H => ?_
 refine BK id (AN (AF 2 ?_))
 obtain ⟨x1, X, M⟩ := bind_some M
 obtain ⟨v1, h3, R, rfl, E⟩ := LC (av := [.ptr (some (h.size, 0)), .ptr (some (bp2_10, 0))]) X (A.cut 2)
 replace A := A.g22 E
 refine Em 1 [] R H fun D t H => ?_
 refine CT 3 id (AZ 12 _ _ H (fun D => .of (BD (by kernel_rfl) (A.ET 0 rfl (o := 0) (n := 13) ⟨Nat.le_of_ble_eq_true rfl, rfl⟩))) fun D t H => ?_)
 obtain ⟨x2, X, M⟩ := bind_some M
 obtain ⟨v1, h4, R, rfl, E⟩ := Ct (av := [.agg (AI x1)]) X (A.cut 0)
 replace A := A.De E
 refine A0 13 R H fun D t H => ?_
 refine AL 1 [(14, .bool (x2 == 0))] H fun D H => AX 14 H M (fun B M H => ?_) fun B M H => ?_
 ·refine AF 2 (AZ 15 _ _ H (fun D => .of (BD (by kernel_rfl) (A.ET 0 rfl (o := 0) (n := 13) ⟨Nat.le_of_ble_eq_true rfl, rfl⟩))) fun D t H => ?_)
  obtain ⟨h5, X, A⟩ := A.s2 0 (AI x1) [_, _, _, _, _, _, _, _, _, _, _, _, _]
  refine DG X H fun D t H => ?_
  refine BK id (AQ ?_)
  obtain ⟨rfl, rfl⟩ := Bn M
  refine ⟨.inl rfl, .tuple [], rH H, ?_⟩
  replace A := A.k4 1 2 3 4
  exact ⟨rp4_0, rfl, A⟩
 refine FL 7 id (NO 16 3 0 A H fun D t H => ?_)
 refine AG 3 [(19, .agg [.str p0, .str p1])] H fun D H => ?_
 obtain ⟨h6, e2, A⟩ := A.pL 117 [.str p0, .str p1]
 refine BF 20 (AP (some h4.size) (([(⟨p0, p1⟩ : AA)] : List AA).length)) e2 H fun D t H => ?_
 obtain ⟨B, M⟩ := AO M
 obtain ⟨r1, h7, X, E⟩ := HH.Ju AS (by decide) A 5 (xs := p4) (ys := ([(⟨p0, p1⟩ : AA)] : List AA)) rfl (Dr A 0 rfl (n := ([(⟨p0, p1⟩ : AA)] : List AA).length) (z := 2) rfl (by decide)) rfl rfl B
 replace A : HH g h7 [.Ag (some h4.size) 117 ([.str p0, .str p1]), _, _, _, _, .Ag r1 117 (Ag AJ (p4 ++ ([(⟨p0, p1⟩ : AA)] : List AA)))] F := E
 replace A := A.k5 1 2 3 4 5
 refine AZ 21 _ _ H (fun D => .of (GY (s := DT rp4_0 p4.length) (by kernel_rfl) X)) fun D t H => ?_
 obtain ⟨h8, X, E⟩ := A.st 3 rfl (o := 0) (new := [AP r1 ((p4 ++ ([(⟨p0, p1⟩ : AA)] : List AA)).length)]) (ds := [AP r1 ((p4 ++ ([(⟨p0, p1⟩ : AA)] : List AA)).length)]) (Nat.le_of_ble_eq_true rfl) rfl rfl
 replace A : HH g h8 [_, _, _, .obj bp4 (.cells none 2 [AP r1 ((p4 ++ ([(⟨p0, p1⟩ : AA)] : List AA)).length)]), _] F := E
 refine KY X H fun D t H => ?_
 refine at_nil ?_
 obtain ⟨rfl, rfl⟩ := Bn M
 refine ⟨.inr rfl, .tuple [], rH H, ?_⟩
 replace A := A.k4 1 2 3 4
 exact ⟨r1, rfl, A⟩
def GH (p0 : BZ) : Option (BZ) :=
 Aa (p0.BV == 0) (some (⟨i64.wrap (0 - p0.Cn), (0 : Int)⟩ : BZ)) (some (⟨i64.wrap ((i64.wrap (0 - p0.Cn)) - 1), i64.wrap ((1000000000 : Int) - p0.BV)⟩ : BZ))
theorem O2 {p0 q0} (M : GH p0 = some q0) (A : HH g h [] F) (hc : A9 (cfg.still 176) av = [.agg [Ai p0.Cn, Ai p0.BV]] := by kernel_rfl) : ∃ v Q, BB cfg g h 176 av v Q ∧ v = .agg [Ai q0.Cn, Ai q0.BV] ∧ HH g Q [] F := by
 refine Dj 18 [.cell 2 23] hc ?_
 clear hc
 unfold GH at M
 refine bg 18 [(0, .agg [Ai p0.Cn, Ai p0.BV])] fun D H => ?_
 refine AF 2 ?_
 obtain ⟨h1, e1, A⟩ := A.pu (.cells none 2 [Ai p0.Cn, Ai p0.BV])
 refine BF 1 (.ptr (some (h.size, 0))) e1 H fun D t H => ?_
 obtain ⟨h2, e2, A⟩ := A.pu (.cells none 2 [Ai 0, Ai 0])
 refine BF 2 (.ptr (some (h1.size, 0))) e2 H fun D t H => ?_
 refine BK id (AN (AF 3 (AV 1 [] 4 1 1 A H fun D t H => ?_)))
 refine AL 1 [(5, .bool (p0.BV == 0))] H fun D H => AX 5 H M (fun B M H => ?_) fun B M H => ?_
 ·refine AF 5 (AV 1 [] 7 1 0 A H fun D t H => ?_)
  obtain ⟨h3, X, E⟩ := A.st 0 rfl (o := 0) (new := [Ai (i64.wrap (0 - p0.Cn)), Ai 0]) (ds := [Ai (i64.wrap (0 - p0.Cn)), Ai 0]) (Nat.le_of_ble_eq_true rfl) rfl rfl
  replace A : HH g h3 [.obj h1.size (.cells none 2 [Ai (i64.wrap (0 - p0.Cn)), Ai 0]), .obj h.size (.cells none 2 [Ai p0.Cn, Ai p0.BV])] F := E
  refine JI 2 [] X H fun D t H => ?_
  refine BK id (AQ ?_)
  obtain rfl := Ad M
  refine ⟨.inl rfl, .agg [Ai (i64.wrap (0 - p0.Cn)), Ai 0], L1 (.cell (rT H) (C7 (by kernel_rfl) (by kernel_rfl) (A.la 0 0 2)) .nil), ?_⟩
  replace A := A.d0
  exact ⟨rfl, A⟩
 refine Bs 9 id (AV 1 [] 11 1 0 A H fun D t H => ?_)
 refine AV 3 [(13, Ai (i64.wrap ((i64.wrap (0 - p0.Cn)) - 1)))] 15 1 1 A H fun D t H => ?_
 obtain ⟨h4, X, E⟩ := A.st 0 rfl (o := 0) (new := [Ai (i64.wrap ((i64.wrap (0 - p0.Cn)) - 1)), Ai (i64.wrap ((1000000000 : Int) - p0.BV))]) (ds := [Ai (i64.wrap ((i64.wrap (0 - p0.Cn)) - 1)), Ai (i64.wrap ((1000000000 : Int) - p0.BV))]) (Nat.le_of_ble_eq_true rfl) rfl rfl
 replace A : HH g h4 [.obj h1.size (.cells none 2 [Ai (i64.wrap ((i64.wrap (0 - p0.Cn)) - 1)), Ai (i64.wrap ((1000000000 : Int) - p0.BV))]), .obj h.size (.cells none 2 [Ai p0.Cn, Ai p0.BV])] F := E
 refine JI 2 [] X H fun D t H => ?_
 refine BK id (AQ ?_)
 obtain rfl := Ad M
 refine ⟨.inl rfl, .agg [Ai (i64.wrap ((i64.wrap (0 - p0.Cn)) - 1)), Ai (i64.wrap ((1000000000 : Int) - p0.BV))], L1 (.cell (rT H) (C7 (by kernel_rfl) (by kernel_rfl) (A.la 0 0 2)) .nil), ?_⟩
 replace A := A.d0
 exact ⟨rfl, A⟩
def D3 (p1 : Int) (s : (List UInt8)) : Option (((List UInt8)) ⊕ (((List UInt8)))) :=
 match s with
 | x1 => (Aa (decide ((x1.length : Int) > 0)) ((MZ x1 (i64.wrap ((x1.length : Int) - 1))).bind fun x4 => some (x4 == p1)) (some false) : Option (Bool)).bind fun x3 => Aa x3 ((D7 x1 none (some (i64.wrap ((x1.length : Int) - 1)))).bind fun x5 => some (.inl x5)) (some (.inr x1))
def DX (p0 : List UInt8) (p1 : Int) : Option ((List UInt8)) :=
 (loop (D3 p1) p0).bind fun x2 => some x2
theorem Im {p0 p1 q0} (M : DX p0 p1 = some q0) (A : HH g h [] F) (hc : A9 (cfg.still 215) av = [.str p0, Ab p1] := by kernel_rfl) : ∃ v Q, BB cfg g h 215 av v Q ∧ v = .str q0 ∧ HH g Q [] F := by
 refine Dj 23 [.tmp 4] hc ?_
 clear hc
 unfold DX at M
 refine bg 23 [(0, .str p0), (1, Ab p1)] fun D H => ?_
 refine AF 1 (AL 1 [] H fun D H => AN (Ae (id := 0) (by kernel_rfl) ?_))
 obtain ⟨o1, O, M⟩ := bind_some M
 refine Ao (Q' := fun e N Q => (∃ x2, e = .exit 0 ∧ x2 = o1 ∧ Has N 23 [(0, .str x2)] ∧ HH g Q [] F) ∨ False) ?_ ?_
 ·refine Bc (by kernel_rfl) (fun (s : (List UInt8)) N Q => ∃ x1, x1 = s ∧ Has N 23 [(0, .str x1), (1, Ab p1)] ∧ HH g Q [] F) O ⟨_, rfl, H.ls, A⟩ ?_
  clear O M H A
  intro s q D h1 hI M
  obtain ⟨x1, rfl, H, A⟩ := hI
  unfold D3 at M
  refine AN (AF 12 (AG 4 [(8, .bool (decide ((x1.length : Int) > 0)))] H fun D H => ?_))
  obtain ⟨x3, O, M⟩ := bind_some M
  refine Al 8 (fun N Q => Has N 23 [(0, .str x1), (1, Ab p1), (16, .bool x3)] ∧ HH g Q [] F) ?_ ?_
  ·rcases Ar O with ⟨B, M⟩ | ⟨B, M⟩
   ·replace H := H.kn 8 B
    obtain ⟨x4, X, M⟩ := bind_some M
    refine Ax 4 [] 13 (Ab x4) h1 H (fun D => .of (FK (by kernel_rfl) X)) fun D t H => ?_
    refine AG 3 [(16, .bool (x4 == p1))] H fun D H => ?_
    obtain rfl := Ad M
    exact at_nil ⟨H.ls, A⟩
   replace H := H.kn 8 B
   refine AG 8 [(16, .bool false)] H fun D H => ?_
   obtain rfl := Ad M
   exact at_nil ⟨H.ls, A⟩
  clear A
  intro t D h2 hK
  obtain ⟨H, A⟩ := hK
  refine BK id (AX 16 H M (fun B M H => ?_) fun B M H => ?_)
  ·refine Bl id (Ae (id := 1) (by kernel_rfl) ?_)
   refine BO 6 ?_
   obtain ⟨x5, X, M⟩ := bind_some M
   refine Ax 4 [] 21 (.str x5) h2 H (fun D => .of (Cs (k := .i64) (k' := .i64) (lo := none) (hi := (some (i64.wrap ((x1.length : Int) - 1)))) (by kernel_rfl) X)) fun D t H => ?_
   refine A5 1 [(0, .str x5), (1, Ab p1)] H fun D H => at_nil ?_
   exact nx M ⟨_, rfl, H.ls, A⟩
  refine Bb (i := 0) (by kernel_rfl) ?_
  exact nr M fun e => .inl ⟨_, rfl, e, H.ls, A⟩
 clear O
 clear A
 intro e D h3 hQ
 rcases hQ with ⟨x2, rfl, rfl, H, A⟩ | hF
 ·show AW _ _ _ _ _ _ _
  refine AF 2 (AL 2 [(4, .str x2)] H fun D H => AQ ?_)
  obtain rfl := Ad M
  exact ⟨.inl rfl, _, rH H, rfl, A⟩
 exact hF.elim
def Ce (p0 : List UInt8) : Option ((List UInt8)) :=
 Aa ((p0 == ([] : UV)) || (([48] : UV) == ([] : UV))) (some p0) ((DX p0 (48 : Int)).bind fun x1 => some x1)
theorem Is {p0 q0} (M : Ce p0 = some q0) (A : HH g h [] F) (hc : A9 (cfg.still 177) av = [.str p0, .str ([48] : UV)] := by kernel_rfl) : ∃ v Q, BB cfg g h 177 av v Q ∧ v = .str q0 ∧ HH g Q [] F := by
 refine Dj 37 [.tmp 4] hc ?_
 clear hc
 unfold Ce at M
 refine bg 37 [(0, .str p0), (1, .str ([48] : UV))] fun D H => ?_
 refine AF 1 (AL 1 [] H fun D H => AN (AF 6 (AG 3 [(9, .bool (p0 == ([] : UV)))] H fun D H => Al 3 (fun N Q => h = Q ∧ Has N 37 [(0, .str p0), (1, .str ([48] : UV)), (12, .bool ((p0 == ([] : UV)) || (([48] : UV) == ([] : UV))))]) ?_ ?_)))
 ·cases B : (p0 == ([] : UV) : Bool) with
  | true =>
   replace H := H.kn 9 B
   exact AG 3 [(12, .bool true)] H fun D H => Ac H B
  | false =>
   replace H := H.kn 9 B
   exact AG 3 [(12, .bool (([48] : UV) == ([] : UV)))] H fun D H => Ac H B
 intro t D Q hK
 obtain ⟨e, H⟩ := hK
 subst e
 refine BK id (AX 12 H M (fun B M H => ?_) fun B M H => ?_)
 ·refine AF 2 (AL 2 [(4, .str p0)] H fun D H => AQ ?_)
  obtain rfl := Ad M
  exact ⟨.inl rfl, _, rH H, rfl, A⟩
 refine Bl id (AN (AF 8 (AL 8 [(21, .bool true)] H fun D H => GS (x := .tmp 21) (by kernel_rfl) H (fun D => by kernel_rfl) ?_)))
 refine AF 5 ?_
 obtain ⟨x1, X, M⟩ := bind_some M
 obtain ⟨v1, h1, R, rfl, E⟩ := Im (av := [.str p0, Ab 48]) X (A.cut 0)
 replace A := A.De E
 refine Aq 3 [] 25 R H fun D t H => ?_
 refine AL 1 [(4, .str x1)] H fun D H => AQ ?_
 obtain rfl := Ad M
 exact ⟨.inl rfl, _, rH H, rfl, A⟩
def EJ (p0 : BZ) : Option ((List UInt8) × Int) :=
 (EK p0).bind fun x1 => Aa (!x1) (some (([] : UV), (1 : Int))) ((Aa (decide (p0.Cn < 0)) ((GH p0).bind fun x5 => some (x5.Cn, x5.BV, ([45] : UV))) (some (p0.Cn, p0.BV, ([] : UV))) : Option ((Int × Int × (List UInt8)))).bind fun (x2, x3, x4) => BS (decide (-9223372036854775808 ≤ x2 ∧ x2 ≤ 9223372036854775807)) <| BS (decide (x4.length + (Lib.itoa x2).length ≤ 9223372036854775807)) <| Aa (x3 == 0) (some (x4 ++ (Lib.itoa x2), (0 : Int))) (BS (decide (-9223372036854775808 ≤ i64.wrap ((1000000000 : Int) + x3) ∧ i64.wrap ((1000000000 : Int) + x3) ≤ 9223372036854775807)) <| (D7 (Lib.itoa (i64.wrap ((1000000000 : Int) + x3))) (some (1 : Int)) none).bind fun x6 => BS (decide ((x4 ++ (Lib.itoa x2)).length + ([46] : UV).length ≤ 9223372036854775807)) <| (Ce x6).bind fun x7 => BS (decide (((x4 ++ (Lib.itoa x2)) ++ ([46] : UV)).length + x7.length ≤ 9223372036854775807)) <| some (((x4 ++ (Lib.itoa x2)) ++ ([46] : UV)) ++ x7, (0 : Int))))
theorem PD {p0 q0 q1} (M : EJ p0 = some (q0, q1)) (A : HH g h [] F) (hc : A9 (cfg.still 125) av = [.agg [Ai p0.Cn, Ai p0.BV]] := by kernel_rfl) : ∃ v Q, BB cfg g h 125 av v Q ∧ v = .tuple [.str q0, Ai q1] ∧ HH g Q [] F := by
 refine Dj 34 [.tmp 2, .tmp 3] hc ?_
 clear hc
 unfold EJ at M
 refine bg 34 [(0, .agg [Ai p0.Cn, Ai p0.BV])] fun D H => ?_
 refine AF 3 ?_
 obtain ⟨h1, e1, A⟩ := A.pu (.cells none 2 [Ai p0.Cn, Ai p0.BV])
 refine BF 1 (.ptr (some (h.size, 0))) e1 H fun D t H => ?_
 refine AL 2 [] H fun D H => AN (AF 3 (AZ 7 _ _ H (fun D => .of (BD (by kernel_rfl) (A.ET 0 rfl (o := 0) (n := 2) ⟨Nat.le_of_ble_eq_true rfl, rfl⟩))) fun D t H => ?_))
 obtain ⟨x1, X, M⟩ := bind_some M
 obtain ⟨v1, h2, R, rfl, E⟩ := Ko (av := [.agg [Ai p0.Cn, Ai p0.BV]]) X (A.cut 0)
 replace A : HH g h2 [.obj h.size (.cells none 2 [Ai p0.Cn, Ai p0.BV])] F := A.GC (n := 0) E
 refine A0 8 R H fun D t H => ?_
 refine AL 1 [(9, .bool (!x1))] H fun D H => AX 9 H M (fun B M H => ?_) fun B M H => ?_
 ·refine AF 2 (AL 2 [(2, .str ([] : UV)), (3, Ai 1)] H fun D H => AQ ?_)
  obtain ⟨rfl, rfl⟩ := Bn M
  refine ⟨.inl rfl, .tuple [.str ([] : UV), Ai 1], rH H, ?_⟩
  replace A := A.d0
  exact ⟨rfl, A⟩
 refine Bs 1 id (AL 1 [(4, .str ([] : UV))] H fun D H => AN ?_)
 obtain ⟨o1, O, M⟩ := bind_some M
 refine Ao (Q' := fun e N Q => (∃ x2 x3 x4, e = .normal ∧ (x2, x3, x4) = o1 ∧ Has N 34 [(1, .ptr (some (h.size, 0))), (4, .str x4)] ∧ HH g Q [.obj h.size (.cells none 2 [Ai x2, Ai x3])] F) ∨ False) ?_ ?_
 ·replace M := O
  clear O
  refine AF 3 (AV 1 [] 11 0 0 A H fun D t H => ?_)
  refine AL 1 [(12, .bool (decide (p0.Cn < 0)))] H fun D H => AX 12 H M (fun B M H => ?_) fun B M H => ?_
  ·refine BO 4 (AZ 13 _ _ H (fun D => .of (BD (by kernel_rfl) (A.ET 0 rfl (o := 0) (n := 2) ⟨Nat.le_of_ble_eq_true rfl, rfl⟩))) fun D t H => ?_)
   obtain ⟨x5, X, M⟩ := bind_some M
   obtain ⟨v1, h3, R, rfl, E⟩ := O2 (av := [.agg [Ai p0.Cn, Ai p0.BV]]) X (A.cut 0)
   replace A := A.De E
   refine A0 14 R H fun D t H => ?_
   refine A5 1 [(1, .ptr (some (h.size, 0))), (4, .str ([45] : UV)), (14, .agg [Ai x5.Cn, Ai x5.BV])] H fun D H => ?_
   obtain ⟨h4, X, A⟩ := A.s0 0 [Ai x5.Cn, Ai x5.BV] [_, _]
   refine DG X H fun D t H => ?_
   refine at_nil ?_
   exact .inl ⟨_, _, _, rfl, Ad M, H.ls, A⟩
  exact F9 (.inl ⟨_, _, _, rfl, Ad M, H.ls, A⟩)
 clear O
 clear A
 intro e D h5 hQ
 rcases hQ with ⟨x2, x3, x4, rfl, rfl, H, A⟩ | hF
 ·show AW _ _ _ _ _ _ _
  refine AF 6 (AV 2 [(15, .str x4)] 17 0 0 A H fun D t H => ?_)
  obtain ⟨B, M⟩ := AO M
  refine AZ 18 (.str (Lib.itoa x2)) h5 H (fun D => Steps.call (by kernel_rfl) (Hx (C := cfg) (f := 121) (by kernel_rfl) (l := exts) rfl (by kernel_rfl) B)) fun D t H => ?_
  obtain ⟨B, M⟩ := AO M
  refine AZ 19 (.str (x4 ++ (Lib.itoa x2))) h5 H (fun D => .of (B1 (by kernel_rfl) B)) fun D t H => ?_
  refine AL 1 [(5, .str (x4 ++ (Lib.itoa x2)))] H fun D H => AN (AF 3 (AV 1 [] 21 0 1 A H fun D t H => ?_))
  refine AL 1 [(22, .bool (x3 == 0))] H fun D H => AX 22 H M (fun B M H => ?_) fun B M H => ?_
  ·refine AF 3 (AL 3 [(2, .str (x4 ++ (Lib.itoa x2))), (3, Ai 0)] H fun D H => AQ ?_)
   obtain ⟨rfl, rfl⟩ := Bn M
   refine ⟨.inl rfl, .tuple [.str (x4 ++ (Lib.itoa x2)), Ai 0], rH H, ?_⟩
   replace A := A.d0
   exact ⟨rfl, A⟩
  refine Bs 6 id (AV 1 [] 25 0 1 A H fun D t H => ?_)
  obtain ⟨B, M⟩ := AO M
  refine Ax 1 [] 27 (.str (Lib.itoa (i64.wrap ((1000000000 : Int) + x3)))) h5 H (fun D => Steps.call (by kernel_rfl) (Hx (C := cfg) (f := 121) (by kernel_rfl) (l := exts) rfl (by kernel_rfl) B)) fun D t H => ?_
  obtain ⟨x6, X, M⟩ := bind_some M
  refine AZ 28 (.str x6) h5 H (fun D => .of (Cs (k := .i64) (k' := .i64) (lo := (some (1 : Int))) (hi := none) (by kernel_rfl) X)) fun D t H => ?_
  refine Be 1 [(6, .str x6)] 7 H fun D H => AG 1 [(29, .str (x4 ++ (Lib.itoa x2)))] H fun D H => ?_
  obtain ⟨B, M⟩ := AO M
  refine AZ 30 (.str ((x4 ++ (Lib.itoa x2)) ++ ([46] : UV))) h5 H (fun D => .of (B1 (by kernel_rfl) B)) fun D t H => ?_
  obtain ⟨x7, X, M⟩ := bind_some M
  obtain ⟨v1, h6, R, rfl, E⟩ := Is (av := [.str x6, .str ([48] : UV)]) X (A.cut 0)
  replace A := A.De E
  refine Aq 1 [] 32 R H fun D t H => ?_
  obtain ⟨B, M⟩ := AO M
  refine AZ 33 (.str (((x4 ++ (Lib.itoa x2)) ++ ([46] : UV)) ++ x7)) h6 H (fun D => .of (B1 (by kernel_rfl) B)) fun D t H => ?_
  refine AL 2 [(2, .str (((x4 ++ (Lib.itoa x2)) ++ ([46] : UV)) ++ x7)), (3, Ai 0)] H fun D H => AQ ?_
  obtain ⟨rfl, rfl⟩ := Bn M
  refine ⟨.inl rfl, .tuple [.str (((x4 ++ (Lib.itoa x2)) ++ ([46] : UV)) ++ x7), Ai 0], rH H, ?_⟩
  replace A := A.d0
  exact ⟨rfl, A⟩
 exact hF.elim
def D6 (p0 : AK) (p1 : AR) : Option (AK) :=
 Aa (p1.Time.BV != 0) (some (⟨p0.Name, p0.Az, p0.Kind, p0.Mode, p0.Br, p0.CH, p0.Eu, (-1 : Int), p0.Ah, p0.Aj, p0.An, p0.A2, p0.Form⟩ : AK)) (some (⟨p0.Name, p0.Az, p0.Kind, p0.Mode, p0.Br, p0.CH, p0.Eu, p1.Time.Cn, p0.Ah, p0.Aj, p0.An, p0.A2, p0.Form⟩ : AK))
theorem K6 {p0 p1 bp0 bp1 u0} (M : D6 p0 p1 = some u0) (A : HH g h [.obj bp0 (.cells none 2 (AI p0)), .obj bp1 (.cells none 2 (AE p1))] F) (hc : A9 (cfg.still 126) av = [.ptr (some (bp0, 0)), .ptr (some (bp1, 0))] := by kernel_rfl) : ∃ v Q, BB cfg g h 126 av v Q ∧ v = .tuple [] ∧ HH g Q [.obj bp0 (.cells none 2 (AI u0)), .obj bp1 (.cells none 2 (AE p1))] F := by
 refine Dj 16 [] hc ?_
 clear hc
 unfold D6 at M
 refine bg 16 [(0, .ptr (some (bp0, 0))), (1, .ptr (some (bp1, 0)))] fun D H => ?_
 refine AF 7 (AV 3 [(3, .ptr (some (bp0, 0)))] 6 1 10 A H fun D t H => ?_)
 obtain ⟨h1, X, A⟩ := A.s0 7 [Ai p1.Time.Cn] [_, _, _, _, _, _, _, _, _, _, _, _, _]
 refine CO 2 [] X H fun D t H => ?_
 refine CT 4 id (AV 2 [] 11 1 11 A H fun D t H => ?_)
 refine AL 1 [(12, .bool (p1.Time.BV != 0))] H fun D H => AX 12 H M (fun B M H => ?_) fun B M H => ?_
 ·refine BO 4 ?_
  obtain ⟨h2, X, A⟩ := A.s0 7 [Ai (-1)] [_, _, _, _, _, _, _, _, _, _, _, _, _]
  refine CO 3 [] X H fun D t H => ?_
  refine at_nil ?_
  obtain rfl := Ad M
  refine ⟨.inr rfl, .tuple [], rH H, ?_⟩
  exact ⟨rfl, A⟩
 refine F9 ?_
 obtain rfl := Ad M
 refine ⟨.inr rfl, .tuple [], rH H, ?_⟩
 exact ⟨rfl, A⟩
def Bh (p0 : List UInt8) (p1 : List UInt8) (p2_10 : AR) (p3 : AK) (p4 : List AA) : Option (AK × (List AA)) :=
 (D6 p3 p2_10).bind fun x1 => (BG x1).bind fun x2 => Aa (x2 == 0) (some (x1, p4)) (BS (Ov 32 (p4.length + ([(⟨p0, p1⟩ : AA)] : List AA).length)) <| some (p3, (p4 ++ ([(⟨p0, p1⟩ : AA)] : List AA))))
theorem Hq {p0 p1 p2_10 p3 p4 bp2_10 bp3 bp4 rp4_0 u1 u3} (M : Bh p0 p1 p2_10 p3 p4 = some (u1, u3)) (A : HH g h [.obj bp2_10 (.cells none 2 (AE p2_10)), .obj bp3 (.cells none 2 (AI p3)), .obj bp4 (.cells none 2 [AP rp4_0 p4.length]), .Ag rp4_0 117 (Ag AJ p4)] F) (hc : A9 (cfg.still 120) av = [.str p0, .str p1, .func (.func 126) [] [.ptr (some (bp2_10, 0))], .ptr (some (bp3, 0)), .ptr (some (bp4, 0))] := by kernel_rfl) : ∃ v Q, BB cfg g h 120 av v Q ∧ ∃ (r'3 : Option Nat), v = .tuple [] ∧ HH g Q [.obj bp2_10 (.cells none 2 (AE p2_10)), .obj bp3 (.cells none 2 (AI u1)), .obj bp4 (.cells none 2 [AP r'3 u3.length]), .Ag r'3 117 (Ag AJ u3)] F := by
 refine Dj 22 [] hc ?_
 clear hc
 unfold Bh at M
 refine bg 22 [(0, .str p0), (1, .str p1), (2, .func (.func 126) [] [.ptr (some (bp2_10, 0))]), (3, .ptr (some (bp3, 0))), (4, .ptr (some (bp4, 0)))] fun D H => ?_
 refine AF 3 (AZ 9 _ _ H (fun D => .of (BD (by kernel_rfl) (A.ET 1 rfl (o := 0) (n := 13) ⟨Nat.le_of_ble_eq_true rfl, rfl⟩))) fun D t H => ?_)
 obtain ⟨h1, e1, A⟩ := A.pu (.cells none 2 [.str ([] : UV), .str ([] : UV), Ab 0, Ai 0, Ai 0, Ai 0, Ai 0, Ai 0, .str ([] : UV), .str ([] : UV), Ai 0, Ai 0, Ai 0])
 refine BF 8 (.ptr (some (h.size, 0))) e1 H fun D t H => ?_
 obtain ⟨h2, X, A⟩ := A.s0 0 (AI p3) [_, _, _, _, _, _, _, _, _, _, _, _, _]
 refine DG X H fun D t H => ?_
 refine BK id (AN (AF 2 ?_))
 obtain ⟨x1, X, M⟩ := bind_some M
 obtain ⟨v1, h3, R, rfl, E⟩ := K6 (av := [.ptr (some (h.size, 0)), .ptr (some (bp2_10, 0))]) X (A.cut 2)
 replace A := A.g22 E
 refine Em 1 [] R H fun D t H => ?_
 refine CT 3 id (AZ 12 _ _ H (fun D => .of (BD (by kernel_rfl) (A.ET 0 rfl (o := 0) (n := 13) ⟨Nat.le_of_ble_eq_true rfl, rfl⟩))) fun D t H => ?_)
 obtain ⟨x2, X, M⟩ := bind_some M
 obtain ⟨v1, h4, R, rfl, E⟩ := Ct (av := [.agg (AI x1)]) X (A.cut 0)
 replace A := A.De E
 refine A0 13 R H fun D t H => ?_
 refine AL 1 [(14, .bool (x2 == 0))] H fun D H => AX 14 H M (fun B M H => ?_) fun B M H => ?_
 ·refine AF 2 (AZ 15 _ _ H (fun D => .of (BD (by kernel_rfl) (A.ET 0 rfl (o := 0) (n := 13) ⟨Nat.le_of_ble_eq_true rfl, rfl⟩))) fun D t H => ?_)
  obtain ⟨h5, X, A⟩ := A.s2 0 (AI x1) [_, _, _, _, _, _, _, _, _, _, _, _, _]
  refine DG X H fun D t H => ?_
  refine BK id (AQ ?_)
  obtain ⟨rfl, rfl⟩ := Bn M
  refine ⟨.inl rfl, .tuple [], rH H, ?_⟩
  replace A := A.k4 1 2 3 4
  exact ⟨rp4_0, rfl, A⟩
 refine FL 7 id (NO 16 3 0 A H fun D t H => ?_)
 refine AG 3 [(19, .agg [.str p0, .str p1])] H fun D H => ?_
 obtain ⟨h6, e2, A⟩ := A.pL 117 [.str p0, .str p1]
 refine BF 20 (AP (some h4.size) (([(⟨p0, p1⟩ : AA)] : List AA).length)) e2 H fun D t H => ?_
 obtain ⟨B, M⟩ := AO M
 obtain ⟨r1, h7, X, E⟩ := HH.Ju AS (by decide) A 5 (xs := p4) (ys := ([(⟨p0, p1⟩ : AA)] : List AA)) rfl (Dr A 0 rfl (n := ([(⟨p0, p1⟩ : AA)] : List AA).length) (z := 2) rfl (by decide)) rfl rfl B
 replace A : HH g h7 [.Ag (some h4.size) 117 ([.str p0, .str p1]), _, _, _, _, .Ag r1 117 (Ag AJ (p4 ++ ([(⟨p0, p1⟩ : AA)] : List AA)))] F := E
 replace A := A.k5 1 2 3 4 5
 refine AZ 21 _ _ H (fun D => .of (GY (s := DT rp4_0 p4.length) (by kernel_rfl) X)) fun D t H => ?_
 obtain ⟨h8, X, E⟩ := A.st 3 rfl (o := 0) (new := [AP r1 ((p4 ++ ([(⟨p0, p1⟩ : AA)] : List AA)).length)]) (ds := [AP r1 ((p4 ++ ([(⟨p0, p1⟩ : AA)] : List AA)).length)]) (Nat.le_of_ble_eq_true rfl) rfl rfl
 replace A : HH g h8 [_, _, _, .obj bp4 (.cells none 2 [AP r1 ((p4 ++ ([(⟨p0, p1⟩ : AA)] : List AA)).length)]), _] F := E
 refine KY X H fun D t H => ?_
 refine at_nil ?_
 obtain ⟨rfl, rfl⟩ := Bn M
 refine ⟨.inr rfl, .tuple [], rH H, ?_⟩
 replace A := A.k4 1 2 3 4
 exact ⟨r1, rfl, A⟩
def Gy (p0 : Int) : Option (Int) :=
 some (Int.tmod (i64.wrap ((512 : Int) - (Int.tmod p0 (512 : Int)))) (512 : Int))
theorem MH {p0 q0} (M : Gy p0 = some q0) (A : HH g h [] F) (hc : A9 (cfg.still 114) av = [Ai p0] := by kernel_rfl) : ∃ v Q, BB cfg g h 114 av v Q ∧ v = Ai q0 ∧ HH g Q [] F := by
 refine Dj 7 [.tmp 2] hc ?_
 clear hc
 unfold Gy at M
 refine bg 7 [(0, Ai p0)] fun D H => ?_
 refine AF 1 (Be 1 [] 5 H fun D H => AL 5 [(2, Ai (Int.tmod (i64.wrap ((512 : Int) - (Int.tmod p0 (512 : Int)))) (512 : Int)))] H fun D H => AQ ?_)
 obtain rfl := Ad M
 exact ⟨.inl rfl, _, rH H, rfl, A⟩
end
end Go.Av.L
