/-
 A part.
-/
import Derived.Test.YtlljeoogceblmaaGreatDoorKCfg
import Derived.Test.YtlljeoogceblmaaGreatDoorK0
import Derived.Test.YtlljeoogceblmaaGreatDoorK3
import Derived.Test.YtlljeoogceblmaaGreatDoorK4
import Derived.Test.YtlljeoogceblmaaGreatDoorK5
import Derived.Test.YtlljeoogceblmaaGreatDoorK6
namespace Go.Av.L
open Go.Av Go.Lib
set_option maxRecDepth 10000
set_option linter.unusedVariables false
set_option linter.unusedSimpArgs false
variable {g : Gd} {h : AD} {F : List Ck} {av : List AB}
noncomputable section
def Bf (p0 : List UInt8) : Option (AK × Int) :=
 Aa ((p0.length : Int) != 512) (some ((⟨([] : UV), ([] : UV), (0 : Int), (0 : Int), (0 : Int), (0 : Int), (0 : Int), (0 : Int), ([] : UV), ([] : UV), (0 : Int), (0 : Int), (0 : Int)⟩ : AK), (1 : Int))) ((DK p0).bind fun x1 => Aa (!x1) (some ((⟨([] : UV), ([] : UV), (0 : Int), (0 : Int), (0 : Int), (0 : Int), (0 : Int), (0 : Int), ([] : UV), ([] : UV), (0 : Int), (0 : Int), (0 : Int)⟩ : AK), (4 : Int))) ((D7 p0 (some (257 : Int)) (some (265 : Int))).bind fun x2 => (Aa (x2 == ([117, 115, 116, 97, 114, 0, 48, 48] : UV)) (some (.inl (2 : Int))) (Aa (x2 == ([117, 115, 116, 97, 114, 32, 32, 0] : UV)) (some (.inl (3 : Int))) ((E0 x2).bind fun x5 => Aa x5 (some (.inl (1 : Int))) (some (.inr (2 : Int))))) : Option ((Int) ⊕ (Int))).bind fun o1 => (match o1 with | .inl x3 => (BE p0 (100 : Int) (8 : Int) false).bind fun (x6, x7) => Aa (x7 != 0) (some ((⟨([] : UV), ([] : UV), (0 : Int), (0 : Int), (0 : Int), (0 : Int), (0 : Int), (0 : Int), ([] : UV), ([] : UV), (0 : Int), (0 : Int), (0 : Int)⟩ : AK), x7)) ((BE p0 (108 : Int) (8 : Int) false).bind fun (x8, x9) => Aa (x9 != 0) (some ((⟨([] : UV), ([] : UV), (0 : Int), (0 : Int), (0 : Int), (0 : Int), (0 : Int), (0 : Int), ([] : UV), ([] : UV), (0 : Int), (0 : Int), (0 : Int)⟩ : AK), x9)) ((BE p0 (116 : Int) (8 : Int) false).bind fun (x10, x11) => Aa (x11 != 0) (some ((⟨([] : UV), ([] : UV), (0 : Int), (0 : Int), (0 : Int), (0 : Int), (0 : Int), (0 : Int), ([] : UV), ([] : UV), (0 : Int), (0 : Int), (0 : Int)⟩ : AK), x11)) ((BE p0 (124 : Int) (12 : Int) false).bind fun (x12, x13) => Aa (x13 != 0) (some ((⟨([] : UV), ([] : UV), (0 : Int), (0 : Int), (0 : Int), (0 : Int), (0 : Int), (0 : Int), ([] : UV), ([] : UV), (0 : Int), (0 : Int), (0 : Int)⟩ : AK), x13)) ((BE p0 (136 : Int) (12 : Int) true).bind fun (x14, x15) => Aa (x15 != 0) (some ((⟨([] : UV), ([] : UV), (0 : Int), (0 : Int), (0 : Int), (0 : Int), (0 : Int), (0 : Int), ([] : UV), ([] : UV), (0 : Int), (0 : Int), (0 : Int)⟩ : AK), x15)) ((Aa (decide (x3 > 1)) ((BE p0 (329 : Int) (8 : Int) false).bind fun (x23, x24) => Aa (x24 != 0) (some (.inr (x23, (0 : Int), x24))) ((BE p0 (337 : Int) (8 : Int) false).bind fun (x25, x26) => Aa (x26 != 0) (some (.inr (x23, x25, x26))) ((D7 p0 (some (265 : Int)) (some (297 : Int))).bind fun x27 => (Aw x27).bind fun x28 => (D7 p0 (some (297 : Int)) (some (329 : Int))).bind fun x29 => (Aw x29).bind fun x30 => some (.inl (x28, x30, x23, x25))))) (some (.inl (([] : UV), ([] : UV), (0 : Int), (0 : Int)))) : Option (((List UInt8) × (List UInt8) × Int × Int) ⊕ (Int × Int × Int))).bind fun o2 => (match o2 with | .inl (x16, x17, x18, x19) => (D7 p0 none (some (100 : Int))).bind fun x31 => (Aw x31).bind fun x32 => (D7 p0 (some (345 : Int)) (some (500 : Int))).bind fun x33 => (Aw x33).bind fun x34 => (Aa ((x3 == 2) && (!(x34 == ([] : UV)))) (BS (decide (x34.length + ([47] : UV).length ≤ 9223372036854775807)) <| BS (decide ((x34 ++ ([47] : UV)).length + x32.length ≤ 9223372036854775807)) <| some ((x34 ++ ([47] : UV)) ++ x32)) (some x32) : Option (((List UInt8)))).bind fun x35 => (D7 p0 (some (157 : Int)) (some (257 : Int))).bind fun x36 => (Aw x36).bind fun x37 => (MZ p0 (156 : Int)).bind fun x38 => (Aa (x38 == 0) (some (48 : Int)) (some x38) : Option ((Int))).bind fun x39 => some ((⟨x35, x37, x39, x6, x8, x10, x12, x14, x16, x17, x18, x19, x3⟩ : AK), (0 : Int)) | .inr (x20, x21, x22) => some ((⟨([] : UV), ([] : UV), (0 : Int), (0 : Int), (0 : Int), (0 : Int), (0 : Int), (0 : Int), ([] : UV), ([] : UV), (0 : Int), (0 : Int), (0 : Int)⟩ : AK), x22))))))) | .inr x4 => some ((⟨([] : UV), ([] : UV), (0 : Int), (0 : Int), (0 : Int), (0 : Int), (0 : Int), (0 : Int), ([] : UV), ([] : UV), (0 : Int), (0 : Int), (0 : Int)⟩ : AK), x4))))
theorem GX {p0 q0 q1} (M : Bf p0 = some (q0, q1)) (A : HH g h [] F) (hc : A9 (cfg.still 15) av = [.str p0] := by kernel_rfl) : ∃ v Q, BB cfg g h 15 av v Q ∧ v = .tuple [.agg (AI q0), Ai q1] ∧ HH g Q [] F := by
 refine Dj 144 [.cell 2 35, .tmp 3] hc ?_
 clear hc
 unfold Bf at M
 refine bg 144 [(0, .str p0)] fun D H => ?_
 refine AF 2 ?_
 obtain ⟨h1, e1, A⟩ := A.pu (.cells none 2 [.str ([] : UV), .str ([] : UV), Ab 0, Ai 0, Ai 0, Ai 0, Ai 0, Ai 0, .str ([] : UV), .str ([] : UV), Ai 0, Ai 0, Ai 0])
 refine BF 2 (.ptr (some (h.size, 0))) e1 H fun D t H => ?_
 refine Be 1 [] 3 H fun D H => ?_
 obtain ⟨h2, e2, A⟩ := A.pu (.cells none 2 [.str ([] : UV), .str ([] : UV), Ab 0, Ai 0, Ai 0, Ai 0, Ai 0, Ai 0, .str ([] : UV), .str ([] : UV), Ai 0, Ai 0, Ai 0])
 refine Jg 1 [(9, .agg [.str ([] : UV), .str ([] : UV), Ab (0 : Int), Ai (0 : Int), Ai (0 : Int), Ai (0 : Int), Ai (0 : Int), Ai (0 : Int), .str ([] : UV), .str ([] : UV), Ai (0 : Int), Ai (0 : Int), Ai (0 : Int)])] 4 (.ptr (some (h1.size, 0))) e2 H fun D t H => ?_
 obtain ⟨h3, X, E⟩ := A.st 0 rfl (o := 0) (new := [.str ([] : UV), .str ([] : UV), Ab 0, Ai 0, Ai 0, Ai 0, Ai 0, Ai 0, .str ([] : UV), .str ([] : UV), Ai 0, Ai 0, Ai 0]) (ds := [.str ([] : UV), .str ([] : UV), Ab 0, Ai 0, Ai 0, Ai 0, Ai 0, Ai 0, .str ([] : UV), .str ([] : UV), Ai 0, Ai 0, Ai 0]) (Nat.le_of_ble_eq_true rfl) rfl rfl
 replace A : HH g h3 [.obj h1.size (.cells none 2 [.str ([] : UV), .str ([] : UV), Ab 0, Ai 0, Ai 0, Ai 0, Ai 0, Ai 0, .str ([] : UV), .str ([] : UV), Ai 0, Ai 0, Ai 0]), .obj h.size (.cells none 2 [.str ([] : UV), .str ([] : UV), Ab 0, Ai 0, Ai 0, Ai 0, Ai 0, Ai 0, .str ([] : UV), .str ([] : UV), Ai 0, Ai 0, Ai 0])] F := E
 refine DG X H fun D t H => ?_
 refine BK id (AN (AF 3 (AL 3 [(12, .bool ((p0.length : Int) != 512))] H fun D H => AX 12 H M (fun B M H => ?_) fun B M H => ?_)))
 ·refine AF 3 (AZ 13 _ _ H (fun D => .of (BD (by kernel_rfl) (A.ET 0 rfl (o := 0) (n := 13) ⟨Nat.le_of_ble_eq_true rfl, rfl⟩))) fun D t H => ?_)
  obtain ⟨h4, X, A⟩ := A.s1 0 [.str ([] : UV), .str ([] : UV), Ab 0, Ai 0, Ai 0, Ai 0, Ai 0, Ai 0, .str ([] : UV), .str ([] : UV), Ai 0, Ai 0, Ai 0] [_, _, _, _, _, _, _, _, _, _, _, _, _]
  refine DG X H fun D t H => ?_
  refine AL 1 [(3, Ai 1)] H fun D H => AQ ?_
  obtain ⟨rfl, rfl⟩ := Bn M
  refine ⟨.inl rfl, .tuple [.agg [.str ([] : UV), .str ([] : UV), Ab 0, Ai 0, Ai 0, Ai 0, Ai 0, Ai 0, .str ([] : UV), .str ([] : UV), Ai 0, Ai 0, Ai 0], Ai 1], DV (.cell (rT H) (C7 (by kernel_rfl) (by kernel_rfl) (A.la 1 0 13)) (.tmp (rT H) .nil)), ?_⟩
  replace A := A.d0
  exact ⟨rfl, A⟩
 refine Bl id (AN (AF 3 ?_))
 obtain ⟨x1, X, M⟩ := bind_some M
 obtain ⟨v1, h5, R, rfl, E⟩ := Jx (av := [.str p0]) X (A.cut 0)
 replace A := A.De E
 refine Aq 1 [] 15 R H fun D t H => ?_
 refine AL 1 [(16, .bool (!x1))] H fun D H => AX 16 H M (fun B M H => ?_) fun B M H => ?_
 ·refine AF 3 (AZ 17 _ _ H (fun D => .of (BD (by kernel_rfl) (A.ET 0 rfl (o := 0) (n := 13) ⟨Nat.le_of_ble_eq_true rfl, rfl⟩))) fun D t H => ?_)
  obtain ⟨h6, X, A⟩ := A.s1 0 [.str ([] : UV), .str ([] : UV), Ab 0, Ai 0, Ai 0, Ai 0, Ai 0, Ai 0, .str ([] : UV), .str ([] : UV), Ai 0, Ai 0, Ai 0] [_, _, _, _, _, _, _, _, _, _, _, _, _]
  refine DG X H fun D t H => ?_
  refine AL 1 [(3, Ai 4)] H fun D H => AQ ?_
  obtain ⟨rfl, rfl⟩ := Bn M
  refine ⟨.inl rfl, .tuple [.agg [.str ([] : UV), .str ([] : UV), Ab 0, Ai 0, Ai 0, Ai 0, Ai 0, Ai 0, .str ([] : UV), .str ([] : UV), Ai 0, Ai 0, Ai 0], Ai 4], DV (.cell (rT H) (C7 (by kernel_rfl) (by kernel_rfl) (A.la 1 0 13)) (.tmp (rT H) .nil)), ?_⟩
  replace A := A.d0
  exact ⟨rfl, A⟩
 refine Bs 3 id ?_
 obtain ⟨h7, e3, A⟩ := A.pu (.cells none 2 [.str ([] : UV), .str ([] : UV), Ab 0, Ai 0, Ai 0, Ai 0, Ai 0, Ai 0, .str ([] : UV), .str ([] : UV), Ai 0, Ai 0, Ai 0])
 refine Jg 1 [(18, .agg [.str ([] : UV), .str ([] : UV), Ab (0 : Int), Ai (0 : Int), Ai (0 : Int), Ai (0 : Int), Ai (0 : Int), Ai (0 : Int), .str ([] : UV), .str ([] : UV), Ai (0 : Int), Ai (0 : Int), Ai (0 : Int)])] 5 (.ptr (some (h5.size, 0))) e3 H fun D t H => ?_
 obtain ⟨h8, X, A⟩ := A.s0 0 [.str ([] : UV), .str ([] : UV), Ab 0, Ai 0, Ai 0, Ai 0, Ai 0, Ai 0, .str ([] : UV), .str ([] : UV), Ai 0, Ai 0, Ai 0] [_, _, _, _, _, _, _, _, _, _, _, _, _]
 refine DG X H fun D t H => ?_
 refine CT 3 id ?_
 obtain ⟨x2, X, M⟩ := bind_some M
 refine Ax 1 [] 20 (.str x2) h8 H (fun D => .of (Cs (k := .i64) (k' := .i64) (lo := (some (257 : Int))) (hi := (some (265 : Int))) (by kernel_rfl) X)) fun D t H => ?_
 refine AL 1 [(6, .str x2)] H fun D H => AN ?_
 obtain ⟨o1, O, M⟩ := bind_some M
 refine Ao (Q' := fun e N Q => (∃ x3, e = .normal ∧ .inl x3 = o1 ∧ Has N 144 [(0, .str p0), (2, .ptr (some (h.size, 0))), (4, .ptr (some (h1.size, 0))), (5, .ptr (some (h5.size, 0)))] ∧ HH g Q [.obj h5.size (.cells none 2 [.str ([] : UV), .str ([] : UV), Ab 0, Ai 0, Ai 0, Ai 0, Ai 0, Ai 0, .str ([] : UV), .str ([] : UV), Ai 0, Ai 0, Ai x3]), .obj h1.size (.cells none 2 [.str ([] : UV), .str ([] : UV), Ab 0, Ai 0, Ai 0, Ai 0, Ai 0, Ai 0, .str ([] : UV), .str ([] : UV), Ai 0, Ai 0, Ai 0]), .obj h.size (.cells none 2 [.str ([] : UV), .str ([] : UV), Ab 0, Ai 0, Ai 0, Ai 0, Ai 0, Ai 0, .str ([] : UV), .str ([] : UV), Ai 0, Ai 0, Ai 0])] F) ∨ (∃ x4, e = .ret ∧ .inr x4 = o1 ∧ Has N 144 [(2, .ptr (some (h.size, 0))), (3, Ai x4)] ∧ HH g Q [.obj h5.size (.cells none 2 [.str ([] : UV), .str ([] : UV), Ab 0, Ai 0, Ai 0, Ai 0, Ai 0, Ai 0, .str ([] : UV), .str ([] : UV), Ai 0, Ai 0, Ai 0]), .obj h1.size (.cells none 2 [.str ([] : UV), .str ([] : UV), Ab 0, Ai 0, Ai 0, Ai 0, Ai 0, Ai 0, .str ([] : UV), .str ([] : UV), Ai 0, Ai 0, Ai 0]), .obj h.size (.cells none 2 [.str ([] : UV), .str ([] : UV), Ab 0, Ai 0, Ai 0, Ai 0, Ai 0, Ai 0, .str ([] : UV), .str ([] : UV), Ai 0, Ai 0, Ai 0])] F) ∨ False) ?_ ?_
 ·replace M := O
  clear O
  refine AF 2 (AL 2 [(22, .bool (x2 == ([117, 115, 116, 97, 114, 0, 48, 48] : UV)))] H fun D H => AX 22 H M (fun B M H => ?_) fun B M H => ?_)
  ·refine BO 2 ?_
   obtain ⟨h9, X, A⟩ := A.s0 12 [Ai 2] [_, _, _, _, _, _, _, _, _, _, _, _, _]
   refine CO 1 [] X H fun D t H => ?_
   refine at_nil ?_
   exact .inl ⟨_, rfl, Ad M, H.ls, A⟩
  refine AF 2 (AL 2 [(25, .bool (x2 == ([117, 115, 116, 97, 114, 32, 32, 0] : UV)))] H fun D H => AX 25 H M (fun B M H => ?_) fun B M H => ?_)
  ·refine BO 2 ?_
   obtain ⟨h10, X, A⟩ := A.s0 12 [Ai 3] [_, _, _, _, _, _, _, _, _, _, _, _, _]
   refine CO 1 [] X H fun D t H => ?_
   refine at_nil ?_
   exact .inl ⟨_, rfl, Ad M, H.ls, A⟩
  refine AF 2 ?_
  obtain ⟨x5, X, M⟩ := bind_some M
  obtain ⟨v1, h11, R, rfl, E⟩ := J1 (av := [.str x2]) X (A.cut 0)
  replace A := A.De E
  refine Aq 1 [] 28 R H fun D t H => ?_
  refine BK id (AX 28 H M (fun B M H => ?_) fun B M H => ?_)
  ·refine BO 2 ?_
   obtain ⟨h12, X, A⟩ := A.s0 12 [Ai 1] [_, _, _, _, _, _, _, _, _, _, _, _, _]
   refine CO 1 [] X H fun D t H => ?_
   refine at_nil ?_
   exact .inl ⟨_, rfl, Ad M, H.ls, A⟩
  refine AF 3 (AZ 30 _ _ H (fun D => .of (BD (by kernel_rfl) (A.ET 1 rfl (o := 0) (n := 13) ⟨Nat.le_of_ble_eq_true rfl, rfl⟩))) fun D t H => ?_)
  obtain ⟨h13, X, A⟩ := A.s2 0 [.str ([] : UV), .str ([] : UV), Ab 0, Ai 0, Ai 0, Ai 0, Ai 0, Ai 0, .str ([] : UV), .str ([] : UV), Ai 0, Ai 0, Ai 0] [_, _, _, _, _, _, _, _, _, _, _, _, _]
  refine DG X H fun D t H => ?_
  refine AL 1 [(3, Ai 2)] H fun D H => AQ ?_
  exact .inr (.inl ⟨_, rfl, Ad M, H.ls, A⟩)
 clear O
 clear A
 intro e D h14 hQ
 rcases hQ with ⟨x3, rfl, rfl, H, A⟩ | ⟨x4, rfl, rfl, H, A⟩ | hF
 ·show AW _ _ _ _ _ _ _
  refine AF 1 (Be 1 [] 8 H fun D H => ?_)
  obtain ⟨⟨x6, x7⟩, X, M⟩ := bind_some M
  obtain ⟨v1, h15, R, rfl, E⟩ := Bk (av := [.str p0, Ai 100, Ai 8, .bool false]) X (A.cut 0)
  replace A := A.De E
  refine Aq 1 [] 33 R H fun D t H => ?_
  obtain ⟨h16, X, A⟩ := A.s0 3 [Ai x6] [_, _, _, _, _, _, _, _, _, _, _, _, _]
  refine CO 4 [(35, Ai x7)] X H fun D t H => ?_
  refine AL 1 [(7, Ai x7)] H fun D H => AN (AF 2 (AL 2 [(38, .bool (x7 != 0))] H fun D H => AX 38 H M (fun B M H => ?_) fun B M H => ?_))
  ·refine AF 4 (AZ 39 _ _ H (fun D => .of (BD (by kernel_rfl) (A.ET 1 rfl (o := 0) (n := 13) ⟨Nat.le_of_ble_eq_true rfl, rfl⟩))) fun D t H => ?_)
   obtain ⟨h17, X, A⟩ := A.s2 0 [.str ([] : UV), .str ([] : UV), Ab 0, Ai 0, Ai 0, Ai 0, Ai 0, Ai 0, .str ([] : UV), .str ([] : UV), Ai 0, Ai 0, Ai 0] [_, _, _, _, _, _, _, _, _, _, _, _, _]
   refine JI 1 [(40, Ai x7)] X H fun D t H => ?_
   refine AL 1 [(3, Ai x7)] H fun D H => AQ ?_
   obtain ⟨rfl, rfl⟩ := Bn M
   refine ⟨.inl rfl, .tuple [.agg [.str ([] : UV), .str ([] : UV), Ab 0, Ai 0, Ai 0, Ai 0, Ai 0, Ai 0, .str ([] : UV), .str ([] : UV), Ai 0, Ai 0, Ai 0], Ai x7], DV (.cell (rT H) (C7 (by kernel_rfl) (by kernel_rfl) (A.la 2 0 13)) (.tmp (rT H) .nil)), ?_⟩
   replace A := A.d0
   exact ⟨rfl, A⟩
  refine Bs 8 id ?_
  obtain ⟨⟨x8, x9⟩, X, M⟩ := bind_some M
  obtain ⟨v1, h18, R, rfl, E⟩ := Bk (av := [.str p0, Ai 108, Ai 8, .bool false]) X (A.cut 0)
  replace A := A.De E
  refine Aq 1 [] 43 R H fun D t H => ?_
  obtain ⟨h19, X, A⟩ := A.s0 4 [Ai x8] [_, _, _, _, _, _, _, _, _, _, _, _, _]
  refine CO 4 [(45, Ai x9)] X H fun D t H => ?_
  refine A5 1 [(0, .str p0), (2, .ptr (some (h.size, 0))), (4, .ptr (some (h1.size, 0))), (5, .ptr (some (h5.size, 0))), (7, Ai x9)] H fun D H => BK id (AN (AF 2 (AL 2 [(48, .bool (x9 != 0))] H fun D H => AX 48 H M (fun B M H => ?_) fun B M H => ?_)))
  ·refine AF 4 (AZ 49 _ _ H (fun D => .of (BD (by kernel_rfl) (A.ET 1 rfl (o := 0) (n := 13) ⟨Nat.le_of_ble_eq_true rfl, rfl⟩))) fun D t H => ?_)
   obtain ⟨h20, X, A⟩ := A.s2 0 [.str ([] : UV), .str ([] : UV), Ab 0, Ai 0, Ai 0, Ai 0, Ai 0, Ai 0, .str ([] : UV), .str ([] : UV), Ai 0, Ai 0, Ai 0] [_, _, _, _, _, _, _, _, _, _, _, _, _]
   refine JI 1 [(50, Ai x9)] X H fun D t H => ?_
   refine AL 1 [(3, Ai x9)] H fun D H => AQ ?_
   obtain ⟨rfl, rfl⟩ := Bn M
   refine ⟨.inl rfl, .tuple [.agg [.str ([] : UV), .str ([] : UV), Ab 0, Ai 0, Ai 0, Ai 0, Ai 0, Ai 0, .str ([] : UV), .str ([] : UV), Ai 0, Ai 0, Ai 0], Ai x9], DV (.cell (rT H) (C7 (by kernel_rfl) (by kernel_rfl) (A.la 2 0 13)) (.tmp (rT H) .nil)), ?_⟩
   replace A := A.d0
   exact ⟨rfl, A⟩
  refine Bs 8 id ?_
  obtain ⟨⟨x10, x11⟩, X, M⟩ := bind_some M
  obtain ⟨v1, h21, R, rfl, E⟩ := Bk (av := [.str p0, Ai 116, Ai 8, .bool false]) X (A.cut 0)
  replace A := A.De E
  refine Aq 1 [] 53 R H fun D t H => ?_
  obtain ⟨h22, X, A⟩ := A.s0 5 [Ai x10] [_, _, _, _, _, _, _, _, _, _, _, _, _]
  refine CO 4 [(55, Ai x11)] X H fun D t H => ?_
  refine A5 1 [(0, .str p0), (2, .ptr (some (h.size, 0))), (4, .ptr (some (h1.size, 0))), (5, .ptr (some (h5.size, 0))), (7, Ai x11)] H fun D H => BK id (AN (AF 2 (AL 2 [(58, .bool (x11 != 0))] H fun D H => AX 58 H M (fun B M H => ?_) fun B M H => ?_)))
  ·refine AF 4 (AZ 59 _ _ H (fun D => .of (BD (by kernel_rfl) (A.ET 1 rfl (o := 0) (n := 13) ⟨Nat.le_of_ble_eq_true rfl, rfl⟩))) fun D t H => ?_)
   obtain ⟨h23, X, A⟩ := A.s2 0 [.str ([] : UV), .str ([] : UV), Ab 0, Ai 0, Ai 0, Ai 0, Ai 0, Ai 0, .str ([] : UV), .str ([] : UV), Ai 0, Ai 0, Ai 0] [_, _, _, _, _, _, _, _, _, _, _, _, _]
   refine JI 1 [(60, Ai x11)] X H fun D t H => ?_
   refine AL 1 [(3, Ai x11)] H fun D H => AQ ?_
   obtain ⟨rfl, rfl⟩ := Bn M
   refine ⟨.inl rfl, .tuple [.agg [.str ([] : UV), .str ([] : UV), Ab 0, Ai 0, Ai 0, Ai 0, Ai 0, Ai 0, .str ([] : UV), .str ([] : UV), Ai 0, Ai 0, Ai 0], Ai x11], DV (.cell (rT H) (C7 (by kernel_rfl) (by kernel_rfl) (A.la 2 0 13)) (.tmp (rT H) .nil)), ?_⟩
   replace A := A.d0
   exact ⟨rfl, A⟩
  refine Bs 8 id ?_
  obtain ⟨⟨x12, x13⟩, X, M⟩ := bind_some M
  obtain ⟨v1, h24, R, rfl, E⟩ := Bk (av := [.str p0, Ai 124, Ai 12, .bool false]) X (A.cut 0)
  replace A := A.De E
  refine Aq 1 [] 63 R H fun D t H => ?_
  obtain ⟨h25, X, A⟩ := A.s0 6 [Ai x12] [_, _, _, _, _, _, _, _, _, _, _, _, _]
  refine CO 4 [(65, Ai x13)] X H fun D t H => ?_
  refine A5 1 [(0, .str p0), (2, .ptr (some (h.size, 0))), (4, .ptr (some (h1.size, 0))), (5, .ptr (some (h5.size, 0))), (7, Ai x13)] H fun D H => BK id (AN (AF 2 (AL 2 [(68, .bool (x13 != 0))] H fun D H => AX 68 H M (fun B M H => ?_) fun B M H => ?_)))
  ·refine AF 4 (AZ 69 _ _ H (fun D => .of (BD (by kernel_rfl) (A.ET 1 rfl (o := 0) (n := 13) ⟨Nat.le_of_ble_eq_true rfl, rfl⟩))) fun D t H => ?_)
   obtain ⟨h26, X, A⟩ := A.s2 0 [.str ([] : UV), .str ([] : UV), Ab 0, Ai 0, Ai 0, Ai 0, Ai 0, Ai 0, .str ([] : UV), .str ([] : UV), Ai 0, Ai 0, Ai 0] [_, _, _, _, _, _, _, _, _, _, _, _, _]
   refine JI 1 [(70, Ai x13)] X H fun D t H => ?_
   refine AL 1 [(3, Ai x13)] H fun D H => AQ ?_
   obtain ⟨rfl, rfl⟩ := Bn M
   refine ⟨.inl rfl, .tuple [.agg [.str ([] : UV), .str ([] : UV), Ab 0, Ai 0, Ai 0, Ai 0, Ai 0, Ai 0, .str ([] : UV), .str ([] : UV), Ai 0, Ai 0, Ai 0], Ai x13], DV (.cell (rT H) (C7 (by kernel_rfl) (by kernel_rfl) (A.la 2 0 13)) (.tmp (rT H) .nil)), ?_⟩
   replace A := A.d0
   exact ⟨rfl, A⟩
  refine Bs 8 id ?_
  obtain ⟨⟨x14, x15⟩, X, M⟩ := bind_some M
  obtain ⟨v1, h27, R, rfl, E⟩ := Bk (av := [.str p0, Ai 136, Ai 12, .bool true]) X (A.cut 0)
  replace A := A.De E
  refine Aq 1 [] 73 R H fun D t H => ?_
  obtain ⟨h28, X, A⟩ := A.s0 7 [Ai x14] [_, _, _, _, _, _, _, _, _, _, _, _, _]
  refine CO 4 [(75, Ai x15)] X H fun D t H => ?_
  refine A5 1 [(0, .str p0), (2, .ptr (some (h.size, 0))), (4, .ptr (some (h1.size, 0))), (5, .ptr (some (h5.size, 0))), (7, Ai x15)] H fun D H => BK id (AN (AF 2 (AL 2 [(78, .bool (x15 != 0))] H fun D H => AX 78 H M (fun B M H => ?_) fun B M H => ?_)))
  ·refine AF 4 (AZ 79 _ _ H (fun D => .of (BD (by kernel_rfl) (A.ET 1 rfl (o := 0) (n := 13) ⟨Nat.le_of_ble_eq_true rfl, rfl⟩))) fun D t H => ?_)
   obtain ⟨h29, X, A⟩ := A.s2 0 [.str ([] : UV), .str ([] : UV), Ab 0, Ai 0, Ai 0, Ai 0, Ai 0, Ai 0, .str ([] : UV), .str ([] : UV), Ai 0, Ai 0, Ai 0] [_, _, _, _, _, _, _, _, _, _, _, _, _]
   refine JI 1 [(80, Ai x15)] X H fun D t H => ?_
   refine AL 1 [(3, Ai x15)] H fun D H => AQ ?_
   obtain ⟨rfl, rfl⟩ := Bn M
   refine ⟨.inl rfl, .tuple [.agg [.str ([] : UV), .str ([] : UV), Ab 0, Ai 0, Ai 0, Ai 0, Ai 0, Ai 0, .str ([] : UV), .str ([] : UV), Ai 0, Ai 0, Ai 0], Ai x15], DV (.cell (rT H) (C7 (by kernel_rfl) (by kernel_rfl) (A.la 2 0 13)) (.tmp (rT H) .nil)), ?_⟩
   replace A := A.d0
   exact ⟨rfl, A⟩
  refine Bl id (AN ?_)
  obtain ⟨o2, O, M⟩ := bind_some M
  refine Ao (Q' := fun e N Q => (∃ x16 x17 x18 x19, e = .normal ∧ .inl (x16, x17, x18, x19) = o2 ∧ Has N 144 [(0, .str p0), (2, .ptr (some (h.size, 0))), (5, .ptr (some (h5.size, 0)))] ∧ HH g Q [.obj h5.size (.cells none 2 [.str ([] : UV), .str ([] : UV), Ab 0, Ai x6, Ai x8, Ai x10, Ai x12, Ai x14, .str x16, .str x17, Ai x18, Ai x19, Ai x3]), .obj h1.size (.cells none 2 [.str ([] : UV), .str ([] : UV), Ab 0, Ai 0, Ai 0, Ai 0, Ai 0, Ai 0, .str ([] : UV), .str ([] : UV), Ai 0, Ai 0, Ai 0]), .obj h.size (.cells none 2 [.str ([] : UV), .str ([] : UV), Ab 0, Ai 0, Ai 0, Ai 0, Ai 0, Ai 0, .str ([] : UV), .str ([] : UV), Ai 0, Ai 0, Ai 0])] F) ∨ (∃ x20 x21 x22, e = .ret ∧ .inr (x20, x21, x22) = o2 ∧ Has N 144 [(2, .ptr (some (h.size, 0))), (3, Ai x22)] ∧ HH g Q [.obj h5.size (.cells none 2 [.str ([] : UV), .str ([] : UV), Ab 0, Ai x6, Ai x8, Ai x10, Ai x12, Ai x14, .str ([] : UV), .str ([] : UV), Ai x20, Ai x21, Ai x3]), .obj h1.size (.cells none 2 [.str ([] : UV), .str ([] : UV), Ab 0, Ai 0, Ai 0, Ai 0, Ai 0, Ai 0, .str ([] : UV), .str ([] : UV), Ai 0, Ai 0, Ai 0]), .obj h.size (.cells none 2 [.str ([] : UV), .str ([] : UV), Ab 0, Ai 0, Ai 0, Ai 0, Ai 0, Ai 0, .str ([] : UV), .str ([] : UV), Ai 0, Ai 0, Ai 0])] F) ∨ False) ?_ ?_
  ·replace M := O
   clear O
   refine AF 3 (AV 1 [] 82 0 12 A H fun D t H => ?_)
   refine AL 1 [(83, .bool (decide (x3 > 1)))] H fun D H => AX 83 H M (fun B M H => ?_) fun B M H => ?_
   ·refine AF 8 ?_
    obtain ⟨⟨x23, x24⟩, X, M⟩ := bind_some M
    obtain ⟨v1, h30, R, rfl, E⟩ := Bk (av := [.str p0, Ai 329, Ai 8, .bool false]) X (A.cut 0)
    replace A := A.De E
    refine Aq 1 [] 86 R H fun D t H => ?_
    obtain ⟨h31, X, A⟩ := A.s0 10 [Ai x23] [_, _, _, _, _, _, _, _, _, _, _, _, _]
    refine CO 4 [(88, Ai x24)] X H fun D t H => ?_
    refine A5 1 [(0, .str p0), (2, .ptr (some (h.size, 0))), (4, .ptr (some (h1.size, 0))), (5, .ptr (some (h5.size, 0))), (7, Ai x24)] H fun D H => BK id (AN (AF 2 (AL 2 [(91, .bool (x24 != 0))] H fun D H => AX 91 H M (fun B M H => ?_) fun B M H => ?_)))
    ·refine AF 4 (AZ 92 _ _ H (fun D => .of (BD (by kernel_rfl) (A.ET 1 rfl (o := 0) (n := 13) ⟨Nat.le_of_ble_eq_true rfl, rfl⟩))) fun D t H => ?_)
     obtain ⟨h32, X, A⟩ := A.s2 0 [.str ([] : UV), .str ([] : UV), Ab 0, Ai 0, Ai 0, Ai 0, Ai 0, Ai 0, .str ([] : UV), .str ([] : UV), Ai 0, Ai 0, Ai 0] [_, _, _, _, _, _, _, _, _, _, _, _, _]
     refine JI 1 [(93, Ai x24)] X H fun D t H => ?_
     refine AL 1 [(3, Ai x24)] H fun D H => AQ ?_
     exact .inr (.inl ⟨_, _, _, rfl, Ad M, H.ls, A⟩)
    refine Bs 8 id ?_
    obtain ⟨⟨x25, x26⟩, X, M⟩ := bind_some M
    obtain ⟨v1, h33, R, rfl, E⟩ := Bk (av := [.str p0, Ai 337, Ai 8, .bool false]) X (A.cut 0)
    replace A := A.De E
    refine Aq 1 [] 96 R H fun D t H => ?_
    obtain ⟨h34, X, A⟩ := A.s0 11 [Ai x25] [_, _, _, _, _, _, _, _, _, _, _, _, _]
    refine CO 4 [(98, Ai x26)] X H fun D t H => ?_
    refine A5 1 [(0, .str p0), (2, .ptr (some (h.size, 0))), (4, .ptr (some (h1.size, 0))), (5, .ptr (some (h5.size, 0))), (7, Ai x26)] H fun D H => BK id (AN (AF 2 (AL 2 [(101, .bool (x26 != 0))] H fun D H => AX 101 H M (fun B M H => ?_) fun B M H => ?_)))
    ·refine AF 4 (AZ 102 _ _ H (fun D => .of (BD (by kernel_rfl) (A.ET 1 rfl (o := 0) (n := 13) ⟨Nat.le_of_ble_eq_true rfl, rfl⟩))) fun D t H => ?_)
     obtain ⟨h35, X, A⟩ := A.s2 0 [.str ([] : UV), .str ([] : UV), Ab 0, Ai 0, Ai 0, Ai 0, Ai 0, Ai 0, .str ([] : UV), .str ([] : UV), Ai 0, Ai 0, Ai 0] [_, _, _, _, _, _, _, _, _, _, _, _, _]
     refine JI 1 [(103, Ai x26)] X H fun D t H => ?_
     refine AL 1 [(3, Ai x26)] H fun D H => AQ ?_
     exact .inr (.inl ⟨_, _, _, rfl, Ad M, H.ls, A⟩)
    refine Bs 5 id ?_
    obtain ⟨x27, X, M⟩ := bind_some M
    refine Ax 1 [] 105 (.str x27) h34 H (fun D => .of (Cs (k := .i64) (k' := .i64) (lo := (some (265 : Int))) (hi := (some (297 : Int))) (by kernel_rfl) X)) fun D t H => ?_
    obtain ⟨x28, X, M⟩ := bind_some M
    obtain ⟨v1, h36, R, rfl, E⟩ := BR (av := [.str x27]) X (A.cut 0)
    replace A := A.De E
    refine A0 106 R H fun D t H => ?_
    obtain ⟨h37, X, A⟩ := A.s0 8 [.str x28] [_, _, _, _, _, _, _, _, _, _, _, _, _]
    refine CO 1 [] X H fun D t H => ?_
    refine FY 5 id ?_
    obtain ⟨x29, X, M⟩ := bind_some M
    refine Ax 1 [] 109 (.str x29) h37 H (fun D => .of (Cs (k := .i64) (k' := .i64) (lo := (some (297 : Int))) (hi := (some (329 : Int))) (by kernel_rfl) X)) fun D t H => ?_
    obtain ⟨x30, X, M⟩ := bind_some M
    obtain ⟨v1, h38, R, rfl, E⟩ := BR (av := [.str x29]) X (A.cut 0)
    replace A := A.De E
    refine A0 110 R H fun D t H => ?_
    obtain ⟨h39, X, A⟩ := A.s0 9 [.str x30] [_, _, _, _, _, _, _, _, _, _, _, _, _]
    refine CO 1 [] X H fun D t H => ?_
    refine at_nil ?_
    exact .inl ⟨_, _, _, _, rfl, Ad M, H.ls, A⟩
   exact F9 (.inl ⟨_, _, _, _, rfl, Ad M, H.ls, A⟩)
  clear O
  clear A
  intro e D h40 hQ
  rcases hQ with ⟨x16, x17, x18, x19, rfl, rfl, H, A⟩ | ⟨x20, x21, x22, rfl, rfl, H, A⟩ | hF
  ·show AW _ _ _ _ _ _ _
   refine AF 5 ?_
   obtain ⟨x31, X, M⟩ := bind_some M
   refine Ax 1 [] 113 (.str x31) h40 H (fun D => .of (Cs (k := .i64) (k' := .i64) (lo := none) (hi := (some (100 : Int))) (by kernel_rfl) X)) fun D t H => ?_
   obtain ⟨x32, X, M⟩ := bind_some M
   obtain ⟨v1, h41, R, rfl, E⟩ := BR (av := [.str x31]) X (A.cut 0)
   replace A := A.De E
   refine A0 114 R H fun D t H => ?_
   obtain ⟨h42, X, A⟩ := A.s0 0 [.str x32] [_, _, _, _, _, _, _, _, _, _, _, _, _]
   refine CO 1 [] X H fun D t H => ?_
   refine CT 4 id ?_
   obtain ⟨x33, X, M⟩ := bind_some M
   refine Ax 1 [] 117 (.str x33) h42 H (fun D => .of (Cs (k := .i64) (k' := .i64) (lo := (some (345 : Int))) (hi := (some (500 : Int))) (by kernel_rfl) X)) fun D t H => ?_
   obtain ⟨x34, X, M⟩ := bind_some M
   obtain ⟨v1, h43, R, rfl, E⟩ := BR (av := [.str x33]) X (A.cut 0)
   replace A := A.De E
   refine A0 118 R H fun D t H => ?_
   refine AL 1 [(8, .str x34)] H fun D H => AN ?_
   obtain ⟨o3, O, M⟩ := bind_some M
   refine Ao (Q' := fun e N Q => (∃ x35, e = .normal ∧ x35 = o3 ∧ Has N 144 [(0, .str p0), (2, .ptr (some (h.size, 0))), (5, .ptr (some (h5.size, 0)))] ∧ HH g Q [.obj h5.size (.cells none 2 [.str x35, .str ([] : UV), Ab 0, Ai x6, Ai x8, Ai x10, Ai x12, Ai x14, .str x16, .str x17, Ai x18, Ai x19, Ai x3]), .obj h1.size (.cells none 2 [.str ([] : UV), .str ([] : UV), Ab 0, Ai 0, Ai 0, Ai 0, Ai 0, Ai 0, .str ([] : UV), .str ([] : UV), Ai 0, Ai 0, Ai 0]), .obj h.size (.cells none 2 [.str ([] : UV), .str ([] : UV), Ab 0, Ai 0, Ai 0, Ai 0, Ai 0, Ai 0, .str ([] : UV), .str ([] : UV), Ai 0, Ai 0, Ai 0])] F) ∨ False) ?_ ?_
   ·replace M := O
    clear O
    refine AF 7 (AV 1 [] 120 0 12 A H fun D t H => ?_)
    refine AG 2 [(122, .bool (x3 == 2))] H fun D H => Al 3 (fun N Q => h43 = Q ∧ Has N 144 [(0, .str p0), (2, .ptr (some (h.size, 0))), (5, .ptr (some (h5.size, 0))), (8, .str x34), (125, .bool ((x3 == 2) && (!(x34 == ([] : UV)))))]) ?_ ?_
    ·cases B : (x3 == 2 : Bool) with
     | true =>
      replace H := H.kn 122 B
      exact AG 3 [(125, .bool (!(x34 == ([] : UV))))] H fun D H => Ac H B
     | false =>
      replace H := H.kn 122 B
      exact AG 3 [(125, .bool false)] H fun D H => Ac H B
    intro t D Q hK
    obtain ⟨e, H⟩ := hK
    subst e
    refine BK id (AX 125 H M (fun B M H => ?_) fun B M H => ?_)
    ·refine BO 7 (AG 1 [(126, .str x34)] H fun D H => ?_)
     obtain ⟨B, M⟩ := AO M
     refine AZ 127 (.str (x34 ++ ([47] : UV))) h43 H (fun D => .of (B1 (by kernel_rfl) B)) fun D t H => ?_
     refine AV 1 [] 129 0 0 A H fun D t H => ?_
     obtain ⟨B, M⟩ := AO M
     refine AZ 130 (.str ((x34 ++ ([47] : UV)) ++ x32)) h43 H (fun D => .of (B1 (by kernel_rfl) B)) fun D t H => ?_
     obtain ⟨h44, X, E⟩ := A.st 0 rfl (o := 0) (new := [.str ((x34 ++ ([47] : UV)) ++ x32)]) (ds := [.str ((x34 ++ ([47] : UV)) ++ x32), .str ([] : UV), Ab 0, Ai x6, Ai x8, Ai x10, Ai x12, Ai x14, .str x16, .str x17, Ai x18, Ai x19, Ai x3]) (Nat.le_of_ble_eq_true rfl) rfl rfl
     replace A : HH g h44 [.obj h5.size (.cells none 2 [.str ((x34 ++ ([47] : UV)) ++ x32), _, _, _, _, _, _, _, _, _, _, _, _]), _, _] F := E
     refine CO 1 [] X H fun D t H => ?_
     refine at_nil ?_
     exact .inl ⟨_, rfl, Ad M, H.ls, A⟩
    exact F9 (.inl ⟨_, rfl, Ad M, H.ls, A⟩)
   clear O
   clear A
   intro e D h45 hQ
   rcases hQ with ⟨x35, rfl, rfl, H, A⟩ | hF
   ·show AW _ _ _ _ _ _ _
    refine AF 5 ?_
    obtain ⟨x36, X, M⟩ := bind_some M
    refine Ax 1 [] 133 (.str x36) h45 H (fun D => .of (Cs (k := .i64) (k' := .i64) (lo := (some (157 : Int))) (hi := (some (257 : Int))) (by kernel_rfl) X)) fun D t H => ?_
    obtain ⟨x37, X, M⟩ := bind_some M
    obtain ⟨v1, h46, R, rfl, E⟩ := BR (av := [.str x36]) X (A.cut 0)
    replace A := A.De E
    refine A0 134 R H fun D t H => ?_
    obtain ⟨h47, X, A⟩ := A.s0 1 [.str x37] [_, _, _, _, _, _, _, _, _, _, _, _, _]
    refine CO 1 [] X H fun D t H => ?_
    refine CT 4 id ?_
    obtain ⟨x38, X, M⟩ := bind_some M
    refine Ax 1 [] 137 (Ab x38) h47 H (fun D => .of (FK (by kernel_rfl) X)) fun D t H => ?_
    obtain ⟨h48, X, A⟩ := A.s0 2 [Ab x38] [_, _, _, _, _, _, _, _, _, _, _, _, _]
    refine CO 1 [] X H fun D t H => ?_
    refine BK id (AN ?_)
    obtain ⟨o4, O, M⟩ := bind_some M
    refine Ao (Q' := fun e N Q => (∃ x39, e = .normal ∧ x39 = o4 ∧ Has N 144 [(2, .ptr (some (h.size, 0))), (5, .ptr (some (h5.size, 0)))] ∧ HH g Q [.obj h5.size (.cells none 2 [.str x35, .str x37, Ab x39, Ai x6, Ai x8, Ai x10, Ai x12, Ai x14, .str x16, .str x17, Ai x18, Ai x19, Ai x3]), .obj h1.size (.cells none 2 [.str ([] : UV), .str ([] : UV), Ab 0, Ai 0, Ai 0, Ai 0, Ai 0, Ai 0, .str ([] : UV), .str ([] : UV), Ai 0, Ai 0, Ai 0]), .obj h.size (.cells none 2 [.str ([] : UV), .str ([] : UV), Ab 0, Ai 0, Ai 0, Ai 0, Ai 0, Ai 0, .str ([] : UV), .str ([] : UV), Ai 0, Ai 0, Ai 0])] F) ∨ False) ?_ ?_
    ·replace M := O
     clear O
     refine AF 3 (AV 1 [] 140 0 2 A H fun D t H => ?_)
     refine AL 1 [(141, .bool (x38 == 0))] H fun D H => AX 141 H M (fun B M H => ?_) fun B M H => ?_
     ·refine BO 2 ?_
      obtain ⟨h49, X, A⟩ := A.s0 2 [Ab 48] [_, _, _, _, _, _, _, _, _, _, _, _, _]
      refine CO 1 [] X H fun D t H => ?_
      refine at_nil ?_
      exact .inl ⟨_, rfl, Ad M, H.ls, A⟩
     exact F9 (.inl ⟨_, rfl, Ad M, H.ls, A⟩)
    clear O
    clear A
    intro e D h50 hQ
    rcases hQ with ⟨x39, rfl, rfl, H, A⟩ | hF
    ·show AW _ _ _ _ _ _ _
     refine AF 3 (AZ 143 _ _ H (fun D => .of (BD (by kernel_rfl) (A.ET 0 rfl (o := 0) (n := 13) ⟨Nat.le_of_ble_eq_true rfl, rfl⟩))) fun D t H => ?_)
     obtain ⟨h51, X, A⟩ := A.s2 0 [.str x35, .str x37, Ab x39, Ai x6, Ai x8, Ai x10, Ai x12, Ai x14, .str x16, .str x17, Ai x18, Ai x19, Ai x3] [_, _, _, _, _, _, _, _, _, _, _, _, _]
     refine DG X H fun D t H => ?_
     refine AL 1 [(3, Ai 0)] H fun D H => AQ ?_
     obtain ⟨rfl, rfl⟩ := Bn M
     refine ⟨.inl rfl, .tuple [.agg [.str x35, .str x37, Ab x39, Ai x6, Ai x8, Ai x10, Ai x12, Ai x14, .str x16, .str x17, Ai x18, Ai x19, Ai x3], Ai 0], DV (.cell (rT H) (C7 (by kernel_rfl) (by kernel_rfl) (A.la 2 0 13)) (.tmp (rT H) .nil)), ?_⟩
     replace A := A.d0
     exact ⟨rfl, A⟩
    exact hF.elim
   exact hF.elim
  ·obtain ⟨rfl, rfl⟩ := Bn M
   refine ⟨.inl rfl, .tuple [.agg [.str ([] : UV), .str ([] : UV), Ab 0, Ai 0, Ai 0, Ai 0, Ai 0, Ai 0, .str ([] : UV), .str ([] : UV), Ai 0, Ai 0, Ai 0], Ai x22], DV (.cell (rT H) (C7 (by kernel_rfl) (by kernel_rfl) (A.la 2 0 13)) (.tmp (rT H) .nil)), ?_⟩
   replace A := A.d0
   exact ⟨rfl, A⟩
  exact hF.elim
 ·obtain ⟨rfl, rfl⟩ := Bn M
  refine ⟨.inl rfl, .tuple [.agg [.str ([] : UV), .str ([] : UV), Ab 0, Ai 0, Ai 0, Ai 0, Ai 0, Ai 0, .str ([] : UV), .str ([] : UV), Ai 0, Ai 0, Ai 0], Ai x4], DV (.cell (rT H) (C7 (by kernel_rfl) (by kernel_rfl) (A.la 2 0 13)) (.tmp (rT H) .nil)), ?_⟩
  replace A := A.d0
  exact ⟨rfl, A⟩
 exact hF.elim
def Cw (p0 : AR) (p1 : Int) : Option (Bool) :=
 (Cz p0).bind fun x1 => Aa x1 ((Cl).bind fun x2 => some x2) ((Ef p0 p1).bind fun (x3, x4) => (Dh p0 p1).bind fun (x5, x6) => Aa ((!(x3 == x5)) || (x4 != x6)) (some false) (Aa (x6 != 0) ((Cl).bind fun x7 => some x7) (Aa (decide ((x3.length : Int) < 512)) (some false) ((D7 x3 none (some (512 : Int))).bind fun x8 => (Bf x8).bind fun (x9, x10) => (D7 x3 (some (IntKind.i64.wrap ((x3.length : Int) - 512))) none).bind fun x11 => (Bf x11).bind fun (x12, x13) => (Aa ((((x10 == 0) && (x13 == 0)) && (x9.Form == 2)) && (x12.Form == 2)) ((Cl).bind fun x15 => some x15) (some false) : Option (Bool)).bind fun x14 => some x14))))
theorem HU {p0 p1 q0} (M : Cw p0 p1 = some q0) (A : HH g h [] F) (hc : A9 (cfg.still 3) av = [.agg (AE p0), Ai p1] := by kernel_rfl) : ∃ v Q, BB cfg g h 3 av v Q ∧ v = .bool q0 ∧ HH g Q [] F := by
 refine Dj 76 [.tmp 4] hc ?_
 clear hc
 unfold Cw at M
 refine bg 76 [(0, .agg (AE p0)), (1, Ai p1)] fun D H => ?_
 refine AF 2 ?_
 obtain ⟨h1, e1, A⟩ := A.pu (.cells none 2 (AE p0))
 refine BF 2 (.ptr (some (h.size, 0))) e1 H fun D t H => ?_
 refine AL 1 [] H fun D H => AN (AF 2 (AZ 13 _ _ H (fun D => .of (BD (by kernel_rfl) (A.ET 0 rfl (o := 0) (n := 14) ⟨Nat.le_of_ble_eq_true rfl, rfl⟩))) fun D t H => ?_))
 obtain ⟨x1, X, M⟩ := bind_some M
 obtain ⟨v1, h2, R, rfl, E⟩ := KG (av := [.agg (AE p0)]) X (A.cut 0)
 replace A : HH g h2 [.obj h.size (.cells none 2 (AE p0))] F := A.GC (n := 0) E
 refine A0 14 R H fun D t H => ?_
 refine BK id (AX 14 H M (fun B M H => ?_) fun B M H => ?_)
 ·refine AF 2 ?_
  obtain ⟨x2, X, M⟩ := bind_some M
  obtain ⟨v1, h3, R, rfl, E⟩ := Ep (av := []) X (A.cut 0)
  replace A := A.De E
  refine A0 15 R H fun D t H => ?_
  refine AL 1 [(4, .bool x2)] H fun D H => AQ ?_
  obtain rfl := Ad M
  refine ⟨.inl rfl, .bool x2, rH H, ?_⟩
  replace A := A.d0
  exact ⟨rfl, A⟩
 refine Bs 8 id (AZ 17 _ _ H (fun D => .of (BD (by kernel_rfl) (A.ET 0 rfl (o := 0) (n := 14) ⟨Nat.le_of_ble_eq_true rfl, rfl⟩))) fun D t H => ?_)
 obtain ⟨⟨x3, x4⟩, X, M⟩ := bind_some M
 obtain ⟨v1, h4, R, rfl, E⟩ := KQ (av := [.agg (AE p0), Ai p1]) X (A.cut 0)
 replace A := A.De E
 refine Aq 1 [] 19 R H fun D t H => ?_
 refine Be 5 [(5, .str x3), (6, Ai x4)] 8 H fun D H => AZ 23 _ _ H (fun D => .of (BD (by kernel_rfl) (A.ET 0 rfl (o := 0) (n := 14) ⟨Nat.le_of_ble_eq_true rfl, rfl⟩))) fun D t H => ?_
 obtain ⟨⟨x5, x6⟩, X, M⟩ := bind_some M
 obtain ⟨v1, h5, R, rfl, E⟩ := KK (av := [.agg (AE p0), Ai p1]) X (A.cut 0)
 replace A := A.De E
 refine Aq 1 [] 25 R H fun D t H => ?_
 refine AL 5 [(7, .str x5), (8, Ai x6)] H fun D H => AN (AF 8 (AG 4 [(31, .bool (!(x3 == x5)))] H fun D H => Al 4 (fun N Q => h5 = Q ∧ Has N 76 [(5, .str x3), (8, Ai x6), (35, .bool ((!(x3 == x5)) || (x4 != x6)))]) ?_ ?_))
 ·cases B : (!(x3 == x5) : Bool) with
  | true =>
   replace H := H.kn 31 B
   exact AG 4 [(35, .bool true)] H fun D H => Ac H B
  | false =>
   replace H := H.kn 31 B
   exact AG 4 [(35, .bool (x4 != x6))] H fun D H => Ac H B
 intro t D Q hK
 obtain ⟨e, H⟩ := hK
 subst e
 refine BK id (AX 35 H M (fun B M H => ?_) fun B M H => ?_)
 ·refine AF 1 (AL 1 [(4, .bool false)] H fun D H => AQ ?_)
  obtain rfl := Ad M
  refine ⟨.inl rfl, .bool false, rH H, ?_⟩
  replace A := A.d0
  exact ⟨rfl, A⟩
 refine Bl id (AN (AF 2 (AL 2 [(37, .bool (x6 != 0))] H fun D H => AX 37 H M (fun B M H => ?_) fun B M H => ?_)))
 ·refine AF 2 ?_
  obtain ⟨x7, X, M⟩ := bind_some M
  obtain ⟨v1, h6, R, rfl, E⟩ := Ep (av := []) X (A.cut 0)
  replace A := A.De E
  refine A0 38 R H fun D t H => ?_
  refine AL 1 [(4, .bool x7)] H fun D H => AQ ?_
  obtain rfl := Ad M
  refine ⟨.inl rfl, .bool x7, rH H, ?_⟩
  replace A := A.d0
  exact ⟨rfl, A⟩
 refine Bl id (AN (AF 3 (AL 3 [(41, .bool (decide ((x3.length : Int) < 512)))] H fun D H => AX 41 H M (fun B M H => ?_) fun B M H => ?_)))
 ·refine AF 1 (AL 1 [(4, .bool false)] H fun D H => AQ ?_)
  obtain rfl := Ad M
  refine ⟨.inl rfl, .bool false, rH H, ?_⟩
  replace A := A.d0
  exact ⟨rfl, A⟩
 refine Bs 9 id ?_
 obtain ⟨x8, X, M⟩ := bind_some M
 refine Ax 1 [] 44 (.str x8) h5 H (fun D => .of (Cs (k := .i64) (k' := .i64) (lo := none) (hi := (some (512 : Int))) (by kernel_rfl) X)) fun D t H => ?_
 obtain ⟨⟨x9, x10⟩, X, M⟩ := bind_some M
 obtain ⟨v1, h7, R, rfl, E⟩ := GX (av := [.str x8]) X (A.cut 0)
 replace A := A.De E
 refine A0 45 R H fun D t H => ?_
 obtain ⟨h8, e2, A⟩ := A.pu (.cells none 2 [.str ([] : UV), .str ([] : UV), Ab 0, Ai 0, Ai 0, Ai 0, Ai 0, Ai 0, .str ([] : UV), .str ([] : UV), Ai 0, Ai 0, Ai 0])
 refine Jg 3 [(46, .agg (AI x9)), (47, Ai x10)] 9 (.ptr (some (h7.size, 0))) e2 H fun D t H => ?_
 obtain ⟨h9, X, A⟩ := A.s0 0 (AI x9) [_, _, _, _, _, _, _, _, _, _, _, _, _]
 refine DG X H fun D t H => ?_
 refine Be 1 [(10, Ai x10)] 12 H fun D H => ?_
 obtain ⟨x11, X, M⟩ := bind_some M
 refine Ax 4 [] 53 (.str x11) h9 H (fun D => .of (Cs (k := .i64) (k' := .i64) (lo := (some (IntKind.i64.wrap ((x3.length : Int) - 512)))) (hi := none) (by kernel_rfl) X)) fun D t H => ?_
 obtain ⟨⟨x12, x13⟩, X, M⟩ := bind_some M
 obtain ⟨v1, h10, R, rfl, E⟩ := GX (av := [.str x11]) X (A.cut 0)
 replace A := A.De E
 refine A0 54 R H fun D t H => ?_
 obtain ⟨h11, e3, A⟩ := A.pu (.cells none 2 [.str ([] : UV), .str ([] : UV), Ab 0, Ai 0, Ai 0, Ai 0, Ai 0, Ai 0, .str ([] : UV), .str ([] : UV), Ai 0, Ai 0, Ai 0])
 refine Jg 3 [(55, .agg (AI x12)), (56, Ai x13)] 11 (.ptr (some (h10.size, 0))) e3 H fun D t H => ?_
 obtain ⟨h12, X, A⟩ := A.s0 0 (AI x12) [_, _, _, _, _, _, _, _, _, _, _, _, _]
 refine DG X H fun D t H => ?_
 refine Be 1 [(12, Ai x13)] 20 H fun D H => AG 3 [(59, .bool (x10 == 0))] H fun D H => Al 3 (fun N Q => h12 = Q ∧ Has N 76 [(9, .ptr (some (h7.size, 0))), (11, .ptr (some (h10.size, 0))), (62, .bool ((x10 == 0) && (x13 == 0)))]) ?_ ?_
 ·cases B : (x10 == 0 : Bool) with
  | true =>
   replace H := H.kn 59 B
   exact AG 3 [(62, .bool (x13 == 0))] H fun D H => Ac H B
  | false =>
   replace H := H.kn 59 B
   exact AG 3 [(62, .bool false)] H fun D H => Ac H B
 intro t D Q hK
 obtain ⟨e, H⟩ := hK
 subst e
 refine AG 1 [(63, .bool ((x10 == 0) && (x13 == 0)))] H fun D H => Al 4 (fun N Q => h12 = Q ∧ Has N 76 [(11, .ptr (some (h10.size, 0))), (67, .bool (((x10 == 0) && (x13 == 0)) && (x9.Form == 2)))]) ?_ ?_
 ·cases B : ((x10 == 0) && (x13 == 0) : Bool) with
  | true =>
   replace H := H.kn 63 B
   refine AV 1 [] 65 1 12 A H fun D t H => ?_
   exact AG 2 [(67, .bool (x9.Form == 2))] H fun D H => Ac H B
  | false =>
   replace H := H.kn 63 B
   exact AG 4 [(67, .bool false)] H fun D H => Ac H B
 intro t D Q hK
 obtain ⟨e, H⟩ := hK
 subst e
 refine AG 1 [(68, .bool (((x10 == 0) && (x13 == 0)) && (x9.Form == 2)))] H fun D H => Al 4 (fun N Q => h12 = Q ∧ Has N 76 [(72, .bool ((((x10 == 0) && (x13 == 0)) && (x9.Form == 2)) && (x12.Form == 2)))]) ?_ ?_
 ·cases B : (((x10 == 0) && (x13 == 0)) && (x9.Form == 2) : Bool) with
  | true =>
   replace H := H.kn 68 B
   refine AV 1 [] 70 0 12 A H fun D t H => ?_
   exact AG 2 [(72, .bool (x12.Form == 2))] H fun D H => Ac H B
  | false =>
   replace H := H.kn 68 B
   exact AG 4 [(72, .bool false)] H fun D H => Ac H B
 intro t D Q hK
 obtain ⟨e, H⟩ := hK
 subst e
 refine AG 1 [(73, .bool ((((x10 == 0) && (x13 == 0)) && (x9.Form == 2)) && (x12.Form == 2)))] H fun D H => ?_
 obtain ⟨x14, O, M⟩ := bind_some M
 refine Al 2 (fun N Q => Has N 76 [(75, .bool x14)] ∧ HH g Q [.obj h10.size (.cells none 2 (AI x12)), .obj h7.size (.cells none 2 (AI x9)), .obj h.size (.cells none 2 (AE p0))] F) ?_ ?_
 ·rcases Ar O with ⟨B, M⟩ | ⟨B, M⟩
  ·replace H := H.kn 73 B
   obtain ⟨x15, X, M⟩ := bind_some M
   obtain ⟨v1, h14, R, rfl, E⟩ := Ep (av := []) X (A.cut 0)
   replace A := A.De E
   refine A0 74 R H fun D t H => ?_
   refine AG 1 [(75, .bool x15)] H fun D H => ?_
   obtain rfl := Ad M
   exact at_nil ⟨H.ls, A⟩
  replace H := H.kn 73 B
  refine AG 2 [(75, .bool false)] H fun D H => ?_
  obtain rfl := Ad M
  exact at_nil ⟨H.ls, A⟩
 clear A
 intro t D h13 hK
 obtain ⟨H, A⟩ := hK
 refine AL 1 [(4, .bool x14)] H fun D H => AQ ?_
 obtain rfl := Ad M
 refine ⟨.inl rfl, .bool x14, rH H, ?_⟩
 replace A := A.d0
 exact ⟨rfl, A⟩
end
end Go.Av.L
