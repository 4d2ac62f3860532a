/-
 A part.
-/
import Derived.Test.YtlljeoogceblmaaGreatDoorKCfg
import Derived.Test.YtlljeoogceblmaaGreatDoorK0
import Derived.Test.YtlljeoogceblmaaGreatDoorK3
import Derived.Test.YtlljeoogceblmaaGreatDoorK5
import Derived.Test.YtlljeoogceblmaaGreatDoorK6
namespace Go.Av.L
open Go.Av Go.Lib
set_option maxRecDepth 10000
set_option linter.unusedVariables false
set_option linter.unusedSimpArgs false
variable {g : Gd} {h : AD} {F : List Ck} {av : List AB}
noncomputable section
def DS (p0 : List Bn) (s : Bool × Bool × Int × Int × Bool × Bool × Int × Int × Int) : Option ((Bool × Bool × Int × Int × Bool × Bool × Int × Int × Int) ⊕ ((Bool × Bool × Int × Int × Bool × Bool × Int × Int) ⊕ (Bool × Bool × Int × Int × Bool × Bool × Int × Int × Bool))) :=
 match s with
 | (x2, x3, x4, x5, x6, x7, x8, x9, x10) => Af ((decide (x10 < (p0.length : Int))) && (decide (x10 < 40))) ((HJ p0 x10).bind fun x28 => (Cv x28.M).bind fun x29 => (Af x29 (some true) ((HJ p0 x10).bind fun x31 => some (decide ((x31.S.length : Int) > 2000))) : Option (Bool)).bind fun x30 => Af x30 ((DV).bind fun x32 => some (.inr (.inr (x2, x3, x4, x5, x6, x7, x8, x9, x32)))) ((HJ p0 x10).bind fun x33 => (D4 (⟨x6, x7, x8, x9⟩ : Ar) (⟨x2, x3, x4, x5⟩ : BD) x33).bind fun (x34, x35, x36, x37) => (Af x34.EW (some x34.Left) (some (0 : Int)) : Option ((Int))).bind fun x38 => (Af (!x36) (some true) ((DM x37).bind fun x40 => some (x40 != x38)) : Option (Bool)).bind fun x39 => Af x39 (some (.inr (.inr (x34.EW, x34.Closed, x34.DE, x34.Left, x37.EL, x37.Ed, x37.DF, x37.IC, false)))) (some (.inl (x34.EW, x34.Closed, x34.DE, x34.Left, x37.EL, x37.Ed, x37.DF, x37.IC, IntKind.i64.wrap (x10 + 1)))))) (some (.inr (.inl (x2, x3, x4, x5, x6, x7, x8, x9))))
def Ct (p0 : List Bn) : Option (Bool) :=
 (GJ).bind fun x1w1 => (loop (DS p0) (false, false, (0 : Int), (0 : Int), x1w1.EL, x1w1.Ed, x1w1.DF, x1w1.IC, (0 : Int))).bind fun o1 => (match o1 with | .inl (x11, x12, x13, x14, x15, x16, x17, x18) => (DV).bind fun x41 => some x41 | .inr (x19, x20, x21, x22, x23, x24, x25, x26, x27) => some x27)
theorem Ha {p0 q0} (hm : Ct p0 = some q0) (A : HH g h [] F) (hc : BB (cfg.still 5) av = [vs AO p0] := by kernel_rfl) : ∃ v Q, BE cfg g h 5 av v Q ∧ v = .bool q0 ∧ HH g Q [] F := by
 refine Dp 65 [.tmp 2] hc ?_
 clear hc
 unfold Ct at hm
 refine bg 65 [(0, vs AO p0)] fun D H => ?_
 refine AG 1 (Bg 1 [] 2 H fun D H => ?_)
 obtain ⟨x1w1, X, hm⟩ := bind_some hm
 obtain ⟨v1, h1, R, bx1w1, rfl, E⟩ := LF (av := []) X (A.cut 0)
 replace A := A.Xr E
 refine A9 10 R H fun D t H => ?_
 refine AM 1 [(3, .ptr (some (bx1w1, 0)))] H fun D H => AQ (AG 2 (AM 2 [(12, .bool false)] H fun D H => Q1 (x := .tmp 12) (by kernel_rfl) H (fun D => by kernel_rfl) ?_))
 refine Cr 3 id ?_
 obtain ⟨h2, e1, A⟩ := A.pu (.cells none 2 [.bool false, .bool false, Ai 0, Ai 0])
 refine MC 1 [(13, .agg [.bool false, .bool false, Ai (0 : Int), Ai (0 : Int)])] 4 (.ptr (some (h1.size, 0))) e1 H fun D t H => ?_
 obtain ⟨h3, X, A⟩ := A.s0 0 [.bool false, .bool false, Ai 0, Ai 0] [_, _, _, _]
 refine CU X H fun D t H => ?_
 refine BZ id (AQ (AG 1 (AM 1 [(5, Ai 0)] H fun D H => Ak (id := 0) (by kernel_rfl) ?_)))
 obtain ⟨o1, O, hm⟩ := bind_some hm
 refine Az (Q' := fun e N Q => (∃ x11 x12 x13 x14 x15 x16 x17 x18, e = .exit 0 ∧ .inl (x11, x12, x13, x14, x15, x16, x17, x18) = o1 ∧ Has N 65 [] ∧ HH g Q [.obj h1.size (.cells none 2 [.bool x11, .bool x12, Ai x13, Ai x14]), .obj bx1w1 (.cells none 2 [.bool x15, .bool x16, Ai x17, Ai x18])] F) ∨ (∃ x19 x20 x21 x22 x23 x24 x25 x26 x27, e = .ret ∧ .inr (x19, x20, x21, x22, x23, x24, x25, x26, x27) = o1 ∧ Has N 65 [(2, .bool x27)] ∧ HH g Q [.obj h1.size (.cells none 2 [.bool x19, .bool x20, Ai x21, Ai x22]), .obj bx1w1 (.cells none 2 [.bool x23, .bool x24, Ai x25, Ai x26])] F) ∨ False) ?_ ?_
 ·refine Bi (by kernel_rfl) (fun (s : Bool × Bool × Int × Int × Bool × Bool × Int × Int × Int) N Q => ∃ x2 x3 x4 x5 x6 x7 x8 x9 x10, (x2, x3, x4, x5, x6, x7, x8, x9, x10) = s ∧ Has N 65 [(0, vs AO p0), (3, .ptr (some (bx1w1, 0))), (4, .ptr (some (h1.size, 0))), (5, Ai x10)] ∧ HH g Q [.obj h1.size (.cells none 2 [.bool x2, .bool x3, Ai x4, Ai x5]), .obj bx1w1 (.cells none 2 [.bool x6, .bool x7, Ai x8, Ai x9])] F) O ⟨_, _, _, _, _, _, _, _, _, rfl, H.ls, A⟩ ?_
  clear O hm H A
  intro s q D h4 hI hm
  obtain ⟨x2, x3, x4, x5, x6, x7, x8, x9, x10, rfl, H, A⟩ := hI
  unfold DS at hm
  refine AQ (AG 8 (AF 5 [(18, .bool (decide (x10 < (p0.length : Int))))] H fun D H => An 3 (fun N Q => h4 = Q ∧ Has N 65 [(0, vs AO p0), (3, .ptr (some (bx1w1, 0))), (4, .ptr (some (h1.size, 0))), (5, Ai x10), (21, .bool ((decide (x10 < (p0.length : Int))) && (decide (x10 < 40))))]) ?_ ?_))
  ·cases B : (decide (x10 < (p0.length : Int)) : Bool) with
   | true =>
    replace H := H.kn 18 B
    exact AF 3 [(21, .bool (decide (x10 < 40)))] H fun D H => AZ H B
   | false =>
    replace H := H.kn 18 B
    exact AF 3 [(21, .bool false)] H fun D H => AZ H B
  intro t D Q hK
  obtain ⟨e, H⟩ := hK
  subst e
  refine BZ id (Ae 21 H hm (fun B hm H => ?_) fun B hm H => ?_)
  ·refine B0 id (AQ (Ak (id := 1) (by kernel_rfl) ?_))
   refine AQ (AG 15 ?_)
   obtain ⟨x28, X, hm⟩ := bind_some hm
   refine BC 2 [] 26 (.Ao (AO x28)) h4 H (fun D => .of (L1 (e := AO) (x := x28) EB (by decide) (by kernel_rfl) X)) fun D t H => ?_
   refine BC 1 [] 28 (.agg (AE x28.M)) h4 H (fun D => .of (Qo (by kernel_rfl))) fun D t H => ?_
   obtain ⟨x29, X, hm⟩ := bind_some hm
   obtain ⟨v1, h5, R, rfl, E⟩ := Kd (av := [.agg (AE x28.M)]) X (A.cut 0)
   replace A := A.Ee E
   refine A9 29 R H fun D t H => ?_
   refine AF 1 [(30, .bool x29)] H fun D H => ?_
   obtain ⟨x30, O, hm⟩ := bind_some hm
   refine An 8 (fun N Q => Has N 65 [(0, vs AO p0), (3, .ptr (some (bx1w1, 0))), (4, .ptr (some (h1.size, 0))), (5, Ai x10), (38, .bool x30)] ∧ HH g Q [.obj h1.size (.cells none 2 [.bool x2, .bool x3, Ai x4, Ai x5]), .obj bx1w1 (.cells none 2 [.bool x6, .bool x7, Ai x8, Ai x9])] F) ?_ ?_
   ·rcases A0 O with ⟨B, hm⟩ | ⟨B, hm⟩
    ·replace H := H.kn 30 B
     refine AF 8 [(38, .bool true)] H fun D H => ?_
     obtain rfl := Ah hm
     exact at_nil ⟨H.ls, A⟩
    replace H := H.kn 30 B
    obtain ⟨x31, X, hm⟩ := bind_some hm
    refine BC 2 [] 33 (.Ao (AO x31)) h5 H (fun D => .of (L1 (e := AO) (x := x31) EB (by decide) (by kernel_rfl) X)) fun D t H => ?_
    refine BC 1 [] 35 (.str x31.S) h5 H (fun D => .of (Qo (by kernel_rfl))) fun D t H => ?_
    refine AF 3 [(38, .bool (decide ((x31.S.length : Int) > 2000)))] H fun D H => ?_
    obtain rfl := Ah hm
    exact at_nil ⟨H.ls, A⟩
   clear A
   intro t D h6 hK
   obtain ⟨H, A⟩ := hK
   refine BZ id (Ae 38 H hm (fun B hm H => ?_) fun B hm H => ?_)
   ·refine AG 2 ?_
    obtain ⟨x32, X, hm⟩ := bind_some hm
    obtain ⟨v1, h7, R, rfl, E⟩ := GX (av := []) X (A.cut 0)
    replace A := A.Ee E
    refine A9 39 R H fun D t H => ?_
    refine AM 1 [(2, .bool x32)] H fun D H => AX ?_
    exact nr hm fun e => Or.inr (.inl ⟨_, _, _, _, _, _, _, _, _, rfl, e, H.ls, A⟩)
   refine B0 id (AQ (PR 10 15 [(0, []), (1, []), (2, []), (3, []), (4, []), (5, []), (11, []), (6, [11]), (7, []), (8, []), (9, []), (10, []), (12, []), (13, []), (14, [])] ?_))
   refine AF 1 [(41, .ptr (some (bx1w1, 0)))] H fun D H => BJ 42 (.agg [.bool x2, .bool x3, Ai x4, Ai x5]) h6 [(1, h1.size)] (g.BN) H (fun D => .of (BH (by kernel_rfl) (A.la 0 0 4))) (fun D H => ?_)
   refine AF 2 [(43, vs AO p0), (44, Ai x10)] H fun D H => ?_
   obtain ⟨x33, X, hm⟩ := bind_some hm
   refine BJ 45 (.Ao (AO x33)) h6 [(1, h1.size)] (g.BN) H (fun D => .of (L1 (e := AO) (x := x33) EB (by decide) (by kernel_rfl) X)) (fun D H => ?_)
   refine BJ 46 (.agg (AO x33)) h6 [(1, h1.size)] (g.BN) H (fun D => .of (Qo (by kernel_rfl))) (fun D H => ?_)
   obtain ⟨h8, e2, A⟩ := A.pu (.cells none 2 [.bool false, .bool false, Ai 0, Ai 0])
   refine BJ 6 (.ptr (some (h6.size, 0))) h8 [(11, h6.size), (1, h1.size)] (g.BN) H (fun D => .of (Yl (by kernel_rfl) (congrArg some e2.symm))) (fun D H => ?_)
   replace A : HH g h8 [_, .obj h6.size (.cells none 2 [.bool false, .bool false, Ai 0, Ai 0]), _] F := (A.front 2 rfl)
   have E := A.GN 1 (pr := [h6.size]) (.cons 0 rfl (by simp [Ck.ids]) .nil)
   obtain ⟨⟨x34, x35, x36, x37⟩, X, hm⟩ := bind_some hm
   obtain ⟨v1, h9, R, rfl, E⟩ := K3 (av := [.ptr (some (bx1w1, 0)), .agg [.bool x2, .bool x3, Ai x4, Ai x5], .agg (AO x33)]) X E
   replace A := A.aY E
   refine BJ 47 (.tuple [.agg (AK x34), .str x35, .bool x36]) h9 [(11, h6.size), (1, h1.size)] (h6.size :: g.BN) H (fun D => Steps.call (by kernel_rfl) R) (fun D H => ?_)
   refine AF 4 [(48, .agg (AK x34)), (49, .str x35), (50, .bool x36)] H fun D H => ?_
   obtain ⟨h10, X, A⟩ := A.s1 0 (AK x34) [_, _, _, _]
   refine YC (.tuple []) h10 [(11, h6.size), (1, h1.size)] (g.BN) H (fun D => .of (UB (by kernel_rfl) (P8 X rfl))) (fun D H => ?_)
   refine Bg 2 [(8, .bool x36)] 2 H fun D H => Ac 51 _ _ H (fun D => .of (BH (by kernel_rfl) (A.EX 1 rfl (o := 0) (n := 4) ⟨Nat.le_of_ble_eq_true rfl, rfl⟩))) fun D t H => ?_
   obtain ⟨h11, X, A⟩ := A.s2 0 (AK x34) [_, _, _, _]
   refine CU X H fun D t H => ?_
   refine CT 1 id (AM 1 [(9, Ai 0)] H fun D H => AQ ?_)
   obtain ⟨o2, O, hm⟩ := bind_some hm
   refine Az (Q' := fun e N Q => (∃ x38, e = .normal ∧ x38 = o2 ∧ Has N 65 [(0, vs AO p0), (3, .ptr (some (bx1w1, 0))), (4, .ptr (some (h1.size, 0))), (5, Ai x10), (8, .bool x36), (9, Ai x38)] ∧ HH g Q [.obj bx1w1 (.cells none 2 (A2 x37)), .obj h6.size (.cells none 2 (AK x34)), .obj h1.size (.cells none 2 (AK x34))] F) ∨ False) ?_ ?_
   ·replace hm := O
    clear O
    refine AG 2 (AV 1 [] 53 2 0 A H fun D t H => ?_)
    refine BZ id (Ae 53 H hm (fun B hm H => ?_) fun B hm H => ?_)
    ·refine BY 3 (AV 1 [] 55 2 3 A H fun D t H => ?_)
     refine BF 1 [(0, vs AO p0), (3, .ptr (some (bx1w1, 0))), (4, .ptr (some (h1.size, 0))), (5, Ai x10), (8, .bool x36), (9, Ai x34.Left)] H fun D H => at_nil ?_
     exact .inl ⟨_, rfl, Ah hm, H.ls, A⟩
    exact GU (.inl ⟨_, rfl, Ah hm, H.ls, A⟩)
   clear O
   clear A
   intro e D h12 hQ
   rcases hQ with ⟨x38, rfl, rfl, H, A⟩ | hF
   ·show AW _ _ _ _ _ _ _
    refine AG 8 (AF 3 [(58, .bool (!x36))] H fun D H => ?_)
    obtain ⟨x39, O, hm⟩ := bind_some hm
    refine An 5 (fun N Q => Has N 65 [(0, vs AO p0), (3, .ptr (some (bx1w1, 0))), (4, .ptr (some (h1.size, 0))), (5, Ai x10), (63, .bool x39)] ∧ HH g Q [.obj bx1w1 (.cells none 2 (A2 x37)), .obj h6.size (.cells none 2 (AK x34)), .obj h1.size (.cells none 2 (AK x34))] F) ?_ ?_
    ·rcases A0 O with ⟨B, hm⟩ | ⟨B, hm⟩
     ·replace H := H.kn 58 B
      refine AF 5 [(63, .bool true)] H fun D H => ?_
      obtain rfl := Ah hm
      exact at_nil ⟨H.ls, A⟩
     replace H := H.kn 58 B
     obtain ⟨x40, X, hm⟩ := bind_some hm
     obtain ⟨v1, h14, R, rfl, E⟩ := Jq (av := [.ptr (some (bx1w1, 0))]) X (A.cut 1)
     replace A := A.g11 E
     refine A6 1 [] 60 R H fun D t H => ?_
     refine AF 3 [(63, .bool (x40 != x38))] H fun D H => ?_
     obtain rfl := Ah hm
     exact at_nil ⟨H.ls, A⟩
    clear A
    intro t D h13 hK
    obtain ⟨H, A⟩ := hK
    refine BZ id (Ae 63 H hm (fun B hm H => ?_) fun B hm H => ?_)
    ·refine AG 1 (AM 1 [(2, .bool false)] H fun D H => AX ?_)
     replace A := A.k2 2 0
     exact nr hm fun e => Or.inr (.inl ⟨_, _, _, _, _, _, _, _, _, rfl, e, H.ls, A⟩)
    refine FM 3 id (BF 3 [(0, vs AO p0), (3, .ptr (some (bx1w1, 0))), (4, .ptr (some (h1.size, 0))), (5, Ai (IntKind.i64.wrap (x10 + 1)))] H fun D H => at_nil ?_)
    replace A := A.k2 2 0
    exact nx hm ⟨_, _, _, _, _, _, _, _, _, rfl, H.ls, A⟩
   exact hF.elim
  refine Bk (i := 0) (by kernel_rfl) ?_
  exact nr hm fun e => .inl ⟨_, _, _, _, _, _, _, _, rfl, e, H.ls, A⟩
 clear O
 clear A
 intro e D h15 hQ
 rcases hQ with ⟨x11, x12, x13, x14, x15, x16, x17, x18, rfl, rfl, H, A⟩ | ⟨x19, x20, x21, x22, x23, x24, x25, x26, x27, rfl, rfl, H, A⟩ | hF
 ·show AW _ _ _ _ _ _ _
  refine AG 2 ?_
  obtain ⟨x41, X, hm⟩ := bind_some hm
  obtain ⟨v1, h16, R, rfl, E⟩ := GX (av := []) X (A.cut 0)
  replace A := A.Ee E
  refine A9 64 R H fun D t H => ?_
  refine AM 1 [(2, .bool x41)] H fun D H => AX ?_
  obtain rfl := Ah hm
  refine ⟨.inl rfl, .bool x41, rH H, ?_⟩
  replace A := A.d0
  exact ⟨rfl, A⟩
 ·obtain rfl := Ah hm
  refine ⟨.inl rfl, .bool x27, rH H, ?_⟩
  replace A := A.d0
  exact ⟨rfl, A⟩
 exact hF.elim
end
end Go.Av.L
