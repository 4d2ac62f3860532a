/-
 Models of functions, and that the abstract run tells them. Written by lift2.py.
-/
import Derived.Test.YtipknimgfcokeaaGreatDoorKCfg
import Derived.Test.YtipknimgfcokeaaGreatDoorK0
namespace Go.Av.L
open Go.Av Go.Lib
set_option maxRecDepth 10000
set_option linter.unusedVariables false
set_option linter.unusedSimpArgs false
variable {g : Gd} {h : AH} {F : List Ck} {av : List AB}
noncomputable section
def Il (p0 : AJ) : Option (AJ × Bool) :=
 (Af (p0.Kind == 0) (some true) (Af (p0.Kind == 6) (some true) (some (p0.Kind == 7))) : Option ((Bool))).bind fun x1 => Af x1 (some ((⟨p0.Kind, (0 : Int), (0 : Int), (0 : Int), (0 : Int), (0 : Int), (⟨(0 : Int), (0 : Int), (0 : Int), (0 : Int)⟩ : Ar)⟩ : AJ), true)) (Af (p0.Kind == 1) (some ((⟨(1 : Int), (0 : Int), (0 : Int), (0 : Int), (0 : Int), (0 : Int), p0.Set⟩ : AJ), true)) ((Af (p0.Kind == 2) (some true) (some (p0.Kind == 3)) : Option ((Bool))).bind fun x2 => Af x2 (some ((⟨p0.Kind, p0.A, p0.B, (0 : Int), (0 : Int), (0 : Int), (⟨(0 : Int), (0 : Int), (0 : Int), (0 : Int)⟩ : Ar)⟩ : AJ), true)) (Af (p0.Kind == 4) (some ((⟨(4 : Int), p0.A, (0 : Int), p0.Min, p0.Max, (0 : Int), (⟨(0 : Int), (0 : Int), (0 : Int), (0 : Int)⟩ : Ar)⟩ : AJ), true)) (Af (p0.Kind == 5) (some ((⟨(5 : Int), p0.A, (0 : Int), (0 : Int), (0 : Int), p0.C4, (⟨(0 : Int), (0 : Int), (0 : Int), (0 : Int)⟩ : Ar)⟩ : AJ), true)) (some ((⟨(0 : Int), (0 : Int), (0 : Int), (0 : Int), (0 : Int), (0 : Int), (⟨(0 : Int), (0 : Int), (0 : Int), (0 : Int)⟩ : Ar)⟩ : AJ), false))))))
theorem Pe {p0 q0 q1} (hm : Il p0 = some (q0, q1)) (A : HH g h [] F) (hc : BZ (cfg.still 70) av = [.agg (AA p0)] := by kernel_rfl) : ∃ v h', Bg cfg g h 70 av v h' ∧ v = .tuple [.agg (AA q0), .bool q1] ∧ HH g h' [] F := by
 refine E5 45 [.cell 2 94, .tmp 3] hc ?_
 clear hc
 unfold Il at hm
 refine bg 45 [(0, .agg (AA p0))] fun fr H => ?_
 refine AD 3 ?_
 obtain ⟨h1, e1, A⟩ := A.pu (.cells none 2 (AA p0))
 refine Bo 1 (.ptr (some (h.size, 0))) e1 H fun fr t H => ?_
 obtain ⟨h2, e2, A⟩ := A.pu (.cells none 2 [Ai 0, Ai 0, Ai 0, Ai 0, Ai 0, Ai 0, Au 0, Au 0, Au 0, Au 0])
 refine Bo 2 (.ptr (some (h1.size, 0))) e2 H fun fr t H => ?_
 refine AM 1 [] H fun fr H => AQ (AD 2 (Ad 1 [] 5 1 0 A H fun fr t H => ?_))
 refine BK id (Ac (id := 0) (by kernel_rfl) ?_)
 refine AQ ?_
 obtain ⟨o1, ho, hm⟩ := bind_some hm
 refine As (Q' := fun e fr' h' => (∃ x1, e = .normal ∧ x1 = o1 ∧ Has fr' 45 [(1, .ptr (some (h.size, 0))), (2, .ptr (some (h1.size, 0))), (5, Ai p0.Kind), (6, .bool x1)] ∧ HH g h' [.obj h1.size (.cells none 2 [Ai 0, Ai 0, Ai 0, Ai 0, Ai 0, Ai 0, Au 0, Au 0, Au 0, Au 0]), .obj h.size (.cells none 2 (AA p0))] F) ∨ False) ?_ ?_
 ·replace hm := ho
  clear ho
  refine AD 2 (AM 2 [(6, .bool (p0.Kind == 0))] H fun fr H => AV 6 H hm (fun hb hm H => ?_) fun hb hm H => ?_)
  ·exact By (.inl ⟨_, rfl, Ah hm, H.ls, A⟩)
  refine AD 2 (BG 2 [(1, .ptr (some (h.size, 0))), (2, .ptr (some (h1.size, 0))), (5, Ai p0.Kind), (6, .bool (p0.Kind == 6))] H fun fr H => BK id (AV 6 H hm (fun hb hm H => ?_) fun hb hm H => ?_))
  ·exact By (.inl ⟨_, rfl, Ah hm, H.ls, A⟩)
  refine Bd 2 (BG 2 [(1, .ptr (some (h.size, 0))), (2, .ptr (some (h1.size, 0))), (5, Ai p0.Kind), (6, .bool (p0.Kind == 7))] H fun fr H => at_nil ?_)
  exact .inl ⟨_, rfl, Ah hm, H.ls, A⟩
 clear ho
 clear A
 intro e fr h3 hQ
 rcases hQ with ⟨x1, rfl, rfl, H, A⟩ | hF
 ·show AW _ _ _ _ _ _ _
  refine AV 6 H hm (fun hb hm H => ?_) fun hb hm H => ?_
  ·refine AD 5 (Ad 1 [] 11 1 0 A H fun fr t H => ?_)
   obtain ⟨h4, hx, A⟩ := A.s0 0 [Ai p0.Kind, Ai 0, Ai 0, Ai 0, Ai 0, Ai 0, Au 0, Au 0, Au 0, Au 0] [_, _, _, _, _, _, _, _, _, _]
   refine F7 1 [] hx H fun fr t H => ?_
   refine AM 1 [(3, .bool true)] H fun fr H => Ag ?_
   obtain ⟨rfl, rfl⟩ := Ds hm
   refine ⟨.inl rfl, .tuple [.agg [Ai p0.Kind, Ai 0, Ai 0, Ai 0, Ai 0, Ai 0, Au 0, Au 0, Au 0, Au 0], .bool true], Bm (.cell (rT H) (Bl (by kernel_rfl) (by kernel_rfl) (A.la 0 0 10)) (.tmp (rT H) .nil)), ?_⟩
   replace A := A.d0
   exact ⟨rfl, A⟩
  refine AD 2 (AM 2 [(13, .bool (p0.Kind == 1))] H fun fr H => AV 13 H hm (fun hb hm H => ?_) fun hb hm H => ?_)
  ·refine AD 5 (BI 1 [] 16 _ _ H (fun fr => .of (CD (by kernel_rfl) (A.GX 1 rfl (o := 6) (n := 4) ⟨Nat.le_of_ble_eq_true rfl, rfl⟩))) fun fr t H => ?_)
   obtain ⟨h5, hx, A⟩ := A.s0 0 [Ai 1, Ai 0, Ai 0, Ai 0, Ai 0, Ai 0, Au p0.Set.w0, Au p0.Set.w1, Au p0.Set.w2, Au p0.Set.w3] [_, _, _, _, _, _, _, _, _, _]
   refine F7 1 [] hx H fun fr t H => ?_
   refine AM 1 [(3, .bool true)] H fun fr H => Ag ?_
   obtain ⟨rfl, rfl⟩ := Ds hm
   refine ⟨.inl rfl, .tuple [.agg [Ai 1, Ai 0, Ai 0, Ai 0, Ai 0, Ai 0, Au p0.Set.w0, Au p0.Set.w1, Au p0.Set.w2, Au p0.Set.w3], .bool true], Bm (.cell (rT H) (Bl (by kernel_rfl) (by kernel_rfl) (A.la 0 0 10)) (.tmp (rT H) .nil)), ?_⟩
   replace A := A.d0
   exact ⟨rfl, A⟩
  refine AQ ?_
  obtain ⟨o2, ho, hm⟩ := bind_some hm
  refine As (Q' := fun e fr' h' => (∃ x2, e = .normal ∧ x2 = o2 ∧ Has fr' 45 [(1, .ptr (some (h.size, 0))), (2, .ptr (some (h1.size, 0))), (5, Ai p0.Kind), (18, .bool x2)] ∧ HH g h' [.obj h1.size (.cells none 2 [Ai 0, Ai 0, Ai 0, Ai 0, Ai 0, Ai 0, Au 0, Au 0, Au 0, Au 0]), .obj h.size (.cells none 2 (AA p0))] F) ∨ False) ?_ ?_
  ·replace hm := ho
   clear ho
   refine AD 2 (AM 2 [(18, .bool (p0.Kind == 2))] H fun fr H => AV 18 H hm (fun hb hm H => ?_) fun hb hm H => ?_)
   ·exact By (.inl ⟨_, rfl, Ah hm, H.ls, A⟩)
   refine Bd 2 (BG 2 [(1, .ptr (some (h.size, 0))), (2, .ptr (some (h1.size, 0))), (5, Ai p0.Kind), (18, .bool (p0.Kind == 3))] H fun fr H => at_nil ?_)
   exact .inl ⟨_, rfl, Ah hm, H.ls, A⟩
  clear ho
  clear A
  intro e fr h6 hQ
  rcases hQ with ⟨x2, rfl, rfl, H, A⟩ | hF
  ·show AW _ _ _ _ _ _ _
   refine AV 18 H hm (fun hb hm H => ?_) fun hb hm H => ?_
   ·refine AD 9 (Ad 1 [] 22 1 0 A H fun fr t H => ?_)
    refine Ad 1 [] 24 1 1 A H fun fr t H => ?_
    refine Ad 1 [] 26 1 2 A H fun fr t H => ?_
    obtain ⟨h7, hx, A⟩ := A.s0 0 [Ai p0.Kind, Ai p0.A, Ai p0.B, Ai 0, Ai 0, Ai 0, Au 0, Au 0, Au 0, Au 0] [_, _, _, _, _, _, _, _, _, _]
    refine F7 1 [] hx H fun fr t H => ?_
    refine AM 1 [(3, .bool true)] H fun fr H => Ag ?_
    obtain ⟨rfl, rfl⟩ := Ds hm
    refine ⟨.inl rfl, .tuple [.agg [Ai p0.Kind, Ai p0.A, Ai p0.B, Ai 0, Ai 0, Ai 0, Au 0, Au 0, Au 0, Au 0], .bool true], Bm (.cell (rT H) (Bl (by kernel_rfl) (by kernel_rfl) (A.la 0 0 10)) (.tmp (rT H) .nil)), ?_⟩
    replace A := A.d0
    exact ⟨rfl, A⟩
   refine AD 2 (AM 2 [(28, .bool (p0.Kind == 4))] H fun fr H => AV 28 H hm (fun hb hm H => ?_) fun hb hm H => ?_)
   ·refine AD 9 (Ad 1 [] 31 1 1 A H fun fr t H => ?_)
    refine Ad 1 [] 33 1 3 A H fun fr t H => ?_
    refine Ad 1 [] 35 1 4 A H fun fr t H => ?_
    obtain ⟨h8, hx, A⟩ := A.s0 0 [Ai 4, Ai p0.A, Ai 0, Ai p0.Min, Ai p0.Max, Ai 0, Au 0, Au 0, Au 0, Au 0] [_, _, _, _, _, _, _, _, _, _]
    refine F7 1 [] hx H fun fr t H => ?_
    refine AM 1 [(3, .bool true)] H fun fr H => Ag ?_
    obtain ⟨rfl, rfl⟩ := Ds hm
    refine ⟨.inl rfl, .tuple [.agg [Ai 4, Ai p0.A, Ai 0, Ai p0.Min, Ai p0.Max, Ai 0, Au 0, Au 0, Au 0, Au 0], .bool true], Bm (.cell (rT H) (Bl (by kernel_rfl) (by kernel_rfl) (A.la 0 0 10)) (.tmp (rT H) .nil)), ?_⟩
    replace A := A.d0
    exact ⟨rfl, A⟩
   refine AD 2 (AM 2 [(37, .bool (p0.Kind == 5))] H fun fr H => AV 37 H hm (fun hb hm H => ?_) fun hb hm H => ?_)
   ·refine AD 7 (Ad 1 [] 40 1 1 A H fun fr t H => ?_)
    refine Ad 1 [] 42 1 5 A H fun fr t H => ?_
    obtain ⟨h9, hx, A⟩ := A.s0 0 [Ai 5, Ai p0.A, Ai 0, Ai 0, Ai 0, Ai p0.C4, Au 0, Au 0, Au 0, Au 0] [_, _, _, _, _, _, _, _, _, _]
    refine F7 1 [] hx H fun fr t H => ?_
    refine AM 1 [(3, .bool true)] H fun fr H => Ag ?_
    obtain ⟨rfl, rfl⟩ := Ds hm
    refine ⟨.inl rfl, .tuple [.agg [Ai 5, Ai p0.A, Ai 0, Ai 0, Ai 0, Ai p0.C4, Au 0, Au 0, Au 0, Au 0], .bool true], Bm (.cell (rT H) (Bl (by kernel_rfl) (by kernel_rfl) (A.la 0 0 10)) (.tmp (rT H) .nil)), ?_⟩
    replace A := A.d0
    exact ⟨rfl, A⟩
   refine Ca 3 id ?_
   obtain ⟨h10, hx, A⟩ := A.s0 0 [Ai 0, Ai 0, Ai 0, Ai 0, Ai 0, Ai 0, Au 0, Au 0, Au 0, Au 0] [_, _, _, _, _, _, _, _, _, _]
   refine F7 1 [] hx H fun fr t H => ?_
   refine AM 1 [(3, .bool false)] H fun fr H => Ag ?_
   obtain ⟨rfl, rfl⟩ := Ds hm
   refine ⟨.inl rfl, .tuple [.agg [Ai 0, Ai 0, Ai 0, Ai 0, Ai 0, Ai 0, Au 0, Au 0, Au 0, Au 0], .bool false], Bm (.cell (rT H) (Bl (by kernel_rfl) (by kernel_rfl) (A.la 0 0 10)) (.tmp (rT H) .nil)), ?_⟩
   replace A := A.d0
   exact ⟨rfl, A⟩
  exact hF.elim
 exact hF.elim
def GC (p0 : AJ) (p1 : Int) : Option (Bool) :=
 (Il p0).bind fun (x1, x2) => (Af (!x2) (some true) ((WN cfg.P 94 (AA x1) (AA p0)).bind fun x4 => some (!x4)) : Option (Bool)).bind fun x3 => Af x3 (some false) ((Af (p0.Kind == 2) (some true) (some (p0.Kind == 3)) : Option ((Bool))).bind fun x5 => Af x5 ((Dv p0.A p1).bind fun x6 => (Af x6 ((Dv p0.B p1).bind fun x8 => some x8) (some false) : Option (Bool)).bind fun x7 => some x7) (Af (p0.Kind == 4) ((Dv p0.A p1).bind fun x9 => some (((x9 && (decide (p0.Min ≥ 0))) && (decide (p0.Min ≤ 255))) && ((p0.Max == (-1)) || ((decide (p0.Max ≥ p0.Min)) && (decide (p0.Max ≤ 255)))))) (Af (p0.Kind == 5) ((Dv p0.A p1).bind fun x10 => some ((x10 && (decide (p0.C4 ≥ 1))) && (decide (p0.C4 ≤ 1024)))) (some true))))
theorem Mm {p0 p1 q0} (hm : GC p0 p1 = some q0) (A : HH g h [] F) (hc : BZ (cfg.still 53) av = [.agg (AA p0), Ai p1] := by kernel_rfl) : ∃ v h', Bg cfg g h 53 av v h' ∧ v = .bool q0 ∧ HH g h' [] F := by
 refine E5 85 [.tmp 4] hc ?_
 clear hc
 unfold GC at hm
 refine bg 85 [(0, .agg (AA p0)), (1, Ai p1)] fun fr H => ?_
 refine AD 3 ?_
 obtain ⟨h1, e1, A⟩ := A.pu (.cells none 2 (AA p0))
 refine Bo 2 (.ptr (some (h.size, 0))) e1 H fun fr t H => ?_
 obtain ⟨h2, e2, A⟩ := A.pu (.cells none 2 [Ai p1])
 refine Bo 3 (.ptr (some (h1.size, 0))) e2 H fun fr t H => ?_
 refine AM 1 [] H fun fr H => AQ (AD 8 (Ax 9 _ _ H (fun fr => .of (CD (by kernel_rfl) (A.GX 1 rfl (o := 0) (n := 10) ⟨Nat.le_of_ble_eq_true rfl, rfl⟩))) fun fr t H => ?_))
 obtain ⟨⟨x1, x2⟩, hx, hm⟩ := bind_some hm
 obtain ⟨v1, h3, hr, rfl, A1⟩ := Pe (av := [.agg (AA p0)]) hx (A.cut 0)
 replace A : HH g h3 [.obj h1.size (.cells none 2 [Ai p1]), .obj h.size (.cells none 2 (AA p0))] F := A.Ex (n := 0) A1
 refine Be 10 hr H fun fr t H => ?_
 obtain ⟨h4, e3, A⟩ := A.pu (.cells none 2 [Ai 0, Ai 0, Ai 0, Ai 0, Ai 0, Ai 0, Au 0, Au 0, Au 0, Au 0])
 refine F8 3 [(11, .agg (AA x1)), (12, .bool x2)] 5 (.ptr (some (h3.size, 0))) e3 H fun fr t H => ?_
 obtain ⟨h5, hx, A⟩ := A.s0 0 (AA x1) [_, _, _, _, _, _, _, _, _, _]
 refine DN hx H fun fr t H => ?_
 refine Bw 1 [(6, .bool x2)] 7 H fun fr H => AE 3 [(15, .bool (!x2))] H fun fr H => ?_
 obtain ⟨x3, ho, hm⟩ := bind_some hm
 refine BD 4 (fun fr' h' => Has fr' 85 [(2, .ptr (some (h.size, 0))), (3, .ptr (some (h1.size, 0))), (19, .bool x3)] ∧ HH g h' [.obj h3.size (.cells none 2 (AA x1)), .obj h1.size (.cells none 2 [Ai p1]), .obj h.size (.cells none 2 (AA p0))] F) ?_ ?_
 ·rcases BJ ho with ⟨hb, hm⟩ | ⟨hb, hm⟩
  ·replace H := H.kn 15 hb
   refine AE 4 [(19, .bool true)] H fun fr H => ?_
   obtain rfl := Ah hm
   exact at_nil ⟨H.ls, A⟩
  replace H := H.kn 15 hb
  refine Ax 16 _ _ H (fun fr => .of (CD (by kernel_rfl) (A.GX 0 rfl (o := 0) (n := 10) ⟨Nat.le_of_ble_eq_true rfl, rfl⟩))) fun fr t H => ?_
  refine Ax 17 _ _ H (fun fr => .of (CD (by kernel_rfl) (A.GX 2 rfl (o := 0) (n := 10) ⟨Nat.le_of_ble_eq_true rfl, rfl⟩))) fun fr t H => ?_
  obtain ⟨x4, hx, hm⟩ := bind_some hm
  refine Ax 18 (.bool (!x4)) h5 H (fun fr => .of (Wi (by kernel_rfl) hx)) fun fr t H => ?_
  refine AE 1 [(19, .bool (!x4))] H fun fr H => ?_
  obtain rfl := Ah hm
  exact at_nil ⟨H.ls, A⟩
 clear A
 intro t fr h6 hK
 obtain ⟨H, A⟩ := hK
 refine BK id (AV 19 H hm (fun hb hm H => ?_) fun hb hm H => ?_)
 ·refine AD 1 (AM 1 [(4, .bool false)] H fun fr H => Ag ?_)
  obtain rfl := Ah hm
  refine ⟨.inl rfl, .bool false, rH H, ?_⟩
  replace A := A.d0
  exact ⟨rfl, A⟩
 refine Ca 2 id (AM 2 [(7, .func (.func 71) [] [.ptr (some (h1.size, 0))])] H fun fr H => AQ (AD 2 (Ad 1 [] 22 2 0 A H fun fr t H => ?_)))
 refine BK id (Ac (id := 0) (by kernel_rfl) ?_)
 refine AQ ?_
 obtain ⟨o1, ho, hm⟩ := bind_some hm
 refine As (Q' := fun e fr' h' => (∃ x5, e = .normal ∧ x5 = o1 ∧ Has fr' 85 [(2, .ptr (some (h.size, 0))), (7, .func (.func 71) [] [.ptr (some (h1.size, 0))]), (22, Ai p0.Kind), (23, .bool x5)] ∧ HH g h' [.obj h3.size (.cells none 2 (AA x1)), .obj h1.size (.cells none 2 [Ai p1]), .obj h.size (.cells none 2 (AA p0))] F) ∨ False) ?_ ?_
 ·replace hm := ho
  clear ho
  refine AD 2 (AM 2 [(23, .bool (p0.Kind == 2))] H fun fr H => AV 23 H hm (fun hb hm H => ?_) fun hb hm H => ?_)
  ·exact By (.inl ⟨_, rfl, Ah hm, H.ls, A⟩)
  refine Bd 2 (BG 2 [(2, .ptr (some (h.size, 0))), (7, .func (.func 71) [] [.ptr (some (h1.size, 0))]), (22, Ai p0.Kind), (23, .bool (p0.Kind == 3))] H fun fr H => at_nil ?_)
  exact .inl ⟨_, rfl, Ah hm, H.ls, A⟩
 clear ho
 clear A
 intro e fr h7 hQ
 rcases hQ with ⟨x5, rfl, rfl, H, A⟩ | hF
 ·show AW _ _ _ _ _ _ _
  refine AV 23 H hm (fun hb hm H => ?_) fun hb hm H => ?_
  ·refine AD 11 (Ad 2 [(26, .func (.func 71) [] [.ptr (some (h1.size, 0))])] 28 2 1 A H fun fr t H => ?_)
   replace A := A.k3 1 0 2
   obtain ⟨x6, hx, hm⟩ := bind_some hm
   obtain ⟨v1, h8, hr, rfl, A1⟩ := Fc (av := [Ai p0.A, .ptr (some (h1.size, 0))]) hx (A.cut 1)
   replace A := A.g11 A1
   refine Be 29 hr H fun fr t H => ?_
   refine AE 1 [(30, .bool x6)] H fun fr H => ?_
   obtain ⟨x7, ho, hm⟩ := bind_some hm
   refine BD 5 (fun fr' h' => Has fr' 85 [(35, .bool x7)] ∧ HH g h' [.obj h1.size (.cells none 2 [Ai p1]), .obj h3.size (.cells none 2 (AA x1)), .obj h.size (.cells none 2 (AA p0))] F) ?_ ?_
   ·rcases BJ ho with ⟨hb, hm⟩ | ⟨hb, hm⟩
    ·replace H := H.kn 30 hb
     refine Ad 2 [(31, .func (.func 71) [] [.ptr (some (h1.size, 0))])] 33 2 2 A H fun fr t H => ?_
     obtain ⟨x8, hx, hm⟩ := bind_some hm
     obtain ⟨v1, h10, hr, rfl, A1⟩ := Fc (av := [Ai p0.B, .ptr (some (h1.size, 0))]) hx (A.cut 1)
     replace A := A.g11 A1
     refine Be 34 hr H fun fr t H => ?_
     refine AE 1 [(35, .bool x8)] H fun fr H => ?_
     obtain rfl := Ah hm
     exact at_nil ⟨H.ls, A⟩
    replace H := H.kn 30 hb
    refine AE 5 [(35, .bool false)] H fun fr H => ?_
    obtain rfl := Ah hm
    exact at_nil ⟨H.ls, A⟩
   clear A
   intro t fr h9 hK
   obtain ⟨H, A⟩ := hK
   refine AM 1 [(4, .bool x7)] H fun fr H => Ag ?_
   obtain rfl := Ah hm
   refine ⟨.inl rfl, .bool x7, rH H, ?_⟩
   replace A := A.d0
   exact ⟨rfl, A⟩
  refine AD 2 (AM 2 [(36, .bool (p0.Kind == 4))] H fun fr H => AV 36 H hm (fun hb hm H => ?_) fun hb hm H => ?_)
  ·refine AD 32 (Ad 2 [(38, .func (.func 71) [] [.ptr (some (h1.size, 0))])] 40 2 1 A H fun fr t H => ?_)
   replace A := A.k3 1 0 2
   obtain ⟨x9, hx, hm⟩ := bind_some hm
   obtain ⟨v1, h11, hr, rfl, A1⟩ := Fc (av := [Ai p0.A, .ptr (some (h1.size, 0))]) hx (A.cut 1)
   replace A := A.g11 A1
   refine Be 41 hr H fun fr t H => ?_
   refine AE 1 [(42, .bool x9)] H fun fr H => BD 4 (fun fr' h' => h11 = h' ∧ Has fr' 85 [(2, .ptr (some (h.size, 0))), (46, .bool (x9 && (decide (p0.Min ≥ 0))))]) ?_ ?_
   ·cases hb : (x9 : Bool) with
    | true =>
     replace H := H.kn 42 hb
     refine Ad 1 [] 44 2 3 A H fun fr t H => ?_
     exact AE 2 [(46, .bool (decide (p0.Min ≥ 0)))] H fun fr H => Am H hb
    | false =>
     replace H := H.kn 42 hb
     exact AE 4 [(46, .bool false)] H fun fr H => Am H hb
   intro t fr h' hK
   obtain ⟨e, H⟩ := hK
   subst e
   refine AE 1 [(47, .bool (x9 && (decide (p0.Min ≥ 0))))] H fun fr H => BD 4 (fun fr' h' => h11 = h' ∧ Has fr' 85 [(2, .ptr (some (h.size, 0))), (51, .bool ((x9 && (decide (p0.Min ≥ 0))) && (decide (p0.Min ≤ 255))))]) ?_ ?_
   ·cases hb : (x9 && (decide (p0.Min ≥ 0)) : Bool) with
    | true =>
     replace H := H.kn 47 hb
     refine Ad 1 [] 49 2 3 A H fun fr t H => ?_
     exact AE 2 [(51, .bool (decide (p0.Min ≤ 255)))] H fun fr H => Am H hb
    | false =>
     replace H := H.kn 47 hb
     exact AE 4 [(51, .bool false)] H fun fr H => Am H hb
   intro t fr h' hK
   obtain ⟨e, H⟩ := hK
   subst e
   refine AE 1 [(52, .bool ((x9 && (decide (p0.Min ≥ 0))) && (decide (p0.Min ≤ 255))))] H fun fr H => BD 16 (fun fr' h' => h11 = h' ∧ Has fr' 85 [(68, .bool (((x9 && (decide (p0.Min ≥ 0))) && (decide (p0.Min ≤ 255))) && ((p0.Max == (-1)) || ((decide (p0.Max ≥ p0.Min)) && (decide (p0.Max ≤ 255))))))]) ?_ ?_
   ·cases hb : ((x9 && (decide (p0.Min ≥ 0))) && (decide (p0.Min ≤ 255)) : Bool) with
    | true =>
     replace H := H.kn 52 hb
     refine Ad 1 [] 54 2 4 A H fun fr t H => ?_
     refine AE 2 [(56, .bool (p0.Max == (-1)))] H fun fr H => BD 11 (fun fr' h' => h11 = h' ∧ Has fr' 85 [(52, .bool true), (67, .bool ((p0.Max == (-1)) || ((decide (p0.Max ≥ p0.Min)) && (decide (p0.Max ≤ 255)))))]) ?_ ?_
     ·cases hb : (p0.Max == (-1) : Bool) with
      | true =>
       replace H := H.kn 56 hb
       exact AE 11 [(67, .bool true)] H fun fr H => Am H hb
      | false =>
       replace H := H.kn 56 hb
       refine Ad 1 [] 58 2 4 A H fun fr t H => ?_
       refine Ad 1 [] 60 2 3 A H fun fr t H => ?_
       refine AE 2 [(62, .bool (decide (p0.Max ≥ p0.Min)))] H fun fr H => BD 4 (fun fr' h' => h11 = h' ∧ Has fr' 85 [(52, .bool true), (56, .bool false), (66, .bool ((decide (p0.Max ≥ p0.Min)) && (decide (p0.Max ≤ 255))))]) ?_ ?_
       ·cases hb : (decide (p0.Max ≥ p0.Min) : Bool) with
        | true =>
         replace H := H.kn 62 hb
         refine Ad 1 [] 64 2 4 A H fun fr t H => ?_
         exact AE 2 [(66, .bool (decide (p0.Max ≤ 255)))] H fun fr H => Am H hb
        | false =>
         replace H := H.kn 62 hb
         exact AE 4 [(66, .bool false)] H fun fr H => Am H hb
       intro t fr h' hK
       obtain ⟨e, H⟩ := hK
       subst e
       exact AE 1 [(67, .bool ((decide (p0.Max ≥ p0.Min)) && (decide (p0.Max ≤ 255))))] H fun fr H => Am H hb
     intro t fr h' hK
     obtain ⟨e, H⟩ := hK
     subst e
     exact AE 1 [(68, .bool ((p0.Max == (-1)) || ((decide (p0.Max ≥ p0.Min)) && (decide (p0.Max ≤ 255)))))] H fun fr H => Am H hb
    | false =>
     replace H := H.kn 52 hb
     exact AE 16 [(68, .bool false)] H fun fr H => Am H hb
   intro t fr h' hK
   obtain ⟨e, H⟩ := hK
   subst e
   refine AM 1 [(4, .bool (((x9 && (decide (p0.Min ≥ 0))) && (decide (p0.Min ≤ 255))) && ((p0.Max == (-1)) || ((decide (p0.Max ≥ p0.Min)) && (decide (p0.Max ≤ 255))))))] H fun fr H => Ag ?_
   obtain rfl := Ah hm
   refine ⟨.inl rfl, .bool (((x9 && (decide (p0.Min ≥ 0))) && (decide (p0.Min ≤ 255))) && ((p0.Max == (-1)) || ((decide (p0.Max ≥ p0.Min)) && (decide (p0.Max ≤ 255))))), rH H, ?_⟩
   replace A := A.d0
   exact ⟨rfl, A⟩
  refine AD 2 (AM 2 [(69, .bool (p0.Kind == 5))] H fun fr H => AV 69 H hm (fun hb hm H => ?_) fun hb hm H => ?_)
  ·refine AD 15 (Ad 2 [(71, .func (.func 71) [] [.ptr (some (h1.size, 0))])] 73 2 1 A H fun fr t H => ?_)
   replace A := A.k3 1 0 2
   obtain ⟨x10, hx, hm⟩ := bind_some hm
   obtain ⟨v1, h12, hr, rfl, A1⟩ := Fc (av := [Ai p0.A, .ptr (some (h1.size, 0))]) hx (A.cut 1)
   replace A := A.g11 A1
   refine Be 74 hr H fun fr t H => ?_
   refine AE 1 [(75, .bool x10)] H fun fr H => BD 4 (fun fr' h' => h12 = h' ∧ Has fr' 85 [(2, .ptr (some (h.size, 0))), (79, .bool (x10 && (decide (p0.C4 ≥ 1))))]) ?_ ?_
   ·cases hb : (x10 : Bool) with
    | true =>
     replace H := H.kn 75 hb
     refine Ad 1 [] 77 2 5 A H fun fr t H => ?_
     exact AE 2 [(79, .bool (decide (p0.C4 ≥ 1)))] H fun fr H => Am H hb
    | false =>
     replace H := H.kn 75 hb
     exact AE 4 [(79, .bool false)] H fun fr H => Am H hb
   intro t fr h' hK
   obtain ⟨e, H⟩ := hK
   subst e
   refine AE 1 [(80, .bool (x10 && (decide (p0.C4 ≥ 1))))] H fun fr H => BD 4 (fun fr' h' => h12 = h' ∧ Has fr' 85 [(84, .bool ((x10 && (decide (p0.C4 ≥ 1))) && (decide (p0.C4 ≤ 1024))))]) ?_ ?_
   ·cases hb : (x10 && (decide (p0.C4 ≥ 1)) : Bool) with
    | true =>
     replace H := H.kn 80 hb
     refine Ad 1 [] 82 2 5 A H fun fr t H => ?_
     exact AE 2 [(84, .bool (decide (p0.C4 ≤ 1024)))] H fun fr H => Am H hb
    | false =>
     replace H := H.kn 80 hb
     exact AE 4 [(84, .bool false)] H fun fr H => Am H hb
   intro t fr h' hK
   obtain ⟨e, H⟩ := hK
   subst e
   refine AM 1 [(4, .bool ((x10 && (decide (p0.C4 ≥ 1))) && (decide (p0.C4 ≤ 1024))))] H fun fr H => Ag ?_
   obtain rfl := Ah hm
   refine ⟨.inl rfl, .bool ((x10 && (decide (p0.C4 ≥ 1))) && (decide (p0.C4 ≤ 1024))), rH H, ?_⟩
   replace A := A.d0
   exact ⟨rfl, A⟩
  refine Ca 1 id (AM 1 [(4, .bool true)] H fun fr H => Ag ?_)
  obtain rfl := Ah hm
  refine ⟨.inl rfl, .bool true, rH H, ?_⟩
  replace A := A.d0
  exact ⟨rfl, A⟩
 exact hF.elim
def Eh (p0 : AF) (p1 : AJ) : Option (Int × Int × AF × (List AJ)) :=
 Af (decide ((p0.t_.AU.length : Int) ≥ 1024)) (some ((0 : Int), (8 : Int), p0, p0.t_.AU)) ((GC p1 (p0.t_.AU.length : Int)).bind fun x1 => Af (!x1) (some ((0 : Int), (1 : Int), p0, p0.t_.AU)) (Cm (KI 80 (p0.t_.AU.length + ([p1] : List AJ).length)) <| some (IntKind.i64.wrap (((p0.t_.AU ++ ([p1] : List AJ)).length : Int) - 1), (0 : Int), (⟨p0.s_, p0.at_, p0.AX, (⟨(p0.t_.AU ++ ([p1] : List AJ)), IntKind.i64.wrap (((p0.t_.AU ++ ([p1] : List AJ)).length : Int) - 1)⟩ : AI), p0.An, p0.BC, p0.BB, p0.Ay⟩ : AF), (p0.t_.AU ++ ([p1] : List AJ)))))
theorem Jh {p0 p1 bp0 rp0_3 q0 q1 u0 u1} (hm : Eh p0 p1 = some (q0, q1, u0, u1)) (A : HH g h [.obj bp0 (.cells none 2 (AZ p0 (AG rp0_3 p0.t_.AU.length))), .AO rp0_3 94 (AO AA p0.t_.AU)] F) (hc : BZ (cfg.still 80) av = [.ptr (some (bp0, 3)), .agg (AA p1)] := by kernel_rfl) : ∃ v h', Bg cfg g h 80 av v h' ∧ ∃ (r'1 : Option Nat), v = .tuple [Ai q0, Ai q1] ∧ HH g h' [.obj bp0 (.cells none 2 (AZ u0 (AG r'1 u1.length))), .AO r'1 94 (AO AA u1)] F := by
 refine E5 45 [.tmp 4, .tmp 5] hc ?_
 clear hc
 unfold Eh at hm
 refine bg 45 [(0, .ptr (some (bp0, 3))), (1, .agg (AA p1))] fun fr H => ?_
 refine AD 3 ?_
 obtain ⟨h1, e1, A⟩ := A.pu (.cells none 2 (AA p1))
 refine Bo 3 (.ptr (some (h.size, 0))) e1 H fun fr t H => ?_
 refine AM 2 [] H fun fr H => AQ (Ac (id := 0) (by kernel_rfl) ?_)
 refine AD 7 (Ad 3 [] 10 1 3 A H fun fr t H => ?_)
 refine AM 3 [(6, .bool (decide ((p0.t_.AU.length : Int) ≥ 1024)))] H fun fr H => AV 6 H hm (fun hb hm H => ?_) fun hb hm H => ?_
 ·refine AD 2 (AM 2 [(4, Ai 0), (5, Ai 8)] H fun fr H => Ag ?_)
  obtain ⟨rfl, rfl, rfl, rfl⟩ := RX hm
  refine ⟨.inl rfl, .tuple [Ai 0, Ai 8], rH H, ?_⟩
  replace A := A.k2 1 2
  exact ⟨rp0_3, rfl, A⟩
 refine AQ (EO 3 9 ?_)
 refine Ax 14 _ _ H (fun fr => .of (CD (by kernel_rfl) (A.GX 0 rfl (o := 0) (n := 10) ⟨Nat.le_of_ble_eq_true rfl, rfl⟩))) fun fr t H => ?_
 refine Ad 3 [] 18 1 3 A H fun fr t H => ?_
 obtain ⟨x1, hx, hm⟩ := bind_some hm
 obtain ⟨v1, h2, hr, rfl, A1⟩ := Mm (av := [.agg (AA p1), Ai (p0.t_.AU.length : Int)]) hx (A.cut 0)
 replace A : HH g h2 [.obj h.size (.cells none 2 (AA p1)), _, _] F := A.Ex (n := 0) A1
 refine Ap 1 [] 20 hr H fun fr t H => ?_
 refine AM 2 [(13, .bool (!x1))] H fun fr H => AV 13 H hm (fun hb hm H => ?_) fun hb hm H => ?_
 ·refine AD 2 (AM 2 [(4, Ai 0), (5, Ai 1)] H fun fr H => Ag ?_)
  obtain ⟨rfl, rfl, rfl, rfl⟩ := RX hm
  refine ⟨.inl rfl, .tuple [Ai 0, Ai 1], rH H, ?_⟩
  replace A := A.k2 1 2
  exact ⟨rp0_3, rfl, A⟩
 refine CE id (AQ (EO 5 11 ?_))
 refine Ad 4 [(22, .ptr (some (bp0, 3)))] 26 1 3 A H fun fr t H => ?_
 refine Ax 27 _ _ H (fun fr => .of (CD (by kernel_rfl) (A.GX 0 rfl (o := 0) (n := 10) ⟨Nat.le_of_ble_eq_true rfl, rfl⟩))) fun fr t H => ?_
 obtain ⟨h3, e2, A⟩ := A.pL 94 (AA p1)
 refine Bo 28 (AG (some h2.size) (([p1] : List AJ).length)) e2 H fun fr t H => ?_
 obtain ⟨hb, hm⟩ := BQ hm
 obtain ⟨r1, h4, hx, A1⟩ := HH.Hd En (by decide) A 3 (xs := p0.t_.AU) (ys := ([p1] : List AJ)) rfl (B6 A 0 rfl (n := ([p1] : List AJ).length) (z := 10) rfl (by decide)) rfl rfl hb
 replace A : HH g h4 [.AO (some h2.size) 94 ((AA p1)), _, _, .AO r1 94 (AO AA (p0.t_.AU ++ ([p1] : List AJ)))] F := A1
 replace A := A.k3 1 2 3
 refine Ax 29 _ _ H (fun fr => .of (Er (s := Cf rp0_3 p0.t_.AU.length) (by kernel_rfl) hx)) fun fr t H => ?_
 obtain ⟨h5, hx, A1⟩ := A.st 1 rfl (o := 3) (new := [AG r1 ((p0.t_.AU ++ ([p1] : List AJ)).length)]) (ds := (AZ p0 (AG r1 ((p0.t_.AU ++ ([p1] : List AJ)).length)))) (Nat.le_of_ble_eq_true rfl) rfl rfl
 replace A : HH g h5 [_, .obj bp0 (.cells none 2 [_, _, _, AG r1 ((p0.t_.AU ++ ([p1] : List AJ)).length), _, _, _, _, _]), _] F := A1
 refine C1 2 [] hx H fun fr t H => ?_
 refine CG 10 id (Ad 4 [(32, .ptr (some (bp0, 3)))] 36 1 3 A H fun fr t H => ?_)
 obtain ⟨h6, hx, A1⟩ := A.st 1 rfl (o := 4) (new := [Ai (IntKind.i64.wrap (((p0.t_.AU ++ ([p1] : List AJ)).length : Int) - 1))]) (ds := (Np p0 (AG r1 ((p0.t_.AU ++ ([p1] : List AJ)).length)) (Ai (IntKind.i64.wrap (((p0.t_.AU ++ ([p1] : List AJ)).length : Int) - 1))))) (Nat.le_of_ble_eq_true rfl) rfl rfl
 replace A : HH g h6 [_, .obj bp0 (.cells none 2 [_, _, _, _, Ai (IntKind.i64.wrap (((p0.t_.AU ++ ([p1] : List AJ)).length : Int) - 1)), _, _, _, _]), _] F := A1
 refine C1 4 [] hx H fun fr t H => ?_
 refine CG 6 id (Ad 3 [] 44 1 4 A H fun fr t H => ?_)
 refine AM 2 [(4, Ai (IntKind.i64.wrap (((p0.t_.AU ++ ([p1] : List AJ)).length : Int) - 1))), (5, Ai 0)] H fun fr H => Ag ?_
 obtain ⟨rfl, rfl, rfl, rfl⟩ := RX hm
 refine ⟨.inl rfl, .tuple [Ai (IntKind.i64.wrap (((p0.t_.AU ++ ([p1] : List AJ)).length : Int) - 1)), Ai 0], rH H, ?_⟩
 replace A := A.k2 1 2
 exact ⟨r1, rfl, A⟩
def BY (p0 : AF) (p1 : AJ) : Option (Int × AF × (List AJ)) :=
 Af p0.Ay (some ((0 : Int), p0, p0.t_.AU)) ((Eh p0 p1).bind fun (x1, x2, x3, x4) => (Af (x2 != 0) (some true) (some x3.Ay) : Option ((Bool))).bind fun x5 => some (x1, (⟨x3.s_, x3.at_, x3.AX, (⟨x4, x3.t_.Bf⟩ : AI), x3.An, x3.BC, x3.BB, x5⟩ : AF), x4))
theorem B9 {p0 p1 bp0 rp0_3 q0 u0 u1} (hm : BY p0 p1 = some (q0, u0, u1)) (A : HH g h [.obj bp0 (.cells none 2 (AZ p0 (AG rp0_3 p0.t_.AU.length))), .AO rp0_3 94 (AO AA p0.t_.AU)] F) (hc : BZ (cfg.still 62) av = [.ptr (some (bp0, 0)), .agg (AA p1)] := by kernel_rfl) : ∃ v h', Bg cfg g h 62 av v h' ∧ ∃ (r'1 : Option Nat), v = Ai q0 ∧ HH g h' [.obj bp0 (.cells none 2 (AZ u0 (AG r'1 u1.length))), .AO r'1 94 (AO AA u1)] F := by
 refine E5 25 [.tmp 4] hc ?_
 clear hc
 unfold BY at hm
 refine bg 25 [(0, .ptr (some (bp0, 0))), (1, .agg (AA p1))] fun fr H => ?_
 refine AD 2 ?_
 obtain ⟨h1, e1, A⟩ := A.pu (.cells none 2 (AA p1))
 refine Bo 3 (.ptr (some (h.size, 0))) e1 H fun fr t H => ?_
 refine AM 1 [] H fun fr H => AQ (AD 4 (Ad 3 [] 10 1 8 A H fun fr t H => ?_))
 refine BK id (AV 10 H hm (fun hb hm H => ?_) fun hb hm H => ?_)
 ·refine AD 1 (AM 1 [(4, Ai 0)] H fun fr H => Ag ?_)
  obtain ⟨rfl, rfl, rfl⟩ := DR hm
  refine ⟨.inl rfl, Ai 0, rH H, ?_⟩
  replace A := A.k2 1 2
  exact ⟨rp0_3, rfl, A⟩
 refine CE id (AQ (EO 3 10 ?_))
 refine BI 3 [(14, .ptr (some (bp0, 3)))] 15 _ _ H (fun fr => .of (CD (by kernel_rfl) (A.GX 0 rfl (o := 0) (n := 10) ⟨Nat.le_of_ble_eq_true rfl, rfl⟩))) fun fr t H => ?_
 replace A : HH g h1 [_, _, .obj h.size (.cells none 2 (AA p1))] F := ((A.front 2 rfl).front 2 rfl)
 obtain ⟨⟨x1, x2, x3, x4⟩, hx, hm⟩ := bind_some hm
 obtain ⟨v1, h2, hr, r1, rfl, A1⟩ := Jh (av := [.ptr (some (bp0, 3)), .agg (AA p1)]) hx (A.cut 2)
 replace A := A.g22 A1
 refine Be 16 hr H fun fr t H => ?_
 refine AM 5 [(5, Ai x1), (6, Ai x2)] H fun fr H => AQ ?_
 obtain ⟨o1, ho, hm⟩ := bind_some hm
 refine As (Q' := fun e fr' h' => (∃ x5, e = .normal ∧ x5 = o1 ∧ Has fr' 25 [(5, Ai x1)] ∧ HH g h' [.obj bp0 (.cells none 2 (Ni x3 (AG r1 x4.length) (.bool x5))), .AO r1 94 (AO AA x4), .obj h.size (.cells none 2 (AA p1))] F) ∨ False) ?_ ?_
 ·replace hm := ho
  clear ho
  refine AD 2 (AM 2 [(20, .bool (x2 != 0))] H fun fr H => AV 20 H hm (fun hb hm H => ?_) fun hb hm H => ?_)
  ·refine Bd 4 ?_
   obtain ⟨h3, hx, A⟩ := A.s0 8 [.bool true] [_, _, _, _, _, _, _, _, _]
   refine C1 3 [] hx H fun fr t H => ?_
   refine at_nil ?_
   exact .inl ⟨_, rfl, Ah hm, H.ls, A⟩
  exact By (.inl ⟨_, rfl, Ah hm, H.ls, A⟩)
 clear ho
 clear A
 intro e fr h4 hQ
 rcases hQ with ⟨x5, rfl, rfl, H, A⟩ | hF
 ·show AW _ _ _ _ _ _ _
  refine AD 2 (AM 2 [(4, Ai x1)] H fun fr H => Ag ?_)
  obtain ⟨rfl, rfl, rfl⟩ := DR hm
  refine ⟨.inl rfl, Ai x1, rH H, ?_⟩
  replace A := A.d2
  exact ⟨r1, rfl, A⟩
 exact hF.elim
def C2 (p0 : AF) (p1 : Int) : Option (Int × AF × (List AJ)) :=
 (B4 p1 p1).bind fun x1 => (BY p0 (⟨(1 : Int), (0 : Int), (0 : Int), (0 : Int), (0 : Int), (0 : Int), x1⟩ : AJ)).bind fun (x2, x3, x4) => some (x2, (⟨x3.s_, x3.at_, x3.AX, (⟨x4, x3.t_.Bf⟩ : AI), x3.An, x3.BC, x3.BB, x3.Ay⟩ : AF), x4)
theorem Fm {p0 p1 bp0 rp0_3 q0 u0 u1} (hm : C2 p0 p1 = some (q0, u0, u1)) (A : HH g h [.obj bp0 (.cells none 2 (AZ p0 (AG rp0_3 p0.t_.AU.length))), .AO rp0_3 94 (AO AA p0.t_.AU)] F) (hc : BZ (cfg.still 61) av = [.ptr (some (bp0, 0)), Ab p1] := by kernel_rfl) : ∃ v h', Bg cfg g h 61 av v h' ∧ ∃ (r'1 : Option Nat), v = Ai q0 ∧ HH g h' [.obj bp0 (.cells none 2 (AZ u0 (AG r'1 u1.length))), .AO r'1 94 (AO AA u1)] F := by
 refine E5 11 [.tmp 4] hc ?_
 clear hc
 unfold C2 at hm
 refine bg 11 [(0, .ptr (some (bp0, 0))), (1, Ab p1)] fun fr H => ?_
 refine AD 1 (Bw 1 [] 7 H fun fr H => ?_)
 obtain ⟨x1, hx, hm⟩ := bind_some hm
 obtain ⟨v1, h1, hr, rfl, A1⟩ := CS (av := [Ab p1, Ab p1]) hx (A.cut 0)
 replace A := A.Ea A1
 refine Ap 3 [(5, .ptr (some (bp0, 0)))] 8 hr H fun fr t H => ?_
 obtain ⟨⟨x2, x3, x4⟩, hx, hm⟩ := bind_some hm
 obtain ⟨v1, h2, hr, r1, rfl, A1⟩ := B9 (av := [.ptr (some (bp0, 0)), .agg [Ai 1, Ai 0, Ai 0, Ai 0, Ai 0, Ai 0, Au x1.w0, Au x1.w1, Au x1.w2, Au x1.w3]]) hx (A.cut 2)
 replace A := A.g22 A1
 refine Ap 1 [] 10 hr H fun fr t H => ?_
 refine AM 1 [(4, Ai x2)] H fun fr H => Ag ?_
 obtain ⟨rfl, rfl, rfl⟩ := DR hm
 exact ⟨.inl rfl, _, rH H, _, rfl, A⟩
def Bx (p0 : AF) (p1 : List UInt8) : Option (Bool × AF) :=
 (Cb p0 p1).bind fun x1 => Af (!x1) (some (false, p0)) ((Af (!p0.AX) (some (IntKind.i64.wrap ((IntKind.i64.wrap (p0.at_ + (p1.length : Int))) + 1))) (some (IntKind.i64.wrap (p0.at_ + (p1.length : Int)))) : Option ((Int))).bind fun x2 => some (true, (⟨p0.s_, x2, p0.AX, p0.t_, p0.An, p0.BC, p0.BB, p0.Ay⟩ : AF)))
theorem Cg {p0 p1 bp0 rp0_3 q0 u0} (hm : Bx p0 p1 = some (q0, u0)) (A : HH g h [.obj bp0 (.cells none 2 (AZ p0 (AG rp0_3 p0.t_.AU.length))), .AO rp0_3 94 (AO AA p0.t_.AU)] F) (hc : BZ (cfg.still 40) av = [.ptr (some (bp0, 0)), .str p1] := by kernel_rfl) : ∃ v h', Bg cfg g h 40 av v h' ∧ v = .bool q0 ∧ HH g h' [.obj bp0 (.cells none 2 (AZ u0 (AG rp0_3 p0.t_.AU.length))), .AO rp0_3 94 (AO AA p0.t_.AU)] F := by
 refine E5 30 [.tmp 4] hc ?_
 clear hc
 unfold Bx at hm
 refine bg 30 [(0, .ptr (some (bp0, 0))), (1, .str p1)] fun fr H => ?_
 refine AD 1 (AM 1 [] H fun fr H => AQ (AD 4 ?_))
 obtain ⟨x1, hx, hm⟩ := bind_some hm
 obtain ⟨v1, h1, hr, rfl, A1⟩ := Ek (av := [.ptr (some (bp0, 0)), .str p1]) hx (A.cut 2)
 replace A := A.g22 A1
 refine Ap 2 [] 7 hr H fun fr t H => ?_
 refine AM 1 [(8, .bool (!x1))] H fun fr H => AV 8 H hm (fun hb hm H => ?_) fun hb hm H => ?_
 ·refine AD 1 (AM 1 [(4, .bool false)] H fun fr H => Ag ?_)
  obtain ⟨rfl, rfl⟩ := Ds hm
  exact ⟨.inl rfl, _, rH H, rfl, A⟩
 refine Ca 10 id (Ad 3 [(9, .ptr (some (bp0, 0)))] 12 0 1 A H fun fr t H => ?_)
 obtain ⟨h2, hx, A⟩ := A.s0 1 [Ai (IntKind.i64.wrap (p0.at_ + (p1.length : Int)))] [_, _, _, _, _, _, _, _, _]
 refine C1 5 [] hx H fun fr t H => ?_
 refine BK id (AQ ?_)
 obtain ⟨o1, ho, hm⟩ := bind_some hm
 refine As (Q' := fun e fr' h' => (∃ x2, e = .normal ∧ x2 = o1 ∧ Has fr' 30 [] ∧ HH g h' [.obj bp0 (.cells none 2 (Fh p0 (Ai x2) (AG rp0_3 p0.t_.AU.length))), .AO rp0_3 94 (AO AA p0.t_.AU)] F) ∨ False) ?_ ?_
 ·replace hm := ho
  clear ho
  refine AD 5 (Ad 3 [] 21 0 2 A H fun fr t H => ?_)
  refine AM 1 [(22, .bool (!p0.AX))] H fun fr H => AV 22 H hm (fun hb hm H => ?_) fun hb hm H => ?_
  ·refine Bd 8 (Ad 3 [(23, .ptr (some (bp0, 0)))] 26 0 1 A H fun fr t H => ?_)
   obtain ⟨h3, hx, A⟩ := A.s0 1 [Ai (IntKind.i64.wrap ((IntKind.i64.wrap (p0.at_ + (p1.length : Int))) + 1))] [_, _, _, _, _, _, _, _, _]
   refine C1 3 [] hx H fun fr t H => ?_
   refine at_nil ?_
   exact .inl ⟨_, rfl, Ah hm, H.ls, A⟩
  exact By (.inl ⟨_, rfl, Ah hm, H.ls, A⟩)
 clear ho
 clear A
 intro e fr h4 hQ
 rcases hQ with ⟨x2, rfl, rfl, H, A⟩ | hF
 ·show AW _ _ _ _ _ _ _
  refine AD 1 (AM 1 [(4, .bool true)] H fun fr H => Ag ?_)
  obtain ⟨rfl, rfl⟩ := Ds hm
  exact ⟨.inl rfl, _, rH H, rfl, A⟩
 exact hF.elim
def Ey (p0 : AF) (s : Int × Int × Int) : Option ((Int × Int × Int) ⊕ ((Int × Int × Int))) :=
 match s with
 | (x1, x2, x3) => (Af (decide (x1 < (p0.s_.length : Int))) ((Jf p0.s_ x1).bind fun x8 => some (decide (x8 ≥ 48))) (some false) : Option (Bool)).bind fun x7 => (Af x7 ((Jf p0.s_ x1).bind fun x10 => some (decide (x10 ≤ 57))) (some false) : Option (Bool)).bind fun x9 => Af (x9 && (decide (x3 < 4))) ((Jf p0.s_ x1).bind fun x11 => some (.inl (IntKind.i64.wrap (x1 + 1), IntKind.i64.wrap ((IntKind.i64.wrap ((10 : Int) * x2)) + (IntKind.i64.wrap (IntKind.u8.wrap (x11 - 48)))), IntKind.i64.wrap (x3 + 1)))) (some (.inr (x1, x2, x3)))
def C7 (p0 : AF) : Option (Int × Bool × AF) :=
 (loop (Ey p0) (p0.at_, (0 : Int), (0 : Int))).bind fun (x4, x5, x6) => some (x5, ((decide (x6 ≥ 1)) && (decide (x6 ≤ 3))) && (decide (x5 ≤ 255)), (⟨p0.s_, x4, p0.AX, p0.t_, p0.An, p0.BC, p0.BB, p0.Ay⟩ : AF))
theorem Gf {p0 bp0 rp0_3 q0 q1 u0} (hm : C7 p0 = some (q0, q1, u0)) (A : HH g h [.obj bp0 (.cells none 2 (AZ p0 (AG rp0_3 p0.t_.AU.length))), .AO rp0_3 94 (AO AA p0.t_.AU)] F) (hc : BZ (cfg.still 96) av = [.ptr (some (bp0, 0))] := by kernel_rfl) : ∃ v h', Bg cfg g h 96 av v h' ∧ v = .tuple [Ai q0, .bool q1] ∧ HH g h' [.obj bp0 (.cells none 2 (AZ u0 (AG rp0_3 p0.t_.AU.length))), .AO rp0_3 94 (AO AA p0.t_.AU)] F := by
 refine E5 78 [.tmp 2, .tmp 3] hc ?_
 clear hc
 unfold C7 at hm
 refine bg 78 [(0, .ptr (some (bp0, 0)))] fun fr H => ?_
 refine AD 2 (Bw 2 [] 2 H fun fr H => AM 2 [(4, Ai 0), (5, Ai 0)] H fun fr H => AQ (Ac (id := 0) (by kernel_rfl) ?_))
 obtain ⟨o1, ho, hm⟩ := bind_some hm
 refine As (Q' := fun e fr' h' => (∃ x4 x5 x6, e = .exit 0 ∧ (x4, x5, x6) = o1 ∧ Has fr' 78 [(4, Ai x5), (5, Ai x6)] ∧ HH g h' [.obj bp0 (.cells none 2 (Fh p0 (Ai x4) (AG rp0_3 p0.t_.AU.length))), .AO rp0_3 94 (AO AA p0.t_.AU)] F) ∨ False) ?_ ?_
 ·refine B2 (by kernel_rfl) (fun (s : Int × Int × Int) fr' h' => ∃ x1 x2 x3, (x1, x2, x3) = s ∧ Has fr' 78 [(0, .ptr (some (bp0, 0))), (4, Ai x2), (5, Ai x3)] ∧ HH g h' [.obj bp0 (.cells none 2 (Fh p0 (Ai x1) (AG rp0_3 p0.t_.AU.length))), .AO rp0_3 94 (AO AA p0.t_.AU)] F) ho ⟨_, _, _, rfl, H.ls, A⟩ ?_
  clear ho hm H A
  intro s q fr h1 hI hm
  obtain ⟨x1, x2, x3, rfl, H, A⟩ := hI
  unfold Ey at hm
  refine AQ (AQ (EO 2 38 ?_))
  refine Ad 3 [] 9 0 1 A H fun fr t H => ?_
  refine Ad 3 [] 13 0 0 A H fun fr t H => ?_
  refine AE 3 [(16, .bool (decide (x1 < (p0.s_.length : Int))))] H fun fr H => ?_
  obtain ⟨x7, ho, hm⟩ := bind_some hm
  refine BD 11 (fun fr' h' => Has fr' 78 [(0, .ptr (some (bp0, 0))), (4, Ai x2), (5, Ai x3), (27, .bool x7)] ∧ HH g h' [.obj bp0 (.cells none 2 (Fh p0 (Ai x1) (AG rp0_3 p0.t_.AU.length))), .AO rp0_3 94 (AO AA p0.t_.AU)] F) ?_ ?_
  ·rcases BJ ho with ⟨hb, hm⟩ | ⟨hb, hm⟩
   ·replace H := H.kn 16 hb
    refine Ad 3 [] 20 0 0 A H fun fr t H => ?_
    refine Ad 3 [] 24 0 1 A H fun fr t H => ?_
    obtain ⟨x8, hx, hm⟩ := bind_some hm
    refine Ax 25 (Ab x8) h1 H (fun fr => .of (EL (by kernel_rfl) hx)) fun fr t H => ?_
    refine AE 2 [(27, .bool (decide (x8 ≥ 48)))] H fun fr H => ?_
    obtain rfl := Ah hm
    exact at_nil ⟨H.ls, A⟩
   replace H := H.kn 16 hb
   refine AE 11 [(27, .bool false)] H fun fr H => ?_
   obtain rfl := Ah hm
   exact at_nil ⟨H.ls, A⟩
  clear A
  intro t fr h2 hK
  obtain ⟨H, A⟩ := hK
  refine AE 1 [(28, .bool x7)] H fun fr H => ?_
  obtain ⟨x9, ho, hm⟩ := bind_some hm
  refine BD 11 (fun fr' h' => Has fr' 78 [(0, .ptr (some (bp0, 0))), (4, Ai x2), (5, Ai x3), (39, .bool x9)] ∧ HH g h' [.obj bp0 (.cells none 2 (Fh p0 (Ai x1) (AG rp0_3 p0.t_.AU.length))), .AO rp0_3 94 (AO AA p0.t_.AU)] F) ?_ ?_
  ·rcases BJ ho with ⟨hb, hm⟩ | ⟨hb, hm⟩
   ·replace H := H.kn 28 hb
    refine Ad 3 [] 32 0 0 A H fun fr t H => ?_
    refine Ad 3 [] 36 0 1 A H fun fr t H => ?_
    obtain ⟨x10, hx, hm⟩ := bind_some hm
    refine Ax 37 (Ab x10) h2 H (fun fr => .of (EL (by kernel_rfl) hx)) fun fr t H => ?_
    refine AE 2 [(39, .bool (decide (x10 ≤ 57)))] H fun fr H => ?_
    obtain rfl := Ah hm
    exact at_nil ⟨H.ls, A⟩
   replace H := H.kn 28 hb
   refine AE 11 [(39, .bool false)] H fun fr H => ?_
   obtain rfl := Ah hm
   exact at_nil ⟨H.ls, A⟩
  clear A
  intro t fr h3 hK
  obtain ⟨H, A⟩ := hK
  refine AE 1 [(40, .bool x9)] H fun fr H => BD 3 (fun fr' h' => h3 = h' ∧ Has fr' 78 [(0, .ptr (some (bp0, 0))), (4, Ai x2), (5, Ai x3), (43, .bool (x9 && (decide (x3 < 4))))]) ?_ ?_
  ·cases hb : (x9 : Bool) with
   | true =>
    replace H := H.kn 40 hb
    exact AE 3 [(43, .bool (decide (x3 < 4)))] H fun fr H => Am H hb
   | false =>
    replace H := H.kn 40 hb
    exact AE 3 [(43, .bool false)] H fun fr H => Am H hb
  intro t fr h' hK
  obtain ⟨e, H⟩ := hK
  subst e
  refine BK id (AV 43 H hm (fun hb hm H => ?_) fun hb hm H => ?_)
  ·refine CE id (Ac (id := 1) (by kernel_rfl) ?_)
   refine AQ (EO 3 15 ?_)
   refine Ad 5 [(45, Ai (IntKind.i64.wrap ((10 : Int) * x2)))] 49 0 0 A H fun fr t H => ?_
   refine Ad 3 [] 53 0 1 A H fun fr t H => ?_
   obtain ⟨x11, hx, hm⟩ := bind_some hm
   refine Ax 54 (Ab x11) h3 H (fun fr => .of (EL (by kernel_rfl) hx)) fun fr t H => ?_
   refine BG 4 [(0, .ptr (some (bp0, 0))), (4, Ai (IntKind.i64.wrap ((IntKind.i64.wrap ((10 : Int) * x2)) + (IntKind.i64.wrap (IntKind.u8.wrap (x11 - 48)))))), (5, Ai x3)] H fun fr H => CG 8 id (Ad 3 [(58, .ptr (some (bp0, 0)))] 61 0 1 A H fun fr t H => ?_)
   obtain ⟨h4, hx, A⟩ := A.s0 1 [Ai (IntKind.i64.wrap (x1 + 1))] [_, _, _, _, _, _, _, _, _]
   refine C1 3 [] hx H fun fr t H => ?_
   refine Gq 3 id (BG 3 [(0, .ptr (some (bp0, 0))), (4, Ai (IntKind.i64.wrap ((IntKind.i64.wrap ((10 : Int) * x2)) + (IntKind.i64.wrap (IntKind.u8.wrap (x11 - 48)))))), (5, Ai (IntKind.i64.wrap (x3 + 1)))] H fun fr H => at_nil ?_)
   exact nx hm ⟨_, _, _, rfl, H.ls, A⟩
  refine BO (i := 0) (by kernel_rfl) ?_
  exact nr hm fun e => .inl ⟨_, _, _, rfl, e, H.ls, A⟩
 clear ho
 clear A
 intro e fr h5 hQ
 rcases hQ with ⟨x4, x5, x6, rfl, rfl, H, A⟩ | hF
 ·show AW _ _ _ _ _ _ _
  refine AD 13 (AE 4 [(67, Ai x5), (70, .bool (decide (x6 ≥ 1)))] H fun fr H => BD 3 (fun fr' h' => h5 = h' ∧ Has fr' 78 [(4, Ai x5), (67, Ai x5), (73, .bool ((decide (x6 ≥ 1)) && (decide (x6 ≤ 3))))]) ?_ ?_)
  ·cases hb : (decide (x6 ≥ 1) : Bool) with
   | true =>
    replace H := H.kn 70 hb
    exact AE 3 [(73, .bool (decide (x6 ≤ 3)))] H fun fr H => Am H hb
   | false =>
    replace H := H.kn 70 hb
    exact AE 3 [(73, .bool false)] H fun fr H => Am H hb
  intro t fr h' hK
  obtain ⟨e, H⟩ := hK
  subst e
  refine AE 1 [(74, .bool ((decide (x6 ≥ 1)) && (decide (x6 ≤ 3))))] H fun fr H => BD 3 (fun fr' h' => h5 = h' ∧ Has fr' 78 [(67, Ai x5), (77, .bool (((decide (x6 ≥ 1)) && (decide (x6 ≤ 3))) && (decide (x5 ≤ 255))))]) ?_ ?_
  ·cases hb : ((decide (x6 ≥ 1)) && (decide (x6 ≤ 3)) : Bool) with
   | true =>
    replace H := H.kn 74 hb
    exact AE 3 [(77, .bool (decide (x5 ≤ 255)))] H fun fr H => Am H hb
   | false =>
    replace H := H.kn 74 hb
    exact AE 3 [(77, .bool false)] H fun fr H => Am H hb
  intro t fr h' hK
  obtain ⟨e, H⟩ := hK
  subst e
  refine AM 2 [(2, Ai x5), (3, .bool (((decide (x6 ≥ 1)) && (decide (x6 ≤ 3))) && (decide (x5 ≤ 255))))] H fun fr H => Ag ?_
  obtain ⟨rfl, rfl, rfl⟩ := DR hm
  exact ⟨.inl rfl, _, rH H, rfl, A⟩
 exact hF.elim
def Dr (p0 : AF) : Option (Int × Int × Bool × AF) :=
 (C7 p0).bind fun (x1, x2, x3) => Af (!x2) (some ((0 : Int), (0 : Int), false, (⟨x3.s_, x3.at_, x3.AX, (⟨p0.t_.AU, x3.t_.Bf⟩ : AI), x3.An, x3.BC, x3.BB, x3.Ay⟩ : AF))) (((IB x3.s_ (some x3.at_) none).bind fun x25 => (Bt x25 ([44] : List UInt8)).bind fun x26 => Af x26 ((Cb (⟨x3.s_, IntKind.i64.wrap (x3.at_ + 1), x3.AX, (⟨p0.t_.AU, x3.t_.Bf⟩ : AI), x3.An, x3.BC, x3.BB, x3.Ay⟩ : AF) ([125] : List UInt8)).bind fun x27 => Af (!x27) ((C7 (⟨x3.s_, IntKind.i64.wrap (x3.at_ + 1), x3.AX, (⟨p0.t_.AU, x3.t_.Bf⟩ : AI), x3.An, x3.BC, x3.BB, x3.Ay⟩ : AF)).bind fun (x28, x29, x30) => Af ((!x29) || (decide (x28 < x1))) (some (.inr (x30.s_, x30.at_, x30.AX, x30.t_.Bf, x30.An, x30.BC, x30.BB, x30.Ay, (0 : Int), (0 : Int), false))) (some (.inl (x30.s_, x30.at_, x30.AX, x30.t_.Bf, x30.An, x30.BC, x30.BB, x30.Ay, x1, x28)))) (some (.inl (x3.s_, IntKind.i64.wrap (x3.at_ + 1), x3.AX, x3.t_.Bf, x3.An, x3.BC, x3.BB, x3.Ay, x1, (-1 : Int))))) (some (.inl (x3.s_, x3.at_, x3.AX, x3.t_.Bf, x3.An, x3.BC, x3.BB, x3.Ay, x1, x1))) : Option (((List UInt8) × Int × Bool × Int × Int × Int × Int × Bool × Int × Int) ⊕ ((List UInt8) × Int × Bool × Int × Int × Int × Int × Bool × Int × Int × Bool))).bind fun o1 => (match o1 with | .inl (x4, x5, x6, x7, x8, x9, x10, x11, x12, x13) => (Bx (⟨x4, x5, x6, (⟨p0.t_.AU, x7⟩ : AI), x8, x9, x10, x11⟩ : AF) ([125] : List UInt8)).bind fun (x31, x32) => some (x12, x13, x31, (⟨x32.s_, x32.at_, x32.AX, (⟨p0.t_.AU, x32.t_.Bf⟩ : AI), x32.An, x32.BC, x32.BB, x32.Ay⟩ : AF)) | .inr (x14, x15, x16, x17, x18, x19, x20, x21, x22, x23, x24) => some (x22, x23, x24, (⟨x14, x15, x16, (⟨p0.t_.AU, x17⟩ : AI), x18, x19, x20, x21⟩ : AF))))
theorem Jj {p0 bp0 rp0_3 q0 q1 q2 u0} (hm : Dr p0 = some (q0, q1, q2, u0)) (A : HH g h [.obj bp0 (.cells none 2 (AZ p0 (AG rp0_3 p0.t_.AU.length))), .AO rp0_3 94 (AO AA p0.t_.AU)] F) (hc : BZ (cfg.still 78) av = [.ptr (some (bp0, 0))] := by kernel_rfl) : ∃ v h', Bg cfg g h 78 av v h' ∧ v = .tuple [Ai q0, Ai q1, .bool q2] ∧ HH g h' [.obj bp0 (.cells none 2 (AZ u0 (AG rp0_3 p0.t_.AU.length))), .AO rp0_3 94 (AO AA p0.t_.AU)] F := by
 refine E5 49 [.tmp 2, .tmp 3, .tmp 4] hc ?_
 clear hc
 unfold Dr at hm
 refine bg 49 [(0, .ptr (some (bp0, 0)))] fun fr H => ?_
 refine AD 3 (AM 3 [] H fun fr H => AQ (AD 7 ?_))
 obtain ⟨⟨x1, x2, x3⟩, hx, hm⟩ := bind_some hm
 obtain ⟨v1, h1, hr, rfl, A1⟩ := Gf (av := [.ptr (some (bp0, 0))]) hx (A.cut 2)
 replace A := A.g22 A1
 refine Ap 1 [] 7 hr H fun fr t H => ?_
 refine Bw 5 [(2, Ai x1), (4, .bool x2)] 2 H fun fr H => AM 2 [(11, .bool (!x2))] H fun fr H => AV 11 H hm (fun hb hm H => ?_) fun hb hm H => ?_
 ·refine AD 3 (BG 3 [(2, Ai 0), (3, Ai 0), (4, .bool false)] H fun fr H => BK id (Ag ?_))
  obtain ⟨rfl, rfl, rfl, rfl⟩ := RX hm
  exact ⟨.inl rfl, _, rH H, rfl, A⟩
 refine Ca 2 id (AM 2 [(3, Ai x1)] H fun fr H => AQ ?_)
 obtain ⟨o1, ho, hm⟩ := bind_some hm
 refine As (Q' := fun e fr' h' => (∃ x4 x5 x6 x7 x8 x9 x10 x11 x12 x13, e = .normal ∧ .inl (x4, x5, x6, x7, x8, x9, x10, x11, x12, x13) = o1 ∧ Has fr' 49 [(0, .ptr (some (bp0, 0))), (2, Ai x12), (3, Ai x13)] ∧ HH g h' [.obj bp0 (.cells none 2 [.str x4, Ai x5, .bool x6, AG rp0_3 p0.t_.AU.length, Ai x7, Ai x8, Ai x9, Ai x10, .bool x11]), .AO rp0_3 94 (AO AA p0.t_.AU)] F) ∨ (∃ x14 x15 x16 x17 x18 x19 x20 x21 x22 x23 x24, e = .ret ∧ .inr (x14, x15, x16, x17, x18, x19, x20, x21, x22, x23, x24) = o1 ∧ Has fr' 49 [(2, Ai x22), (3, Ai x23), (4, .bool x24)] ∧ HH g h' [.obj bp0 (.cells none 2 [.str x14, Ai x15, .bool x16, AG rp0_3 p0.t_.AU.length, Ai x17, Ai x18, Ai x19, Ai x20, .bool x21]), .AO rp0_3 94 (AO AA p0.t_.AU)] F) ∨ False) ?_ ?_
 ·replace hm := ho
  clear ho
  refine AQ (EO 5 10 ?_)
  refine Ad 3 [] 16 0 0 A H fun fr t H => ?_
  refine Ad 3 [] 20 0 1 A H fun fr t H => ?_
  obtain ⟨x25, hx, hm⟩ := bind_some hm
  refine Ax 21 (.str x25) h1 H (fun fr => .of (Gp (k := .i64) (k' := .i64) (lo := (some x3.at_)) (hi := none) (by kernel_rfl) hx)) fun fr t H => ?_
  obtain ⟨x26, hx, hm⟩ := bind_some hm
  obtain ⟨v1, h2, hr, rfl, A1⟩ := Cc (av := [.str x25, .str ([44] : List UInt8)]) hx (A.cut 0)
  replace A := A.Ea A1
  refine Be 22 hr H fun fr t H => ?_
  refine BK id (AV 22 H hm (fun hb hm H => ?_) fun hb hm H => ?_)
  ·refine AD 8 (Ad 3 [(23, .ptr (some (bp0, 0)))] 26 0 1 A H fun fr t H => ?_)
   obtain ⟨h3, hx, A⟩ := A.s0 1 [Ai (IntKind.i64.wrap (x3.at_ + 1))] [_, _, _, _, _, _, _, _, _]
   refine C1 3 [] hx H fun fr t H => ?_
   refine CG 1 id (BG 1 [(0, .ptr (some (bp0, 0))), (2, Ai x1), (3, Ai (-1))] H fun fr H => CG 3 id ?_)
   obtain ⟨x27, hx, hm⟩ := bind_some hm
   obtain ⟨v1, h4, hr, rfl, A1⟩ := Ek (av := [.ptr (some (bp0, 0)), .str ([125] : List UInt8)]) hx (A.cut 2)
   replace A := A.g22 A1
   refine Ap 1 [] 31 hr H fun fr t H => ?_
   refine AM 1 [(32, .bool (!x27))] H fun fr H => AV 32 H hm (fun hb hm H => ?_) fun hb hm H => ?_
   ·refine AD 7 ?_
    obtain ⟨⟨x28, x29, x30⟩, hx, hm⟩ := bind_some hm
    obtain ⟨v1, h5, hr, rfl, A1⟩ := Gf (av := [.ptr (some (bp0, 0))]) hx (A.cut 2)
    replace A := A.g22 A1
    refine Ap 1 [] 35 hr H fun fr t H => ?_
    refine BG 5 [(0, .ptr (some (bp0, 0))), (2, Ai x1), (3, Ai x28), (4, .bool x29)] H fun fr H => CG 7 id (AE 3 [(40, .bool (!x29))] H fun fr H => BD 4 (fun fr' h' => h5 = h' ∧ Has fr' 49 [(0, .ptr (some (bp0, 0))), (2, Ai x1), (3, Ai x28), (44, .bool ((!x29) || (decide (x28 < x1))))]) ?_ ?_)
    ·cases hb : (!x29 : Bool) with
     | true =>
      replace H := H.kn 40 hb
      exact AE 4 [(44, .bool true)] H fun fr H => Am H hb
     | false =>
      replace H := H.kn 40 hb
      exact AE 4 [(44, .bool (decide (x28 < x1)))] H fun fr H => Am H hb
    intro t fr h' hK
    obtain ⟨e, H⟩ := hK
    subst e
    refine BK id (AV 44 H hm (fun hb hm H => ?_) fun hb hm H => ?_)
    ·refine AD 3 (BG 3 [(2, Ai 0), (3, Ai 0), (4, .bool false)] H fun fr H => BK id (Ag ?_))
     exact .inr (.inl ⟨_, _, _, _, _, _, _, _, _, _, _, rfl, Ah hm, H.ls, A⟩)
    exact By (.inl ⟨_, _, _, _, _, _, _, _, _, _, rfl, Ah hm, H.ls, A⟩)
   exact By (.inl ⟨_, _, _, _, _, _, _, _, _, _, rfl, Ah hm, H.ls, A⟩)
  exact By (.inl ⟨_, _, _, _, _, _, _, _, _, _, rfl, Ah hm, H.ls, A⟩)
 clear ho
 clear A
 intro e fr h6 hQ
 rcases hQ with ⟨x4, x5, x6, x7, x8, x9, x10, x11, x12, x13, rfl, rfl, H, A⟩ | ⟨x14, x15, x16, x17, x18, x19, x20, x21, x22, x23, x24, rfl, rfl, H, A⟩ | hF
 ·show AW _ _ _ _ _ _ _
  refine AD 7 ?_
  obtain ⟨⟨x31, x32⟩, hx, hm⟩ := bind_some hm
  obtain ⟨v1, h7, hr, rfl, A1⟩ := Cg (av := [.ptr (some (bp0, 0)), .str ([125] : List UInt8)]) hx (A.cut 2)
  replace A := A.g22 A1
  refine Ap 3 [(45, Ai x12), (46, Ai x13)] 48 hr H fun fr t H => ?_
  refine BG 3 [(2, Ai x12), (3, Ai x13), (4, .bool x31)] H fun fr H => BK id (Ag ?_)
  obtain ⟨rfl, rfl, rfl, rfl⟩ := RX hm
  exact ⟨.inl rfl, _, rH H, rfl, A⟩
 ·obtain ⟨rfl, rfl, rfl, rfl⟩ := RX hm
  exact ⟨.inl rfl, _, rH H, rfl, A⟩
 exact hF.elim
def CA (p0 : AF) (p1 : Int) : Option (AF) :=
 Af (decide (p0.BB < 0)) (some (⟨p0.s_, p0.at_, p0.AX, p0.t_, p0.An, p0.BC, p1, p0.Ay⟩ : AF)) (some p0)
theorem C8 {p0 p1 bp0 rp0_3 u0} (hm : CA p0 p1 = some u0) (A : HH g h [.obj bp0 (.cells none 2 (AZ p0 (AG rp0_3 p0.t_.AU.length))), .AO rp0_3 94 (AO AA p0.t_.AU)] F) (hc : BZ (cfg.still 20) av = [.ptr (some (bp0, 0)), Ai p1] := by kernel_rfl) : ∃ v h', Bg cfg g h 20 av v h' ∧ v = .tuple [] ∧ HH g h' [.obj bp0 (.cells none 2 (AZ u0 (AG rp0_3 p0.t_.AU.length))), .AO rp0_3 94 (AO AA p0.t_.AU)] F := by
 refine E5 13 [] hc ?_
 clear hc
 unfold CA at hm
 refine bg 13 [(0, .ptr (some (bp0, 0))), (1, Ai p1)] fun fr H => ?_
 refine AD 5 (Ad 3 [] 7 0 7 A H fun fr t H => ?_)
 refine AM 1 [(8, .bool (decide (p0.BB < 0)))] H fun fr H => AV 8 H hm (fun hb hm H => ?_) fun hb hm H => ?_
 ·refine Bd 5 ?_
  obtain ⟨h1, hx, A⟩ := A.s0 7 [Ai p1] [_, _, _, _, _, _, _, _, _]
  refine C1 4 [] hx H fun fr t H => ?_
  refine at_nil ?_
  obtain rfl := Ah hm
  refine ⟨.inr rfl, .tuple [], rH H, ?_⟩
  exact ⟨rfl, A⟩
 refine By ?_
 obtain rfl := Ah hm
 refine ⟨.inr rfl, .tuple [], rH H, ?_⟩
 exact ⟨rfl, A⟩
def Eb (s : (List UInt8) × Int × Bool × Int × Int × Int × Int × Bool × (List AJ) × Int) : Option (((List UInt8) × Int × Bool × Int × Int × Int × Int × Bool × (List AJ) × Int) ⊕ (((List UInt8) × Int × Bool × Int × Int × Int × Int × Bool × (List AJ) × Int) ⊕ ((List UInt8) × Int × Bool × Int × Int × Int × Int × Bool × (List AJ) × Int))) :=
 match s with
 | (x1, x2, x3, x4, x5, x6, x7, x8, x9, x10) => (Ci (⟨x1, x2, x3, (⟨x9, x4⟩ : AI), x5, x6, x7, x8⟩ : AF)).bind fun x31 => Af x31 (((IB x1 (some x2) none).bind fun x51 => (Bt x51 ([42] : List UInt8)).bind fun x52 => Af x52 (some (.inl (x1, IntKind.i64.wrap (x2 + 1), x3, x4, x5, x6, x7, x8, (0 : Int), (-1 : Int)))) ((Bx (⟨x1, x2, x3, (⟨x9, x4⟩ : AI), x5, x6, x7, x8⟩ : AF) ([43] : List UInt8)).bind fun (x53, x54) => Af x53 (some (.inl (x54.s_, x54.at_, x54.AX, x54.t_.Bf, x54.An, x54.BC, x54.BB, x54.Ay, (1 : Int), (-1 : Int)))) ((Bx (⟨x54.s_, x54.at_, x54.AX, (⟨x9, x54.t_.Bf⟩ : AI), x54.An, x54.BC, x54.BB, x54.Ay⟩ : AF) ([63] : List UInt8)).bind fun (x55, x56) => Af x55 (some (.inl (x56.s_, x56.at_, x56.AX, x56.t_.Bf, x56.An, x56.BC, x56.BB, x56.Ay, (0 : Int), (1 : Int)))) ((Bx (⟨x56.s_, x56.at_, x56.AX, (⟨x9, x56.t_.Bf⟩ : AI), x56.An, x56.BC, x56.BB, x56.Ay⟩ : AF) ([123] : List UInt8)).bind fun (x57, x58) => Af x57 ((Dr (⟨x58.s_, x58.at_, x58.AX, (⟨x9, x58.t_.Bf⟩ : AI), x58.An, x58.BC, x58.BB, x58.Ay⟩ : AF)).bind fun (x59, x60, x61, x62) => Af (!x61) ((CA (⟨x62.s_, x62.at_, x62.AX, (⟨x9, x62.t_.Bf⟩ : AI), x62.An, x62.BC, x62.BB, x62.Ay⟩ : AF) x2).bind fun x63 => some (.inr (x63.s_, x63.at_, x63.AX, x63.t_.Bf, x63.An, x63.BC, x63.BB, x63.Ay, x10))) (some (.inl (x62.s_, x62.at_, x62.AX, x62.t_.Bf, x62.An, x62.BC, x62.BB, x62.Ay, x59, x60)))) (some (.inr (x58.s_, x58.at_, x58.AX, x58.t_.Bf, x58.An, x58.BC, x58.BB, x58.Ay, x10)))))) : Option (((List UInt8) × Int × Bool × Int × Int × Int × Int × Bool × Int × Int) ⊕ ((List UInt8) × Int × Bool × Int × Int × Int × Int × Bool × Int))).bind fun o2 => (match o2 with | .inl (x32, x33, x34, x35, x36, x37, x38, x39, x40, x41) => (BY (⟨x32, x33, x34, (⟨x9, x35⟩ : AI), x36, x37, x38, x39⟩ : AF) (⟨(4 : Int), x10, (0 : Int), x40, x41, (0 : Int), (⟨(0 : Int), (0 : Int), (0 : Int), (0 : Int)⟩ : Ar)⟩ : AJ)).bind fun (x64, x65, x66) => some (.inl (x65.s_, x65.at_, x65.AX, x65.t_.Bf, x65.An, x65.BC, x65.BB, x65.Ay, x66, x64)) | .inr (x42, x43, x44, x45, x46, x47, x48, x49, x50) => some (.inr (.inr (x42, x43, x44, x45, x46, x47, x48, x49, x9, x50))))) (some (.inr (.inl (x1, x2, x3, x4, x5, x6, x7, x8, x9, x10))))
def Cl (p0 : AF) (p1 : Int) : Option (Int × AF × (List AJ)) :=
 (loop (Eb) (p0.s_, p0.at_, p0.AX, p0.t_.Bf, p0.An, p0.BC, p0.BB, p0.Ay, p0.t_.AU, p1)).bind fun o1 => (match o1 with | .inl (x11, x12, x13, x14, x15, x16, x17, x18, x19, x20) => some (x20, (⟨x11, x12, x13, (⟨x19, x14⟩ : AI), x15, x16, x17, x18⟩ : AF), x19) | .inr (x21, x22, x23, x24, x25, x26, x27, x28, x29, x30) => some (x30, (⟨x21, x22, x23, (⟨x29, x24⟩ : AI), x25, x26, x27, x28⟩ : AF), x29))
theorem F4 {p0 p1 bp0 rp0_3 q0 u0 u1} (hm : Cl p0 p1 = some (q0, u0, u1)) (A : HH g h [.obj bp0 (.cells none 2 (AZ p0 (AG rp0_3 p0.t_.AU.length))), .AO rp0_3 94 (AO AA p0.t_.AU)] F) (hc : BZ (cfg.still 60) av = [.ptr (some (bp0, 0)), Ai p1] := by kernel_rfl) : ∃ v h', Bg cfg g h 60 av v h' ∧ ∃ (r'1 : Option Nat), v = Ai q0 ∧ HH g h' [.obj bp0 (.cells none 2 (AZ u0 (AG r'1 u1.length))), .AO r'1 94 (AO AA u1)] F := by
 refine E5 62 [.tmp 4] hc ?_
 clear hc
 unfold Cl at hm
 refine bg 62 [(0, .ptr (some (bp0, 0))), (1, Ai p1)] fun fr H => ?_
 refine AD 1 (AM 1 [] H fun fr H => AQ (Ac (id := 0) (by kernel_rfl) ?_))
 obtain ⟨o1, ho, hm⟩ := bind_some hm
 refine As (Q' := fun e fr' h' => (∃ x11 x12 x13 x14 x15 x16 x17 x18 x19 x20, e = .exit 0 ∧ .inl (x11, x12, x13, x14, x15, x16, x17, x18, x19, x20) = o1 ∧ ∃ r2, Has fr' 62 [(1, Ai x20)] ∧ HH g h' [.obj bp0 (.cells none 2 [.str x11, Ai x12, .bool x13, AG r2 x19.length, Ai x14, Ai x15, Ai x16, Ai x17, .bool x18]), .AO r2 94 (AO AA x19)] F) ∨ (∃ x21 x22 x23 x24 x25 x26 x27 x28 x29 x30, e = .ret ∧ .inr (x21, x22, x23, x24, x25, x26, x27, x28, x29, x30) = o1 ∧ ∃ r3, Has fr' 62 [(4, Ai x30)] ∧ HH g h' [.obj bp0 (.cells none 2 [.str x21, Ai x22, .bool x23, AG r3 x29.length, Ai x24, Ai x25, Ai x26, Ai x27, .bool x28]), .AO r3 94 (AO AA x29)] F) ∨ False) ?_ ?_
 ·refine B2 (by kernel_rfl) (fun (s : (List UInt8) × Int × Bool × Int × Int × Int × Int × Bool × (List AJ) × Int) fr' h' => ∃ x1 x2 x3 x4 x5 x6 x7 x8 x9 x10, (x1, x2, x3, x4, x5, x6, x7, x8, x9, x10) = s ∧ ∃ r1, Has fr' 62 [(0, .ptr (some (bp0, 0))), (1, Ai x10)] ∧ HH g h' [.obj bp0 (.cells none 2 [.str x1, Ai x2, .bool x3, AG r1 x9.length, Ai x4, Ai x5, Ai x6, Ai x7, .bool x8]), .AO r1 94 (AO AA x9)] F) ho ⟨_, _, _, _, _, _, _, _, _, _, rfl, rp0_3, H.ls, A⟩ ?_
  clear ho hm H A
  intro s q fr h1 hI hm
  obtain ⟨x1, x2, x3, x4, x5, x6, x7, x8, x9, x10, rfl, r1, H, A⟩ := hI
  unfold Eb at hm
  refine AQ (AD 2 ?_)
  obtain ⟨x31, hx, hm⟩ := bind_some hm
  obtain ⟨v1, h2, hr, rfl, A1⟩ := DO (av := [.ptr (some (bp0, 0))]) hx (A.cut 2)
  replace A := A.g22 A1
  refine Ap 1 [] 10 hr H fun fr t H => ?_
  refine BK id (AV 10 H hm (fun hb hm H => ?_) fun hb hm H => ?_)
  ·refine CE id (Ac (id := 1) (by kernel_rfl) ?_)
   refine AD 5 (Ad 3 [] 14 0 1 A H fun fr t H => ?_)
   refine Bw 1 [(5, Ai x2)] 2 H fun fr H => AM 2 [(6, Ai 0), (7, Ai (-1))] H fun fr H => AQ ?_
   obtain ⟨o2, ho, hm⟩ := bind_some hm
   refine As (Q' := fun e fr' h' => (∃ x32 x33 x34 x35 x36 x37 x38 x39 x40 x41, e = .normal ∧ .inl (x32, x33, x34, x35, x36, x37, x38, x39, x40, x41) = o2 ∧ Has fr' 62 [(0, .ptr (some (bp0, 0))), (1, Ai x10), (6, Ai x40), (7, Ai x41)] ∧ HH g h' [.obj bp0 (.cells none 2 [.str x32, Ai x33, .bool x34, AG r1 x9.length, Ai x35, Ai x36, Ai x37, Ai x38, .bool x39]), .AO r1 94 (AO AA x9)] F) ∨ (∃ x42 x43 x44 x45 x46 x47 x48 x49 x50, e = .ret ∧ .inr (x42, x43, x44, x45, x46, x47, x48, x49, x50) = o2 ∧ Has fr' 62 [(4, Ai x50)] ∧ HH g h' [.obj bp0 (.cells none 2 [.str x42, Ai x43, .bool x44, AG r1 x9.length, Ai x45, Ai x46, Ai x47, Ai x48, .bool x49]), .AO r1 94 (AO AA x9)] F) ∨ False) ?_ ?_
   ·replace hm := ho
    clear ho
    refine Ac (id := 2) (by kernel_rfl) ?_
    refine AQ (EO 5 11 ?_)
    refine Ad 3 [] 20 0 0 A H fun fr t H => ?_
    refine Ad 3 [] 24 0 1 A H fun fr t H => ?_
    obtain ⟨x51, hx, hm⟩ := bind_some hm
    refine Ax 25 (.str x51) h2 H (fun fr => .of (Gp (k := .i64) (k' := .i64) (lo := (some x2)) (hi := none) (by kernel_rfl) hx)) fun fr t H => ?_
    obtain ⟨x52, hx, hm⟩ := bind_some hm
    obtain ⟨v1, h3, hr, rfl, A1⟩ := Cc (av := [.str x51, .str ([42] : List UInt8)]) hx (A.cut 0)
    replace A := A.Ea A1
    refine Be 26 hr H fun fr t H => ?_
    refine AM 1 [(16, .bool x52)] H fun fr H => AV 16 H hm (fun hb hm H => ?_) fun hb hm H => ?_
    ·refine Bd 8 (Ad 3 [(27, .ptr (some (bp0, 0)))] 30 0 1 A H fun fr t H => ?_)
     obtain ⟨h4, hx, A⟩ := A.s0 1 [Ai (IntKind.i64.wrap (x2 + 1))] [_, _, _, _, _, _, _, _, _]
     refine C1 3 [] hx H fun fr t H => ?_
     refine at_nil ?_
     exact .inl ⟨_, _, _, _, _, _, _, _, _, _, rfl, Ah hm, H.ls, A⟩
    refine AD 3 ?_
    obtain ⟨⟨x53, x54⟩, hx, hm⟩ := bind_some hm
    obtain ⟨v1, h5, hr, rfl, A1⟩ := Cg (av := [.ptr (some (bp0, 0)), .str ([43] : List UInt8)]) hx (A.cut 2)
    replace A := A.g22 A1
    refine Ap 1 [] 36 hr H fun fr t H => ?_
    refine AM 1 [(34, .bool x53)] H fun fr H => AV 34 H hm (fun hb hm H => ?_) fun hb hm H => ?_
    ·refine Bd 1 (BG 1 [(0, .ptr (some (bp0, 0))), (1, Ai x10), (6, Ai 1), (7, Ai (-1))] H fun fr H => at_nil ?_)
     exact .inl ⟨_, _, _, _, _, _, _, _, _, _, rfl, Ah hm, H.ls, A⟩
    refine AD 3 ?_
    obtain ⟨⟨x55, x56⟩, hx, hm⟩ := bind_some hm
    obtain ⟨v1, h6, hr, rfl, A1⟩ := Cg (av := [.ptr (some (bp0, 0)), .str ([63] : List UInt8)]) hx (A.cut 2)
    replace A := A.g22 A1
    refine Ap 1 [] 39 hr H fun fr t H => ?_
    refine AM 1 [(37, .bool x55)] H fun fr H => AV 37 H hm (fun hb hm H => ?_) fun hb hm H => ?_
    ·refine Bd 1 (BG 1 [(0, .ptr (some (bp0, 0))), (1, Ai x10), (6, Ai 0), (7, Ai 1)] H fun fr H => at_nil ?_)
     exact .inl ⟨_, _, _, _, _, _, _, _, _, _, rfl, Ah hm, H.ls, A⟩
    refine AD 3 ?_
    obtain ⟨⟨x57, x58⟩, hx, hm⟩ := bind_some hm
    obtain ⟨v1, h7, hr, rfl, A1⟩ := Cg (av := [.ptr (some (bp0, 0)), .str ([123] : List UInt8)]) hx (A.cut 2)
    replace A := A.g22 A1
    refine Ap 1 [] 42 hr H fun fr t H => ?_
    refine AM 1 [(40, .bool x57)] H fun fr H => AV 40 H hm (fun hb hm H => ?_) fun hb hm H => ?_
    ·refine AD 1 (Bw 1 [] 9 H fun fr H => ?_)
     obtain ⟨⟨x59, x60, x61, x62⟩, hx, hm⟩ := bind_some hm
     obtain ⟨v1, h8, hr, rfl, A1⟩ := Jj (av := [.ptr (some (bp0, 0))]) hx (A.cut 2)
     replace A := A.g22 A1
     refine Ap 1 [] 45 hr H fun fr t H => ?_
     refine BG 7 [(0, .ptr (some (bp0, 0))), (1, Ai x10), (5, Ai x2), (6, Ai x59), (7, Ai x60), (8, .bool x61)] H fun fr H => CG 2 id (AM 2 [(50, .bool (!x61))] H fun fr H => AV 50 H hm (fun hb hm H => ?_) fun hb hm H => ?_)
     ·refine AD 3 ?_
      obtain ⟨x63, hx, hm⟩ := bind_some hm
      obtain ⟨v1, h9, hr, rfl, A1⟩ := C8 (av := [.ptr (some (bp0, 0)), Ai x2]) hx (A.cut 2)
      replace A := A.g22 A1
      refine LS 2 [] hr H fun fr t H => ?_
      refine CG 2 id (AM 2 [(4, Ai x10)] H fun fr H => Ag ?_)
      exact .inr (.inl ⟨_, _, _, _, _, _, _, _, _, rfl, Ah hm, H.ls, A⟩)
     exact By (.inl ⟨_, _, _, _, _, _, _, _, _, _, rfl, Ah hm, H.ls, A⟩)
    refine AD 2 (AM 2 [(4, Ai x10)] H fun fr H => Ag ?_)
    exact .inr (.inl ⟨_, _, _, _, _, _, _, _, _, rfl, Ah hm, H.ls, A⟩)
   clear ho
   clear A
   intro e fr h10 hQ
   rcases hQ with ⟨x32, x33, x34, x35, x36, x37, x38, x39, x40, x41, rfl, rfl, H, A⟩ | ⟨x42, x43, x44, x45, x46, x47, x48, x49, x50, rfl, rfl, H, A⟩ | hF
   ·show AW _ _ _ _ _ _ _
    refine Bd 7 ?_
    obtain ⟨⟨x64, x65, x66⟩, hx, hm⟩ := bind_some hm
    obtain ⟨v1, h11, hr, r4, rfl, A1⟩ := B9 (av := [.ptr (some (bp0, 0)), .agg [Ai 4, Ai x10, Ai 0, Ai x40, Ai x41, Ai 0, Au 0, Au 0, Au 0, Au 0]]) hx (A.cut 2)
    replace A := A.g22 A1
    refine Ap 5 [] 60 hr H fun fr t H => ?_
    refine BG 1 [(0, .ptr (some (bp0, 0))), (1, Ai x64)] H fun fr H => at_nil ?_
    exact nx hm ⟨_, _, _, _, _, _, _, _, _, _, rfl, _, H.ls, A⟩
   ·exact nr hm fun e => Or.inr (.inl ⟨_, _, _, _, _, _, _, _, _, _, rfl, e, _, H.ls, A⟩)
   exact hF.elim
  refine BO (i := 0) (by kernel_rfl) ?_
  exact nr hm fun e => .inl ⟨_, _, _, _, _, _, _, _, _, _, rfl, e, _, H.ls, A⟩
 clear ho
 clear A
 intro e fr h12 hQ
 rcases hQ with ⟨x11, x12, x13, x14, x15, x16, x17, x18, x19, x20, rfl, rfl, r2, H, A⟩ | ⟨x21, x22, x23, x24, x25, x26, x27, x28, x29, x30, rfl, rfl, r3, H, A⟩ | hF
 ·show AW _ _ _ _ _ _ _
  refine AD 2 (AM 2 [(4, Ai x20)] H fun fr H => Ag ?_)
  obtain ⟨rfl, rfl, rfl⟩ := DR hm
  exact ⟨.inl rfl, _, rH H, _, rfl, A⟩
 ·obtain ⟨rfl, rfl, rfl⟩ := DR hm
  exact ⟨.inl rfl, _, rH H, _, rfl, A⟩
 exact hF.elim
def E8 (p0 : List UInt8) (p1 : Int) : Option (Int) :=
 (EC p0 p1).bind fun x1 => some x1
theorem Kn {p0 p1 q0} (hm : E8 p0 p1 = some q0) (A : HH g h [] F) (hc : BZ (cfg.still 101) av = [.str p0, Ab p1] := by kernel_rfl) : ∃ v h', Bg cfg g h 101 av v h' ∧ v = Ai q0 ∧ HH g h' [] F := by
 refine E5 8 [.tmp 4] hc ?_
 clear hc
 unfold E8 at hm
 refine bg 8 [(0, .str p0), (1, Ab p1)] fun fr H => ?_
 refine AD 1 (Bw 1 [] 4 H fun fr H => ?_)
 obtain ⟨x1, hx, hm⟩ := bind_some hm
 obtain ⟨v1, h1, hr, rfl, A1⟩ := I7 (av := [.str p0, Ab p1]) hx (A.cut 0)
 replace A := A.Ea A1
 refine Ap 2 [] 7 hr H fun fr t H => ?_
 refine AM 1 [(4, Ai x1)] H fun fr H => Ag ?_
 obtain rfl := Ah hm
 exact ⟨.inl rfl, _, rH H, rfl, A⟩
end
end Go.Av.L
