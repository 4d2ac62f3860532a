/-
 Models of functions, and that the abstract run tells them. Written by lift2.py.
-/
import Derived.Test.YtipknimgfcokeaaGreatDoorKCfg
import Derived.Test.YtipknimgfcokeaaGreatDoorK0
import Derived.Test.YtipknimgfcokeaaGreatDoorK1
import Derived.Test.YtipknimgfcokeaaGreatDoorK2
namespace Go.Av.L
open Go.Av Go.Lib
set_option maxRecDepth 10000
set_option linter.unusedVariables false
set_option linter.unusedSimpArgs false
variable {g : Gd} {h : AH} {F : List Ck} {av : List AB}
noncomputable section
def GL (p0 : List UInt8) (s : (List UInt8) × Int × Bool × Int × Int × Int × Int × Bool) : Option (((List UInt8) × Int × Bool × Int × Int × Int × Int × Bool) ⊕ (((List UInt8) × Int × Bool × Int × Int × Int × Int) ⊕ ((List UInt8) × Int × Bool × Int × Int × Int × Int × Int × Int))) :=
 match s with
 | (x23, x24, x25, x26, x27, x28, x29, x30) => Af (decide (x24 ≥ (p0.length : Int))) (some (.inr (.inr (x23, x24, x25, x26, x27, x28, x29, (0 : Int), (11 : Int))))) ((Jf p0 x24).bind fun x47 => Af ((x47 == 93) && (!x30)) (some (.inr (.inl (x23, x24, x25, x26, x27, x28, x29)))) ((EJ (⟨x23, x24, x25, (⟨x26, x27, x28, x29⟩ : Ar)⟩ : BA)).bind fun (x48, x49) => Af (!x48) (some (.inr (.inr (x49.s_, x49.at_, x49.GV, x49.CM.w0, x49.CM.w1, x49.CM.w2, x49.CM.w3, (0 : Int), (11 : Int))))) (some (.inl (x49.s_, x49.at_, x49.GV, x49.CM.w0, x49.CM.w1, x49.CM.w2, x49.CM.w3, false)))))
def FO (p0 : List UInt8) (p1 : Int) (p2 : Bool) : Option (Ar × Int × Int) :=
 (Af ((decide (p1 < 0)) || (decide (p1 ≥ (p0.length : Int)))) (some true) ((Jf p0 p1).bind fun x2 => some (x2 != 91)) : Option (Bool)).bind fun x1 => Af x1 (some ((⟨(0 : Int), (0 : Int), (0 : Int), (0 : Int)⟩ : Ar), (0 : Int), (1 : Int))) ((B5 (⟨p0, IntKind.i64.wrap (p1 + 1), p2, (⟨(0 : Int), (0 : Int), (0 : Int), (0 : Int)⟩ : Ar)⟩ : BA) ([94] : List UInt8)).bind fun (x3, x4) => (Af x3 (some (x4.s_, x4.at_, x4.GV, x4.CM.w0, x4.CM.w1, x4.CM.w2, x4.CM.w3, true)) ((Af p2 ((B5 x4 ([33] : List UInt8)).bind fun (x21, x22) => some (x22.s_, x22.at_, x22.GV, x22.CM.w0, x22.CM.w1, x22.CM.w2, x22.CM.w3, x21)) (some (x4.s_, x4.at_, x4.GV, x4.CM.w0, x4.CM.w1, x4.CM.w2, x4.CM.w3, false)) : Option ((List UInt8) × Int × Bool × Int × Int × Int × Int × Bool)).bind fun (x13, x14, x15, x16, x17, x18, x19, x20) => some (x13, x14, x15, x16, x17, x18, x19, x20)) : Option ((List UInt8) × Int × Bool × Int × Int × Int × Int × Bool)).bind fun (x5, x6, x7, x8, x9, x10, x11, x12) => (loop (GL p0) (x5, x6, x7, x8, x9, x10, x11, true)).bind fun o1 => (match o1 with | .inl (x31, x32, x33, x34, x35, x36, x37) => (Af x12 ((EF (⟨x34, x35, x36, x37⟩ : Ar)).bind fun x54 => some (x54.w0, x54.w1, x54.w2, x54.w3)) (some (x34, x35, x36, x37)) : Option ((Int × Int × Int × Int))).bind fun (x50, x51, x52, x53) => some ((⟨x50, x51, x52, x53⟩ : Ar), IntKind.i64.wrap (x32 + 1), (0 : Int)) | .inr (x38, x39, x40, x41, x42, x43, x44, x45, x46) => some ((⟨(0 : Int), (0 : Int), (0 : Int), (0 : Int)⟩ : Ar), x45, x46)))
theorem MJ {p0 p1 p2 q0 q1 q2} (hm : FO p0 p1 p2 = some (q0, q1, q2)) (A : HH g h [] F) (hc : BZ (cfg.still 81) av = [.str p0, Ai p1, .bool p2] := by kernel_rfl) : ∃ v h', Bg cfg g h 81 av v h' ∧ v = .tuple [.agg (AL q0), Ai q1, Ai q2] ∧ HH g h' [] F := by
 refine E5 86 [.cell 6 92, .tmp 7, .tmp 8] hc ?_
 clear hc
 unfold FO at hm
 refine bg 86 [(0, .str p0), (1, Ai p1), (2, .bool p2)] fun fr H => ?_
 refine AD 3 ?_
 obtain ⟨h1, e1, A⟩ := A.pu (.cells none 2 [Au 0, Au 0, Au 0, Au 0])
 refine Bo 6 (.ptr (some (h.size, 0))) e1 H fun fr t H => ?_
 refine AM 2 [] H fun fr H => NK (by kernel_rfl) ?_
 refine AQ (AD 14 (AE 3 [(14, .bool (decide (p1 < 0)))] H fun fr H => BD 5 (fun fr' h' => h1 = h' ∧ Has fr' 86 [(0, .str p0), (1, Ai p1), (2, .bool p2), (6, .ptr (some (h.size, 0))), (19, .bool ((decide (p1 < 0)) || (decide (p1 ≥ (p0.length : Int)))))]) ?_ ?_))
 ·cases hb : (decide (p1 < 0) : Bool) with
  | true =>
   replace H := H.kn 14 hb
   exact AE 5 [(19, .bool true)] H fun fr H => Am H hb
  | false =>
   replace H := H.kn 14 hb
   exact AE 5 [(19, .bool (decide (p1 ≥ (p0.length : Int))))] H fun fr H => Am H hb
 intro t fr h' hK
 obtain ⟨e, H⟩ := hK
 subst e
 refine AE 1 [(20, .bool ((decide (p1 < 0)) || (decide (p1 ≥ (p0.length : Int)))))] H fun fr H => ?_
 obtain ⟨x1, ho, hm⟩ := bind_some hm
 refine BD 5 (fun fr' h' => Has fr' 86 [(0, .str p0), (1, Ai p1), (2, .bool p2), (6, .ptr (some (h.size, 0))), (25, .bool x1)] ∧ HH g h' [.obj h.size (.cells none 2 [Au 0, Au 0, Au 0, Au 0])] F) ?_ ?_
 ·rcases BJ ho with ⟨hb, hm⟩ | ⟨hb, hm⟩
  ·replace H := H.kn 20 hb
   refine AE 5 [(25, .bool true)] H fun fr H => ?_
   obtain rfl := Ah hm
   exact at_nil ⟨H.ls, A⟩
  replace H := H.kn 20 hb
  obtain ⟨x2, hx, hm⟩ := bind_some hm
  refine BI 2 [] 23 (Ab x2) h1 H (fun fr => .of (EL (by kernel_rfl) hx)) fun fr t H => ?_
  refine AE 2 [(25, .bool (x2 != 91))] H fun fr H => ?_
  obtain rfl := Ah hm
  exact at_nil ⟨H.ls, A⟩
 clear A
 intro t fr h2 hK
 obtain ⟨H, A⟩ := hK
 refine BK id (AV 25 H hm (fun hb hm H => ?_) fun hb hm H => ?_)
 ·refine AD 4 ?_
  obtain ⟨h3, hx, A⟩ := A.s0 0 [Au 0, Au 0, Au 0, Au 0] [_, _, _, _]
  refine F7 1 [] hx H fun fr t H => ?_
  refine AM 2 [(7, Ai 0), (8, Ai 1)] H fun fr H => Ag ?_
  obtain ⟨rfl, rfl, rfl⟩ := DR hm
  refine ⟨.inl rfl, .tuple [.agg [Au 0, Au 0, Au 0, Au 0], Ai 0, Ai 1], Bm (.cell (rT H) (Bl (by kernel_rfl) (by kernel_rfl) (A.la 0 0 4)) (.tmp (rT H) (.tmp (rT H) .nil))), ?_⟩
  replace A := A.d0
  exact ⟨rfl, A⟩
 refine Ca 7 id ?_
 obtain ⟨h4, e2, A⟩ := A.pu (.cells none 2 [.str p0, Ai (IntKind.i64.wrap (p1 + 1)), .bool p2, Au 0, Au 0, Au 0, Au 0])
 refine F8 5 [] 32 (.ptr (some (h2.size, 0))) e2 H fun fr t H => ?_
 refine Bw 1 [(9, .ptr (some (h2.size, 0)))] 10 H fun fr H => ?_
 obtain ⟨⟨x3, x4⟩, hx, hm⟩ := bind_some hm
 obtain ⟨v1, h5, hr, rfl, A1⟩ := DP (av := [.ptr (some (h2.size, 0)), .str ([94] : List UInt8)]) hx (A.cut 1)
 replace A := A.g11 A1
 refine Ap 1 [] 34 hr H fun fr t H => ?_
 refine AE 1 [(35, .bool x3)] H fun fr H => ?_
 obtain ⟨⟨x5, x6, x7, x8, x9, x10, x11, x12⟩, ho, hm⟩ := bind_some hm
 refine BD 6 (fun fr' h' => Has fr' 86 [(0, .str p0), (6, .ptr (some (h.size, 0))), (9, .ptr (some (h2.size, 0))), (41, .bool x12)] ∧ HH g h' [.obj h2.size (.cells none 2 [.str x5, Ai x6, .bool x7, Au x8, Au x9, Au x10, Au x11]), .obj h.size (.cells none 2 [Au 0, Au 0, Au 0, Au 0])] F) ?_ ?_
 ·rcases BJ ho with ⟨hb, hm⟩ | ⟨hb, hm⟩
  ·replace H := H.kn 35 hb
   refine AE 6 [(41, .bool true)] H fun fr H => ?_
   obtain ⟨rfl, rfl, rfl, rfl, rfl, rfl, rfl, rfl⟩ := S8 hm
   exact at_nil ⟨H.ls, A⟩
  replace H := H.kn 35 hb
  refine AE 2 [(37, .bool p2)] H fun fr H => ?_
  obtain ⟨⟨x13, x14, x15, x16, x17, x18, x19, x20⟩, ho, hm⟩ := bind_some hm
  refine BD 3 (fun fr' h' => Has fr' 86 [(0, .str p0), (6, .ptr (some (h.size, 0))), (9, .ptr (some (h2.size, 0))), (35, .bool false), (40, .bool x20)] ∧ HH g h' [.obj h2.size (.cells none 2 [.str x13, Ai x14, .bool x15, Au x16, Au x17, Au x18, Au x19]), .obj h.size (.cells none 2 [Au 0, Au 0, Au 0, Au 0])] F) ?_ ?_
  ·rcases BJ ho with ⟨hb, hm⟩ | ⟨hb, hm⟩
   ·replace H := H.kn 37 hb
    obtain ⟨⟨x21, x22⟩, hx, hm⟩ := bind_some hm
    obtain ⟨v1, h8, hr, rfl, A1⟩ := DP (av := [.ptr (some (h2.size, 0)), .str ([33] : List UInt8)]) hx (A.cut 1)
    replace A := A.g11 A1
    refine Ap 1 [] 39 hr H fun fr t H => ?_
    refine AE 1 [(40, .bool x21)] H fun fr H => ?_
    obtain ⟨rfl, rfl, rfl, rfl, rfl, rfl, rfl, rfl⟩ := S8 hm
    exact at_nil ⟨H.ls, A⟩
   replace H := H.kn 37 hb
   refine AE 3 [(40, .bool false)] H fun fr H => ?_
   obtain ⟨rfl, rfl, rfl, rfl, rfl, rfl, rfl, rfl⟩ := S8 hm
   exact at_nil ⟨H.ls, A⟩
  clear A
  intro t fr h7 hK
  obtain ⟨H, A⟩ := hK
  refine AE 1 [(41, .bool x20)] H fun fr H => ?_
  obtain ⟨rfl, rfl, rfl, rfl, rfl, rfl, rfl, rfl⟩ := S8 hm
  exact at_nil ⟨H.ls, A⟩
 clear A
 intro t fr h6 hK
 obtain ⟨H, A⟩ := hK
 refine AM 1 [(10, .bool x12)] H fun fr H => AQ (Ny (by kernel_rfl) ?_)
 show AW _ _ _ _ _ _ _
 refine AQ (AD 1 (AM 1 [(11, .bool true)] H fun fr H => Ac (id := 0) (by kernel_rfl) ?_))
 obtain ⟨o1, ho, hm⟩ := bind_some hm
 refine As (Q' := fun e fr' h' => (∃ x31 x32 x33 x34 x35 x36 x37, e = .exit 0 ∧ .inl (x31, x32, x33, x34, x35, x36, x37) = o1 ∧ Has fr' 86 [(6, .ptr (some (h.size, 0))), (9, .ptr (some (h2.size, 0))), (10, .bool x12)] ∧ HH g h' [.obj h2.size (.cells none 2 [.str x31, Ai x32, .bool x33, Au x34, Au x35, Au x36, Au x37]), .obj h.size (.cells none 2 [Au 0, Au 0, Au 0, Au 0])] F) ∨ (∃ x38 x39 x40 x41 x42 x43 x44 x45 x46, e = .ret ∧ .inr (x38, x39, x40, x41, x42, x43, x44, x45, x46) = o1 ∧ Has fr' 86 [(6, .ptr (some (h.size, 0))), (7, Ai x45), (8, Ai x46)] ∧ HH g h' [.obj h2.size (.cells none 2 [.str x38, Ai x39, .bool x40, Au x41, Au x42, Au x43, Au x44]), .obj h.size (.cells none 2 [Au 0, Au 0, Au 0, Au 0])] F) ∨ False) ?_ ?_
 ·refine B2 (by kernel_rfl) (fun (s : (List UInt8) × Int × Bool × Int × Int × Int × Int × Bool) fr' h' => ∃ x23 x24 x25 x26 x27 x28 x29 x30, (x23, x24, x25, x26, x27, x28, x29, x30) = s ∧ Has fr' 86 [(0, .str p0), (6, .ptr (some (h.size, 0))), (9, .ptr (some (h2.size, 0))), (10, .bool x12), (11, .bool x30)] ∧ HH g h' [.obj h2.size (.cells none 2 [.str x23, Ai x24, .bool x25, Au x26, Au x27, Au x28, Au x29]), .obj h.size (.cells none 2 [Au 0, Au 0, Au 0, Au 0])] F) ho ⟨_, _, _, _, _, _, _, _, rfl, H.ls, A⟩ ?_
  clear ho hm H A
  intro s q fr h9 hI hm
  obtain ⟨x23, x24, x25, x26, x27, x28, x29, x30, rfl, H, A⟩ := hI
  unfold GL at hm
  refine AQ (Ac (id := 1) (by kernel_rfl) ?_)
  refine Ac (id := 2) (by kernel_rfl) ?_
  refine AD 8 (Ad 3 [] 46 0 1 A H fun fr t H => ?_)
  refine AM 4 [(42, .bool (decide (x24 ≥ (p0.length : Int))))] H fun fr H => AV 42 H hm (fun hb hm H => ?_) fun hb hm H => ?_
  ·refine AD 4 ?_
   obtain ⟨h10, hx, A⟩ := A.s1 0 [Au 0, Au 0, Au 0, Au 0] [_, _, _, _]
   refine F7 1 [] hx H fun fr t H => ?_
   refine AM 2 [(7, Ai 0), (8, Ai 11)] H fun fr H => Ag ?_
   exact nr hm fun e => Or.inr (.inl ⟨_, _, _, _, _, _, _, _, _, rfl, e, H.ls, A⟩)
  refine AD 12 (Ad 4 [(52, .str p0)] 56 0 1 A H fun fr t H => ?_)
  obtain ⟨x47, hx, hm⟩ := bind_some hm
  refine Ax 57 (Ab x47) h9 H (fun fr => .of (EL (by kernel_rfl) hx)) fun fr t H => ?_
  refine AE 2 [(59, .bool (x47 == 93))] H fun fr H => BD 3 (fun fr' h' => h9 = h' ∧ Has fr' 86 [(0, .str p0), (6, .ptr (some (h.size, 0))), (9, .ptr (some (h2.size, 0))), (10, .bool x12), (62, .bool ((x47 == 93) && (!x30)))]) ?_ ?_
  ·cases hb : (x47 == 93 : Bool) with
   | true =>
    replace H := H.kn 59 hb
    exact AE 3 [(62, .bool (!x30))] H fun fr H => Am H hb
   | false =>
    replace H := H.kn 59 hb
    exact AE 3 [(62, .bool false)] H fun fr H => Am H hb
  intro t fr h' hK
  obtain ⟨e, H⟩ := hK
  subst e
  refine AM 1 [(51, .bool ((x47 == 93) && (!x30)))] H fun fr H => AV 51 H hm (fun hb hm H => ?_) fun hb hm H => ?_
  ·refine BO (i := 0) (by kernel_rfl) ?_
   exact nr hm fun e => .inl ⟨_, _, _, _, _, _, _, rfl, e, H.ls, A⟩
  refine AD 4 ?_
  obtain ⟨⟨x48, x49⟩, hx, hm⟩ := bind_some hm
  obtain ⟨v1, h11, hr, rfl, A1⟩ := Kr (av := [.ptr (some (h2.size, 0))]) hx (A.cut 1)
  replace A := A.g11 A1
  refine Ap 1 [] 65 hr H fun fr t H => ?_
  refine AM 2 [(63, .bool (!x48))] H fun fr H => AV 63 H hm (fun hb hm H => ?_) fun hb hm H => ?_
  ·refine AD 4 ?_
   obtain ⟨h12, hx, A⟩ := A.s1 0 [Au 0, Au 0, Au 0, Au 0] [_, _, _, _]
   refine F7 1 [] hx H fun fr t H => ?_
   refine AM 2 [(7, Ai 0), (8, Ai 11)] H fun fr H => Ag ?_
   exact nr hm fun e => Or.inr (.inl ⟨_, _, _, _, _, _, _, _, _, rfl, e, H.ls, A⟩)
  refine KX 1 id (AE 1 [(11, .bool false)] H fun fr H => at_nil ?_)
  exact nx hm ⟨_, _, _, _, _, _, _, _, rfl, H.ls, A⟩
 clear ho
 clear A
 intro e fr h13 hQ
 rcases hQ with ⟨x31, x32, x33, x34, x35, x36, x37, rfl, rfl, H, A⟩ | ⟨x38, x39, x40, x41, x42, x43, x44, x45, x46, rfl, rfl, H, A⟩ | hF
 ·show AW _ _ _ _ _ _ _
  refine AQ ?_
  obtain ⟨o2, ho, hm⟩ := bind_some hm
  refine As (Q' := fun e fr' h' => (∃ x50 x51 x52 x53, e = .normal ∧ (x50, x51, x52, x53) = o2 ∧ Has fr' 86 [(6, .ptr (some (h.size, 0))), (9, .ptr (some (h2.size, 0)))] ∧ HH g h' [.obj h2.size (.cells none 2 [.str x31, Ai x32, .bool x33, Au x50, Au x51, Au x52, Au x53]), .obj h.size (.cells none 2 [Au 0, Au 0, Au 0, Au 0])] F) ∨ False) ?_ ?_
  ·replace hm := ho
   clear ho
   refine AD 1 (AM 1 [(68, .bool x12)] H fun fr H => AV 68 H hm (fun hb hm H => ?_) fun hb hm H => ?_)
   ·refine Bd 9 (BI 4 [(69, .ptr (some (h2.size, 0)))] 73 _ _ H (fun fr => .of (CD (by kernel_rfl) (A.GX 0 rfl (o := 3) (n := 4) ⟨Nat.le_of_ble_eq_true rfl, rfl⟩))) fun fr t H => ?_)
    obtain ⟨x54, hx, hm⟩ := bind_some hm
    obtain ⟨v1, h14, hr, rfl, A1⟩ := Gy (av := [.agg [Au x34, Au x35, Au x36, Au x37]]) hx (A.cut 0)
    replace A := A.Ea A1
    refine Be 74 hr H fun fr t H => ?_
    obtain ⟨h15, hx, A⟩ := A.s0 3 (AL x54) [_, _, _, _, _, _, _]
    refine F7 2 [] hx H fun fr t H => ?_
    refine at_nil ?_
    exact .inl ⟨_, _, _, _, rfl, Ah hm, H.ls, A⟩
   exact By (.inl ⟨_, _, _, _, rfl, Ah hm, H.ls, A⟩)
  clear ho
  clear A
  intro e fr h16 hQ
  rcases hQ with ⟨x50, x51, x52, x53, rfl, rfl, H, A⟩ | hF
  ·show AW _ _ _ _ _ _ _
   refine AQ (Ft 14 12 [(0, []), (1, []), (2, []), (3, []), (4, []), (5, []), (6, []), (7, []), (8, []), (9, [7]), (10, []), (11, [])] ?_)
   refine AE 3 [(79, .ptr (some (h2.size, 3)))] H fun fr H => BT 80 (.agg [Au x50, Au x51, Au x52, Au x53]) h16 [(3, h2.size)] (g.BR) H (fun fr => .of (CD (by kernel_rfl) (A.la 0 3 4))) (fun fr H => ?_)
   refine AE 3 [(83, .ptr (some (h2.size, 1)))] H fun fr H => BT 84 (Ai x32) h16 [(7, h2.size), (3, h2.size)] (g.BR) H (fun fr => .of (Dd (by kernel_rfl) (A.l1 0 1))) (fun fr H => ?_)
   refine AE 1 [(85, Ai (IntKind.i64.wrap (x32 + 1)))] H fun fr H => ?_
   replace A := A.k2 1 0
   have A1 := A.Fe 1 (pr := [h2.size]) (.cons 0 rfl (by simp [Ck.ids]) .nil)
   obtain ⟨h17, hx, A1⟩ := A1.st 0 rfl (o := 0) (new := [Au x50, Au x51, Au x52, Au x53]) (ds := [Au x50, Au x51, Au x52, Au x53]) (Nat.le_of_ble_eq_true rfl) rfl rfl
   replace A := A.VA A1
   refine Gj (.tuple []) h17 [(7, h2.size), (3, h2.size)] (h2.size :: g.BR) H (fun fr => .of (K4 (by kernel_rfl) (I3 hx rfl))) (fun fr H => ?_)
   refine AM 2 [(7, Ai (IntKind.i64.wrap (x32 + 1))), (8, Ai 0)] H fun fr H => Ag ?_
   obtain ⟨rfl, rfl, rfl⟩ := DR hm
   refine ⟨.inl rfl, .tuple [.agg [Au x50, Au x51, Au x52, Au x53], Ai (IntKind.i64.wrap (x32 + 1)), Ai 0], Bm (.cell (rT H) (Bl (by kernel_rfl) (by kernel_rfl) (A.la 0 0 4)) (.tmp (rT H) (.tmp (rT H) .nil))), ?_⟩
   replace A := A.d0
   exact ⟨rfl, A⟩
  exact hF.elim
 ·obtain ⟨rfl, rfl, rfl⟩ := DR hm
  refine ⟨.inl rfl, .tuple [.agg [Au 0, Au 0, Au 0, Au 0], Ai x45, Ai x46], Bm (.cell (rT H) (Bl (by kernel_rfl) (by kernel_rfl) (A.la 1 0 4)) (.tmp (rT H) (.tmp (rT H) .nil))), ?_⟩
  replace A := A.d0
  exact ⟨rfl, A⟩
 exact hF.elim
def HV : Option (Ar) :=
 (EF (⟨(0 : Int), (0 : Int), (0 : Int), (0 : Int)⟩ : Ar)).bind fun x1 => some x1
theorem PN {q0} (hm : HV = some q0) (A : HH g h [] F) (hc : BZ (cfg.still 82) av = [] := by kernel_rfl) : ∃ v h', Bg cfg g h 82 av v h' ∧ v = .agg (AL q0) ∧ HH g h' [] F := by
 refine E5 3 [.cell 0 92] hc ?_
 clear hc
 unfold HV at hm
 refine bg 3 [] fun fr H => ?_
 refine AD 1 ?_
 obtain ⟨h1, e1, A⟩ := A.pu (.cells none 2 [Au 0, Au 0, Au 0, Au 0])
 refine Bo 0 (.ptr (some (h.size, 0))) e1 H fun fr t H => ?_
 refine CG 3 id ?_
 obtain ⟨x1, hx, hm⟩ := bind_some hm
 obtain ⟨v1, h2, hr, rfl, A1⟩ := Gy (av := [.agg [Au 0, Au 0, Au 0, Au 0]]) hx (A.cut 0)
 replace A : HH g h2 [.obj h.size (.cells none 2 [Au (0 : Int), Au (0 : Int), Au (0 : Int), Au (0 : Int)])] F := A.Ex (n := 0) A1
 refine Ap 1 [] 2 hr H fun fr t H => ?_
 obtain ⟨h3, hx, A⟩ := A.s0 0 (AL x1) [_, _, _, _]
 refine DN hx H fun fr t H => ?_
 refine BK id (Ag ?_)
 obtain rfl := Ah hm
 refine ⟨.inl rfl, .agg (AL x1), JA (.cell (rT H) (Bl (by kernel_rfl) (by kernel_rfl) (A.la 0 0 4)) .nil), ?_⟩
 replace A := A.d0
 exact ⟨rfl, A⟩
def EI (p0 : AF) : Option (Bool) :=
 (C9 (⟨p0.s_, IntKind.i64.wrap (p0.at_ + 1), p0.AX, p0.t_, p0.An, p0.BC, p0.BB, p0.Ay⟩ : AF)).bind fun x1 => some x1
theorem Kp {p0 bp0 rp0_3 q0} (hm : EI p0 = some q0) (A : HH g h [.obj bp0 (.cells none 2 (AZ p0 (AG rp0_3 p0.t_.AU.length))), .AO rp0_3 94 (AO AA p0.t_.AU)] F) (hc : BZ (cfg.still 83) av = [.ptr (some (bp0, 0))] := by kernel_rfl) : ∃ v h', Bg cfg g h 83 av v h' ∧ v = .bool q0 ∧ HH g h' [.obj bp0 (.cells none 2 (AZ p0 (AG rp0_3 p0.t_.AU.length))), .AO rp0_3 94 (AO AA p0.t_.AU)] F := by
 refine E5 12 [.tmp 2] hc ?_
 clear hc
 unfold EI at hm
 refine bg 12 [(0, .ptr (some (bp0, 0)))] fun fr H => ?_
 refine AD 1 (Bw 1 [] 5 H fun fr H => BI 2 [] 6 _ _ H (fun fr => .of (CD (by kernel_rfl) (A.GX 0 rfl (o := 0) (n := 9) ⟨Nat.le_of_ble_eq_true rfl, rfl⟩))) fun fr t H => ?_)
 obtain ⟨h1, e1, A⟩ := A.pu (.cells none 2 [.str ([] : List UInt8), Ai 0, .bool false, .slice none 0, Ai 0, Ai 0, Ai 0, Ai 0, .bool false])
 refine Bo 3 (.ptr (some (h.size, 0))) e1 H fun fr t H => ?_
 obtain ⟨h2, hx, A⟩ := A.s0 0 (AZ p0 (AG rp0_3 p0.t_.AU.length)) [_, _, _, _, _, _, _, _, _]
 refine DN hx H fun fr t H => ?_
 refine CG 5 id (Ad 1 [] 8 0 1 A H fun fr t H => ?_)
 obtain ⟨h3, hx, A⟩ := A.s0 1 [Ai (IntKind.i64.wrap (p0.at_ + 1))] [_, _, _, _, _, _, _, _, _]
 refine C1 2 [] hx H fun fr t H => ?_
 refine CG 2 id ?_
 replace A := A.k3 0 2 1
 obtain ⟨x1, hx, hm⟩ := bind_some hm
 obtain ⟨v1, h4, hr, rfl, A1⟩ := Gc (av := [.ptr (some (h.size, 0))]) hx (A.cut 2)
 replace A := A.g22 A1
 refine Be 11 hr H fun fr t H => ?_
 refine AM 1 [(2, .bool x1)] H fun fr H => Ag ?_
 obtain rfl := Ah hm
 refine ⟨.inl rfl, .bool x1, rH H, ?_⟩
 replace A := A.k2 2 1
 exact ⟨rfl, A⟩
def DZ (p0 : AF) : Option (Int × AF × (List AJ)) :=
 (Af p0.AX (Cm (decide (([46, 42, 91, 93, 94, 36, 92, 47] : List UInt8).length + ([40, 41, 124, 43, 63, 123, 125] : List UInt8).length ≤ 9223372036854775807)) <| some (([46, 42, 91, 93, 94, 36, 92, 47] : List UInt8) ++ ([40, 41, 124, 43, 63, 123, 125] : List UInt8))) (some ([46, 42, 91, 93, 94, 36, 92, 47] : List UInt8)) : Option (((List UInt8)))).bind fun x1 => (Af ((IntKind.i64.wrap (p0.at_ + 1)) == (p0.s_.length : Int)) (some true) ((Jf p0.s_ (IntKind.i64.wrap (p0.at_ + 1))).bind fun x3 => (E8 x1 x3).bind fun x4 => some (decide (x4 < 0))) : Option (Bool)).bind fun x2 => Af x2 ((CA p0 p0.at_).bind fun x5 => some ((0 : Int), (⟨x5.s_, x5.at_, x5.AX, (⟨p0.t_.AU, x5.t_.Bf⟩ : AI), x5.An, x5.BC, x5.BB, x5.Ay⟩ : AF), p0.t_.AU)) ((Jf p0.s_ (IntKind.i64.wrap ((IntKind.i64.wrap (p0.at_ + 2)) - 1))).bind fun x6 => (C2 (⟨p0.s_, IntKind.i64.wrap (p0.at_ + 2), p0.AX, p0.t_, p0.An, p0.BC, p0.BB, p0.Ay⟩ : AF) x6).bind fun (x7, x8, x9) => some (x7, (⟨x8.s_, x8.at_, x8.AX, (⟨x9, x8.t_.Bf⟩ : AI), x8.An, x8.BC, x8.BB, x8.Ay⟩ : AF), x9))
theorem JX {p0 bp0 rp0_3 q0 u0 u1} (hm : DZ p0 = some (q0, u0, u1)) (A : HH g h [.obj bp0 (.cells none 2 (AZ p0 (AG rp0_3 p0.t_.AU.length))), .AO rp0_3 94 (AO AA p0.t_.AU)] F) (hc : BZ (cfg.still 85) av = [.ptr (some (bp0, 0))] := by kernel_rfl) : ∃ v h', Bg cfg g h 85 av v h' ∧ ∃ (r'1 : Option Nat), v = Ai q0 ∧ HH g h' [.obj bp0 (.cells none 2 (AZ u0 (AG r'1 u1.length))), .AO r'1 94 (AO AA u1)] F := by
 refine E5 61 [.tmp 2] hc ?_
 clear hc
 unfold DZ at hm
 refine bg 61 [(0, .ptr (some (bp0, 0)))] fun fr H => ?_
 refine AD 1 (Bw 1 [] 1 H fun fr H => AM 1 [(3, .str ([46, 42, 91, 93, 94, 36, 92, 47] : List UInt8))] H fun fr H => AQ ?_)
 obtain ⟨o1, ho, hm⟩ := bind_some hm
 refine As (Q' := fun e fr' h' => (∃ x1, e = .normal ∧ x1 = o1 ∧ Has fr' 61 [(0, .ptr (some (bp0, 0))), (3, .str x1)] ∧ HH g h' [.obj bp0 (.cells none 2 (AZ p0 (AG rp0_3 p0.t_.AU.length))), .AO rp0_3 94 (AO AA p0.t_.AU)] F) ∨ False) ?_ ?_
 ·replace hm := ho
  clear ho
  refine AD 4 (Ad 3 [] 7 0 2 A H fun fr t H => ?_)
  refine BK id (AV 7 H hm (fun hb hm H => ?_) fun hb hm H => ?_)
  ·refine Bd 3 (AE 1 [(8, .str ([46, 42, 91, 93, 94, 36, 92, 47] : List UInt8))] H fun fr H => ?_)
   obtain ⟨hb, hm⟩ := BQ hm
   refine Ax 9 (.str (([46, 42, 91, 93, 94, 36, 92, 47] : List UInt8) ++ ([40, 41, 124, 43, 63, 123, 125] : List UInt8))) h H (fun fr => .of (TI (by kernel_rfl) hb)) fun fr t H => ?_
   refine BG 1 [(0, .ptr (some (bp0, 0))), (3, .str (([46, 42, 91, 93, 94, 36, 92, 47] : List UInt8) ++ ([40, 41, 124, 43, 63, 123, 125] : List UInt8)))] H fun fr H => at_nil ?_
   exact .inl ⟨_, rfl, Ah hm, H.ls, A⟩
  exact By (.inl ⟨_, rfl, Ah hm, H.ls, A⟩)
 clear ho
 clear A
 intro e fr h1 hQ
 rcases hQ with ⟨x1, rfl, rfl, H, A⟩ | hF
 ·show AW _ _ _ _ _ _ _
  refine AQ (AQ (EO 4 26 ?_))
  refine Ad 3 [] 13 0 1 A H fun fr t H => ?_
  refine Ad 4 [(14, Ai (IntKind.i64.wrap (p0.at_ + 1)))] 18 0 0 A H fun fr t H => ?_
  refine AE 3 [(21, .bool ((IntKind.i64.wrap (p0.at_ + 1)) == (p0.s_.length : Int)))] H fun fr H => ?_
  obtain ⟨x2, ho, hm⟩ := bind_some hm
  refine BD 14 (fun fr' h' => Has fr' 61 [(0, .ptr (some (bp0, 0))), (35, .bool x2)] ∧ HH g h' [.obj bp0 (.cells none 2 (AZ p0 (AG rp0_3 p0.t_.AU.length))), .AO rp0_3 94 (AO AA p0.t_.AU)] F) ?_ ?_
  ·rcases BJ ho with ⟨hb, hm⟩ | ⟨hb, hm⟩
   ·replace H := H.kn 21 hb
    refine AE 14 [(35, .bool true)] H fun fr H => ?_
    obtain rfl := Ah hm
    exact at_nil ⟨H.ls, A⟩
   replace H := H.kn 21 hb
   refine Ad 4 [(22, .str x1)] 26 0 0 A H fun fr t H => ?_
   refine Ad 3 [] 30 0 1 A H fun fr t H => ?_
   obtain ⟨x3, hx, hm⟩ := bind_some hm
   refine BI 1 [] 32 (Ab x3) h1 H (fun fr => .of (EL (by kernel_rfl) hx)) fun fr t H => ?_
   obtain ⟨x4, hx, hm⟩ := bind_some hm
   obtain ⟨v1, h3, hr, rfl, A1⟩ := Kn (av := [.str x1, Ab x3]) hx (A.cut 0)
   replace A := A.Ea A1
   refine Be 33 hr H fun fr t H => ?_
   refine AE 2 [(35, .bool (decide (x4 < 0)))] H fun fr H => ?_
   obtain rfl := Ah hm
   exact at_nil ⟨H.ls, A⟩
  clear A
  intro t fr h2 hK
  obtain ⟨H, A⟩ := hK
  refine BK id (AV 35 H hm (fun hb hm H => ?_) fun hb hm H => ?_)
  ·refine AD 6 (Ad 4 [(36, .ptr (some (bp0, 0)))] 40 0 1 A H fun fr t H => ?_)
   obtain ⟨x5, hx, hm⟩ := bind_some hm
   obtain ⟨v1, h4, hr, rfl, A1⟩ := C8 (av := [.ptr (some (bp0, 0)), Ai p0.at_]) hx (A.cut 2)
   replace A := A.g22 A1
   refine MF hr H fun fr t H => ?_
   refine CG 1 id (AM 1 [(2, Ai 0)] H fun fr H => Ag ?_)
   obtain ⟨rfl, rfl, rfl⟩ := DR hm
   exact ⟨.inl rfl, _, rH H, _, rfl, A⟩
  refine Ca 8 id (Ad 3 [(42, .ptr (some (bp0, 0)))] 45 0 1 A H fun fr t H => ?_)
  obtain ⟨h5, hx, A⟩ := A.s0 1 [Ai (IntKind.i64.wrap (p0.at_ + 2))] [_, _, _, _, _, _, _, _, _]
  refine C1 3 [] hx H fun fr t H => ?_
  refine BK id (AQ (EO 8 13 ?_))
  refine Ad 4 [(49, .ptr (some (bp0, 0)))] 53 0 0 A H fun fr t H => ?_
  refine Ad 3 [] 57 0 1 A H fun fr t H => ?_
  obtain ⟨x6, hx, hm⟩ := bind_some hm
  refine BI 1 [] 59 (Ab x6) h5 H (fun fr => .of (EL (by kernel_rfl) hx)) fun fr t H => ?_
  obtain ⟨⟨x7, x8, x9⟩, hx, hm⟩ := bind_some hm
  obtain ⟨v1, h6, hr, r1, rfl, A1⟩ := Fm (av := [.ptr (some (bp0, 0)), Ab x6]) hx (A.cut 2)
  replace A := A.g22 A1
  refine Be 60 hr H fun fr t H => ?_
  refine AM 1 [(2, Ai x7)] H fun fr H => Ag ?_
  obtain ⟨rfl, rfl, rfl⟩ := DR hm
  exact ⟨.inl rfl, _, rH H, _, rfl, A⟩
 exact hF.elim
def E1 (p1 : Int) (p2 : List Int) (s : (List UInt8) × Int × Bool × Int × Int × Int × Int × Bool × (List AJ) × Int × Int) : Option (((List UInt8) × Int × Bool × Int × Int × Int × Int × Bool × (List AJ) × Int × Int) ⊕ (((List UInt8) × Int × Bool × Int × Int × Int × Int × Bool × (List AJ) × Int))) :=
 match s with
 | (x5, x6, x7, x8, x9, x10, x11, x12, x13, x14, x15) => Af (decide (x15 ≥ 0)) ((Ff p2 x15).bind fun x26 => (BY (⟨x5, x6, x7, (⟨x13, x8⟩ : AI), x9, x10, x11, x12⟩ : AF) (⟨p1, x26, x14, (0 : Int), (0 : Int), (0 : Int), (⟨(0 : Int), (0 : Int), (0 : Int), (0 : Int)⟩ : Ar)⟩ : AJ)).bind fun (x27, x28, x29) => some (.inl (x28.s_, x28.at_, x28.AX, x28.t_.Bf, x28.An, x28.BC, x28.BB, x28.Ay, x29, x27, IntKind.i64.wrap (x15 - 1)))) (some (.inr (x5, x6, x7, x8, x9, x10, x11, x12, x13, x14)))
def DF (p0 : AF) (p1 : Int) (p2 : List Int) : Option (Int × AF × (List AJ)) :=
 Af ((p2.length : Int) == 0) ((BY p0 (⟨(0 : Int), (0 : Int), (0 : Int), (0 : Int), (0 : Int), (0 : Int), (⟨(0 : Int), (0 : Int), (0 : Int), (0 : Int)⟩ : Ar)⟩ : AJ)).bind fun (x1, x2, x3) => some (x1, (⟨x2.s_, x2.at_, x2.AX, (⟨x3, x2.t_.Bf⟩ : AI), x2.An, x2.BC, x2.BB, x2.Ay⟩ : AF), x3)) ((Ff p2 (IntKind.i64.wrap ((p2.length : Int) - 1))).bind fun x4 => (loop (E1 p1 p2) (p0.s_, p0.at_, p0.AX, p0.t_.Bf, p0.An, p0.BC, p0.BB, p0.Ay, p0.t_.AU, x4, IntKind.i64.wrap ((p2.length : Int) - 2))).bind fun (x16, x17, x18, x19, x20, x21, x22, x23, x24, x25) => some (x25, (⟨x16, x17, x18, (⟨x24, x19⟩ : AI), x20, x21, x22, x23⟩ : AF), x24))
theorem Gb {p0 p1 p2 bp0 rp0_3 rp2 q0 u0 u1} (hm : DF p0 p1 p2 = some (q0, u0, u1)) (A : HH g h [.obj bp0 (.cells none 2 (AZ p0 (AG rp0_3 p0.t_.AU.length))), .AO rp0_3 94 (AO AA p0.t_.AU), .AO rp2 3 (AO (eI .i64) p2)] F) (hc : BZ (cfg.still 41) av = [.ptr (some (bp0, 0)), Ai p1, AG rp2 p2.length] := by kernel_rfl) : ∃ v h', Bg cfg g h 41 av v h' ∧ ∃ (r'1 : Option Nat), v = Ai q0 ∧ HH g h' [.obj bp0 (.cells none 2 (AZ u0 (AG r'1 u1.length))), .AO r'1 94 (AO AA u1), .AO rp2 3 (AO (eI .i64) p2)] F := by
 refine E5 38 [.tmp 6] hc ?_
 clear hc
 unfold DF at hm
 refine bg 38 [(0, .ptr (some (bp0, 0))), (1, Ai p1), (2, AG rp2 p2.length)] fun fr H => ?_
 refine AD 1 (AM 1 [] H fun fr H => AQ (AD 3 (AM 3 [(11, .bool ((p2.length : Int) == 0))] H fun fr H => AV 11 H hm (fun hb hm H => ?_) fun hb hm H => ?_)))
 ·refine AD 4 ?_
  obtain ⟨⟨x1, x2, x3⟩, hx, hm⟩ := bind_some hm
  obtain ⟨v1, h1, hr, r1, rfl, A1⟩ := B9 (av := [.ptr (some (bp0, 0)), .agg [Ai 0, Ai 0, Ai 0, Ai 0, Ai 0, Ai 0, Au 0, Au 0, Au 0, Au 0]]) hx (A.cut 2)
  replace A := A.g22 A1
  refine Ap 2 [] 14 hr H fun fr t H => ?_
  refine AM 1 [(6, Ai x1)] H fun fr H => Ag ?_
  obtain ⟨rfl, rfl, rfl⟩ := DR hm
  exact ⟨.inl rfl, _, rH H, _, rfl, A⟩
 refine Ca 7 id ?_
 obtain ⟨x4, hx, hm⟩ := bind_some hm
 obtain ⟨i1, er1, _, hx, hq1⟩ := HH.ND (encI .i64) (by decide) A 2 (xs := p2) rfl hx
 refine BI 4 [] 19 (.ptr (some (i1, (IntKind.i64.wrap ((p2.length : Int) - 1)).toNat * 1))) h H (fun fr => .of (FI (s := Cf rp2 p2.length) (by kernel_rfl) hx)) fun fr t H => ?_
 refine Ax 20 _ _ H (fun fr => .of (Dd (by kernel_rfl) (E7 (encI .i64) (HH.row A 2 rfl er1) hq1 (o := 0) rfl))) fun fr t H => ?_
 refine AM 1 [(7, Ai x4)] H fun fr H => AQ (AD 4 (AM 4 [(8, Ai (IntKind.i64.wrap ((p2.length : Int) - 2)))] H fun fr H => Ac (id := 0) (by kernel_rfl) ?_))
 obtain ⟨o1, ho, hm⟩ := bind_some hm
 refine As (Q' := fun e fr' h' => (∃ x16 x17 x18 x19 x20 x21 x22 x23 x24 x25, e = .exit 0 ∧ (x16, x17, x18, x19, x20, x21, x22, x23, x24, x25) = o1 ∧ ∃ r3, Has fr' 38 [(7, Ai x25)] ∧ HH g h' [.obj bp0 (.cells none 2 [.str x16, Ai x17, .bool x18, AG r3 x24.length, Ai x19, Ai x20, Ai x21, Ai x22, .bool x23]), .AO r3 94 (AO AA x24), .AO rp2 3 (AO (eI .i64) p2)] F) ∨ False) ?_ ?_
 ·refine B2 (by kernel_rfl) (fun (s : (List UInt8) × Int × Bool × Int × Int × Int × Int × Bool × (List AJ) × Int × Int) fr' h' => ∃ x5 x6 x7 x8 x9 x10 x11 x12 x13 x14 x15, (x5, x6, x7, x8, x9, x10, x11, x12, x13, x14, x15) = s ∧ ∃ r2, Has fr' 38 [(0, .ptr (some (bp0, 0))), (1, Ai p1), (2, AG rp2 p2.length), (7, Ai x14), (8, Ai x15)] ∧ HH g h' [.obj bp0 (.cells none 2 [.str x5, Ai x6, .bool x7, AG r2 x13.length, Ai x8, Ai x9, Ai x10, Ai x11, .bool x12]), .AO r2 94 (AO AA x13), .AO rp2 3 (AO (eI .i64) p2)] F) ho ⟨_, _, _, _, _, _, _, _, _, _, _, rfl, rp0_3, H.ls, A⟩ ?_
  clear ho hm H A
  intro s q fr h2 hI hm
  obtain ⟨x5, x6, x7, x8, x9, x10, x11, x12, x13, x14, x15, rfl, r2, H, A⟩ := hI
  unfold E1 at hm
  refine AQ (AD 2 (AM 2 [(25, .bool (decide (x15 ≥ 0)))] H fun fr H => AV 25 H hm (fun hb hm H => ?_) fun hb hm H => ?_))
  ·refine CE id (AQ (Ac (id := 1) (by kernel_rfl) ?_))
   refine Bd 10 ?_
   obtain ⟨x26, hx, hm⟩ := bind_some hm
   obtain ⟨i2, er2, _, hx, hq2⟩ := HH.ND (encI .i64) (by decide) A 2 (xs := p2) rfl hx
   refine BI 4 [(28, .ptr (some (bp0, 0))), (29, Ai p1)] 32 (.ptr (some (i2, x15.toNat * 1))) h2 H (fun fr => .of (FI (s := Cf rp2 p2.length) (by kernel_rfl) hx)) fun fr t H => ?_
   refine Ax 33 _ _ H (fun fr => .of (Dd (by kernel_rfl) (E7 (encI .i64) (HH.row A 2 rfl er2) hq2 (o := 0) rfl))) fun fr t H => ?_
   obtain ⟨⟨x27, x28, x29⟩, hx, hm⟩ := bind_some hm
   obtain ⟨v1, h3, hr, r4, rfl, A1⟩ := B9 (av := [.ptr (some (bp0, 0)), .agg [Ai p1, Ai x26, Ai x14, Ai 0, Ai 0, Ai 0, Au 0, Au 0, Au 0, Au 0]]) hx (A.cut 2)
   replace A := A.g22 A1
   refine Ap 2 [] 36 hr H fun fr t H => ?_
   refine BG 1 [(0, .ptr (some (bp0, 0))), (1, Ai p1), (2, AG rp2 p2.length), (7, Ai x27), (8, Ai x15)] H fun fr H => Gq 3 id (BG 3 [(0, .ptr (some (bp0, 0))), (1, Ai p1), (2, AG rp2 p2.length), (7, Ai x27), (8, Ai (IntKind.i64.wrap (x15 - 1)))] H fun fr H => at_nil ?_)
   exact nx hm ⟨_, _, _, _, _, _, _, _, _, _, _, rfl, _, H.ls, A⟩
  refine BO (i := 0) (by kernel_rfl) ?_
  exact nr hm fun e => .inl ⟨_, _, _, _, _, _, _, _, _, _, rfl, e, _, H.ls, A⟩
 clear ho
 clear A
 intro e fr h4 hQ
 rcases hQ with ⟨x16, x17, x18, x19, x20, x21, x22, x23, x24, x25, rfl, rfl, r3, H, A⟩ | hF
 ·show AW _ _ _ _ _ _ _
  refine AD 2 (AM 2 [(6, Ai x25)] H fun fr H => Ag ?_)
  obtain ⟨rfl, rfl, rfl⟩ := DR hm
  exact ⟨.inl rfl, _, rH H, _, rfl, A⟩
 exact hF.elim
def GB (p0 : List AY) (p1 : Int) : Option ((List AY)) :=
 (Af (decide ((p0.length : Int) > 0)) ((Ff p0 (IntKind.i64.wrap ((p0.length : Int) - 1))).bind fun x2 => some (x2.Kind == 0)) (some false) : Option (Bool)).bind fun x1 => Af x1 ((Ff p0 (IntKind.i64.wrap ((p0.length : Int) - 1))).bind fun x3 => (RB p1).bind fun x4 => Cm (decide (x3.Bytes.length + ([x4] : List UInt8).length ≤ 9223372036854775807)) <| (Ff p0 (IntKind.i64.wrap ((p0.length : Int) - 1))).bind fun x5 => some (p0.set (IntKind.i64.wrap ((p0.length : Int) - 1)).toNat (⟨x5.Kind, x5.C4, x3.Bytes ++ ([x4] : List UInt8)⟩ : AY))) ((RB p1).bind fun x6 => Cm (KI 32 (p0.length + ([(⟨(0 : Int), (0 : Int), ([x6] : List UInt8)⟩ : AY)] : List AY).length)) <| some (p0 ++ ([(⟨(0 : Int), (0 : Int), ([x6] : List UInt8)⟩ : AY)] : List AY)))
theorem JC {p0 p1 rp0 u0} (hm : GB p0 p1 = some u0) (A : HH g h [.AO rp0 85 (AO AS p0)] F) (hc : BZ (cfg.still 30) av = [AG rp0 p0.length, Ab p1] := by kernel_rfl) : ∃ v h', Bg cfg g h 30 av v h' ∧ ∃ (r'0 : Option Nat), v = AG r'0 u0.length ∧ HH g h' [.AO r'0 85 (AO AS u0)] F := by
 refine E5 39 [.tmp 4] hc ?_
 clear hc
 unfold GB at hm
 refine bg 39 [(0, AG rp0 p0.length), (1, Ab p1)] fun fr H => ?_
 refine AD 1 (AM 1 [] H fun fr H => AQ (AD 3 (Bw 3 [(5, Ai (p0.length : Int))] 11 H fun fr H => AE 3 [(10, .bool (decide ((p0.length : Int) > 0)))] H fun fr H => ?_)))
 obtain ⟨x1, ho, hm⟩ := bind_some hm
 refine BD 8 (fun fr' h' => Has fr' 39 [(0, AG rp0 p0.length), (1, Ab p1), (5, Ai (p0.length : Int)), (18, .bool x1)] ∧ HH g h' [.AO rp0 85 (AO AS p0)] F) ?_ ?_
 ·rcases BJ ho with ⟨hb, hm⟩ | ⟨hb, hm⟩
  ·replace H := H.kn 10 hb
   obtain ⟨x2, hx, hm⟩ := bind_some hm
   obtain ⟨i1, er1, _, hx, hq1⟩ := HH.ND B1 (by decide) A 0 (xs := p0) rfl hx
   refine BI 3 [] 14 (.ptr (some (i1, (IntKind.i64.wrap ((p0.length : Int) - 1)).toNat * 3))) h H (fun fr => .of (FI (s := Cf rp0 p0.length) (by kernel_rfl) hx)) fun fr t H => ?_
   refine BI 1 [] 16 _ _ H (fun fr => .of (Dd (by kernel_rfl) (E7 B1 (HH.row A 0 rfl er1) hq1 (o := 0) rfl))) fun fr t H => ?_
   refine AE 2 [(18, .bool (x2.Kind == 0))] H fun fr H => ?_
   obtain rfl := Ah hm
   exact at_nil ⟨H.ls, A⟩
  replace H := H.kn 10 hb
  refine AE 8 [(18, .bool false)] H fun fr H => ?_
  obtain rfl := Ah hm
  exact at_nil ⟨H.ls, A⟩
 clear A
 intro t fr h1 hK
 obtain ⟨H, A⟩ := hK
 refine BK id (AV 18 H hm (fun hb hm H => ?_) fun hb hm H => ?_)
 ·refine AQ (EO 3 13 ?_)
  obtain ⟨x3, hx, hm⟩ := bind_some hm
  obtain ⟨i2, er2, _, hx, hq2⟩ := HH.ND B1 (by decide) A 0 (xs := p0) rfl hx
  refine BI 3 [(19, AG rp0 p0.length), (21, Ai (IntKind.i64.wrap ((p0.length : Int) - 1)))] 22 (.ptr (some (i2, (IntKind.i64.wrap ((p0.length : Int) - 1)).toNat * 3))) h1 H (fun fr => .of (FI (s := Cf rp0 p0.length) (by kernel_rfl) hx)) fun fr t H => ?_
  refine BI 1 [] 24 _ _ H (fun fr => .of (Dd (by kernel_rfl) (E7 B1 (HH.row A 0 rfl er2) hq2 (o := 2) rfl))) fun fr t H => ?_
  refine AE 1 [(25, Ab p1)] H fun fr H => ?_
  obtain ⟨x4, hx, hm⟩ := bind_some hm
  have hx := LY hx
  have kH := hm
  have kA := A
  have kR := H
  subst hx
  have hm := kH
  have A := kA
  have H := kR
  clear kH kA kR
  obtain ⟨h2, e1, A⟩ := A.pL 5 [Ab (x4.toNat : Int)]
  refine Bo 26 (AG (some h1.size) (([x4] : List UInt8).length)) e1 H fun fr t H => ?_
  refine Ax 27 (.str ([x4] : List UInt8)) h2 H (fun fr => .of (Ou (xs := ([x4] : List UInt8)) A 0 rfl (by kernel_rfl))) fun fr t H => ?_
  obtain ⟨hb, hm⟩ := BQ hm
  refine Ax 28 (.str (x3.Bytes ++ ([x4] : List UInt8))) h2 H (fun fr => .of (TI (by kernel_rfl) hb)) fun fr t H => ?_
  obtain ⟨x5, hx, hm⟩ := bind_some hm
  obtain ⟨i3, er3, _, hx, hq3⟩ := HH.ND B1 (by decide) A 1 (xs := p0) rfl hx
  refine Ax 29 (.ptr (some (i3, (IntKind.i64.wrap ((p0.length : Int) - 1)).toNat * 3))) h2 H (fun fr => .of (FI (s := Cf rp0 p0.length) (by kernel_rfl) hx)) fun fr t H => ?_
  obtain ⟨h3, hx, A1⟩ := HH.VK B1 A 1 rfl er3 hq3 (y := (⟨x5.Kind, x5.C4, x3.Bytes ++ ([x4] : List UInt8)⟩ : AY)) (o := 2) (new := [.str (x3.Bytes ++ ([x4] : List UInt8))]) rfl rfl (Nat.le_of_ble_eq_true rfl)
  have hl1 : (p0.set (IntKind.i64.wrap ((p0.length : Int) - 1)).toNat (⟨x5.Kind, x5.C4, x3.Bytes ++ ([x4] : List UInt8)⟩ : AY)).length = p0.length := List.length_set
  have el : AG rp0 p0.length = AG rp0 (p0.set (IntKind.i64.wrap ((p0.length : Int) - 1)).toNat (⟨x5.Kind, x5.C4, x3.Bytes ++ ([x4] : List UInt8)⟩ : AY)).length := congrArg _ List.length_set.symm
  try rw [el] at H
  try rw [el] at A1
  replace A : HH g h3 [.AO (some h1.size) 5 ([Ab (x4.toNat : Int)]), .AO rp0 85 (AO AS (p0.set (IntKind.i64.wrap ((p0.length : Int) - 1)).toNat (⟨x5.Kind, x5.C4, x3.Bytes ++ ([x4] : List UInt8)⟩ : AY)))] F := A1
  refine C1 1 [] hx H fun fr t H => ?_
  refine CG 2 id (AM 2 [(4, AG rp0 ((p0.set (IntKind.i64.wrap ((p0.length : Int) - 1)).toNat (⟨x5.Kind, x5.C4, x3.Bytes ++ ([x4] : List UInt8)⟩ : AY)).length))] H fun fr H => Ag ?_)
  obtain rfl := Ah hm
  refine ⟨.inl rfl, AG rp0 ((p0.set (IntKind.i64.wrap ((p0.length : Int) - 1)).toNat (⟨x5.Kind, x5.C4, x3.Bytes ++ ([x4] : List UInt8)⟩ : AY)).length), rH H, ?_⟩
  replace A := A.k1 1
  exact ⟨rp0, rfl, A⟩
 refine Ca 8 id (AE 2 [(32, AG rp0 p0.length), (33, Ab p1)] H fun fr H => ?_)
 obtain ⟨x6, hx, hm⟩ := bind_some hm
 have hx := LY hx
 have kH := hm
 have kA := A
 have kR := H
 subst hx
 have hm := kH
 have A := kA
 have H := kR
 clear kH kA kR
 obtain ⟨h4, e2, A⟩ := A.pL 5 [Ab (x6.toNat : Int)]
 refine Bo 34 (AG (some h1.size) (([x6] : List UInt8).length)) e2 H fun fr t H => ?_
 refine Ax 35 (.str ([x6] : List UInt8)) h4 H (fun fr => .of (Ou (xs := ([x6] : List UInt8)) A 0 rfl (by kernel_rfl))) fun fr t H => ?_
 refine AE 1 [(36, .agg [Ai 0, Ai 0, .str ([x6] : List UInt8)])] H fun fr H => ?_
 obtain ⟨h5, e3, A⟩ := A.pL 85 [Ai 0, Ai 0, .str ([x6] : List UInt8)]
 refine Bo 37 (AG (some h4.size) (([(⟨(0 : Int), (0 : Int), ([x6] : List UInt8)⟩ : AY)] : List AY).length)) e3 H fun fr t H => ?_
 obtain ⟨hb, hm⟩ := BQ hm
 obtain ⟨r1, h6, hx, A1⟩ := HH.Hd B1 (by decide) A 2 (xs := p0) (ys := ([(⟨(0 : Int), (0 : Int), ([x6] : List UInt8)⟩ : AY)] : List AY)) rfl (B6 A 0 rfl (n := ([(⟨(0 : Int), (0 : Int), ([x6] : List UInt8)⟩ : AY)] : List AY).length) (z := 3) rfl (by decide)) rfl rfl hb
 replace A : HH g h6 [.AO (some h4.size) 85 ([Ai 0, Ai 0, .str ([x6] : List UInt8)]), .AO (some h1.size) 5 ([Ab (x6.toNat : Int)]), .AO r1 85 (AO AS (p0 ++ ([(⟨(0 : Int), (0 : Int), ([x6] : List UInt8)⟩ : AY)] : List AY)))] F := A1
 replace A := A.k2 1 2
 refine Ax 38 _ _ H (fun fr => .of (Er (s := Cf rp0 p0.length) (by kernel_rfl) hx)) fun fr t H => ?_
 refine AM 1 [(4, AG r1 ((p0 ++ ([(⟨(0 : Int), (0 : Int), ([x6] : List UInt8)⟩ : AY)] : List AY)).length))] H fun fr H => Ag ?_
 obtain rfl := Ah hm
 refine ⟨.inl rfl, AG r1 ((p0 ++ ([(⟨(0 : Int), (0 : Int), ([x6] : List UInt8)⟩ : AY)] : List AY)).length), rH H, ?_⟩
 replace A := A.k1 1
 exact ⟨r1, rfl, A⟩
def Jo (p0 : Int) : Option (AY × Bool) :=
 Af ((decide (p0 ≥ 49)) && (decide (p0 ≤ 57))) (some ((⟨(1 : Int), IntKind.i64.wrap (IntKind.u8.wrap (p0 - 48)), ([] : List UInt8)⟩ : AY), true)) (some ((⟨((Dm (CO (CO (CO (CO (CO ([] : List (Int × Int)) (85 : Int) (2 : Int)) (76 : Int) (3 : Int)) (69 : Int) (4 : Int)) (117 : Int) (5 : Int)) (108 : Int) (6 : Int)) p0).getD (0 : Int)), (0 : Int), ([] : List UInt8)⟩ : AY), (Dm (CO (CO (CO (CO (CO ([] : List (Int × Int)) (85 : Int) (2 : Int)) (76 : Int) (3 : Int)) (69 : Int) (4 : Int)) (117 : Int) (5 : Int)) (108 : Int) (6 : Int)) p0).isSome))
theorem OH {p0 q0 q1} (hm : Jo p0 = some (q0, q1)) (A : HH g h [] F) (hc : BZ (cfg.still 31) av = [Ab p0] := by kernel_rfl) : ∃ v h', Bg cfg g h 31 av v h' ∧ v = .tuple [.agg (AS q0), .bool q1] ∧ HH g h' [] F := by
 refine E5 28 [.cell 2 85, .tmp 3] hc ?_
 clear hc
 unfold Jo at hm
 refine bg 28 [(0, Ab p0)] fun fr H => ?_
 refine AD 2 ?_
 obtain ⟨h1, e1, A⟩ := A.pu (.cells none 2 [Ai 0, Ai 0, .str ([] : List UInt8)])
 refine Bo 2 (.ptr (some (h.size, 0))) e1 H fun fr t H => ?_
 refine AM 1 [] H fun fr H => AQ (AD 6 (AE 3 [(9, .bool (decide (p0 ≥ 49)))] H fun fr H => BD 3 (fun fr' h' => h1 = h' ∧ Has fr' 28 [(0, Ab p0), (2, .ptr (some (h.size, 0))), (12, .bool ((decide (p0 ≥ 49)) && (decide (p0 ≤ 57))))]) ?_ ?_))
 ·cases hb : (decide (p0 ≥ 49) : Bool) with
  | true =>
   replace H := H.kn 9 hb
   exact AE 3 [(12, .bool (decide (p0 ≤ 57)))] H fun fr H => Am H hb
  | false =>
   replace H := H.kn 9 hb
   exact AE 3 [(12, .bool false)] H fun fr H => Am H hb
 intro t fr h' hK
 obtain ⟨e, H⟩ := hK
 subst e
 refine BK id (AV 12 H hm (fun hb hm H => ?_) fun hb hm H => ?_)
 ·refine AD 6 ?_
  obtain ⟨h2, hx, A⟩ := A.s0 0 [Ai 1, Ai (IntKind.i64.wrap (IntKind.u8.wrap (p0 - 48))), .str ([] : List UInt8)] [_, _, _]
  refine F7 4 [] hx H fun fr t H => ?_
  refine AM 1 [(3, .bool true)] H fun fr H => Ag ?_
  obtain ⟨rfl, rfl⟩ := Ds hm
  refine ⟨.inl rfl, .tuple [.agg [Ai 1, Ai (IntKind.i64.wrap (IntKind.u8.wrap (p0 - 48))), .str ([] : List UInt8)], .bool true], Bm (.cell (rT H) (Bl (by kernel_rfl) (by kernel_rfl) (A.la 0 0 3)) (.tmp (rT H) .nil)), ?_⟩
  replace A := A.d0
  exact ⟨rfl, A⟩
 refine Ca 8 id ?_
 obtain ⟨h3, e2⟩ : ∃ x, x = h1.push (.map 2 []) := ⟨_, rfl⟩
 replace A : HH g h3 [.obj h1.size (.map 2 (Cz (fun k : Int => Ab k) (fun v : Int => Ai v) ([] : List (Int × Int)))), .obj h.size (.cells none 2 [Ai 0, Ai 0, .str ([] : List UInt8)])] F := (A.push _).to e2
 refine Bo 17 (.map (some h1.size)) e2 H fun fr t H => ?_
 obtain ⟨h4, hx, A1⟩ := HH.RJ (kt := 5) (et := 3) (ek := fun k : Int => Ab k) (ev := fun v : Int => Ai v) (Qj (by kernel_rfl)) A 0 rfl (t := 129) (by kernel_rfl) (85 : Int) (2 : Int)
 replace A : HH g h4 [.obj h1.size (.map 2 (Cz (fun k : Int => Ab k) (fun v : Int => Ai v) (CO ([] : List (Int × Int)) (85 : Int) (2 : Int)))), _] F := A1
 refine K6 (.tuple []) h4 H (fun fr => .of (Rq (by kernel_rfl) hx)) fun fr t H => ?_
 obtain ⟨h5, hx, A1⟩ := HH.RJ (kt := 5) (et := 3) (ek := fun k : Int => Ab k) (ev := fun v : Int => Ai v) (Qj (by kernel_rfl)) A 0 rfl (t := 129) (by kernel_rfl) (76 : Int) (3 : Int)
 replace A : HH g h5 [.obj h1.size (.map 2 (Cz (fun k : Int => Ab k) (fun v : Int => Ai v) (CO (CO ([] : List (Int × Int)) (85 : Int) (2 : Int)) (76 : Int) (3 : Int)))), _] F := A1
 refine K6 (.tuple []) h5 H (fun fr => .of (Rq (by kernel_rfl) hx)) fun fr t H => ?_
 obtain ⟨h6, hx, A1⟩ := HH.RJ (kt := 5) (et := 3) (ek := fun k : Int => Ab k) (ev := fun v : Int => Ai v) (Qj (by kernel_rfl)) A 0 rfl (t := 129) (by kernel_rfl) (69 : Int) (4 : Int)
 replace A : HH g h6 [.obj h1.size (.map 2 (Cz (fun k : Int => Ab k) (fun v : Int => Ai v) (CO (CO (CO ([] : List (Int × Int)) (85 : Int) (2 : Int)) (76 : Int) (3 : Int)) (69 : Int) (4 : Int)))), _] F := A1
 refine K6 (.tuple []) h6 H (fun fr => .of (Rq (by kernel_rfl) hx)) fun fr t H => ?_
 obtain ⟨h7, hx, A1⟩ := HH.RJ (kt := 5) (et := 3) (ek := fun k : Int => Ab k) (ev := fun v : Int => Ai v) (Qj (by kernel_rfl)) A 0 rfl (t := 129) (by kernel_rfl) (117 : Int) (5 : Int)
 replace A : HH g h7 [.obj h1.size (.map 2 (Cz (fun k : Int => Ab k) (fun v : Int => Ai v) (CO (CO (CO (CO ([] : List (Int × Int)) (85 : Int) (2 : Int)) (76 : Int) (3 : Int)) (69 : Int) (4 : Int)) (117 : Int) (5 : Int)))), _] F := A1
 refine K6 (.tuple []) h7 H (fun fr => .of (Rq (by kernel_rfl) hx)) fun fr t H => ?_
 obtain ⟨h8, hx, A1⟩ := HH.RJ (kt := 5) (et := 3) (ek := fun k : Int => Ab k) (ev := fun v : Int => Ai v) (Qj (by kernel_rfl)) A 0 rfl (t := 129) (by kernel_rfl) (108 : Int) (6 : Int)
 replace A : HH g h8 [.obj h1.size (.map 2 (Cz (fun k : Int => Ab k) (fun v : Int => Ai v) (CO (CO (CO (CO (CO ([] : List (Int × Int)) (85 : Int) (2 : Int)) (76 : Int) (3 : Int)) (69 : Int) (4 : Int)) (117 : Int) (5 : Int)) (108 : Int) (6 : Int)))), _] F := A1
 refine K6 (.tuple []) h8 H (fun fr => .of (Rq (by kernel_rfl) hx)) fun fr t H => ?_
 refine Bw 2 [(4, .map (some h1.size))] 8 H fun fr H => BI 2 [] 22 (.tuple [Ai ((Dm (CO (CO (CO (CO (CO ([] : List (Int × Int)) (85 : Int) (2 : Int)) (76 : Int) (3 : Int)) (69 : Int) (4 : Int)) (117 : Int) (5 : Int)) (108 : Int) (6 : Int)) p0).getD (0 : Int)), .bool ((Dm (CO (CO (CO (CO (CO ([] : List (Int × Int)) (85 : Int) (2 : Int)) (76 : Int) (3 : Int)) (69 : Int) (4 : Int)) (117 : Int) (5 : Int)) (108 : Int) (6 : Int)) p0).isSome)]) h8 H (fun fr => .of (VW (by kernel_rfl) (HH.Tz (kt := 5) (et := 3) (ek := fun k : Int => Ab k) (ev := fun v : Int => Ai v) (Qj (by kernel_rfl)) A 0 rfl (t := 129) (by kernel_rfl) (z := (0 : Int)) (by kernel_rfl) p0))) fun fr t H => ?_
 refine Bw 5 [(5, Ai ((Dm (CO (CO (CO (CO (CO ([] : List (Int × Int)) (85 : Int) (2 : Int)) (76 : Int) (3 : Int)) (69 : Int) (4 : Int)) (117 : Int) (5 : Int)) (108 : Int) (6 : Int)) p0).getD (0 : Int))), (6, .bool ((Dm (CO (CO (CO (CO (CO ([] : List (Int × Int)) (85 : Int) (2 : Int)) (76 : Int) (3 : Int)) (69 : Int) (4 : Int)) (117 : Int) (5 : Int)) (108 : Int) (6 : Int)) p0).isSome))] 5 H fun fr H => ?_
 obtain ⟨h9, hx, A⟩ := A.s1 0 [Ai ((Dm (CO (CO (CO (CO (CO ([] : List (Int × Int)) (85 : Int) (2 : Int)) (76 : Int) (3 : Int)) (69 : Int) (4 : Int)) (117 : Int) (5 : Int)) (108 : Int) (6 : Int)) p0).getD (0 : Int)), Ai 0, .str ([] : List UInt8)] [_, _, _]
 refine F7 3 [(27, .bool ((Dm (CO (CO (CO (CO (CO ([] : List (Int × Int)) (85 : Int) (2 : Int)) (76 : Int) (3 : Int)) (69 : Int) (4 : Int)) (117 : Int) (5 : Int)) (108 : Int) (6 : Int)) p0).isSome))] hx H fun fr t H => ?_
 refine AM 1 [(3, .bool ((Dm (CO (CO (CO (CO (CO ([] : List (Int × Int)) (85 : Int) (2 : Int)) (76 : Int) (3 : Int)) (69 : Int) (4 : Int)) (117 : Int) (5 : Int)) (108 : Int) (6 : Int)) p0).isSome))] H fun fr H => Ag ?_
 obtain ⟨rfl, rfl⟩ := Ds hm
 refine ⟨.inl rfl, .tuple [.agg [Ai ((Dm (CO (CO (CO (CO (CO ([] : List (Int × Int)) (85 : Int) (2 : Int)) (76 : Int) (3 : Int)) (69 : Int) (4 : Int)) (117 : Int) (5 : Int)) (108 : Int) (6 : Int)) p0).getD (0 : Int)), Ai 0, .str ([] : List UInt8)], .bool ((Dm (CO (CO (CO (CO (CO ([] : List (Int × Int)) (85 : Int) (2 : Int)) (76 : Int) (3 : Int)) (69 : Int) (4 : Int)) (117 : Int) (5 : Int)) (108 : Int) (6 : Int)) p0).isSome)], Bm (.cell (rT H) (Bl (by kernel_rfl) (by kernel_rfl) (A.la 1 0 3)) (.tmp (rT H) .nil)), ?_⟩
 replace A := A.d0
 exact ⟨rfl, A⟩
def JL (p0 : List UInt8) (s : (List AY) × Int) : Option (((List AY) × Int) ⊕ (((List AY)) ⊕ (Int × Int))) :=
 match s with
 | (x1, x2) => Af (decide (x2 < (p0.length : Int))) (((Jf p0 x2).bind fun x10 => Af (x10 == 38) (Cm (KI 32 (x1.length + ([(⟨(1 : Int), (0 : Int), ([] : List UInt8)⟩ : AY)] : List AY).length)) <| some (.inl ((x1 ++ ([(⟨(1 : Int), (0 : Int), ([] : List UInt8)⟩ : AY)] : List AY)), x2))) (Af (x10 != 92) ((GB x1 x10).bind fun x12 => some (.inl (x12, x2))) (Af ((IntKind.i64.wrap (x2 + 1)) == (p0.length : Int)) (some (.inr (x2, (11 : Int)))) ((Jf p0 (IntKind.i64.wrap (x2 + 1))).bind fun x13 => (Jo x13).bind fun (x14, x15) => (Af x15 (Cm (KI 32 (x1.length + ([x14] : List AY).length)) <| some (.inl (x1 ++ ([x14] : List AY)))) (Af (((x13 == 38) || (x13 == 92)) || (x13 == 47)) ((GB x1 x13).bind fun x20 => some (.inl x20)) (some (.inr (x2, (11 : Int))))) : Option (((List AY)) ⊕ (Int × Int))).bind fun o3 => (match o3 with | .inl x16 => some (.inl (x16, IntKind.i64.wrap (x2 + 1))) | .inr (x17, x18) => some (.inr (x17, x18)))))) : Option (((List AY) × Int) ⊕ (Int × Int))).bind fun o2 => (match o2 with | .inl (x6, x7) => some (.inl (x6, IntKind.i64.wrap (x7 + 1))) | .inr (x8, x9) => some (.inr (.inr (x8, x9))))) (some (.inr (.inl x1)))
def EX (p0 : List UInt8) : Option ((List AY) × Int × Int) :=
 Af (decide ((p0.length : Int) > 8192)) (some (([] : List AY), (0 : Int), (12 : Int))) ((loop (JL p0) (([] : List AY), (0 : Int))).bind fun o1 => (match o1 with | .inl x3 => some (x3, (0 : Int), (0 : Int)) | .inr (x4, x5) => some (([] : List AY), x4, x5)))
theorem NZ {p0 q0 q1 q2} (hm : EX p0 = some (q0, q1, q2)) (A : HH g h [] F) (hc : BZ (cfg.still 11) av = [.str p0] := by kernel_rfl) : ∃ v h', Bg cfg g h 11 av v h' ∧ ∃ (rq0 : Option Nat), v = .tuple [AG rq0 q0.length, Ai q1, Ai q2] ∧ HH g h' [.AO rq0 85 (AO AS q0)] F := by
 refine E5 76 [.tmp 2, .tmp 3, .tmp 4] hc ?_
 clear hc
 unfold EX at hm
 refine bg 76 [(0, .str p0)] fun fr H => ?_
 refine AD 3 (AM 3 [] H fun fr H => NK (by kernel_rfl) ?_)
 refine AQ (AD 3 (AM 3 [(13, .bool (decide ((p0.length : Int) > 8192)))] H fun fr H => AV 13 H hm (fun hb hm H => ?_) fun hb hm H => ?_))
 ·refine AD 3 (AM 3 [(2, .slice none 0), (3, Ai 0), (4, Ai 12)] H fun fr H => Ag ?_)
  obtain ⟨rfl, rfl, rfl⟩ := DR hm
  refine ⟨.inl rfl, .tuple [.slice none 0, Ai 0, Ai 12], rH H, ?_⟩
  replace A : HH g h [.AO none 85 (AO AS ([] : List AY))] F := A.IY 85
  exact ⟨none, rfl, A⟩
 refine Ca 1 id (AM 1 [(5, .slice none 0)] H fun fr H => AQ (Ny (by kernel_rfl) ?_))
 show AW _ _ _ _ _ _ _
 refine AQ (AD 1 (AM 1 [(6, Ai 0)] H fun fr H => Ac (id := 0) (by kernel_rfl) ?_))
 replace A : HH g h [.AO none 85 (AO AS ([] : List AY))] F := A.IY 85
 obtain ⟨o1, ho, hm⟩ := bind_some hm
 refine As (Q' := fun e fr' h' => (∃ x3, e = .exit 0 ∧ .inl x3 = o1 ∧ ∃ r2, Has fr' 76 [(5, AG r2 x3.length)] ∧ HH g h' [.AO r2 85 (AO AS x3)] F) ∨ (∃ x4 x5, e = .ret ∧ .inr (x4, x5) = o1 ∧ Has fr' 76 [(2, .slice none 0), (3, Ai x4), (4, Ai x5)] ∧ HH g h' [] F) ∨ False) ?_ ?_
 ·refine B2 (by kernel_rfl) (fun (s : (List AY) × Int) fr' h' => ∃ x1 x2, (x1, x2) = s ∧ ∃ r1, Has fr' 76 [(0, .str p0), (5, AG r1 x1.length), (6, Ai x2)] ∧ HH g h' [.AO r1 85 (AO AS x1)] F) ho ⟨_, _, rfl, none, H.ls, A⟩ ?_
  clear ho hm H A
  intro s q fr h1 hI hm
  obtain ⟨x1, x2, rfl, r1, H, A⟩ := hI
  unfold JL at hm
  refine AQ (AD 4 (AM 4 [(17, .bool (decide (x2 < (p0.length : Int))))] H fun fr H => AV 17 H hm (fun hb hm H => ?_) fun hb hm H => ?_))
  ·refine CE id (AQ ?_)
   obtain ⟨o2, ho, hm⟩ := bind_some hm
   refine As (Q' := fun e fr' h' => (∃ x6 x7, e = .normal ∧ .inl (x6, x7) = o2 ∧ ∃ r3, Has fr' 76 [(0, .str p0), (5, AG r3 x6.length), (6, Ai x7)] ∧ HH g h' [.AO r3 85 (AO AS x6)] F) ∨ (∃ x8 x9, e = .ret ∧ .inr (x8, x9) = o2 ∧ Has fr' 76 [(2, .slice none 0), (3, Ai x8), (4, Ai x9)] ∧ HH g h' [] F) ∨ False) ?_ ?_
   ·replace hm := ho
    clear ho
    refine Ac (id := 1) (by kernel_rfl) ?_
    refine AQ (AD 4 ?_)
    obtain ⟨x10, hx, hm⟩ := bind_some hm
    refine BI 2 [] 22 (Ab x10) h1 H (fun fr => .of (EL (by kernel_rfl) hx)) fun fr t H => ?_
    refine AM 1 [(7, Ab x10)] H fun fr H => Ac (id := 2) (by kernel_rfl) ?_
    refine AD 3 (AM 3 [(23, .bool (x10 == 38))] H fun fr H => AV 23 H hm (fun hb hm H => ?_) fun hb hm H => ?_)
    ·refine AD 5 (AE 2 [(26, AG r1 x1.length), (27, .agg [Ai 1, Ai 0, .str ([] : List UInt8)])] H fun fr H => ?_)
     obtain ⟨h2, e1, A⟩ := A.pL 85 [Ai 1, Ai 0, .str ([] : List UInt8)]
     refine Bo 28 (AG (some h1.size) (([(⟨(1 : Int), (0 : Int), ([] : List UInt8)⟩ : AY)] : List AY).length)) e1 H fun fr t H => ?_
     obtain ⟨hb, hm⟩ := BQ hm
     obtain ⟨r4, h3, hx, A1⟩ := HH.Hd B1 (by decide) A 1 (xs := x1) (ys := ([(⟨(1 : Int), (0 : Int), ([] : List UInt8)⟩ : AY)] : List AY)) rfl (B6 A 0 rfl (n := ([(⟨(1 : Int), (0 : Int), ([] : List UInt8)⟩ : AY)] : List AY).length) (z := 3) rfl (by decide)) rfl rfl hb
     replace A : HH g h3 [.AO (some h1.size) 85 ([Ai 1, Ai 0, .str ([] : List UInt8)]), .AO r4 85 (AO AS (x1 ++ ([(⟨(1 : Int), (0 : Int), ([] : List UInt8)⟩ : AY)] : List AY)))] F := A1
     replace A := A.k1 1
     refine Ax 29 _ _ H (fun fr => .of (Er (s := Cf r1 x1.length) (by kernel_rfl) hx)) fun fr t H => ?_
     refine BG 1 [(0, .str p0), (5, AG r4 ((x1 ++ ([(⟨(1 : Int), (0 : Int), ([] : List UInt8)⟩ : AY)] : List AY)).length)), (6, Ai x2)] H fun fr H => BK id (BO (i := 1) (by kernel_rfl) ?_)
     exact .inl ⟨_, _, rfl, Ah hm, _, H.ls, A⟩
    refine AD 3 (AM 3 [(30, .bool (x10 != 92))] H fun fr H => AV 30 H hm (fun hb hm H => ?_) fun hb hm H => ?_)
    ·refine AD 4 ?_
     obtain ⟨x12, hx, hm⟩ := bind_some hm
     obtain ⟨v1, h4, hr, r5, rfl, A1⟩ := JC (av := [AG r1 x1.length, Ab x10]) hx (A.cut 1)
     replace A := A.g11 A1
     refine Ap 2 [] 35 hr H fun fr t H => ?_
     refine BG 1 [(0, .str p0), (5, AG r5 x12.length), (6, Ai x2)] H fun fr H => BK id (BO (i := 1) (by kernel_rfl) ?_)
     exact .inl ⟨_, _, rfl, Ah hm, _, H.ls, A⟩
    refine AD 6 (AM 6 [(36, .bool ((IntKind.i64.wrap (x2 + 1)) == (p0.length : Int)))] H fun fr H => AV 36 H hm (fun hb hm H => ?_) fun hb hm H => ?_)
    ·refine AD 4 (AM 4 [(2, .slice none 0), (3, Ai x2), (4, Ai 11)] H fun fr H => Ag ?_)
     replace A := A.d0
     exact .inr (.inl ⟨_, _, rfl, Ah hm, H.ls, A⟩)
    refine Ca 5 id ?_
    obtain ⟨x13, hx, hm⟩ := bind_some hm
    refine BI 3 [] 46 (Ab x13) h1 H (fun fr => .of (EL (by kernel_rfl) hx)) fun fr t H => ?_
    refine Bw 1 [(8, Ab x13)] 8 H fun fr H => ?_
    obtain ⟨⟨x14, x15⟩, hx, hm⟩ := bind_some hm
    obtain ⟨v1, h5, hr, rfl, A1⟩ := OH (av := [Ab x13]) hx (A.cut 0)
    replace A := A.Ea A1
    refine Ap 1 [] 49 hr H fun fr t H => ?_
    obtain ⟨h6, e2, A⟩ := A.pu (.cells none 2 [Ai 0, Ai 0, .str ([] : List UInt8)])
    refine F8 3 [(50, .agg (AS x14)), (51, .bool x15)] 9 (.ptr (some (h5.size, 0))) e2 H fun fr t H => ?_
    obtain ⟨h7, hx, A⟩ := A.s0 0 (AS x14) [_, _, _]
    refine DN hx H fun fr t H => ?_
    refine AM 1 [(10, .bool x15)] H fun fr H => AQ ?_
    obtain ⟨o3, ho, hm⟩ := bind_some hm
    refine As (Q' := fun e fr' h' => (∃ x16, e = .normal ∧ .inl x16 = o3 ∧ ∃ r6, Has fr' 76 [(0, .str p0), (5, AG r6 x16.length), (6, Ai x2)] ∧ HH g h' [.obj h5.size (.cells none 2 (AS x14)), .AO r6 85 (AO AS x16)] F) ∨ (∃ x17 x18, e = .ret ∧ .inr (x17, x18) = o3 ∧ Has fr' 76 [(2, .slice none 0), (3, Ai x17), (4, Ai x18)] ∧ HH g h' [.obj h5.size (.cells none 2 (AS x14))] F) ∨ False) ?_ ?_
    ·replace hm := ho
     clear ho
     refine Ac (id := 3) (by kernel_rfl) ?_
     refine AD 2 (AM 2 [(53, .bool x15)] H fun fr H => AV 53 H hm (fun hb hm H => ?_) fun hb hm H => ?_)
     ·refine Bd 5 (BI 1 [(55, AG r1 x1.length)] 56 _ _ H (fun fr => .of (CD (by kernel_rfl) (A.GX 0 rfl (o := 0) (n := 3) ⟨Nat.le_of_ble_eq_true rfl, rfl⟩))) fun fr t H => ?_)
      obtain ⟨h8, e3, A⟩ := A.pL 85 (AS x14)
      refine Bo 57 (AG (some h7.size) (([x14] : List AY).length)) e3 H fun fr t H => ?_
      obtain ⟨hb, hm⟩ := BQ hm
      obtain ⟨r7, h9, hx, A1⟩ := HH.Hd B1 (by decide) A 2 (xs := x1) (ys := ([x14] : List AY)) rfl (B6 A 0 rfl (n := ([x14] : List AY).length) (z := 3) rfl (by decide)) rfl rfl hb
      replace A : HH g h9 [.AO (some h7.size) 85 ((AS x14)), _, .AO r7 85 (AO AS (x1 ++ ([x14] : List AY)))] F := A1
      replace A := A.k2 1 2
      refine Ax 58 _ _ H (fun fr => .of (Er (s := Cf r1 x1.length) (by kernel_rfl) hx)) fun fr t H => ?_
      refine BG 1 [(0, .str p0), (5, AG r7 ((x1 ++ ([x14] : List AY)).length)), (6, Ai x2)] H fun fr H => at_nil ?_
      exact .inl ⟨_, rfl, Ah hm, _, H.ls, A⟩
     refine AD 11 (AE 3 [(62, .bool (x13 == 38))] H fun fr H => BD 3 (fun fr' h' => h7 = h' ∧ Has fr' 76 [(0, .str p0), (5, AG r1 x1.length), (6, Ai x2), (8, Ab x13), (65, .bool ((x13 == 38) || (x13 == 92)))]) ?_ ?_)
     ·cases hb : (x13 == 38 : Bool) with
      | true =>
       replace H := H.kn 62 hb
       exact AE 3 [(65, .bool true)] H fun fr H => Am H hb
      | false =>
       replace H := H.kn 62 hb
       exact AE 3 [(65, .bool (x13 == 92))] H fun fr H => Am H hb
     intro t fr h' hK
     obtain ⟨e, H⟩ := hK
     subst e
     refine AE 1 [(66, .bool ((x13 == 38) || (x13 == 92)))] H fun fr H => BD 3 (fun fr' h' => h7 = h' ∧ Has fr' 76 [(0, .str p0), (5, AG r1 x1.length), (6, Ai x2), (8, Ab x13), (69, .bool (((x13 == 38) || (x13 == 92)) || (x13 == 47)))]) ?_ ?_
     ·cases hb : ((x13 == 38) || (x13 == 92) : Bool) with
      | true =>
       replace H := H.kn 66 hb
       exact AE 3 [(69, .bool true)] H fun fr H => Am H hb
      | false =>
       replace H := H.kn 66 hb
       exact AE 3 [(69, .bool (x13 == 47))] H fun fr H => Am H hb
     intro t fr h' hK
     obtain ⟨e, H⟩ := hK
     subst e
     refine AM 1 [(59, .bool (((x13 == 38) || (x13 == 92)) || (x13 == 47)))] H fun fr H => AV 59 H hm (fun hb hm H => ?_) fun hb hm H => ?_
     ·refine Bd 4 ?_
      replace A := A.k2 1 0
      obtain ⟨x20, hx, hm⟩ := bind_some hm
      obtain ⟨v1, h10, hr, r8, rfl, A1⟩ := JC (av := [AG r1 x1.length, Ab x13]) hx (A.cut 1)
      replace A := A.g11 A1
      refine Ap 2 [] 72 hr H fun fr t H => ?_
      refine BG 1 [(0, .str p0), (5, AG r8 x20.length), (6, Ai x2)] H fun fr H => at_nil ?_
      replace A := A.k2 1 0
      exact .inl ⟨_, rfl, Ah hm, _, H.ls, A⟩
     refine AD 4 (AM 4 [(2, .slice none 0), (3, Ai x2), (4, Ai 11)] H fun fr H => Ag ?_)
     replace A := A.d1
     exact .inr (.inl ⟨_, _, rfl, Ah hm, H.ls, A⟩)
    clear ho
    clear A
    intro e fr h11 hQ
    rcases hQ with ⟨x16, rfl, rfl, r6, H, A⟩ | ⟨x17, x18, rfl, rfl, H, A⟩ | hF
    ·show AW _ _ _ _ _ _ _
     refine Bd 3 (BG 3 [(0, .str p0), (5, AG r6 x16.length), (6, Ai (IntKind.i64.wrap (x2 + 1)))] H fun fr H => at_nil ?_)
     replace A := A.k1 1
     exact .inl ⟨_, _, rfl, Ah hm, _, H.ls, A⟩
    ·replace A := A.d0
     exact .inr (.inl ⟨_, _, rfl, Ah hm, H.ls, A⟩)
    exact hF.elim
   clear ho
   clear A
   intro e fr h12 hQ
   rcases hQ with ⟨x6, x7, rfl, rfl, r3, H, A⟩ | ⟨x8, x9, rfl, rfl, H, A⟩ | hF
   ·show AW _ _ _ _ _ _ _
    refine Bd 3 (BG 3 [(0, .str p0), (5, AG r3 x6.length), (6, Ai (IntKind.i64.wrap (x7 + 1)))] H fun fr H => at_nil ?_)
    exact nx hm ⟨_, _, rfl, _, H.ls, A⟩
   ·exact nr hm fun e => Or.inr (.inl ⟨_, _, rfl, e, H.ls, A⟩)
   exact hF.elim
  refine BO (i := 0) (by kernel_rfl) ?_
  exact nr hm fun e => .inl ⟨_, rfl, e, _, H.ls, A⟩
 clear ho
 clear A
 intro e fr h13 hQ
 rcases hQ with ⟨x3, rfl, rfl, r2, H, A⟩ | ⟨x4, x5, rfl, rfl, H, A⟩ | hF
 ·show AW _ _ _ _ _ _ _
  refine AD 4 (AM 4 [(2, AG r2 x3.length), (3, Ai 0), (4, Ai 0)] H fun fr H => Ag ?_)
  obtain ⟨rfl, rfl, rfl⟩ := DR hm
  exact ⟨.inl rfl, _, rH H, _, rfl, A⟩
 ·obtain ⟨rfl, rfl, rfl⟩ := DR hm
  refine ⟨.inl rfl, .tuple [.slice none 0, Ai x4, Ai x5], rH H, ?_⟩
  replace A : HH g h13 [.AO none 85 (AO AS ([] : List AY))] F := A.IY 85
  exact ⟨none, rfl, A⟩
 exact hF.elim
def Gv (p0 : List AY) (s : Int × Int) : Option ((Int × Int) ⊕ ((Int))) :=
 match s with
 | (x1, x2) => Af (decide (x2 < (p0.length : Int))) (((Ff p0 x2).bind fun x5 => Af (x5.Kind == 1) (some (mx x1 x5.C4)) (some x1) : Option ((Int))).bind fun x4 => some (.inl (x4, IntKind.i64.wrap (x2 + 1)))) (some (.inr x1))
def Cq (p0 : List AY) : Option (Int) :=
 (loop (Gv p0) ((0 : Int), (0 : Int))).bind fun x3 => some x3
theorem Kz {p0 rp0 q0} (hm : Cq p0 = some q0) (A : HH g h [.AO rp0 85 (AO AS p0)] F) (hc : BZ (cfg.still 12) av = [AG rp0 p0.length] := by kernel_rfl) : ∃ v h', Bg cfg g h 12 av v h' ∧ v = Ai q0 ∧ HH g h' [.AO rp0 85 (AO AS p0)] F := by
 refine E5 21 [.tmp 2] hc ?_
 clear hc
 unfold Cq at hm
 refine bg 21 [(0, AG rp0 p0.length)] fun fr H => ?_
 refine AD 1 (Bw 1 [] 1 H fun fr H => AM 1 [(3, Ai 0)] H fun fr H => AQ (AD 3 (AM 3 [(6, AG rp0 p0.length), (7, Ai (p0.length : Int)), (8, Ai 0)] H fun fr H => Ac (id := 0) (by kernel_rfl) ?_)))
 obtain ⟨o1, ho, hm⟩ := bind_some hm
 refine As (Q' := fun e fr' h' => (∃ x3, e = .exit 0 ∧ x3 = o1 ∧ Has fr' 21 [(3, Ai x3)] ∧ HH g h' [.AO rp0 85 (AO AS p0)] F) ∨ False) ?_ ?_
 ·refine B2 (by kernel_rfl) (fun (s : Int × Int) fr' h' => ∃ x1 x2, (x1, x2) = s ∧ Has fr' 21 [(3, Ai x1), (6, AG rp0 p0.length), (7, Ai (p0.length : Int)), (8, Ai x2)] ∧ HH g h' [.AO rp0 85 (AO AS p0)] F) ho ⟨_, _, rfl, H.ls, A⟩ ?_
  clear ho hm H A
  intro s q fr h1 hI hm
  obtain ⟨x1, x2, rfl, H, A⟩ := hI
  unfold Gv at hm
  refine AD 1 (AM 1 [(9, .bool (decide (x2 < (p0.length : Int))))] H fun fr H => AQ (AV 9 H hm (fun hb hm H => ?_) fun hb hm H => ?_))
  ·refine CE id (AQ ?_)
   obtain ⟨o2, ho, hm⟩ := bind_some hm
   refine As (Q' := fun e fr' h' => (∃ x4, e = .normal ∧ x4 = o2 ∧ Has fr' 21 [(3, Ai x4), (6, AG rp0 p0.length), (7, Ai (p0.length : Int)), (8, Ai x2)] ∧ HH g h' [.AO rp0 85 (AO AS p0)] F) ∨ False) ?_ ?_
   ·replace hm := ho
    clear ho
    refine Ac (id := 1) (by kernel_rfl) ?_
    refine AD 4 ?_
    obtain ⟨x5, hx, hm⟩ := bind_some hm
    obtain ⟨i1, er1, _, hx, hq1⟩ := HH.ND B1 (by decide) A 0 (xs := p0) rfl hx
    refine Ax 10 (.ptr (some (i1, x2.toNat * 3))) h1 H (fun fr => .of (FI (s := Cf rp0 p0.length) (by kernel_rfl) hx)) fun fr t H => ?_
    refine Ax 11 _ _ H (fun fr => .of (CD (by kernel_rfl) (PF B1 (HH.row A 0 rfl er1) hq1 0 3 (Nat.le_of_ble_eq_true rfl)))) fun fr t H => ?_
    obtain ⟨h2, e1, A⟩ := A.pu (.cells none 2 [Ai 0, Ai 0, .str ([] : List UInt8)])
    refine Bo 5 (.ptr (some (h1.size, 0))) e1 H fun fr t H => ?_
    obtain ⟨h3, hx, A⟩ := A.s0 0 (AS x5) [_, _, _]
    refine DN hx H fun fr t H => ?_
    refine CG 3 id (Ad 1 [] 13 0 0 A H fun fr t H => ?_)
    refine AM 1 [(14, .bool (x5.Kind == 1))] H fun fr H => AV 14 H hm (fun hb hm H => ?_) fun hb hm H => ?_
    ·refine Bd 5 (Ad 2 [(15, Ai x1)] 17 0 1 A H fun fr t H => ?_)
     refine BG 2 [(3, Ai (mx x1 x5.C4)), (6, AG rp0 p0.length), (7, Ai (p0.length : Int)), (8, Ai x2)] H fun fr H => at_nil ?_
     replace A := A.k1 1
     exact .inl ⟨_, rfl, Ah hm, H.ls, A⟩
    refine By ?_
    replace A := A.k1 1
    exact .inl ⟨_, rfl, Ah hm, H.ls, A⟩
   clear ho
   clear A
   intro e fr h4 hQ
   rcases hQ with ⟨x4, rfl, rfl, H, A⟩ | hF
   ·show AW _ _ _ _ _ _ _
    refine Bd 2 (BG 2 [(3, Ai x4), (6, AG rp0 p0.length), (7, Ai (p0.length : Int)), (8, Ai (IntKind.i64.wrap (x2 + 1)))] H fun fr H => at_nil ?_)
    exact nx hm ⟨_, _, rfl, H.ls, A⟩
   exact hF.elim
  refine BO (i := 0) (by kernel_rfl) ?_
  exact nr hm fun e => .inl ⟨_, rfl, e, H.ls, A⟩
 clear ho
 clear A
 intro e fr h5 hQ
 rcases hQ with ⟨x3, rfl, rfl, H, A⟩ | hF
 ·show AW _ _ _ _ _ _ _
  refine AD 2 (AM 2 [(2, Ai x3)] H fun fr H => Ag ?_)
  obtain rfl := Ah hm
  exact ⟨.inl rfl, _, rH H, rfl, A⟩
 exact hF.elim
def D4 (p0 : AI) (s : Int) : Option ((Int) ⊕ ((Unit) ⊕ (Bool))) :=
 match s with
 | x1 => Af (decide (x1 < (p0.AU.length : Int))) ((Ff p0.AU x1).bind fun x3 => (GC x3 x1).bind fun x4 => Af (!x4) (some (.inr (.inr false))) (some (.inl (IntKind.i64.wrap (x1 + 1))))) (some (.inr (.inl ())))
def CC (p0 : AI) : Option (Bool) :=
 Af (((decide ((p0.AU.length : Int) > 1024)) || (decide (p0.Bf < 0))) || (decide (p0.Bf ≥ (p0.AU.length : Int)))) (some false) ((loop (D4 p0) (0 : Int)).bind fun o1 => (match o1 with | .inl _ => some true | .inr x2 => some x2))
theorem IP {p0 q0} (hm : CC p0 = some q0) (A : HH g h [] F) (hc : BZ (cfg.still 32) av = [.agg (Aa p0)] := by kernel_rfl) : ∃ v h', Bg cfg g h 32 av v h' ∧ v = .bool q0 ∧ HH g h' [] F := by
 refine E5 35 [.tmp 2] hc ?_
 clear hc
 unfold CC at hm
 refine bg 35 [(0, .agg (Aa p0))] fun fr H => ?_
 refine AD 2 ?_
 obtain ⟨h1, e1, A⟩ := A.pu (.cells none 2 (Aa p0))
 refine Bo 1 (.ptr (some (h.size, 0))) e1 H fun fr t H => ?_
 refine AM 1 [] H fun fr H => AQ (AD 17 (Ad 1 [] 6 0 0 A H fun fr t H => ?_))
 refine AE 3 [(9, .bool (decide ((p0.AU.length : Int) > 1024)))] H fun fr H => BD 4 (fun fr' h' => h1 = h' ∧ Has fr' 35 [(1, .ptr (some (h.size, 0))), (13, .bool ((decide ((p0.AU.length : Int) > 1024)) || (decide (p0.Bf < 0))))]) ?_ ?_
 ·cases hb : (decide ((p0.AU.length : Int) > 1024) : Bool) with
  | true =>
   replace H := H.kn 9 hb
   exact AE 4 [(13, .bool true)] H fun fr H => Am H hb
  | false =>
   replace H := H.kn 9 hb
   refine Ad 1 [] 11 0 1 A H fun fr t H => ?_
   exact AE 2 [(13, .bool (decide (p0.Bf < 0)))] H fun fr H => Am H hb
 intro t fr h' hK
 obtain ⟨e, H⟩ := hK
 subst e
 refine AE 1 [(14, .bool ((decide ((p0.AU.length : Int) > 1024)) || (decide (p0.Bf < 0))))] H fun fr H => BD 7 (fun fr' h' => h1 = h' ∧ Has fr' 35 [(1, .ptr (some (h.size, 0))), (21, .bool (((decide ((p0.AU.length : Int) > 1024)) || (decide (p0.Bf < 0))) || (decide (p0.Bf ≥ (p0.AU.length : Int)))))]) ?_ ?_
 ·cases hb : ((decide ((p0.AU.length : Int) > 1024)) || (decide (p0.Bf < 0)) : Bool) with
  | true =>
   replace H := H.kn 14 hb
   exact AE 7 [(21, .bool true)] H fun fr H => Am H hb
  | false =>
   replace H := H.kn 14 hb
   refine Ad 1 [] 16 0 1 A H fun fr t H => ?_
   refine Ad 1 [] 18 0 0 A H fun fr t H => ?_
   exact AE 3 [(21, .bool (decide (p0.Bf ≥ (p0.AU.length : Int))))] H fun fr H => Am H hb
 intro t fr h' hK
 obtain ⟨e, H⟩ := hK
 subst e
 refine BK id (AV 21 H hm (fun hb hm H => ?_) fun hb hm H => ?_)
 ·refine AD 1 (AM 1 [(2, .bool false)] H fun fr H => Ag ?_)
  obtain rfl := Ah hm
  refine ⟨.inl rfl, .bool false, rH H, ?_⟩
  replace A := A.d0
  exact ⟨rfl, A⟩
 refine CE id (AQ (AD 4 (Ad 1 [] 23 0 0 A H fun fr t H => ?_)))
 refine AM 2 [(24, Ai (p0.AU.length : Int)), (25, Ai 0)] H fun fr H => Ac (id := 0) (by kernel_rfl) ?_
 obtain ⟨o1, ho, hm⟩ := bind_some hm
 refine As (Q' := fun e fr' h' => (e = .exit 0 ∧ .inl () = o1 ∧ Has fr' 35 [] ∧ HH g h' [.obj h.size (.cells none 2 (Aa p0))] F) ∨ (∃ x2, e = .ret ∧ .inr x2 = o1 ∧ Has fr' 35 [(2, .bool x2)] ∧ HH g h' [.obj h.size (.cells none 2 (Aa p0))] F) ∨ False) ?_ ?_
 ·refine B2 (by kernel_rfl) (fun (s : Int) fr' h' => ∃ x1, x1 = s ∧ Has fr' 35 [(23, vs AA p0.AU), (24, Ai (p0.AU.length : Int)), (25, Ai x1)] ∧ HH g h' [.obj h.size (.cells none 2 (Aa p0))] F) ho ⟨_, rfl, H.ls, A⟩ ?_
  clear ho hm H A
  intro s q fr h2 hI hm
  obtain ⟨x1, rfl, H, A⟩ := hI
  unfold D4 at hm
  refine AD 1 (AM 1 [(26, .bool (decide (x1 < (p0.AU.length : Int))))] H fun fr H => AQ (AV 26 H hm (fun hb hm H => ?_) fun hb hm H => ?_))
  ·refine CE id (AQ (Ac (id := 1) (by kernel_rfl) ?_))
   refine AD 6 ?_
   obtain ⟨x3, hx, hm⟩ := bind_some hm
   refine BI 1 [(27, Ai x1)] 28 (.Aq (AA x3)) h2 H (fun fr => .of (Hl (e := AA) (x := x3) En (by decide) (by kernel_rfl) hx)) fun fr t H => ?_
   refine Ax 29 (.agg (AA x3)) h2 H (fun fr => .of (FK (by kernel_rfl))) fun fr t H => ?_
   obtain ⟨h3, e2, A⟩ := A.pu (.cells none 2 [Ai 0, Ai 0, Ai 0, Ai 0, Ai 0, Ai 0, Au 0, Au 0, Au 0, Au 0])
   refine Bo 4 (.ptr (some (h2.size, 0))) e2 H fun fr t H => ?_
   obtain ⟨h4, hx, A⟩ := A.s0 0 (AA x3) [_, _, _, _, _, _, _, _, _, _]
   refine F7 1 [(3, Ai x1)] hx H fun fr t H => ?_
   refine CG 4 id (Ax 30 _ _ H (fun fr => .of (CD (by kernel_rfl) (A.GX 0 rfl (o := 0) (n := 10) ⟨Nat.le_of_ble_eq_true rfl, rfl⟩))) fun fr t H => ?_)
   obtain ⟨x4, hx, hm⟩ := bind_some hm
   obtain ⟨v1, h5, hr, rfl, A1⟩ := Mm (av := [.agg (AA x3), Ai x1]) hx (A.cut 0)
   replace A := A.Ea A1
   refine Ap 1 [] 32 hr H fun fr t H => ?_
   refine AM 1 [(33, .bool (!x4))] H fun fr H => AV 33 H hm (fun hb hm H => ?_) fun hb hm H => ?_
   ·refine AD 1 (AM 1 [(2, .bool false)] H fun fr H => Ag ?_)
    replace A := A.k1 1
    exact nr hm fun e => Or.inr (.inl ⟨_, rfl, e, H.ls, A⟩)
   refine KX 2 id (BG 2 [(23, vs AA p0.AU), (24, Ai (p0.AU.length : Int)), (25, Ai (IntKind.i64.wrap (x1 + 1)))] H fun fr H => at_nil ?_)
   replace A := A.k1 1
   exact nx hm ⟨_, rfl, H.ls, A⟩
  refine BO (i := 0) (by kernel_rfl) ?_
  exact nr hm fun e => .inl ⟨rfl, e, H.ls, A⟩
 clear ho
 clear A
 intro e fr h6 hQ
 rcases hQ with ⟨rfl, rfl, H, A⟩ | ⟨x2, rfl, rfl, H, A⟩ | hF
 ·show AW _ _ _ _ _ _ _
  refine AD 1 (AM 1 [(2, .bool true)] H fun fr H => Ag ?_)
  obtain rfl := Ah hm
  refine ⟨.inl rfl, .bool true, rH H, ?_⟩
  replace A := A.d0
  exact ⟨rfl, A⟩
 ·obtain rfl := Ah hm
  refine ⟨.inl rfl, .bool x2, rH H, ?_⟩
  replace A := A.d0
  exact ⟨rfl, A⟩
 exact hF.elim
def DL (p0 : Ar) (p1 : Int) : Option (Bool) :=
 (Ff ([p0.w0, p0.w1, p0.w2, p0.w3] : List Int) (GZ .u8 p1 (6 : Int))).bind fun x1 => Cm (decide (0 ≤ (FF .u8 p1 (63 : Int)))) <| some ((FF .u64 (GZ .u64 x1 (FF .u8 p1 (63 : Int))) (1 : Int)) == 1)
theorem G1 {p0 p1 q0} (hm : DL p0 p1 = some q0) (A : HH g h [] F) (hc : BZ (cfg.still 51) av = [.agg (AL p0), Ab p1] := by kernel_rfl) : ∃ v h', Bg cfg g h 51 av v h' ∧ v = .bool q0 ∧ HH g h' [] F := by
 refine E5 14 [.tmp 4] hc ?_
 clear hc
 unfold DL at hm
 refine bg 14 [(0, .agg (AL p0)), (1, Ab p1)] fun fr H => ?_
 refine AD 2 ?_
 obtain ⟨h1, e1, A⟩ := A.pu (.cells none 2 (AL p0))
 refine Bo 2 (.ptr (some (h.size, 0))) e1 H fun fr t H => ?_
 refine Bw 1 [] 10 H fun fr H => ?_
 obtain ⟨x1, hq1, hm⟩ := bind_some hm
 refine BI 2 [] 7 (.ptr (some (h.size, 0 + (GZ .u8 p1 (6 : Int)).toNat * 1))) h1 H (fun fr => .of (J4 (by kernel_rfl) (IF hq1 (h.size, 0) 1 rfl))) fun fr t H => ?_
 refine Ax 8 _ _ H (fun fr => .of (Dd (by kernel_rfl) (HH.Vb A 0 rfl 0 (fun w : Int => Au w) [p0.w0, p0.w1, p0.w2, p0.w3] rfl hq1))) fun fr t H => ?_
 refine AE 2 [(10, Ab (FF .u8 p1 (63 : Int)))] H fun fr H => ?_
 obtain ⟨hb, hm⟩ := BQ hm
 refine Ax 11 (Au (GZ .u64 x1 (FF .u8 p1 (63 : Int)))) h1 H (fun fr => .of (Wv (by kernel_rfl) hb)) fun fr t H => ?_
 refine AM 3 [(4, .bool ((FF .u64 (GZ .u64 x1 (FF .u8 p1 (63 : Int))) (1 : Int)) == 1))] H fun fr H => Ag ?_
 obtain rfl := Ah hm
 refine ⟨.inl rfl, .bool ((FF .u64 (GZ .u64 x1 (FF .u8 p1 (63 : Int))) (1 : Int)) == 1), rH H, ?_⟩
 replace A := A.d0
 exact ⟨rfl, A⟩
end
end Go.Av.L
