/-
 Models of functions, and that the abstract run tells them. Written by lift2.py.
-/
import Derived.Test.YtipknimgfcokeaaGreatDoorKCfg
import Derived.Test.YtipknimgfcokeaaGreatDoorK3
import Derived.Test.YtipknimgfcokeaaGreatDoorK5
namespace Go.Av.L
open Go.Av Go.Lib
set_option maxRecDepth 10000
set_option linter.unusedVariables false
set_option linter.unusedSimpArgs false
variable {g : Gd} {h : AH} {F : List Ck} {av : List AB}
noncomputable section
structure Ao where
 Bi : Int → Ae → AJ → Option (Int × Ae × (List AN))
 BL : Ae → Int → Int → Option (Int × Ae × (List AN))
 CX : Ae → AJ → Int → Option (Int × Ae × (List AN))
structure Cj (S : Ao) : Prop where
 CT : ∀ {g : Gd} {h : AH} {F : List Ck} {p0 : Int} {p1_0 : Ae} {p2 : AJ} {bp1 : Nat} {bp1_0 : Nat} {bp1_0_2 : Nat} {rp1_0_2_0 : Option Nat} {bp2 : Nat} {q0 : Int} {u1 : Ae} {u3 : List AN} {av : List AB} (hm : S.Bi p0 p1_0 p2 = some (q0, u1, u3)) (hc : BZ (cfg.still 86) av = [Ai p0, .ptr (some (bp1, 0)), .ptr (some (bp2, 0))]) (A : HH g h [.obj bp1 (.cells none 2 [.ptr (some (bp1_0, 0))]), .obj bp1_0 (.cells none 2 (BM p1_0 (.ptr (some (bp1_0_2, 0))))), .obj bp1_0_2 (.cells none 2 [AG rp1_0_2_0 p1_0.a_.l_.length, Ai p1_0.a_.Aj]), .AO rp1_0_2_0 114 (AO AP p1_0.a_.l_), .obj bp2 (.cells none 2 (AA p2))] F), ∃ v h', Bg cfg g h 86 av v h' ∧ ∃ (r'3 : Option Nat), v = Ai q0 ∧ HH g h' [.obj bp1 (.cells none 2 [.ptr (some (bp1_0, 0))]), .obj bp1_0 (.cells none 2 (BM u1 (.ptr (some (bp1_0_2, 0))))), .obj bp1_0_2 (.cells none 2 [AG r'3 u3.length, Ai p1_0.a_.Aj]), .AO r'3 114 (AO AP u3), .obj bp2 (.cells none 2 (AA p2))] F
 Br : ∀ {g : Gd} {h : AH} {F : List Ck} {p0 : Ae} {p1 : Int} {p2 : Int} {bp0 : Nat} {bp0_2 : Nat} {rp0_2_0 : Option Nat} {q0 : Int} {u0 : Ae} {u2 : List AN} {av : List AB} (hm : S.BL p0 p1 p2 = some (q0, u0, u2)) (hc : BZ (cfg.still 43) av = [.ptr (some (bp0, 0)), Ai p1, Ai p2]) (A : HH g h [.obj bp0 (.cells none 2 (BM p0 (.ptr (some (bp0_2, 0))))), .obj bp0_2 (.cells none 2 [AG rp0_2_0 p0.a_.l_.length, Ai p0.a_.Aj]), .AO rp0_2_0 114 (AO AP p0.a_.l_)] F), ∃ v h', Bg cfg g h 43 av v h' ∧ ∃ (r'2 : Option Nat), v = Ai q0 ∧ HH g h' [.obj bp0 (.cells none 2 (BM u0 (.ptr (some (bp0_2, 0))))), .obj bp0_2 (.cells none 2 [AG r'2 u2.length, Ai p0.a_.Aj]), .AO r'2 114 (AO AP u2)] F
 EU : ∀ {g : Gd} {h : AH} {F : List Ck} {p0 : Ae} {p1 : AJ} {p2 : Int} {bp0 : Nat} {bp0_2 : Nat} {rp0_2_0 : Option Nat} {q0 : Int} {u0 : Ae} {u2 : List AN} {av : List AB} (hm : S.CX p0 p1 p2 = some (q0, u0, u2)) (hc : BZ (cfg.still 65) av = [.ptr (some (bp0, 0)), .agg (AA p1), Ai p2]) (A : HH g h [.obj bp0 (.cells none 2 (BM p0 (.ptr (some (bp0_2, 0))))), .obj bp0_2 (.cells none 2 [AG rp0_2_0 p0.a_.l_.length, Ai p0.a_.Aj]), .AO rp0_2_0 114 (AO AP p0.a_.l_)] F), ∃ v h', Bg cfg g h 65 av v h' ∧ ∃ (r'2 : Option Nat), v = Ai q0 ∧ HH g h' [.obj bp0 (.cells none 2 (BM u0 (.ptr (some (bp0_2, 0))))), .obj bp0_2 (.cells none 2 [AG r'2 u2.length, Ai p0.a_.Aj]), .AO r'2 114 (AO AP u2)] F
def Cd (S : Ao) (p0 : Int) (p1_0 : Ae) (p2 : AJ) : Option (Int × Ae × (List AN)) :=
 (S.BL p1_0 p2.A p0).bind fun (x1, x2, x3) => some (x1, (⟨x2.t_, (⟨x3, p1_0.a_.Aj⟩ : Ak), x2.CH, x2.Ay⟩ : Ae), x3)
theorem Gt {S : Ao} (hS : Cj S) {p0 p1_0 p2 bp1 bp1_0 bp1_0_2 rp1_0_2_0 bp2 q0 u1 u3} (hm : Cd S p0 p1_0 p2 = some (q0, u1, u3)) (hc : BZ (cfg.still 86) av = [Ai p0, .ptr (some (bp1, 0)), .ptr (some (bp2, 0))]) (A : HH g h [.obj bp1 (.cells none 2 [.ptr (some (bp1_0, 0))]), .obj bp1_0 (.cells none 2 (BM p1_0 (.ptr (some (bp1_0_2, 0))))), .obj bp1_0_2 (.cells none 2 [AG rp1_0_2_0 p1_0.a_.l_.length, Ai p1_0.a_.Aj]), .AO rp1_0_2_0 114 (AO AP p1_0.a_.l_), .obj bp2 (.cells none 2 (AA p2))] F) : ∃ v h', Bg cfg g h 86 av v h' ∧ ∃ (r'3 : Option Nat), v = Ai q0 ∧ HH g h' [.obj bp1 (.cells none 2 [.ptr (some (bp1_0, 0))]), .obj bp1_0 (.cells none 2 (BM u1 (.ptr (some (bp1_0_2, 0))))), .obj bp1_0_2 (.cells none 2 [AG r'3 u3.length, Ai p1_0.a_.Aj]), .AO r'3 114 (AO AP u3), .obj bp2 (.cells none 2 (AA p2))] F := by
 refine E5 10 [.tmp 4] hc ?_
 clear hc
 unfold Cd at hm
 refine bg 10 [(0, Ai p0), (1, .ptr (some (bp1, 0))), (2, .ptr (some (bp2, 0)))] fun fr H => ?_
 refine AD 1 (Bw 1 [] 6 H fun fr H => Io 5 0 0 A H fun fr t H => ?_)
 refine Ad 1 [] 7 4 1 A H fun fr t H => ?_
 replace A := A.k5 1 2 3 0 4
 have A1 := A.cut 3
 obtain ⟨⟨x1, x2, x3⟩, hx, hm⟩ := bind_some hm
 obtain ⟨v1, h1, hr, r1, rfl, A1⟩ := hS.Br (av := [.ptr (some (bp1_0, 0)), Ai p2.A, Ai p0]) hx (by kernel_rfl) A1
 replace A := A.Rj A1
 refine Ap 1 [] 9 hr H fun fr t H => ?_
 refine AM 1 [(4, Ai x1)] H fun fr H => Ag ?_
 obtain ⟨rfl, rfl, rfl⟩ := DR hm
 refine ⟨.inl rfl, Ai x1, rH H, ?_⟩
 replace A := A.k5 3 0 1 2 4
 exact ⟨r1, rfl, A⟩
def DJ (S : Ao) (p0 : Ae) (p1 : Int) (p2 : Int) : Option (Int × Ae × (List AN)) :=
 Af p0.Ay (some ((0 : Int), p0, p0.a_.l_)) (((Ff p0.t_.AU p1).bind fun x7 => Af (x7.Kind == 1) ((BU p0 (⟨(1 : Int), p2, (0 : Int), x7.Set⟩ : AN)).bind fun (x8, x9, x10) => some (.inr (x9.t_.AU, x9.t_.Bf, x9.CH, x9.Ay, x10, x8))) (Af (x7.Kind == 6) ((BU p0 (⟨(3 : Int), p2, (0 : Int), (⟨(0 : Int), (0 : Int), (0 : Int), (0 : Int)⟩ : Ar)⟩ : AN)).bind fun (x11, x12, x13) => some (.inr (x12.t_.AU, x12.t_.Bf, x12.CH, x12.Ay, x13, x11))) (Af (x7.Kind == 7) ((BU p0 (⟨(4 : Int), p2, (0 : Int), (⟨(0 : Int), (0 : Int), (0 : Int), (0 : Int)⟩ : Ar)⟩ : AN)).bind fun (x14, x15, x16) => some (.inr (x15.t_.AU, x15.t_.Bf, x15.CH, x15.Ay, x16, x14))) (Af (x7.Kind == 2) ((S.BL p0 x7.B p2).bind fun (x17, x18, x19) => (S.BL (⟨x18.t_, (⟨x19, p0.a_.Aj⟩ : Ak), x18.CH, x18.Ay⟩ : Ae) x7.A x17).bind fun (x20, x21, x22) => some (.inr (x21.t_.AU, x21.t_.Bf, x21.CH, x21.Ay, x22, x20))) (Af (x7.Kind == 3) ((S.BL p0 x7.A p2).bind fun (x23, x24, x25) => (S.BL (⟨x24.t_, (⟨x25, p0.a_.Aj⟩ : Ak), x24.CH, x24.Ay⟩ : Ae) x7.B p2).bind fun (x26, x27, x28) => (BU (⟨x27.t_, (⟨x28, p0.a_.Aj⟩ : Ak), x27.CH, x27.Ay⟩ : Ae) (⟨(2 : Int), x23, x26, (⟨(0 : Int), (0 : Int), (0 : Int), (0 : Int)⟩ : Ar)⟩ : AN)).bind fun (x29, x30, x31) => some (.inr (x30.t_.AU, x30.t_.Bf, x30.CH, x30.Ay, x31, x29))) (Af (x7.Kind == 5) ((S.BL p0 x7.A p2).bind fun (x32, x33, x34) => some (.inr (x33.t_.AU, x33.t_.Bf, x33.CH, x33.Ay, x34, x32))) (Af (x7.Kind == 4) (Af (x7.Max != 0) ((S.CX p0 x7 p2).bind fun (x35, x36, x37) => some (.inr (x36.t_.AU, x36.t_.Bf, x36.CH, x36.Ay, x37, x35))) (some (.inl ()))) (some (.inl ())))))))) : Option ((Unit) ⊕ ((List AJ) × Int × Int × Bool × (List AN) × Int))).bind fun o1 => (match o1 with | .inl _ => (BU p0 (⟨(2 : Int), p2, p2, (⟨(0 : Int), (0 : Int), (0 : Int), (0 : Int)⟩ : Ar)⟩ : AN)).bind fun (x38, x39, x40) => some (x38, (⟨x39.t_, (⟨x40, p0.a_.Aj⟩ : Ak), x39.CH, x39.Ay⟩ : Ae), x40) | .inr (x1, x2, x3, x4, x5, x6) => some (x6, (⟨(⟨x1, x2⟩ : AI), (⟨x5, p0.a_.Aj⟩ : Ak), x3, x4⟩ : Ae), x5)))
theorem Hz {S : Ao} (hS : Cj S) {p0 p1 p2 bp0 bp0_2 rp0_2_0 q0 u0 u2} (hm : DJ S p0 p1 p2 = some (q0, u0, u2)) (hc : BZ (cfg.still 43) av = [.ptr (some (bp0, 0)), Ai p1, Ai p2]) (A : HH g h [.obj bp0 (.cells none 2 (BM p0 (.ptr (some (bp0_2, 0))))), .obj bp0_2 (.cells none 2 [AG rp0_2_0 p0.a_.l_.length, Ai p0.a_.Aj]), .AO rp0_2_0 114 (AO AP p0.a_.l_)] F) : ∃ v h', Bg cfg g h 43 av v h' ∧ ∃ (r'2 : Option Nat), v = Ai q0 ∧ HH g h' [.obj bp0 (.cells none 2 (BM u0 (.ptr (some (bp0_2, 0))))), .obj bp0_2 (.cells none 2 [AG r'2 u2.length, Ai p0.a_.Aj]), .AO r'2 114 (AO AP u2)] F := by
 refine E5 93 [.tmp 6] hc ?_
 clear hc
 unfold DJ at hm
 refine bg 93 [(0, .ptr (some (bp0, 0))), (1, Ai p1), (2, Ai p2)] fun fr H => ?_
 refine AD 1 (AM 1 [] H fun fr H => AQ (AD 4 (Ad 3 [] 13 0 4 A H fun fr t H => ?_)))
 refine BK id (AV 13 H hm (fun hb hm H => ?_) fun hb hm H => ?_)
 ·refine AD 1 (AM 1 [(6, Ai 0)] H fun fr H => Ag ?_)
  obtain ⟨rfl, rfl, rfl⟩ := DR hm
  exact ⟨.inl rfl, _, rH H, _, rfl, A⟩
 refine CE id (AQ ?_)
 obtain ⟨o1, ho, hm⟩ := bind_some hm
 refine As (Q' := fun e fr' h' => (e = .normal ∧ .inl () = o1 ∧ Has fr' 93 [(0, .ptr (some (bp0, 0))), (2, Ai p2)] ∧ HH g h' [.obj bp0 (.cells none 2 (BM p0 (.ptr (some (bp0_2, 0))))), .obj bp0_2 (.cells none 2 [AG rp0_2_0 p0.a_.l_.length, Ai p0.a_.Aj]), .AO rp0_2_0 114 (AO AP p0.a_.l_)] F) ∨ (∃ x1 x2 x3 x4 x5 x6, e = .ret ∧ .inr (x1, x2, x3, x4, x5, x6) = o1 ∧ ∃ r1, Has fr' 93 [(6, Ai x6)] ∧ HH g h' [.obj bp0 (.cells none 2 [vs AA x1, Ai x2, .ptr (some (bp0_2, 0)), Ai x3, .bool x4]), .obj bp0_2 (.cells none 2 [AG r1 x5.length, Ai p0.a_.Aj]), .AO r1 114 (AO AP x5)] F) ∨ False) ?_ ?_
 ·replace hm := ho
  clear ho
  refine AD 10 (Ad 4 [] 18 0 0 A H fun fr t H => ?_)
  obtain ⟨x7, hx, hm⟩ := bind_some hm
  refine BI 1 [] 20 (.Aq (AA x7)) h H (fun fr => .of (Hl (e := AA) (x := x7) En (by decide) (by kernel_rfl) hx)) fun fr t H => ?_
  refine Ax 21 (.agg (AA x7)) h H (fun fr => .of (FK (by kernel_rfl))) fun fr t H => ?_
  obtain ⟨h1, e1, A⟩ := A.pu (.cells none 2 [Ai 0, Ai 0, Ai 0, Ai 0, Ai 0, Ai 0, Au 0, Au 0, Au 0, Au 0])
  refine Bo 7 (.ptr (some (h.size, 0))) e1 H fun fr t H => ?_
  obtain ⟨h2, hx, A⟩ := A.s0 0 (AA x7) [_, _, _, _, _, _, _, _, _, _]
  refine DN hx H fun fr t H => ?_
  refine CG 2 id (Ad 1 [] 23 0 0 A H fun fr t H => ?_)
  refine BK id (Ac (id := 0) (by kernel_rfl) ?_)
  refine AD 2 (AM 2 [(24, .bool (x7.Kind == 1))] H fun fr H => AV 24 H hm (fun hb hm H => ?_) fun hb hm H => ?_)
  ·refine AD 7 (BI 3 [(26, .ptr (some (bp0, 0))), (27, Ai p2)] 29 _ _ H (fun fr => .of (CD (by kernel_rfl) (A.GX 0 rfl (o := 6) (n := 4) ⟨Nat.le_of_ble_eq_true rfl, rfl⟩))) fun fr t H => ?_)
   replace A := A.k4 1 2 3 0
   obtain ⟨⟨x8, x9, x10⟩, hx, hm⟩ := bind_some hm
   obtain ⟨v1, h3, hr, r2, rfl, A1⟩ := CY (av := [.ptr (some (bp0, 0)), .agg [Ai 1, Ai p2, Ai 0, Au x7.Set.w0, Au x7.Set.w1, Au x7.Set.w2, Au x7.Set.w3]]) hx (A.cut 3)
   replace A := A.Rj A1
   refine Ap 1 [] 31 hr H fun fr t H => ?_
   refine AM 1 [(6, Ai x8)] H fun fr H => Ag ?_
   replace A := A.d3
   exact .inr (.inl ⟨_, _, _, _, _, _, rfl, Ah hm, _, H.ls, A⟩)
  refine AD 2 (AM 2 [(32, .bool (x7.Kind == 6))] H fun fr H => AV 32 H hm (fun hb hm H => ?_) fun hb hm H => ?_)
  ·refine AD 5 ?_
   replace A := A.k4 1 2 3 0
   obtain ⟨⟨x11, x12, x13⟩, hx, hm⟩ := bind_some hm
   obtain ⟨v1, h4, hr, r3, rfl, A1⟩ := CY (av := [.ptr (some (bp0, 0)), .agg [Ai 3, Ai p2, Ai 0, Au 0, Au 0, Au 0, Au 0]]) hx (A.cut 3)
   replace A := A.Rj A1
   refine Ap 3 [] 37 hr H fun fr t H => ?_
   refine AM 1 [(6, Ai x11)] H fun fr H => Ag ?_
   replace A := A.d3
   exact .inr (.inl ⟨_, _, _, _, _, _, rfl, Ah hm, _, H.ls, A⟩)
  refine AD 2 (AM 2 [(38, .bool (x7.Kind == 7))] H fun fr H => AV 38 H hm (fun hb hm H => ?_) fun hb hm H => ?_)
  ·refine AD 5 ?_
   replace A := A.k4 1 2 3 0
   obtain ⟨⟨x14, x15, x16⟩, hx, hm⟩ := bind_some hm
   obtain ⟨v1, h5, hr, r4, rfl, A1⟩ := CY (av := [.ptr (some (bp0, 0)), .agg [Ai 4, Ai p2, Ai 0, Au 0, Au 0, Au 0, Au 0]]) hx (A.cut 3)
   replace A := A.Rj A1
   refine Ap 3 [] 43 hr H fun fr t H => ?_
   refine AM 1 [(6, Ai x14)] H fun fr H => Ag ?_
   replace A := A.d3
   exact .inr (.inl ⟨_, _, _, _, _, _, rfl, Ah hm, _, H.ls, A⟩)
  refine AD 2 (AM 2 [(44, .bool (x7.Kind == 2))] H fun fr H => AV 44 H hm (fun hb hm H => ?_) fun hb hm H => ?_)
  ·refine AQ (Ft 12 10 [(0, []), (1, []), (2, []), (3, []), (4, []), (5, []), (6, []), (7, [2]), (8, []), (9, [])] ?_)
   refine AE 2 [(46, .ptr (some (bp0, 0))), (47, .ptr (some (h.size, 1)))] H fun fr H => BT 48 (Ai x7.A) h2 [(2, h.size)] (g.BR) H (fun fr => .of (Dd (by kernel_rfl) (A.l1 0 1))) (fun fr H => ?_)
   refine AE 2 [(49, .ptr (some (bp0, 0))), (50, .ptr (some (h.size, 2)))] H fun fr H => BT 51 (Ai x7.B) h2 [(5, h.size), (2, h.size)] (g.BR) H (fun fr => .of (Dd (by kernel_rfl) (A.l1 0 2))) (fun fr H => ?_)
   refine AE 1 [(52, Ai p2)] H fun fr H => ?_
   replace A := A.k4 1 2 3 0
   have A1 := A.Fe 3 (pr := [h.size]) (.cons 0 rfl (by simp [Ck.ids]) .nil)
   obtain ⟨⟨x17, x18, x19⟩, hx, hm⟩ := bind_some hm
   obtain ⟨v1, h6, hr, r5, rfl, A1⟩ := hS.Br (av := [.ptr (some (bp0, 0)), Ai x7.B, Ai p2]) hx (by kernel_rfl) A1
   replace A := A.Xz A1
   refine BT 53 (Ai x17) h6 [(5, h.size), (2, h.size)] (h.size :: g.BR) H (fun fr => Steps.call (by kernel_rfl) hr) (fun fr H => ?_)
   have A1 := A.cut 3
   obtain ⟨⟨x20, x21, x22⟩, hx, hm⟩ := bind_some hm
   obtain ⟨v1, h7, hr, r6, rfl, A1⟩ := hS.Br (av := [.ptr (some (bp0, 0)), Ai x7.A, Ai x17]) hx (by kernel_rfl) A1
   replace A := A.Rj A1
   refine BT 54 (Ai x20) h7 [(5, h.size), (2, h.size)] (g.BR) H (fun fr => Steps.call (by kernel_rfl) hr) (fun fr H => ?_)
   refine AM 1 [(6, Ai x20)] H fun fr H => Ag ?_
   replace A := A.d3
   exact .inr (.inl ⟨_, _, _, _, _, _, rfl, Ah hm, _, H.ls, A⟩)
  refine AD 2 (AM 2 [(55, .bool (x7.Kind == 3))] H fun fr H => AV 55 H hm (fun hb hm H => ?_) fun hb hm H => ?_)
  ·refine AQ (Ft 14 12 [(0, []), (1, []), (2, []), (3, []), (5, []), (6, []), (7, []), (4, [7]), (8, []), (9, []), (10, []), (11, [])] ?_)
   refine AE 2 [(57, .ptr (some (bp0, 0))), (58, .ptr (some (h.size, 1)))] H fun fr H => BT 59 (Ai x7.A) h2 [(2, h.size)] (g.BR) H (fun fr => .of (Dd (by kernel_rfl) (A.l1 0 1))) (fun fr H => ?_)
   refine AE 3 [(60, Ai p2), (62, .ptr (some (bp0, 0))), (63, .ptr (some (h.size, 2)))] H fun fr H => BT 64 (Ai x7.B) h2 [(7, h.size), (2, h.size)] (g.BR) H (fun fr => .of (Dd (by kernel_rfl) (A.l1 0 2))) (fun fr H => ?_)
   replace A := A.k4 1 2 3 0
   have A1 := A.Fe 3 (pr := [h.size]) (.cons 0 rfl (by simp [Ck.ids]) .nil)
   obtain ⟨⟨x23, x24, x25⟩, hx, hm⟩ := bind_some hm
   obtain ⟨v1, h8, hr, r7, rfl, A1⟩ := hS.Br (av := [.ptr (some (bp0, 0)), Ai x7.A, Ai p2]) hx (by kernel_rfl) A1
   replace A := A.Xz A1
   refine BT 61 (Ai x23) h8 [(7, h.size), (2, h.size)] (h.size :: g.BR) H (fun fr => Steps.call (by kernel_rfl) hr) (fun fr H => ?_)
   refine AE 1 [(65, Ai p2)] H fun fr H => ?_
   have A1 := A.cut 3
   obtain ⟨⟨x26, x27, x28⟩, hx, hm⟩ := bind_some hm
   obtain ⟨v1, h9, hr, r8, rfl, A1⟩ := hS.Br (av := [.ptr (some (bp0, 0)), Ai x7.B, Ai p2]) hx (by kernel_rfl) A1
   replace A := A.Rj A1
   refine BT 66 (Ai x26) h9 [(7, h.size), (2, h.size)] (g.BR) H (fun fr => Steps.call (by kernel_rfl) hr) (fun fr H => ?_)
   refine Bw 2 [(8, Ai x23), (9, Ai x26)] 6 H fun fr H => ?_
   obtain ⟨⟨x29, x30, x31⟩, hx, hm⟩ := bind_some hm
   obtain ⟨v1, h10, hr, r9, rfl, A1⟩ := CY (av := [.ptr (some (bp0, 0)), .agg [Ai 2, Ai x23, Ai x26, Au 0, Au 0, Au 0, Au 0]]) hx (A.cut 3)
   replace A := A.Rj A1
   refine Ap 4 [] 71 hr H fun fr t H => ?_
   refine AM 1 [(6, Ai x29)] H fun fr H => Ag ?_
   replace A := A.d3
   exact .inr (.inl ⟨_, _, _, _, _, _, rfl, Ah hm, _, H.ls, A⟩)
  refine AD 2 (AM 2 [(72, .bool (x7.Kind == 5))] H fun fr H => AV 72 H hm (fun hb hm H => ?_) fun hb hm H => ?_)
  ·refine AD 6 (Ad 2 [(74, .ptr (some (bp0, 0)))] 76 0 1 A H fun fr t H => ?_)
   replace A := A.k4 1 2 3 0
   have A1 := A.cut 3
   obtain ⟨⟨x32, x33, x34⟩, hx, hm⟩ := bind_some hm
   obtain ⟨v1, h11, hr, r10, rfl, A1⟩ := hS.Br (av := [.ptr (some (bp0, 0)), Ai x7.A, Ai p2]) hx (by kernel_rfl) A1
   replace A := A.Rj A1
   refine Ap 1 [] 78 hr H fun fr t H => ?_
   refine AM 1 [(6, Ai x32)] H fun fr H => Ag ?_
   replace A := A.d3
   exact .inr (.inl ⟨_, _, _, _, _, _, rfl, Ah hm, _, H.ls, A⟩)
  refine AD 2 (AM 2 [(79, .bool (x7.Kind == 4))] H fun fr H => AV 79 H hm (fun hb hm H => ?_) fun hb hm H => ?_)
  ·refine AD 3 (Ad 1 [] 82 0 4 A H fun fr t H => ?_)
   refine AM 1 [(83, .bool (x7.Max != 0))] H fun fr H => AV 83 H hm (fun hb hm H => ?_) fun hb hm H => ?_
   ·refine AD 5 (BI 1 [(84, .ptr (some (bp0, 0)))] 85 _ _ H (fun fr => .of (CD (by kernel_rfl) (A.GX 0 rfl (o := 0) (n := 10) ⟨Nat.le_of_ble_eq_true rfl, rfl⟩))) fun fr t H => ?_)
    replace A := A.k4 1 2 3 0
    have A1 := A.cut 3
    obtain ⟨⟨x35, x36, x37⟩, hx, hm⟩ := bind_some hm
    obtain ⟨v1, h12, hr, r11, rfl, A1⟩ := hS.EU (av := [.ptr (some (bp0, 0)), .agg (AA x7), Ai p2]) hx (by kernel_rfl) A1
    replace A := A.Rj A1
    refine Ap 1 [] 87 hr H fun fr t H => ?_
    refine AM 1 [(6, Ai x35)] H fun fr H => Ag ?_
    replace A := A.d3
    exact .inr (.inl ⟨_, _, _, _, _, _, rfl, Ah hm, _, H.ls, A⟩)
   refine By ?_
   replace A := A.k3 1 2 3
   exact .inl ⟨rfl, Ah hm, H.ls, A⟩
  refine By ?_
  replace A := A.k3 1 2 3
  exact .inl ⟨rfl, Ah hm, H.ls, A⟩
 clear ho
 clear A
 intro e fr h13 hQ
 rcases hQ with ⟨rfl, rfl, H, A⟩ | ⟨x1, x2, x3, x4, x5, x6, rfl, rfl, r1, H, A⟩ | hF
 ·show AW _ _ _ _ _ _ _
  refine AD 6 ?_
  obtain ⟨⟨x38, x39, x40⟩, hx, hm⟩ := bind_some hm
  obtain ⟨v1, h14, hr, r12, rfl, A1⟩ := CY (av := [.ptr (some (bp0, 0)), .agg [Ai 2, Ai p2, Ai p2, Au 0, Au 0, Au 0, Au 0]]) hx (A.cut 3)
  replace A := A.Rj A1
  refine Ap 4 [] 92 hr H fun fr t H => ?_
  refine AM 1 [(6, Ai x38)] H fun fr H => Ag ?_
  obtain ⟨rfl, rfl, rfl⟩ := DR hm
  exact ⟨.inl rfl, _, rH H, _, rfl, A⟩
 ·obtain ⟨rfl, rfl, rfl⟩ := DR hm
  exact ⟨.inl rfl, _, rH H, _, rfl, A⟩
 exact hF.elim
def D3 (S : Ao) (p0 : Ae) (p1 : AJ) (p2 : Int) (s : (List AJ) × Int × Int × Bool × (List AN) × Int × Int) : Option (((List AJ) × Int × Int × Bool × (List AN) × Int × Int) ⊕ (((List AJ) × Int × Int × Bool × (List AN) × Int))) :=
 match s with
 | (x14, x15, x16, x17, x18, x19, x20) => Af ((decide (x20 > p1.Min)) && (!x17)) ((S.Bi x19 (⟨(⟨x14, x15⟩ : AI), (⟨x18, p0.a_.Aj⟩ : Ak), x16, x17⟩ : Ae) p1).bind fun (x27, x28, x29) => (CF x27 p2 (⟨x28.t_, (⟨x29, p0.a_.Aj⟩ : Ak), x28.CH, x28.Ay⟩ : Ae)).bind fun (x30, x31, x32) => some (.inl (x31.t_.AU, x31.t_.Bf, x31.CH, x31.Ay, x32, x30, IntKind.i64.wrap (x20 - 1)))) (some (.inr (x14, x15, x16, x17, x18, x19)))
def Dz (S : Ao) (p0 : Ae) (p1 : AJ) (s : (List AJ) × Int × Int × Bool × (List AN) × Int × Int) : Option (((List AJ) × Int × Int × Bool × (List AN) × Int × Int) ⊕ (((List AJ) × Int × Int × Bool × (List AN) × Int))) :=
 match s with
 | (x33, x34, x35, x36, x37, x38, x39) => Af ((decide (x39 < p1.Min)) && (!x36)) ((S.Bi x38 (⟨(⟨x33, x34⟩ : AI), (⟨x37, p0.a_.Aj⟩ : Ak), x35, x36⟩ : Ae) p1).bind fun (x46, x47, x48) => some (.inl (x47.t_.AU, x47.t_.Bf, x47.CH, x47.Ay, x48, x46, IntKind.i64.wrap (x39 + 1)))) (some (.inr (x33, x34, x35, x36, x37, x38)))
def Cs (S : Ao) (p0 : Ae) (p1 : AJ) (p2 : Int) : Option (Int × Ae × (List AN)) :=
 (Af (decide (p1.Max < 0)) ((CF p2 p2 p0).bind fun (x7, x8, x9) => (S.Bi x7 (⟨x8.t_, (⟨x9, p0.a_.Aj⟩ : Ak), x8.CH, x8.Ay⟩ : Ae) p1).bind fun (x10, x11, x12) => Af (!x11.Ay) ((Ff x12 x7).bind fun x13 => some (x11.t_.AU, x11.t_.Bf, x11.CH, x11.Ay, (x12.set x7.toNat (⟨x13.CZ, x10, x13.b_, x13.CM⟩ : AN)), x7)) (some (x11.t_.AU, x11.t_.Bf, x11.CH, x11.Ay, x12, x7))) ((loop (D3 S p0 p1 p2) (p0.t_.AU, p0.t_.Bf, p0.CH, p0.Ay, p0.a_.l_, p2, p1.Max)).bind fun (x21, x22, x23, x24, x25, x26) => some (x21, x22, x23, x24, x25, x26)) : Option (((List AJ) × Int × Int × Bool × (List AN) × Int))).bind fun (x1, x2, x3, x4, x5, x6) => (loop (Dz S p0 p1) (x1, x2, x3, x4, x5, x6, (0 : Int))).bind fun (x40, x41, x42, x43, x44, x45) => some (x45, (⟨(⟨x40, x41⟩ : AI), (⟨x44, p0.a_.Aj⟩ : Ak), x42, x43⟩ : Ae), x44)
theorem Hc {S : Ao} (hS : Cj S) {p0 p1 p2 bp0 bp0_2 rp0_2_0 q0 u0 u2} (hm : Cs S p0 p1 p2 = some (q0, u0, u2)) (hc : BZ (cfg.still 65) av = [.ptr (some (bp0, 0)), .agg (AA p1), Ai p2]) (A : HH g h [.obj bp0 (.cells none 2 (BM p0 (.ptr (some (bp0_2, 0))))), .obj bp0_2 (.cells none 2 [AG rp0_2_0 p0.a_.l_.length, Ai p0.a_.Aj]), .AO rp0_2_0 114 (AO AP p0.a_.l_)] F) : ∃ v h', Bg cfg g h 65 av v h' ∧ ∃ (r'2 : Option Nat), v = Ai q0 ∧ HH g h' [.obj bp0 (.cells none 2 (BM u0 (.ptr (some (bp0_2, 0))))), .obj bp0_2 (.cells none 2 [AG r'2 u2.length, Ai p0.a_.Aj]), .AO r'2 114 (AO AP u2)] F := by
 refine E5 80 [.tmp 6] hc ?_
 clear hc
 unfold Cs at hm
 refine bg 80 [(0, .ptr (some (bp0, 0))), (1, .agg (AA p1)), (2, Ai p2)] fun fr H => ?_
 refine AD 3 ?_
 obtain ⟨h1, e1, A⟩ := A.pu (.cells none 2 [.ptr (some (bp0, 0))])
 refine Bo 3 (.ptr (some (h.size, 0))) e1 H fun fr t H => ?_
 obtain ⟨h2, e2, A⟩ := A.pu (.cells none 2 (AA p1))
 refine Bo 4 (.ptr (some (h1.size, 0))) e2 H fun fr t H => ?_
 refine Bw 1 [] 2 H fun fr H => Bw 2 [(7, .func (.func 86) [] [.ptr (some (h.size, 0)), .ptr (some (h1.size, 0))])] 2 H fun fr H => Bw 2 [(8, .func (.func 87) [] [.ptr (some (h.size, 0))])] 2 H fun fr H => AM 2 [(9, Ai p2)] H fun fr H => AQ ?_
 obtain ⟨o1, ho, hm⟩ := bind_some hm
 refine As (Q' := fun e fr' h' => (∃ x1 x2 x3 x4 x5 x6, e = .normal ∧ (x1, x2, x3, x4, x5, x6) = o1 ∧ ∃ r1, Has fr' 80 [(3, .ptr (some (h.size, 0))), (4, .ptr (some (h1.size, 0))), (7, .func (.func 86) [] [.ptr (some (h.size, 0)), .ptr (some (h1.size, 0))]), (9, Ai x6)] ∧ HH g h' [.obj h1.size (.cells none 2 (AA p1)), .obj h.size (.cells none 2 [.ptr (some (bp0, 0))]), .obj bp0 (.cells none 2 [vs AA x1, Ai x2, .ptr (some (bp0_2, 0)), Ai x3, .bool x4]), .obj bp0_2 (.cells none 2 [AG r1 x5.length, Ai p0.a_.Aj]), .AO r1 114 (AO AP x5)] F) ∨ False) ?_ ?_
 ·replace hm := ho
  clear ho
  refine AD 3 (Ad 1 [] 17 0 4 A H fun fr t H => ?_)
  refine AM 1 [(18, .bool (decide (p1.Max < 0)))] H fun fr H => AV 18 H hm (fun hb hm H => ?_) fun hb hm H => ?_
  ·refine AD 5 ?_
   replace A : HH g h2 [.obj h.size (.cells none 2 [.ptr (some (bp0, 0))]), _, _, _, .obj h1.size (.cells none 2 (AA p1))] F := ((((A.front 4 rfl).front 4 rfl).front 4 rfl).front 4 rfl)
   obtain ⟨⟨x7, x8, x9⟩, hx, hm⟩ := bind_some hm
   obtain ⟨v1, h3, hr, r2, rfl, A1⟩ := FC (av := [Ai p2, Ai p2, .ptr (some (h.size, 0))]) hx (A.cut 4)
   replace A := A.X0 A1
   refine Ap 3 [] 22 hr H fun fr t H => ?_
   refine BG 1 [(3, .ptr (some (h.size, 0))), (4, .ptr (some (h1.size, 0))), (7, .func (.func 86) [] [.ptr (some (h.size, 0)), .ptr (some (h1.size, 0))]), (9, Ai x7)] H fun fr H => CG 4 id ?_
   have A1 := A.cut 5
   obtain ⟨⟨x10, x11, x12⟩, hx, hm⟩ := bind_some hm
   obtain ⟨v1, h4, hr, r3, rfl, A1⟩ := hS.CT (av := [Ai x7, .ptr (some (h.size, 0)), .ptr (some (h1.size, 0))]) hx (by kernel_rfl) A1
   replace A : HH g h4 [.obj h.size (.cells none 2 [.ptr (some (bp0, 0))]), .obj bp0 (.cells none 2 (BM x11 _)), .obj bp0_2 (.cells none 2 [AG r3 x12.length, Ai p0.a_.Aj]), .AO r3 114 (AO AP x12), .obj h1.size (.cells none 2 (AA p1))] F := A.Ex (n := 5) A1
   refine Ap 2 [] 25 hr H fun fr t H => ?_
   refine Bw 1 [(10, Ai x10)] 5 H fun fr H => Io 26 0 0 A H fun fr t H => ?_
   refine Ad 2 [] 29 1 4 A H fun fr t H => ?_
   refine AM 1 [(30, .bool (!x11.Ay))] H fun fr H => AV 30 H hm (fun hb hm H => ?_) fun hb hm H => ?_
   ·refine Bd 12 (Io 31 0 0 A H fun fr t H => ?_)
    refine Ad 2 [] 34 1 2 A H fun fr t H => ?_
    refine Ad 2 [] 37 2 0 A H fun fr t H => ?_
    obtain ⟨x13, hx, hm⟩ := bind_some hm
    obtain ⟨i1, er1, _, hx, hq1⟩ := HH.ND DS (by decide) A 3 (xs := x12) rfl hx
    refine BI 2 [(39, Ai x10)] 40 (.ptr (some (i1, x7.toNat * 7))) h4 H (fun fr => .of (FI (s := Cf r3 x12.length) (by kernel_rfl) hx)) fun fr t H => ?_
    obtain ⟨h5, hx, A1⟩ := HH.VK DS A 3 rfl er1 hq1 (y := (⟨x13.CZ, x10, x13.b_, x13.CM⟩ : AN)) (o := 1) (new := [Ai x10]) rfl rfl (Nat.le_of_ble_eq_true rfl)
    have hl1 : (x12.set x7.toNat (⟨x13.CZ, x10, x13.b_, x13.CM⟩ : AN)).length = x12.length := List.length_set
    have el : AG r3 x12.length = AG r3 (x12.set x7.toNat (⟨x13.CZ, x10, x13.b_, x13.CM⟩ : AN)).length := congrArg _ List.length_set.symm
    try rw [el] at H
    try rw [el] at A1
    replace A : HH g h5 [_, _, .obj bp0_2 (.cells none 2 [AG r3 ((x12.set x7.toNat (⟨x13.CZ, x10, x13.b_, x13.CM⟩ : AN)).length), Ai p0.a_.Aj]), .AO r3 114 (AO AP (x12.set x7.toNat (⟨x13.CZ, x10, x13.b_, x13.CM⟩ : AN))), _] F := A1
    refine C1 1 [] hx H fun fr t H => ?_
    refine at_nil ?_
    replace A := A.k5 4 0 1 2 3
    exact .inl ⟨_, _, _, _, _, _, rfl, Ah hm, _, H.ls, A⟩
   refine By ?_
   replace A := A.k5 4 0 1 2 3
   exact .inl ⟨_, _, _, _, _, _, rfl, Ah hm, _, H.ls, A⟩
  refine AD 3 (Ad 1 [] 43 0 4 A H fun fr t H => ?_)
  refine AM 1 [(11, Ai p1.Max)] H fun fr H => Ac (id := 0) (by kernel_rfl) ?_
  obtain ⟨o2, ho, hm⟩ := bind_some hm
  refine As (Q' := fun e fr' h' => (∃ x21 x22 x23 x24 x25 x26, e = .exit 0 ∧ (x21, x22, x23, x24, x25, x26) = o2 ∧ ∃ r5, Has fr' 80 [(3, .ptr (some (h.size, 0))), (4, .ptr (some (h1.size, 0))), (7, .func (.func 86) [] [.ptr (some (h.size, 0)), .ptr (some (h1.size, 0))]), (9, Ai x26)] ∧ HH g h' [.obj h1.size (.cells none 2 (AA p1)), .obj h.size (.cells none 2 [.ptr (some (bp0, 0))]), .obj bp0 (.cells none 2 [vs AA x21, Ai x22, .ptr (some (bp0_2, 0)), Ai x23, .bool x24]), .obj bp0_2 (.cells none 2 [AG r5 x25.length, Ai p0.a_.Aj]), .AO r5 114 (AO AP x25)] F) ∨ False) ?_ ?_
  ·refine B2 (by kernel_rfl) (fun (s : (List AJ) × Int × Int × Bool × (List AN) × Int × Int) fr' h' => ∃ x14 x15 x16 x17 x18 x19 x20, (x14, x15, x16, x17, x18, x19, x20) = s ∧ ∃ r4, Has fr' 80 [(2, Ai p2), (3, .ptr (some (h.size, 0))), (4, .ptr (some (h1.size, 0))), (7, .func (.func 86) [] [.ptr (some (h.size, 0)), .ptr (some (h1.size, 0))]), (8, .func (.func 87) [] [.ptr (some (h.size, 0))]), (9, Ai x19), (11, Ai x20)] ∧ HH g h' [.obj h1.size (.cells none 2 (AA p1)), .obj h.size (.cells none 2 [.ptr (some (bp0, 0))]), .obj bp0 (.cells none 2 [vs AA x14, Ai x15, .ptr (some (bp0_2, 0)), Ai x16, .bool x17]), .obj bp0_2 (.cells none 2 [AG r4 x18.length, Ai p0.a_.Aj]), .AO r4 114 (AO AP x18)] F) ho ⟨_, _, _, _, _, _, _, rfl, rp0_2_0, H.ls, A⟩ ?_
   clear ho hm H A
   intro s q fr h6 hI hm
   obtain ⟨x14, x15, x16, x17, x18, x19, x20, rfl, r4, H, A⟩ := hI
   unfold D3 at hm
   refine AQ (AD 11 (Ad 2 [(44, Ai x20)] 46 0 3 A H fun fr t H => ?_))
   refine AE 2 [(48, .bool (decide (x20 > p1.Min)))] H fun fr H => BD 6 (fun fr' h' => h6 = h' ∧ Has fr' 80 [(2, Ai p2), (3, .ptr (some (h.size, 0))), (4, .ptr (some (h1.size, 0))), (7, .func (.func 86) [] [.ptr (some (h.size, 0)), .ptr (some (h1.size, 0))]), (8, .func (.func 87) [] [.ptr (some (h.size, 0))]), (9, Ai x19), (11, Ai x20), (54, .bool ((decide (x20 > p1.Min)) && (!x17)))]) ?_ ?_
   ·cases hb : (decide (x20 > p1.Min) : Bool) with
    | true =>
     replace H := H.kn 48 hb
     refine Io 49 1 0 A H fun fr t H => ?_
     refine Ad 2 [] 52 2 4 A H fun fr t H => ?_
     exact AE 2 [(54, .bool (!x17))] H fun fr H => Am H hb
    | false =>
     replace H := H.kn 48 hb
     exact AE 6 [(54, .bool false)] H fun fr H => Am H hb
   intro t fr h' hK
   obtain ⟨e, H⟩ := hK
   subst e
   refine BK id (AV 54 H hm (fun hb hm H => ?_) fun hb hm H => ?_)
   ·refine CE id (AQ (Ac (id := 1) (by kernel_rfl) ?_))
    refine Bd 7 ?_
    replace A := A.k5 1 2 3 4 0
    have A1 := A.cut 5
    obtain ⟨⟨x27, x28, x29⟩, hx, hm⟩ := bind_some hm
    obtain ⟨v1, h7, hr, r6, rfl, A1⟩ := hS.CT (av := [Ai x19, .ptr (some (h.size, 0)), .ptr (some (h1.size, 0))]) hx (by kernel_rfl) A1
    replace A : HH g h7 [.obj h.size (.cells none 2 [.ptr (some (bp0, 0))]), .obj bp0 (.cells none 2 (BM x28 _)), .obj bp0_2 (.cells none 2 [AG r6 x29.length, Ai p0.a_.Aj]), .AO r6 114 (AO AP x29), .obj h1.size (.cells none 2 (AA p1))] F := A.Ex (n := 5) A1
    refine Ap 3 [(57, .func (.func 87) [] [.ptr (some (h.size, 0))])] 60 hr H fun fr t H => ?_
    obtain ⟨⟨x30, x31, x32⟩, hx, hm⟩ := bind_some hm
    obtain ⟨v1, h8, hr, r7, rfl, A1⟩ := FC (av := [Ai x27, Ai p2, .ptr (some (h.size, 0))]) hx (A.cut 4)
    replace A := A.X0 A1
    refine Ap 1 [] 62 hr H fun fr t H => ?_
    refine BG 1 [(2, Ai p2), (3, .ptr (some (h.size, 0))), (4, .ptr (some (h1.size, 0))), (7, .func (.func 86) [] [.ptr (some (h.size, 0)), .ptr (some (h1.size, 0))]), (8, .func (.func 87) [] [.ptr (some (h.size, 0))]), (9, Ai x30), (11, Ai x20)] H fun fr H => Gq 3 id (BG 3 [(2, Ai p2), (3, .ptr (some (h.size, 0))), (4, .ptr (some (h1.size, 0))), (7, .func (.func 86) [] [.ptr (some (h.size, 0)), .ptr (some (h1.size, 0))]), (8, .func (.func 87) [] [.ptr (some (h.size, 0))]), (9, Ai x30), (11, Ai (IntKind.i64.wrap (x20 - 1)))] H fun fr H => at_nil ?_)
    replace A := A.k5 4 0 1 2 3
    exact nx hm ⟨_, _, _, _, _, _, _, rfl, _, H.ls, A⟩
   refine BO (i := 0) (by kernel_rfl) ?_
   exact nr hm fun e => .inl ⟨_, _, _, _, _, _, rfl, e, _, H.ls, A⟩
  clear ho
  clear A
  intro e fr h9 hQ
  rcases hQ with ⟨x21, x22, x23, x24, x25, x26, rfl, rfl, r5, H, A⟩ | hF
  ·exact .inl ⟨_, _, _, _, _, _, rfl, Ah hm, _, H.ls, A⟩
  exact hF.elim
 clear ho
 clear A
 intro e fr h10 hQ
 rcases hQ with ⟨x1, x2, x3, x4, x5, x6, rfl, rfl, r1, H, A⟩ | hF
 ·show AW _ _ _ _ _ _ _
  refine AQ (AD 1 (AM 1 [(12, Ai 0)] H fun fr H => Ac (id := 2) (by kernel_rfl) ?_))
  obtain ⟨o3, ho, hm⟩ := bind_some hm
  refine As (Q' := fun e fr' h' => (∃ x40 x41 x42 x43 x44 x45, e = .exit 2 ∧ (x40, x41, x42, x43, x44, x45) = o3 ∧ ∃ r9, Has fr' 80 [(9, Ai x45)] ∧ HH g h' [.obj h1.size (.cells none 2 (AA p1)), .obj h.size (.cells none 2 [.ptr (some (bp0, 0))]), .obj bp0 (.cells none 2 [vs AA x40, Ai x41, .ptr (some (bp0_2, 0)), Ai x42, .bool x43]), .obj bp0_2 (.cells none 2 [AG r9 x44.length, Ai p0.a_.Aj]), .AO r9 114 (AO AP x44)] F) ∨ False) ?_ ?_
  ·refine B2 (by kernel_rfl) (fun (s : (List AJ) × Int × Int × Bool × (List AN) × Int × Int) fr' h' => ∃ x33 x34 x35 x36 x37 x38 x39, (x33, x34, x35, x36, x37, x38, x39) = s ∧ ∃ r8, Has fr' 80 [(3, .ptr (some (h.size, 0))), (4, .ptr (some (h1.size, 0))), (7, .func (.func 86) [] [.ptr (some (h.size, 0)), .ptr (some (h1.size, 0))]), (9, Ai x38), (12, Ai x39)] ∧ HH g h' [.obj h1.size (.cells none 2 (AA p1)), .obj h.size (.cells none 2 [.ptr (some (bp0, 0))]), .obj bp0 (.cells none 2 [vs AA x33, Ai x34, .ptr (some (bp0_2, 0)), Ai x35, .bool x36]), .obj bp0_2 (.cells none 2 [AG r8 x37.length, Ai p0.a_.Aj]), .AO r8 114 (AO AP x37)] F) ho ⟨_, _, _, _, _, _, _, rfl, _, H.ls, A⟩ ?_
   clear ho hm H A
   intro s q fr h11 hI hm
   obtain ⟨x33, x34, x35, x36, x37, x38, x39, rfl, r8, H, A⟩ := hI
   unfold Dz at hm
   refine AQ (AD 11 (Ad 2 [(63, Ai x39)] 65 0 3 A H fun fr t H => ?_))
   refine AE 2 [(67, .bool (decide (x39 < p1.Min)))] H fun fr H => BD 6 (fun fr' h' => h11 = h' ∧ Has fr' 80 [(3, .ptr (some (h.size, 0))), (4, .ptr (some (h1.size, 0))), (7, .func (.func 86) [] [.ptr (some (h.size, 0)), .ptr (some (h1.size, 0))]), (9, Ai x38), (12, Ai x39), (73, .bool ((decide (x39 < p1.Min)) && (!x36)))]) ?_ ?_
   ·cases hb : (decide (x39 < p1.Min) : Bool) with
    | true =>
     replace H := H.kn 67 hb
     refine Io 68 1 0 A H fun fr t H => ?_
     refine Ad 2 [] 71 2 4 A H fun fr t H => ?_
     exact AE 2 [(73, .bool (!x36))] H fun fr H => Am H hb
    | false =>
     replace H := H.kn 67 hb
     exact AE 6 [(73, .bool false)] H fun fr H => Am H hb
   intro t fr h' hK
   obtain ⟨e, H⟩ := hK
   subst e
   refine BK id (AV 73 H hm (fun hb hm H => ?_) fun hb hm H => ?_)
   ·refine CE id (AQ (Ac (id := 3) (by kernel_rfl) ?_))
    refine Bd 4 ?_
    replace A := A.k5 1 2 3 4 0
    have A1 := A.cut 5
    obtain ⟨⟨x46, x47, x48⟩, hx, hm⟩ := bind_some hm
    obtain ⟨v1, h12, hr, r10, rfl, A1⟩ := hS.CT (av := [Ai x38, .ptr (some (h.size, 0)), .ptr (some (h1.size, 0))]) hx (by kernel_rfl) A1
    replace A : HH g h12 [.obj h.size (.cells none 2 [.ptr (some (bp0, 0))]), .obj bp0 (.cells none 2 (BM x47 _)), .obj bp0_2 (.cells none 2 [AG r10 x48.length, Ai p0.a_.Aj]), .AO r10 114 (AO AP x48), .obj h1.size (.cells none 2 (AA p1))] F := A.Ex (n := 5) A1
    refine Ap 2 [] 78 hr H fun fr t H => ?_
    refine BG 1 [(3, .ptr (some (h.size, 0))), (4, .ptr (some (h1.size, 0))), (7, .func (.func 86) [] [.ptr (some (h.size, 0)), .ptr (some (h1.size, 0))]), (9, Ai x46), (12, Ai x39)] H fun fr H => Gq 3 id (BG 3 [(3, .ptr (some (h.size, 0))), (4, .ptr (some (h1.size, 0))), (7, .func (.func 86) [] [.ptr (some (h.size, 0)), .ptr (some (h1.size, 0))]), (9, Ai x46), (12, Ai (IntKind.i64.wrap (x39 + 1)))] H fun fr H => at_nil ?_)
    replace A := A.k5 4 0 1 2 3
    exact nx hm ⟨_, _, _, _, _, _, _, rfl, _, H.ls, A⟩
   refine BO (i := 2) (by kernel_rfl) ?_
   exact nr hm fun e => .inl ⟨_, _, _, _, _, _, rfl, e, _, H.ls, A⟩
  clear ho
  clear A
  intro e fr h13 hQ
  rcases hQ with ⟨x40, x41, x42, x43, x44, x45, rfl, rfl, r9, H, A⟩ | hF
  ·show AW _ _ _ _ _ _ _
   refine AD 2 (AM 2 [(6, Ai x45)] H fun fr H => Ag ?_)
   obtain ⟨rfl, rfl, rfl⟩ := DR hm
   refine ⟨.inl rfl, Ai x45, rH H, ?_⟩
   replace A := A.k3 2 3 4
   exact ⟨r9, rfl, A⟩
  exact hF.elim
 exact hF.elim
def BF : Nat → Ao
 | 0 => ⟨fun _ _ _ => none, fun _ _ _ => none, fun _ _ _ => none⟩
 | n + 1 => ⟨Cd (BF n), DJ (BF n), Cs (BF n)⟩
theorem Bv  : ∀ n, Cj (BF n)
 | 0 => ⟨fun hm => (by cases hm), fun hm => (by cases hm), fun hm => (by cases hm)⟩
 | n + 1 => ⟨fun hm hc A => Gt (Bv n) hm hc A, fun hm hc A => Hz (Bv n) hm hc A, fun hm hc A => Hc (Bv n) hm hc A⟩
def Bi : Int → Ae → AJ → Option (Int × Ae × (List AN)) := (BF J8).Bi
theorem CT {p0 p1_0 p2 bp1 bp1_0 bp1_0_2 rp1_0_2_0 bp2 q0 u1 u3} (hm : Bi p0 p1_0 p2 = some (q0, u1, u3)) (A : HH g h [.obj bp1 (.cells none 2 [.ptr (some (bp1_0, 0))]), .obj bp1_0 (.cells none 2 (BM p1_0 (.ptr (some (bp1_0_2, 0))))), .obj bp1_0_2 (.cells none 2 [AG rp1_0_2_0 p1_0.a_.l_.length, Ai p1_0.a_.Aj]), .AO rp1_0_2_0 114 (AO AP p1_0.a_.l_), .obj bp2 (.cells none 2 (AA p2))] F) (hc : BZ (cfg.still 86) av = [Ai p0, .ptr (some (bp1, 0)), .ptr (some (bp2, 0))] := by kernel_rfl) : ∃ v h', Bg cfg g h 86 av v h' ∧ ∃ (r'3 : Option Nat), v = Ai q0 ∧ HH g h' [.obj bp1 (.cells none 2 [.ptr (some (bp1_0, 0))]), .obj bp1_0 (.cells none 2 (BM u1 (.ptr (some (bp1_0_2, 0))))), .obj bp1_0_2 (.cells none 2 [AG r'3 u3.length, Ai p1_0.a_.Aj]), .AO r'3 114 (AO AP u3), .obj bp2 (.cells none 2 (AA p2))] F := (Bv J8).CT hm hc A
def BL : Ae → Int → Int → Option (Int × Ae × (List AN)) := (BF J8).BL
theorem Br {p0 p1 p2 bp0 bp0_2 rp0_2_0 q0 u0 u2} (hm : BL p0 p1 p2 = some (q0, u0, u2)) (A : HH g h [.obj bp0 (.cells none 2 (BM p0 (.ptr (some (bp0_2, 0))))), .obj bp0_2 (.cells none 2 [AG rp0_2_0 p0.a_.l_.length, Ai p0.a_.Aj]), .AO rp0_2_0 114 (AO AP p0.a_.l_)] F) (hc : BZ (cfg.still 43) av = [.ptr (some (bp0, 0)), Ai p1, Ai p2] := by kernel_rfl) : ∃ v h', Bg cfg g h 43 av v h' ∧ ∃ (r'2 : Option Nat), v = Ai q0 ∧ HH g h' [.obj bp0 (.cells none 2 (BM u0 (.ptr (some (bp0_2, 0))))), .obj bp0_2 (.cells none 2 [AG r'2 u2.length, Ai p0.a_.Aj]), .AO r'2 114 (AO AP u2)] F := (Bv J8).Br hm hc A
def CX : Ae → AJ → Int → Option (Int × Ae × (List AN)) := (BF J8).CX
theorem EU {p0 p1 p2 bp0 bp0_2 rp0_2_0 q0 u0 u2} (hm : CX p0 p1 p2 = some (q0, u0, u2)) (A : HH g h [.obj bp0 (.cells none 2 (BM p0 (.ptr (some (bp0_2, 0))))), .obj bp0_2 (.cells none 2 [AG rp0_2_0 p0.a_.l_.length, Ai p0.a_.Aj]), .AO rp0_2_0 114 (AO AP p0.a_.l_)] F) (hc : BZ (cfg.still 65) av = [.ptr (some (bp0, 0)), .agg (AA p1), Ai p2] := by kernel_rfl) : ∃ v h', Bg cfg g h 65 av v h' ∧ ∃ (r'2 : Option Nat), v = Ai q0 ∧ HH g h' [.obj bp0 (.cells none 2 (BM u0 (.ptr (some (bp0_2, 0))))), .obj bp0_2 (.cells none 2 [AG r'2 u2.length, Ai p0.a_.Aj]), .AO r'2 114 (AO AP u2)] F := (Bv J8).EU hm hc A
def Fo (p0 : AI) (p1 : Int) : Option ((Option Ak) × Int) :=
 Af ((decide (p1 < 1)) || (decide (p1 > 4096))) (some (none, (6 : Int))) ((CC p0).bind fun x1 => Af (!x1) (some (none, (1 : Int))) ((BU (⟨p0, (⟨([] : List AN), (0 : Int)⟩ : Ak), p1, false⟩ : Ae) (⟨(0 : Int), (0 : Int), (0 : Int), (⟨(0 : Int), (0 : Int), (0 : Int), (0 : Int)⟩ : Ar)⟩ : AN)).bind fun (x2, x3, x4) => (BL (⟨x3.t_, (⟨x4, (0 : Int)⟩ : Ak), x3.CH, x3.Ay⟩ : Ae) p0.Bf x2).bind fun (x5, x6, x7) => Af x6.Ay (some (none, (7 : Int))) (some (some (⟨x7, x5⟩ : Ak), (0 : Int)))))
theorem OI {p0 p1 o0 q1} (hm : Fo p0 p1 = some (o0, q1)) (A : HH g h [] F) (hc : BZ (cfg.still 21) av = [.agg (Aa p0), Ai p1] := by kernel_rfl) : ∃ v h', Bg cfg g h 21 av v h' ∧ ((∃ (q0 : Ak), o0 = some q0 ∧ v = .tuple [.Aq (AK q0), Ai q1] ∧ HH g h' [] F) ∨ (o0 = none ∧ v = .tuple [.ptr none, Ai q1] ∧ HH g h' [] F)) := by
 refine Xh 47 [.tmp 4, .tmp 5] hc ?_
 clear hc
 unfold Fo at hm
 refine bg 47 [(0, .agg (Aa p0)), (1, Ai p1)] fun fr H => ?_
 refine AD 3 ?_
 obtain ⟨h1, e1, A⟩ := A.pu (.cells none 2 (Aa p0))
 refine Bo 2 (.ptr (some (h.size, 0))) e1 H fun fr t H => ?_
 refine AM 2 [] H fun fr H => AQ (Ac (id := 0) (by kernel_rfl) ?_)
 refine AD 7 (AE 3 [(11, .bool (decide (p1 < 1)))] H fun fr H => BD 3 (fun fr' h' => h1 = h' ∧ Has fr' 47 [(1, Ai p1), (2, .ptr (some (h.size, 0))), (14, .bool ((decide (p1 < 1)) || (decide (p1 > 4096))))]) ?_ ?_)
 ·cases hb : (decide (p1 < 1) : Bool) with
  | true =>
   replace H := H.kn 11 hb
   exact AE 3 [(14, .bool true)] H fun fr H => Am H hb
  | false =>
   replace H := H.kn 11 hb
   exact AE 3 [(14, .bool (decide (p1 > 4096)))] H fun fr H => Am H hb
 intro t fr h' hK
 obtain ⟨e, H⟩ := hK
 subst e
 refine AM 1 [(8, .bool ((decide (p1 < 1)) || (decide (p1 > 4096))))] H fun fr H => AV 8 H hm (fun hb hm H => ?_) fun hb hm H => ?_
 ·refine AD 2 (AM 2 [(4, .ptr none), (5, Ai 6)] H fun fr H => Ag ?_)
  obtain ⟨rfl, rfl⟩ := Ds hm
  refine ⟨.inl rfl, .tuple [.ptr none, Ai 6], rH H, ?_⟩
  replace A := A.d0
  refine ⟨.tuple [.ptr none, Ai 6], h1, by first | rfl | (simp only [JK, Ja, JP, JO, Jd, JZ, JG, JI, JW, JN, JQ, I8, I9, HN, HG, HM, HQ, HX, HI, HJ, Option.map_some] <;> rfl), ?_⟩
  exact .inr ⟨rfl, rfl, A⟩
 refine AD 4 (Ax 16 _ _ H (fun fr => .of (CD (by kernel_rfl) (A.GX 0 rfl (o := 0) (n := 2) ⟨Nat.le_of_ble_eq_true rfl, rfl⟩))) fun fr t H => ?_)
 obtain ⟨x1, hx, hm⟩ := bind_some hm
 obtain ⟨v1, h2, hr, rfl, A1⟩ := IP (av := [.agg (Aa p0)]) hx (A.cut 0)
 replace A : HH g h2 [.obj h.size (.cells none 2 (Aa p0))] F := A.Ex (n := 0) A1
 refine Be 17 hr H fun fr t H => ?_
 refine AM 2 [(15, .bool (!x1))] H fun fr H => AV 15 H hm (fun hb hm H => ?_) fun hb hm H => ?_
 ·refine AD 2 (AM 2 [(4, .ptr none), (5, Ai 1)] H fun fr H => Ag ?_)
  obtain ⟨rfl, rfl⟩ := Ds hm
  refine ⟨.inl rfl, .tuple [.ptr none, Ai 1], rH H, ?_⟩
  replace A := A.d0
  refine ⟨.tuple [.ptr none, Ai 1], h2, by first | rfl | (simp only [JK, Ja, JP, JO, Jd, JZ, JG, JI, JW, JN, JQ, I8, I9, HN, HG, HM, HQ, HX, HI, HJ, Option.map_some] <;> rfl), ?_⟩
  exact .inr ⟨rfl, rfl, A⟩
 refine Ca 7 id (Ax 19 _ _ H (fun fr => .of (CD (by kernel_rfl) (A.GX 0 rfl (o := 0) (n := 2) ⟨Nat.le_of_ble_eq_true rfl, rfl⟩))) fun fr t H => ?_)
 obtain ⟨h3, e2, A⟩ := A.pu (.cells none 2 [.slice none 0, Ai 0])
 refine F8 1 [] 21 (.ptr (some (h2.size, 0))) e2 H fun fr t H => ?_
 obtain ⟨h4, e3, A⟩ := A.pu (.cells none 2 [vs AA p0.AU, Ai p0.Bf, .ptr (some (h2.size, 0)), Ai p1, .bool false])
 refine F8 2 [] 24 (.ptr (some (h3.size, 0))) e3 H fun fr t H => ?_
 refine Bw 1 [(6, .ptr (some (h3.size, 0)))] 4 H fun fr H => ?_
 replace A : HH g h4 [.AO none 114 (AO AP ([] : List AN)), .obj h3.size (.cells none 2 [vs AA p0.AU, Ai p0.Bf, .ptr (some (h2.size, 0)), Ai p1, .bool false]), .obj h2.size (.cells none 2 [AG none (([] : List AN).length), Ai 0]), _] F := A.IY 114
 replace A := A.k4 1 2 0 3
 obtain ⟨⟨x2, x3, x4⟩, hx, hm⟩ := bind_some hm
 obtain ⟨v1, h5, hr, r1, rfl, A1⟩ := CY (av := [.ptr (some (h3.size, 0)), .agg [Ai 0, Ai 0, Ai 0, Au 0, Au 0, Au 0, Au 0]]) hx (A.cut 3)
 replace A := A.Rj A1
 refine Ap 2 [] 27 hr H fun fr t H => ?_
 refine AM 1 [(7, Ai x2)] H fun fr H => AQ (Ft 7 12 [(0, []), (1, []), (2, []), (3, []), (4, []), (5, []), (6, []), (7, []), (8, [10003]), (9, []), (10, []), (11, [])] ?_)
 refine AE 3 [(30, .ptr (some (h3.size, 2)))] H fun fr H => BT 31 (.ptr (some (h2.size, 0))) h5 [(3, h3.size)] (g.BR) H (fun fr => .of (Dd (by kernel_rfl) (A.l1 0 2))) (fun fr H => ?_)
 refine AE 2 [(32, .ptr (some (h3.size, 0))), (33, .ptr (some (h.size, 1)))] H fun fr H => BT 34 (Ai p0.Bf) h5 [(6, h.size), (3, h3.size)] (g.BR) H (fun fr => .of (Dd (by kernel_rfl) (A.l1 3 1))) (fun fr H => ?_)
 refine AE 1 [(35, Ai x2)] H fun fr H => ?_
 obtain ⟨⟨x5, x6, x7⟩, hx, hm⟩ := bind_some hm
 obtain ⟨v1, h6, hr, r2, rfl, A1⟩ := Br (av := [.ptr (some (h3.size, 0)), Ai p0.Bf, Ai x2]) hx (A.cut 3)
 replace A := A.Rj A1
 refine BT 36 (Ai x5) h6 [(6, h.size), (3, h3.size)] (g.BR) H (fun fr => Steps.call (by kernel_rfl) hr) (fun fr H => ?_) (hre := fun fr => LF (j := 3) rfl (UG (i := 3) (by kernel_rfl) (A.l1 0 2) (MU _ _)) (rfl))
 refine AE 2 [(38, .ptr (some (h2.size, 1)))] H fun fr H => ?_
 obtain ⟨h7, hx, A⟩ := A.s1 1 [Ai x5] [_, _]
 refine Gj (.tuple []) h7 [(6, h.size), (3, h3.size)] (g.BR) H (fun fr => .of (MS (by kernel_rfl) rfl hx)) (fun fr H => ?_)
 refine BK id (AQ (AD 4 (Ad 3 [] 42 0 4 A H fun fr t H => ?_)))
 refine BK id (AV 42 H hm (fun hb hm H => ?_) fun hb hm H => ?_)
 ·refine AD 2 (AM 2 [(4, .ptr none), (5, Ai 7)] H fun fr H => Ag ?_)
  obtain ⟨rfl, rfl⟩ := Ds hm
  refine ⟨.inl rfl, .tuple [.ptr none, Ai 7], rH H, ?_⟩
  replace A := A.d0
  refine ⟨.tuple [.ptr none, Ai 7], h7, by first | rfl | (simp only [JK, Ja, JP, JO, Jd, JZ, JG, JI, JW, JN, JQ, I8, I9, HN, HG, HM, HQ, HX, HI, HJ, Option.map_some] <;> rfl), ?_⟩
  exact .inr ⟨rfl, rfl, A⟩
 refine Ca 6 id (Ad 3 [] 46 0 2 A H fun fr t H => ?_)
 refine AM 2 [(4, .ptr (some (h2.size, 0))), (5, Ai 0)] H fun fr H => Ag ?_
 obtain ⟨rfl, rfl⟩ := Ds hm
 refine ⟨.inl rfl, .tuple [.ptr (some (h2.size, 0)), Ai 0], rH H, ?_⟩
 replace A := A.k2 1 2
 obtain ⟨h8, A1, hy0⟩ := (A.front 0 rfl).Vz
 replace A : HH g h8 [_] F := A1
 obtain ⟨h9, hz1, A1⟩ := (A.front 0 rfl).VN (n := x7.length) (z := 7) (DS.Hb _) (by decide)
 replace A : HH g h9 [] F := A1
 have hz0 := hy0 [vs AP x7, Ai x5] h9 (by simp only [JK, Ja, JP, JO, Jd, JZ, JG, JI, JW, JN, JQ, I8, I9, HN, HG, HM, HQ, HX, HI, HJ, Option.map_some, AK, hz1] <;> rfl)
 refine ⟨.tuple [.Aq [vs AP x7, Ai x5], Ai 0], h9, by first | rfl | (simp only [JK, Ja, JP, JO, Jd, JZ, JG, JI, JW, JN, JQ, I8, I9, HN, HG, HM, HQ, HX, HI, HJ, Option.map_some, AK, hz0, hz1] <;> rfl), ?_⟩
 exact .inl ⟨(⟨x7, x5⟩ : Ak), rfl, rfl, A⟩
def E6 (p0 : Ak) (p1 : List Int) (p2 : Int) (s : (List Int) × Int) : Option (((List Int) × Int) ⊕ (((List Int)))) :=
 match s with
 | (x1, x2) => Af (decide (x2 < (p1.length : Int))) (((Ff p1 x2).bind fun x5 => (Ff p0.l_ x5).bind fun x6 => (Af (x6.CZ == 1) ((DL x6.CM p2).bind fun x8 => some x8) (some false) : Option (Bool)).bind fun x7 => Af x7 (Cm (KI 8 (x1.length + ([x6.a_] : List Int).length)) <| some (x1 ++ ([x6.a_] : List Int))) (some x1) : Option (((List Int)))).bind fun x4 => some (.inl (x4, IntKind.i64.wrap (x2 + 1)))) (some (.inr x1))
def EZ (p0 : Ak) (p1 : List Int) (p2 : Int) : Option ((List Int)) :=
 (loop (E6 p0 p1 p2) (([] : List Int), (0 : Int))).bind fun x3 => (CQ p0 x3 false false).bind fun x9 => some x9
theorem Ib {p0 p1 p2 q0} (hm : EZ p0 p1 p2 = some q0) (A : HH g h [] F) (hc : BZ (cfg.still 26) av = [.Aq (AK p0), vs (eI .i64) p1, Ab p2] := by kernel_rfl) : ∃ v h', Bg cfg g h 26 av v h' ∧ v = vs (eI .i64) q0 ∧ HH g h' [] F := by
 refine E5 42 [.tmp 6] hc ?_
 clear hc
 unfold EZ at hm
 refine bg 42 [(0, .Aq (AK p0)), (1, vs (eI .i64) p1), (2, Ab p2)] fun fr H => ?_
 refine AD 1 (Bw 1 [] 1 H fun fr H => AM 1 [(7, .slice none 0)] H fun fr H => AQ (AD 3 (AM 3 [(11, vs (eI .i64) p1), (12, Ai (p1.length : Int)), (13, Ai 0)] H fun fr H => Ac (id := 0) (by kernel_rfl) ?_)))
 replace A : HH g h [.AO none 3 (AO (eI .i64) ([] : List Int))] F := A.IY 3
 obtain ⟨o1, ho, hm⟩ := bind_some hm
 refine As (Q' := fun e fr' h' => (∃ x3, e = .exit 0 ∧ x3 = o1 ∧ ∃ r2, Has fr' 42 [(0, .Aq (AK p0)), (7, AG r2 x3.length)] ∧ HH g h' [.AO r2 3 (AO (eI .i64) x3)] F) ∨ False) ?_ ?_
 ·refine B2 (by kernel_rfl) (fun (s : (List Int) × Int) fr' h' => ∃ x1 x2, (x1, x2) = s ∧ ∃ r1, Has fr' 42 [(0, .Aq (AK p0)), (2, Ab p2), (7, AG r1 x1.length), (11, vs (eI .i64) p1), (12, Ai (p1.length : Int)), (13, Ai x2)] ∧ HH g h' [.AO r1 3 (AO (eI .i64) x1)] F) ho ⟨_, _, rfl, none, H.ls, A⟩ ?_
  clear ho hm H A
  intro s q fr h1 hI hm
  obtain ⟨x1, x2, rfl, r1, H, A⟩ := hI
  unfold E6 at hm
  refine AD 1 (AM 1 [(14, .bool (decide (x2 < (p1.length : Int))))] H fun fr H => AQ (AV 14 H hm (fun hb hm H => ?_) fun hb hm H => ?_))
  ·refine CE id (AQ ?_)
   obtain ⟨o2, ho, hm⟩ := bind_some hm
   refine As (Q' := fun e fr' h' => (∃ x4, e = .normal ∧ x4 = o2 ∧ ∃ r3, Has fr' 42 [(0, .Aq (AK p0)), (2, Ab p2), (7, AG r3 x4.length), (11, vs (eI .i64) p1), (12, Ai (p1.length : Int)), (13, Ai x2)] ∧ HH g h' [.AO r3 3 (AO (eI .i64) x4)] F) ∨ False) ?_ ?_
   ·replace hm := ho
    clear ho
    refine Ac (id := 1) (by kernel_rfl) ?_
    refine AD 3 ?_
    obtain ⟨x5, hx, hm⟩ := bind_some hm
    refine Ax 15 (.Aq [Ai x5]) h1 H (fun fr => .of (Hl (e := (eI .i64)) (x := x5) (encI .i64) (by decide) (by kernel_rfl) hx)) fun fr t H => ?_
    refine Ax 16 (Ai x5) h1 H (fun fr => .of (FK (by kernel_rfl))) fun fr t H => ?_
    refine Bw 1 [(9, Ai x5)] 9 H fun fr H => BI 3 [] 20 (vs AP p0.l_) h1 H (fun fr => .of (FK (by kernel_rfl))) fun fr t H => ?_
    obtain ⟨x6, hx, hm⟩ := bind_some hm
    refine BI 1 [] 22 (.Aq (AP x6)) h1 H (fun fr => .of (Hl (e := AP) (x := x6) DS (by decide) (by kernel_rfl) hx)) fun fr t H => ?_
    refine Ax 23 (.agg (AP x6)) h1 H (fun fr => .of (FK (by kernel_rfl))) fun fr t H => ?_
    obtain ⟨h2, e1, A⟩ := A.pu (.cells none 2 [Ai 0, Ai 0, Ai 0, Au 0, Au 0, Au 0, Au 0])
    refine Bo 10 (.ptr (some (h1.size, 0))) e1 H fun fr t H => ?_
    obtain ⟨h3, hx, A⟩ := A.s0 0 (AP x6) [_, _, _, _, _, _, _]
    refine DN hx H fun fr t H => ?_
    refine CG 9 id (Ad 1 [] 25 0 0 A H fun fr t H => ?_)
    refine AE 2 [(27, .bool (x6.CZ == 1))] H fun fr H => ?_
    obtain ⟨x7, ho, hm⟩ := bind_some hm
    refine BD 5 (fun fr' h' => Has fr' 42 [(0, .Aq (AK p0)), (2, Ab p2), (7, AG r1 x1.length), (10, .ptr (some (h1.size, 0))), (11, vs (eI .i64) p1), (12, Ai (p1.length : Int)), (13, Ai x2), (32, .bool x7)] ∧ HH g h' [.obj h1.size (.cells none 2 (AP x6)), .AO r1 3 (AO (eI .i64) x1)] F) ?_ ?_
    ·rcases BJ ho with ⟨hb, hm⟩ | ⟨hb, hm⟩
     ·replace H := H.kn 27 hb
      refine BI 1 [] 29 _ _ H (fun fr => .of (CD (by kernel_rfl) (A.GX 0 rfl (o := 3) (n := 4) ⟨Nat.le_of_ble_eq_true rfl, rfl⟩))) fun fr t H => ?_
      obtain ⟨x8, hx, hm⟩ := bind_some hm
      obtain ⟨v1, h5, hr, rfl, A1⟩ := G1 (av := [.agg (AL x6.CM), Ab p2]) hx (A.cut 0)
      replace A := A.Ea A1
      refine Ap 1 [] 31 hr H fun fr t H => ?_
      refine AE 1 [(32, .bool x8)] H fun fr H => ?_
      obtain rfl := Ah hm
      exact at_nil ⟨H.ls, A⟩
     replace H := H.kn 27 hb
     refine AE 5 [(32, .bool false)] H fun fr H => ?_
     obtain rfl := Ah hm
     exact at_nil ⟨H.ls, A⟩
    clear A
    intro t fr h4 hK
    obtain ⟨H, A⟩ := hK
    refine BK id (AV 32 H hm (fun hb hm H => ?_) fun hb hm H => ?_)
    ·refine Bd 6 (Ad 2 [(33, AG r1 x1.length)] 35 0 1 A H fun fr t H => ?_)
     obtain ⟨h6, e2, A⟩ := A.pL 3 [Ai x6.a_]
     refine Bo 36 (AG (some h4.size) (([x6.a_] : List Int).length)) e2 H fun fr t H => ?_
     obtain ⟨hb, hm⟩ := BQ hm
     obtain ⟨r4, h7, hx, A1⟩ := HH.Hd (encI .i64) (by decide) A 2 (xs := x1) (ys := ([x6.a_] : List Int)) rfl (B6 A 0 rfl (n := ([x6.a_] : List Int).length) (z := 1) rfl (by decide)) rfl rfl hb
     replace A : HH g h7 [.AO (some h4.size) 3 ([Ai x6.a_]), _, .AO r4 3 (AO (eI .i64) (x1 ++ ([x6.a_] : List Int)))] F := A1
     replace A := A.k2 1 2
     refine Ax 37 _ _ H (fun fr => .of (Er (s := Cf r1 x1.length) (by kernel_rfl) hx)) fun fr t H => ?_
     refine BG 1 [(0, .Aq (AK p0)), (2, Ab p2), (7, AG r4 ((x1 ++ ([x6.a_] : List Int)).length)), (11, vs (eI .i64) p1), (12, Ai (p1.length : Int)), (13, Ai x2)] H fun fr H => at_nil ?_
     replace A := A.k1 1
     exact .inl ⟨_, rfl, Ah hm, _, H.ls, A⟩
    refine By ?_
    replace A := A.k1 1
    exact .inl ⟨_, rfl, Ah hm, _, H.ls, A⟩
   clear ho
   clear A
   intro e fr h8 hQ
   rcases hQ with ⟨x4, rfl, rfl, r3, H, A⟩ | hF
   ·show AW _ _ _ _ _ _ _
    refine Bd 2 (BG 2 [(0, .Aq (AK p0)), (2, Ab p2), (7, AG r3 x4.length), (11, vs (eI .i64) p1), (12, Ai (p1.length : Int)), (13, Ai (IntKind.i64.wrap (x2 + 1)))] H fun fr H => at_nil ?_)
    exact nx hm ⟨_, _, rfl, _, H.ls, A⟩
   exact hF.elim
  refine BO (i := 0) (by kernel_rfl) ?_
  exact nr hm fun e => .inl ⟨_, rfl, e, _, H.ls, A⟩
 clear ho
 clear A
 intro e fr h9 hQ
 rcases hQ with ⟨x3, rfl, rfl, r2, H, A⟩ | hF
 ·show AW _ _ _ _ _ _ _
  refine AD 4 ?_
  obtain ⟨x9, hx, hm⟩ := bind_some hm
  obtain ⟨v1, h10, hr, rfl, A1⟩ := Fu (av := [.Aq (AK p0), AG r2 x3.length, .bool false, .bool false]) hx (A.cut 1)
  replace A := A.g11 A1
  refine Ap 2 [] 41 hr H fun fr t H => ?_
  refine AM 1 [(6, vs (eI .i64) x9)] H fun fr H => Ag ?_
  obtain rfl := Ah hm
  refine ⟨.inl rfl, vs (eI .i64) x9, rH H, ?_⟩
  replace A := A.d0
  exact ⟨rfl, A⟩
 exact hF.elim
def Fv (p0 : Ak) (p1 : List UInt8) (s : (List Int) × (List Int) × Int) : Option (((List Int) × (List Int) × Int) ⊕ (((List Int)))) :=
 match s with
 | (x2, x3, x4) => Af (decide ((x3.length : Int) > 0)) (((EB p0 x3 (x4 == 0) (x4 == (p1.length : Int))).bind fun x7 => Af x7 (Cm (KI 8 (x2.length + ([x4] : List Int).length)) <| some (x2 ++ ([x4] : List Int))) (some x2) : Option (((List Int)))).bind fun x6 => Af (x4 == (p1.length : Int)) (some (.inr x6)) ((Jf p1 x4).bind fun x8 => (EZ p0 x3 x8).bind fun x9 => some (.inl (x6, x9, IntKind.i64.wrap (x4 + 1))))) (some (.inr x2))
def E9 (p0 : Ak) (p1 : List UInt8) (p2 : Int) : Option ((List Int)) :=
 Af ((decide (p2 < 0)) || (decide (p2 > (p1.length : Int)))) (some ([] : List Int)) ((Db p0 (p2 == 0)).bind fun x1 => (loop (Fv p0 p1) (([] : List Int), x1, p2)).bind fun x5 => some x5)
theorem Ly {p0 p1 p2 q0} (hm : E9 p0 p1 p2 = some q0) (A : HH g h [] F) (hc : BZ (cfg.still 22) av = [.Aq (AK p0), .str p1, Ai p2] := by kernel_rfl) : ∃ v h', Bg cfg g h 22 av v h' ∧ ∃ (rq0 : Option Nat), v = AG rq0 q0.length ∧ HH g h' [.AO rq0 3 (AO (eI .i64) q0)] F := by
 refine E5 52 [.tmp 6] hc ?_
 clear hc
 unfold E9 at hm
 refine bg 52 [(0, .Aq (AK p0)), (1, .str p1), (2, Ai p2)] fun fr H => ?_
 refine AD 1 (AM 1 [] H fun fr H => AQ (AD 8 (AE 3 [(12, .bool (decide (p2 < 0)))] H fun fr H => BD 5 (fun fr' h' => h = h' ∧ Has fr' 52 [(0, .Aq (AK p0)), (1, .str p1), (2, Ai p2), (17, .bool ((decide (p2 < 0)) || (decide (p2 > (p1.length : Int)))))]) ?_ ?_)))
 ·cases hb : (decide (p2 < 0) : Bool) with
  | true =>
   replace H := H.kn 12 hb
   exact AE 5 [(17, .bool true)] H fun fr H => Am H hb
  | false =>
   replace H := H.kn 12 hb
   exact AE 5 [(17, .bool (decide (p2 > (p1.length : Int))))] H fun fr H => Am H hb
 intro t fr h' hK
 obtain ⟨e, H⟩ := hK
 subst e
 refine BK id (AV 17 H hm (fun hb hm H => ?_) fun hb hm H => ?_)
 ·refine AD 1 (AM 1 [(6, .slice none 0)] H fun fr H => Ag ?_)
  obtain rfl := Ah hm
  refine ⟨.inl rfl, .slice none 0, rH H, ?_⟩
  replace A : HH g h [.AO none 3 (AO (eI .i64) ([] : List Int))] F := A.IY 3
  exact ⟨none, rfl, A⟩
 refine Ca 1 id (Bw 1 [(7, .slice none 0)] 5 H fun fr H => ?_)
 obtain ⟨x1, hx, hm⟩ := bind_some hm
 obtain ⟨v1, h1, hr, rfl, A1⟩ := GD (av := [.Aq (AK p0), .bool (p2 == 0)]) hx (A.cut 0)
 replace A := A.Ea A1
 refine Ap 3 [] 21 hr H fun fr t H => ?_
 refine AM 1 [(8, vs (eI .i64) x1)] H fun fr H => AQ (AD 2 (AM 2 [(9, Ai p2)] H fun fr H => Ac (id := 0) (by kernel_rfl) ?_))
 replace A : HH g h1 [.AO none 3 (AO (eI .i64) ([] : List Int))] F := A.IY 3
 obtain ⟨o1, ho, hm⟩ := bind_some hm
 refine As (Q' := fun e fr' h' => (∃ x5, e = .exit 0 ∧ x5 = o1 ∧ ∃ r2, Has fr' 52 [(7, AG r2 x5.length)] ∧ HH g h' [.AO r2 3 (AO (eI .i64) x5)] F) ∨ False) ?_ ?_
 ·refine B2 (by kernel_rfl) (fun (s : (List Int) × (List Int) × Int) fr' h' => ∃ x2 x3 x4, (x2, x3, x4) = s ∧ ∃ r1, Has fr' 52 [(0, .Aq (AK p0)), (1, .str p1), (7, AG r1 x2.length), (8, vs (eI .i64) x3), (9, Ai x4)] ∧ HH g h' [.AO r1 3 (AO (eI .i64) x2)] F) ho ⟨_, _, _, rfl, none, H.ls, A⟩ ?_
  clear ho hm H A
  intro s q fr h2 hI hm
  obtain ⟨x2, x3, x4, rfl, r1, H, A⟩ := hI
  unfold Fv at hm
  refine AQ (AD 3 (AM 3 [(25, .bool (decide ((x3.length : Int) > 0)))] H fun fr H => AV 25 H hm (fun hb hm H => ?_) fun hb hm H => ?_))
  ·refine CE id (AQ (Ac (id := 1) (by kernel_rfl) ?_))
   refine AQ ?_
   obtain ⟨o2, ho, hm⟩ := bind_some hm
   refine As (Q' := fun e fr' h' => (∃ x6, e = .normal ∧ x6 = o2 ∧ ∃ r3, Has fr' 52 [(0, .Aq (AK p0)), (1, .str p1), (7, AG r3 x6.length), (8, vs (eI .i64) x3), (9, Ai x4)] ∧ HH g h' [.AO r3 3 (AO (eI .i64) x6)] F) ∨ False) ?_ ?_
   ·replace hm := ho
    clear ho
    refine AD 9 ?_
    obtain ⟨x7, hx, hm⟩ := bind_some hm
    obtain ⟨v1, h3, hr, rfl, A1⟩ := IQ (av := [.Aq (AK p0), vs (eI .i64) x3, .bool (x4 == 0), .bool (x4 == (p1.length : Int))]) hx (A.cut 0)
    replace A := A.Ea A1
    refine Ap 8 [] 36 hr H fun fr t H => ?_
    refine BK id (AV 36 H hm (fun hb hm H => ?_) fun hb hm H => ?_)
    ·refine Bd 5 (AE 2 [(37, AG r1 x2.length), (38, Ai x4)] H fun fr H => ?_)
     obtain ⟨h4, e1, A⟩ := A.pL 3 [Ai x4]
     refine Bo 39 (AG (some h3.size) (([x4] : List Int).length)) e1 H fun fr t H => ?_
     obtain ⟨hb, hm⟩ := BQ hm
     obtain ⟨r4, h5, hx, A1⟩ := HH.Hd (encI .i64) (by decide) A 1 (xs := x2) (ys := ([x4] : List Int)) rfl (B6 A 0 rfl (n := ([x4] : List Int).length) (z := 1) rfl (by decide)) rfl rfl hb
     replace A : HH g h5 [.AO (some h3.size) 3 ([Ai x4]), .AO r4 3 (AO (eI .i64) (x2 ++ ([x4] : List Int)))] F := A1
     replace A := A.k1 1
     refine Ax 40 _ _ H (fun fr => .of (Er (s := Cf r1 x2.length) (by kernel_rfl) hx)) fun fr t H => ?_
     refine BG 1 [(0, .Aq (AK p0)), (1, .str p1), (7, AG r4 ((x2 ++ ([x4] : List Int)).length)), (8, vs (eI .i64) x3), (9, Ai x4)] H fun fr H => at_nil ?_
     exact .inl ⟨_, rfl, Ah hm, _, H.ls, A⟩
    exact By (.inl ⟨_, rfl, Ah hm, _, H.ls, A⟩)
   clear ho
   clear A
   intro e fr h6 hQ
   rcases hQ with ⟨x6, rfl, rfl, r3, H, A⟩ | hF
   ·show AW _ _ _ _ _ _ _
    refine AQ (AD 4 (AM 4 [(44, .bool (x4 == (p1.length : Int)))] H fun fr H => AV 44 H hm (fun hb hm H => ?_) fun hb hm H => ?_))
    ·refine BO (i := 0) (by kernel_rfl) ?_
     exact nr hm fun e => .inl ⟨_, rfl, e, _, H.ls, A⟩
    refine KX 7 id ?_
    obtain ⟨x8, hx, hm⟩ := bind_some hm
    refine BI 4 [(45, .Aq (AK p0)), (46, vs (eI .i64) x3)] 49 (Ab x8) h6 H (fun fr => .of (EL (by kernel_rfl) hx)) fun fr t H => ?_
    obtain ⟨x9, hx, hm⟩ := bind_some hm
    obtain ⟨v1, h7, hr, rfl, A1⟩ := Ib (av := [.Aq (AK p0), vs (eI .i64) x3, Ab x8]) hx (A.cut 0)
    replace A := A.Ea A1
    refine Be 50 hr H fun fr t H => ?_
    refine BG 1 [(0, .Aq (AK p0)), (1, .str p1), (7, AG r3 x6.length), (8, vs (eI .i64) x9), (9, Ai x4)] H fun fr H => Gq 3 id (BG 3 [(0, .Aq (AK p0)), (1, .str p1), (7, AG r3 x6.length), (8, vs (eI .i64) x9), (9, Ai (IntKind.i64.wrap (x4 + 1)))] H fun fr H => at_nil ?_)
    exact nx hm ⟨_, _, _, rfl, _, H.ls, A⟩
   exact hF.elim
  refine BO (i := 0) (by kernel_rfl) ?_
  exact nr hm fun e => .inl ⟨_, rfl, e, _, H.ls, A⟩
 clear ho
 clear A
 intro e fr h8 hQ
 rcases hQ with ⟨x5, rfl, rfl, r2, H, A⟩ | hF
 ·show AW _ _ _ _ _ _ _
  refine AD 2 (AM 2 [(6, AG r2 x5.length)] H fun fr H => Ag ?_)
  obtain rfl := Ah hm
  exact ⟨.inl rfl, _, rH H, _, rfl, A⟩
 exact hF.elim
def Eu (p0 : Ak) (p1 : Int) (p2 : Int) (s : Int) : Option ((Int) ⊕ ((Unit) ⊕ (Bool))) :=
 match s with
 | x1 => Af (decide (x1 < (p0.l_.length : Int))) ((Ff p0.l_ x1).bind fun x3 => (Af (x3.CZ == 1) ((DL x3.CM p1).bind fun x5 => (DL x3.CM p2).bind fun x6 => some (!(x5 == x6))) (some false) : Option (Bool)).bind fun x4 => Af x4 (some (.inr (.inr true))) (some (.inl (IntKind.i64.wrap (x1 + 1))))) (some (.inr (.inl ())))
def Ep (p0 : Ak) (p1 : Int) (p2 : Int) : Option (Bool) :=
 (loop (Eu p0 p1 p2) (0 : Int)).bind fun o1 => (match o1 with | .inl _ => some false | .inr x2 => some x2)
theorem LU {p0 p1 p2 q0} (hm : Ep p0 p1 p2 = some q0) (A : HH g h [] F) (hc : BZ (cfg.still 47) av = [.Aq (AK p0), Ab p1, Ab p2] := by kernel_rfl) : ∃ v h', Bg cfg g h 47 av v h' ∧ v = .bool q0 ∧ HH g h' [] F := by
 refine E5 33 [.tmp 6] hc ?_
 clear hc
 unfold Ep at hm
 refine bg 33 [(0, .Aq (AK p0)), (1, Ab p1), (2, Ab p2)] fun fr H => ?_
 refine AD 1 (AM 1 [] H fun fr H => AQ (AD 6 (BI 3 [] 12 (vs AP p0.l_) h H (fun fr => .of (FK (by kernel_rfl))) fun fr t H => ?_)))
 refine AM 2 [(13, Ai (p0.l_.length : Int)), (14, Ai 0)] H fun fr H => Ac (id := 0) (by kernel_rfl) ?_
 obtain ⟨o1, ho, hm⟩ := bind_some hm
 refine As (Q' := fun e fr' h' => (e = .exit 0 ∧ .inl () = o1 ∧ Has fr' 33 [] ∧ HH g h' [] F) ∨ (∃ x2, e = .ret ∧ .inr x2 = o1 ∧ Has fr' 33 [(6, .bool x2)] ∧ HH g h' [] F) ∨ False) ?_ ?_
 ·refine B2 (by kernel_rfl) (fun (s : Int) fr' h' => ∃ x1, x1 = s ∧ Has fr' 33 [(1, Ab p1), (2, Ab p2), (12, vs AP p0.l_), (13, Ai (p0.l_.length : Int)), (14, Ai x1)] ∧ HH g h' [] F) ho ⟨_, rfl, H.ls, A⟩ ?_
  clear ho hm H A
  intro s q fr h1 hI hm
  obtain ⟨x1, rfl, H, A⟩ := hI
  unfold Eu at hm
  refine AD 1 (AM 1 [(15, .bool (decide (x1 < (p0.l_.length : Int))))] H fun fr H => AQ (AV 15 H hm (fun hb hm H => ?_) fun hb hm H => ?_))
  ·refine CE id (AQ (Ac (id := 1) (by kernel_rfl) ?_))
   refine AD 4 ?_
   obtain ⟨x3, hx, hm⟩ := bind_some hm
   refine Ax 16 (.Aq (AP x3)) h1 H (fun fr => .of (Hl (e := AP) (x := x3) DS (by decide) (by kernel_rfl) hx)) fun fr t H => ?_
   refine Ax 17 (.agg (AP x3)) h1 H (fun fr => .of (FK (by kernel_rfl))) fun fr t H => ?_
   obtain ⟨h2, e1, A⟩ := A.pu (.cells none 2 [Ai 0, Ai 0, Ai 0, Au 0, Au 0, Au 0, Au 0])
   refine Bo 8 (.ptr (some (h1.size, 0))) e1 H fun fr t H => ?_
   obtain ⟨h3, hx, A⟩ := A.s0 0 (AP x3) [_, _, _, _, _, _, _]
   refine DN hx H fun fr t H => ?_
   refine BK id (AQ (Ft 4 14 [(0, []), (1, []), (2, []), (3, []), (4, []), (5, []), (6, []), (8, []), (9, []), (7, [9]), (10, []), (11, []), (12, []), (13, [])] ?_))
   refine AE 1 [(18, .ptr (some (h1.size, 0)))] H fun fr H => BT 19 (Ai x3.CZ) h3 [(1, h1.size)] (g.BR) H (fun fr => .of (Dd (by kernel_rfl) (A.l1 0 0))) (fun fr H => ?_)
   refine AE 2 [(21, .bool (x3.CZ == 1))] H fun fr H => ?_
   obtain ⟨x4, ho, hm⟩ := bind_some hm
   refine BD 10 (fun fr' h' => Has fr' 33 [(1, Ab p1), (2, Ab p2), (12, vs AP p0.l_), (13, Ai (p0.l_.length : Int)), (14, Ai x1), (31, .bool x4)] ∧ HH g h' [.obj h1.size (.cells none 2 (AP x3))] F) ?_ ?_
   ·rcases BJ ho with ⟨hb, hm⟩ | ⟨hb, hm⟩
    ·replace H := H.kn 21 hb
     refine AE 1 [(22, .ptr (some (h1.size, 3)))] H fun fr H => BT 23 (.agg (AL x3.CM)) h3 [(5, h1.size), (1, h1.size)] (g.BR) H (fun fr => .of (CD (by kernel_rfl) (A.la 0 3 4))) (fun fr H => ?_)
     refine AE 2 [(24, Ab p1), (26, .ptr (some (h1.size, 3)))] H fun fr H => BT 27 (.agg (AL x3.CM)) h3 [(9, h1.size), (5, h1.size), (1, h1.size)] (g.BR) H (fun fr => .of (CD (by kernel_rfl) (A.la 0 3 4))) (fun fr H => ?_)
     have A1 := A.Fe 0 (pr := [h1.size]) (.cons 0 rfl (by simp [Ck.ids]) .nil)
     obtain ⟨x5, hx, hm⟩ := bind_some hm
     obtain ⟨v1, h5, hr, rfl, A1⟩ := G1 (av := [.agg (AL x3.CM), Ab p1]) hx A1
     replace A := A.Tu A1
     refine BT 25 (.bool x5) h5 [(9, h1.size), (5, h1.size), (1, h1.size)] (h1.size :: g.BR) H (fun fr => Steps.call (by kernel_rfl) hr) (fun fr H => ?_)
     refine AE 1 [(28, Ab p2)] H fun fr H => ?_
     obtain ⟨x6, hx, hm⟩ := bind_some hm
     obtain ⟨v1, h6, hr, rfl, A1⟩ := G1 (av := [.agg (AL x3.CM), Ab p2]) hx (A.cut 0)
     replace A := A.Ea A1
     refine BT 29 (.bool x6) h6 [(9, h1.size), (5, h1.size), (1, h1.size)] (g.BR) H (fun fr => Steps.call (by kernel_rfl) hr) (fun fr H => ?_)
     refine AE 2 [(31, .bool (!(x5 == x6)))] H fun fr H => ?_
     obtain rfl := Ah hm
     exact at_nil ⟨H.ls, A⟩
    replace H := H.kn 21 hb
    refine AE 5 [(23, .tuple []), (24, .tuple []), (27, .tuple [])] H fun fr H => Uz [(1, Ab p1), (2, Ab p2), (12, vs AP p0.l_), (13, Ai (p0.l_.length : Int)), (14, Ai x1), (21, .bool false), (25, .tuple []), (27, .tuple [])] H (fun fr => by kernel_rfl) ?_
    intro fr H
    refine AE 4 [(31, .bool false)] H fun fr H => ?_
    obtain rfl := Ah hm
    exact at_nil ⟨H.ls, A⟩
   clear A
   intro t fr h4 hK
   obtain ⟨H, A⟩ := hK
   refine BK id (AV 31 H hm (fun hb hm H => ?_) fun hb hm H => ?_)
   ·refine AD 1 (AM 1 [(6, .bool true)] H fun fr H => Ag ?_)
    replace A := A.d0
    exact nr hm fun e => Or.inr (.inl ⟨_, rfl, e, H.ls, A⟩)
   refine KX 2 id (BG 2 [(1, Ab p1), (2, Ab p2), (12, vs AP p0.l_), (13, Ai (p0.l_.length : Int)), (14, Ai (IntKind.i64.wrap (x1 + 1)))] H fun fr H => at_nil ?_)
   replace A := A.d0
   exact nx hm ⟨_, rfl, H.ls, A⟩
  refine BO (i := 0) (by kernel_rfl) ?_
  exact nr hm fun e => .inl ⟨rfl, e, H.ls, A⟩
 clear ho
 clear A
 intro e fr h7 hQ
 rcases hQ with ⟨rfl, rfl, H, A⟩ | ⟨x2, rfl, rfl, H, A⟩ | hF
 ·show AW _ _ _ _ _ _ _
  refine AD 1 (AM 1 [(6, .bool false)] H fun fr H => Ag ?_)
  obtain rfl := Ah hm
  exact ⟨.inl rfl, _, rH H, rfl, A⟩
 ·obtain rfl := Ah hm
  exact ⟨.inl rfl, _, rH H, rfl, A⟩
 exact hF.elim
def Co (p0 : Int) (p1_0 : Cp) (p2 : Int) : Option (Bool) :=
 (Ep p1_0.a_ (IntKind.u8.wrap p2) p0).bind fun x1 => some (!x1)
theorem Gs {p0 p1_0 p2 bp1 bp1_0 bp1_0_1 rp1_0_1_2 rp1_0_1_3 rp1_0_1_4 rp1_0_3 bp1_0_4 rp1_0_5 bp2 q0} (hm : Co p0 p1_0 p2 = some q0) (A : HH g h [.obj bp1 (.cells none 2 [.ptr (some (bp1_0, 0))]), .obj bp1_0 (.cells none 2 [.Aq (AK p1_0.a_), .ptr (some (bp1_0_1, 0)), Ai p1_0.CH, AG rp1_0_3 p1_0.JU.length, .map (some bp1_0_4), AG rp1_0_5 p1_0.Bs.length]), .obj bp1_0_1 (.cells none 2 (Ej 256 (AB.int .u8) p1_0.d_.Az ++ [Ai p1_0.d_.Al, AG rp1_0_1_2 p1_0.d_.Ba.length, AG rp1_0_1_3 p1_0.d_.BX.length, AG rp1_0_1_4 p1_0.d_.BV.length, .int .i32 p1_0.d_.Aj, .int .i32 p1_0.d_.BN, .bool p1_0.d_.BE])), .AO rp1_0_1_2 21 (AO (eI .i32) p1_0.d_.Ba), .AO rp1_0_1_3 4 (AO eB p1_0.d_.BX), .AO rp1_0_1_4 4 (AO eB p1_0.d_.BV), .AO rp1_0_3 5 (AO eY p1_0.JU), .obj bp1_0_4 (.map 2 (Cz (fun k : List UInt8 => .str k) (fun v : Int => .int .i32 v) p1_0.EA)), .AO rp1_0_5 63 (AO (eL (eI .i64)) p1_0.Bs), .obj bp2 (.cells none 2 [Ai p2])] F) (hc : BZ (cfg.still 46) av = [Ab p0, .ptr (some (bp1, 0)), .ptr (some (bp2, 0))] := by kernel_rfl) : ∃ v h', Bg cfg g h 46 av v h' ∧ v = .bool q0 ∧ HH g h' [.obj bp1 (.cells none 2 [.ptr (some (bp1_0, 0))]), .obj bp1_0 (.cells none 2 [.Aq (AK p1_0.a_), .ptr (some (bp1_0_1, 0)), Ai p1_0.CH, AG rp1_0_3 p1_0.JU.length, .map (some bp1_0_4), AG rp1_0_5 p1_0.Bs.length]), .obj bp1_0_1 (.cells none 2 (Ej 256 (AB.int .u8) p1_0.d_.Az ++ [Ai p1_0.d_.Al, AG rp1_0_1_2 p1_0.d_.Ba.length, AG rp1_0_1_3 p1_0.d_.BX.length, AG rp1_0_1_4 p1_0.d_.BV.length, .int .i32 p1_0.d_.Aj, .int .i32 p1_0.d_.BN, .bool p1_0.d_.BE])), .AO rp1_0_1_2 21 (AO (eI .i32) p1_0.d_.Ba), .AO rp1_0_1_3 4 (AO eB p1_0.d_.BX), .AO rp1_0_1_4 4 (AO eB p1_0.d_.BV), .AO rp1_0_3 5 (AO eY p1_0.JU), .obj bp1_0_4 (.map 2 (Cz (fun k : List UInt8 => .str k) (fun v : Int => .int .i32 v) p1_0.EA)), .AO rp1_0_5 63 (AO (eL (eI .i64)) p1_0.Bs), .obj bp2 (.cells none 2 [Ai p2])] F := by
 refine E5 14 [.tmp 4] hc ?_
 clear hc
 unfold Co at hm
 refine bg 14 [(0, Ab p0), (1, .ptr (some (bp1, 0))), (2, .ptr (some (bp2, 0)))] fun fr H => ?_
 refine AD 1 (AM 1 [] H fun fr H => AQ (EO 1 10 ?_))
 refine Io 5 0 0 A H fun fr t H => ?_
 refine Ad 2 [] 8 1 0 A H fun fr t H => ?_
 refine Io 9 9 0 A H fun fr t H => ?_
 obtain ⟨x1, hx, hm⟩ := bind_some hm
 obtain ⟨v1, h1, hr, rfl, A1⟩ := LU (av := [.Aq (AK p1_0.a_), Ab (IntKind.u8.wrap p2), Ab p0]) hx (A.cut 0)
 replace A := A.Ea A1
 refine Ap 2 [] 12 hr H fun fr t H => ?_
 refine AM 2 [(4, .bool (!x1))] H fun fr H => Ag ?_
 obtain rfl := Ah hm
 exact ⟨.inl rfl, _, rH H, rfl, A⟩
def Ei (p0 : CW) (p1 : Int) : Option (Bool) :=
 some ((p1 == p0.x_.Number) || (p0.x_.Global && (decide (p1 > p0.x_.Number))))
theorem Ji {p0 p1 q0} (hm : Ei p0 p1 = some q0) (A : HH g h [] F) (hc : BZ (cfg.still 16) av = [.Aq (AR p0), Ai p1] := by kernel_rfl) : ∃ v h', Bg cfg g h 16 av v h' ∧ v = .bool q0 ∧ HH g h' [] F := by
 refine E5 28 [.tmp 4] hc ?_
 clear hc
 unfold Ei at hm
 refine bg 28 [(0, .Aq (AR p0)), (1, Ai p1)] fun fr H => ?_
 refine AD 1 (Bw 1 [] 24 H fun fr H => BI 5 [(5, Ai p1)] 10 (Ai p0.x_.Number) h H (fun fr => .of (FK (by kernel_rfl))) fun fr t H => ?_)
 refine AE 2 [(12, .bool (p1 == p0.x_.Number))] H fun fr H => BD 15 (fun fr' h' => h = h' ∧ Has fr' 28 [(27, .bool ((p1 == p0.x_.Number) || (p0.x_.Global && (decide (p1 > p0.x_.Number)))))]) ?_ ?_
 ·cases hb : (p1 == p0.x_.Number : Bool) with
  | true =>
   replace H := H.kn 12 hb
   exact AE 15 [(27, .bool true)] H fun fr H => Am H hb
  | false =>
   replace H := H.kn 12 hb
   refine BI 4 [] 17 (.bool p0.x_.Global) h H (fun fr => .of (FK (by kernel_rfl))) fun fr t H => ?_
   refine AE 1 [(18, .bool p0.x_.Global)] H fun fr H => BD 8 (fun fr' h' => h = h' ∧ Has fr' 28 [(12, .bool false), (26, .bool (p0.x_.Global && (decide (p1 > p0.x_.Number))))]) ?_ ?_
   ·cases hb : (p0.x_.Global : Bool) with
    | true =>
     replace H := H.kn 18 hb
     refine BI 5 [(19, Ai p1)] 24 (Ai p0.x_.Number) h H (fun fr => .of (FK (by kernel_rfl))) fun fr t H => ?_
     exact AE 2 [(26, .bool (decide (p1 > p0.x_.Number)))] H fun fr H => Am H hb
    | false =>
     replace H := H.kn 18 hb
     exact AE 8 [(26, .bool false)] H fun fr H => Am H hb
   intro t fr h' hK
   obtain ⟨e, H⟩ := hK
   subst e
   exact AE 1 [(27, .bool (p0.x_.Global && (decide (p1 > p0.x_.Number))))] H fun fr H => Am H hb
 intro t fr h' hK
 obtain ⟨e, H⟩ := hK
 subst e
 refine AM 1 [(4, .bool ((p1 == p0.x_.Number) || (p0.x_.Global && (decide (p1 > p0.x_.Number)))))] H fun fr H => Ag ?_
 obtain rfl := Ah hm
 exact ⟨.inl rfl, _, rH H, rfl, A⟩
end
end Go.Av.L
