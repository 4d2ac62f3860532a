/-
 Models of functions, and that the abstract run tells them. Written by lift2.py.
-/
import Derived.Test.YtipknimgfcokeaaGreatDoorKCfg
import Derived.Test.YtipknimgfcokeaaGreatDoorK0
namespace Go.Av.L
open Go.Av Go.Lib
set_option maxRecDepth 10000
set_option linter.unusedVariables false
set_option linter.unusedSimpArgs false
variable {g : Gd} {h : AH} {F : List Ck} {av : List AB}
noncomputable section
def B5 (p0 : BA) (p1 : List UInt8) : Option (Bool × BA) :=
 (IB p0.s_ (some p0.at_) none).bind fun x1 => (Bt x1 p1).bind fun x2 => Af (!x2) (some (false, p0)) (some (true, (⟨p0.s_, IntKind.i64.wrap (p0.at_ + (p1.length : Int)), p0.GV, p0.CM⟩ : BA)))
theorem DP {p0 p1 bp0 q0 u0} (hm : B5 p0 p1 = some (q0, u0)) (A : HH g h [.obj bp0 (.cells none 2 (CL p0))] F) (hc : BZ (cfg.still 98) av = [.ptr (some (bp0, 0)), .str p1] := by kernel_rfl) : ∃ v h', Bg cfg g h 98 av v h' ∧ v = .bool q0 ∧ HH g h' [.obj bp0 (.cells none 2 (CL u0))] F := by
 refine E5 26 [.tmp 4] hc ?_
 clear hc
 unfold B5 at hm
 refine bg 26 [(0, .ptr (some (bp0, 0))), (1, .str p1)] fun fr H => ?_
 refine AD 1 (AM 1 [] H fun fr H => AQ (AQ (EO 1 12 ?_)))
 refine Ad 3 [] 8 0 0 A H fun fr t H => ?_
 refine Ad 3 [] 12 0 1 A H fun fr t H => ?_
 obtain ⟨x1, hx, hm⟩ := bind_some hm
 refine Ax 13 (.str x1) h H (fun fr => .of (Gp (k := .i64) (k' := .i64) (lo := (some p0.at_)) (hi := none) (by kernel_rfl) hx)) fun fr t H => ?_
 obtain ⟨x2, hx, hm⟩ := bind_some hm
 obtain ⟨v1, h1, hr, rfl, A1⟩ := Cc (av := [.str x1, .str p1]) hx (A.cut 0)
 replace A := A.Ea A1
 refine Ap 1 [] 15 hr H fun fr t H => ?_
 refine AM 1 [(16, .bool (!x2))] H fun fr H => AV 16 H hm (fun hb hm H => ?_) fun hb hm H => ?_
 ·refine AD 1 (AM 1 [(4, .bool false)] H fun fr H => Ag ?_)
  obtain ⟨rfl, rfl⟩ := Ds hm
  exact ⟨.inl rfl, _, rH H, rfl, A⟩
 refine Ca 10 id (Ad 3 [(17, .ptr (some (bp0, 0)))] 20 0 1 A H fun fr t H => ?_)
 obtain ⟨h2, hx, A⟩ := A.s0 1 [Ai (IntKind.i64.wrap (p0.at_ + (p1.length : Int)))] [_, _, _, _, _, _, _]
 refine C1 5 [] hx H fun fr t H => ?_
 refine CG 1 id (AM 1 [(4, .bool true)] H fun fr H => Ag ?_)
 obtain ⟨rfl, rfl⟩ := Ds hm
 exact ⟨.inl rfl, _, rH H, rfl, A⟩
def Gi (p1 : Ar) (s : Int × Int × Int × Int × Int) : Option ((Int × Int × Int × Int × Int) ⊕ ((Int × Int × Int × Int))) :=
 match s with
 | (x1, x2, x3, x4, x5) => Af (decide (x5 < 4)) ((Ff ([x1, x2, x3, x4] : List Int) x5).bind fun x10 => (Ff ([p1.w0, p1.w1, p1.w2, p1.w3] : List Int) x5).bind fun x11 => (Ff ([x1, x2, x3, x4] : List Int) x5).bind fun x12 => some (.inl ((bif x5 == 0 then Hu .u64 x10 x11 else x1), (bif (x5 - 1) == 0 then Hu .u64 x10 x11 else x2), (bif ((x5 - 1) - 1) == 0 then Hu .u64 x10 x11 else x3), (bif (((x5 - 1) - 1) - 1) == 0 then Hu .u64 x10 x11 else x4), IntKind.i64.wrap (x5 + 1)))) (some (.inr (x1, x2, x3, x4)))
def CN (p0 : Ar) (p1 : Ar) : Option (Ar) :=
 (loop (Gi p1) (p0.w0, p0.w1, p0.w2, p0.w3, (0 : Int))).bind fun (x6, x7, x8, x9) => some (⟨x6, x7, x8, x9⟩ : Ar)
theorem Cu {p0 p1 q0} (hm : CN p0 p1 = some q0) (A : HH g h [] F) (hc : BZ (cfg.still 108) av = [.agg (AL p0), .agg (AL p1)] := by kernel_rfl) : ∃ v h', Bg cfg g h 108 av v h' ∧ v = .agg (AL q0) ∧ HH g h' [] F := by
 refine E5 19 [.cell 4 92] hc ?_
 clear hc
 unfold CN at hm
 refine bg 19 [(0, .agg (AL p0)), (1, .agg (AL p1))] fun fr H => ?_
 refine AD 3 ?_
 obtain ⟨h1, e1, A⟩ := A.pu (.cells none 2 (AL p0))
 refine Bo 2 (.ptr (some (h.size, 0))) e1 H fun fr t H => ?_
 obtain ⟨h2, e2, A⟩ := A.pu (.cells none 2 (AL p1))
 refine Bo 3 (.ptr (some (h1.size, 0))) e2 H fun fr t H => ?_
 obtain ⟨h3, e3, A⟩ := A.pu (.cells none 2 [Au 0, Au 0, Au 0, Au 0])
 refine Bo 4 (.ptr (some (h2.size, 0))) e3 H fun fr t H => ?_
 refine BK id (AQ (AD 1 (AM 1 [(6, Ai 0)] H fun fr H => Ac (id := 0) (by kernel_rfl) ?_)))
 obtain ⟨o1, ho, hm⟩ := bind_some hm
 refine As (Q' := fun e fr' h' => (∃ x6 x7 x8 x9, e = .exit 0 ∧ (x6, x7, x8, x9) = o1 ∧ Has fr' 19 [(2, .ptr (some (h.size, 0))), (4, .ptr (some (h2.size, 0)))] ∧ HH g h' [.obj h2.size (.cells none 2 [Au 0, Au 0, Au 0, Au 0]), .obj h1.size (.cells none 2 (AL p1)), .obj h.size (.cells none 2 [Au x6, Au x7, Au x8, Au x9])] F) ∨ False) ?_ ?_
 ·refine B2 (by kernel_rfl) (fun (s : Int × Int × Int × Int × Int) fr' h' => ∃ x1 x2 x3 x4 x5, (x1, x2, x3, x4, x5) = s ∧ Has fr' 19 [(2, .ptr (some (h.size, 0))), (3, .ptr (some (h1.size, 0))), (4, .ptr (some (h2.size, 0))), (6, Ai x5)] ∧ HH g h' [.obj h2.size (.cells none 2 [Au 0, Au 0, Au 0, Au 0]), .obj h1.size (.cells none 2 (AL p1)), .obj h.size (.cells none 2 [Au x1, Au x2, Au x3, Au x4])] F) ho ⟨_, _, _, _, _, rfl, H.ls, A⟩ ?_
  clear ho hm H A
  intro s q fr h4 hI hm
  obtain ⟨x1, x2, x3, x4, x5, rfl, H, A⟩ := hI
  unfold Gi at hm
  refine AD 1 (AM 1 [(7, .bool (decide (x5 < 4)))] H fun fr H => AQ (AV 7 H hm (fun hb hm H => ?_) fun hb hm H => ?_))
  ·refine CE id (AQ (Ac (id := 1) (by kernel_rfl) ?_))
   refine AD 2 (AM 2 [(5, Ai x5)] H fun fr H => EO 4 9 ?_)
   obtain ⟨x10, hq1, hm⟩ := bind_some hm
   refine BI 1 [(9, Ai x5)] 10 (.ptr (some (h.size, 0 + x5.toNat * 1))) h4 H (fun fr => .of (J4 (by kernel_rfl) (IF hq1 (h.size, 0) 1 rfl))) fun fr t H => ?_
   refine Ax 11 _ _ H (fun fr => .of (Dd (by kernel_rfl) (HH.Vb A 2 rfl 0 (fun w : Int => Au w) [x1, x2, x3, x4] rfl hq1))) fun fr t H => ?_
   obtain ⟨x11, hq2, hm⟩ := bind_some hm
   refine BI 1 [] 13 (.ptr (some (h1.size, 0 + x5.toNat * 1))) h4 H (fun fr => .of (J4 (by kernel_rfl) (IF hq2 (h1.size, 0) 1 rfl))) fun fr t H => ?_
   refine Ax 14 _ _ H (fun fr => .of (Dd (by kernel_rfl) (HH.Vb A 1 rfl 0 (fun w : Int => Au w) [p1.w0, p1.w1, p1.w2, p1.w3] rfl hq2))) fun fr t H => ?_
   obtain ⟨x12, hq3, hm⟩ := bind_some hm
   refine BI 1 [(15, Au (Hu .u64 x10 x11))] 16 (.ptr (some (h.size, 0 + x5.toNat * 1))) h4 H (fun fr => .of (J4 (by kernel_rfl) (IF hq3 (h.size, 0) 1 rfl))) fun fr t H => ?_
   obtain ⟨h5, hx, A1⟩ := HH.XF A 2 rfl 0 (fun w : Int => Au w) [x1, x2, x3, x4] (Hu .u64 x10 x11) (ds := [Au (bif x5 == 0 then Hu .u64 x10 x11 else x1), Au (bif (x5 - 1) == 0 then Hu .u64 x10 x11 else x2), Au (bif ((x5 - 1) - 1) == 0 then Hu .u64 x10 x11 else x3), Au (bif (((x5 - 1) - 1) - 1) == 0 then Hu .u64 x10 x11 else x4)]) rfl hq3 rfl rfl
   replace A : HH g h5 [_, _, .obj h.size (.cells none 2 [Au (bif x5 == 0 then Hu .u64 x10 x11 else x1), Au (bif (x5 - 1) == 0 then Hu .u64 x10 x11 else x2), Au (bif ((x5 - 1) - 1) == 0 then Hu .u64 x10 x11 else x3), Au (bif (((x5 - 1) - 1) - 1) == 0 then Hu .u64 x10 x11 else x4)])] F := A1
   refine Kh hx H fun fr t H => ?_
   refine Gq 2 id (BG 2 [(2, .ptr (some (h.size, 0))), (3, .ptr (some (h1.size, 0))), (4, .ptr (some (h2.size, 0))), (6, Ai (IntKind.i64.wrap (x5 + 1)))] H fun fr H => at_nil ?_)
   exact nx hm ⟨_, _, _, _, _, rfl, H.ls, A⟩
  refine BO (i := 0) (by kernel_rfl) ?_
  exact nr hm fun e => .inl ⟨_, _, _, _, rfl, e, H.ls, A⟩
 clear ho
 clear A
 intro e fr h6 hQ
 rcases hQ with ⟨x6, x7, x8, x9, rfl, rfl, H, A⟩ | hF
 ·show AW _ _ _ _ _ _ _
  refine AD 2 (Ax 18 _ _ H (fun fr => .of (CD (by kernel_rfl) (A.GX 2 rfl (o := 0) (n := 4) ⟨Nat.le_of_ble_eq_true rfl, rfl⟩))) fun fr t H => ?_)
  obtain ⟨h7, hx, A⟩ := A.s0 0 [Au x6, Au x7, Au x8, Au x9] [_, _, _, _]
  refine DN hx H fun fr t H => ?_
  refine BK id (Ag ?_)
  obtain rfl := Ah hm
  refine ⟨.inl rfl, .agg [Au x6, Au x7, Au x8, Au x9], JA (.cell (rT H) (Bl (by kernel_rfl) (by kernel_rfl) (A.la 0 0 4)) .nil), ?_⟩
  replace A := A.d0
  exact ⟨rfl, A⟩
 exact hF.elim
def HC (p0 : List UInt8) (s : Int × Int × Int × Int × Int) : Option ((Int × Int × Int × Int × Int) ⊕ ((Int × Int × Int × Int))) :=
 match s with
 | (x1, x2, x3, x4, x5) => Af (decide (x5 < (p0.length : Int))) ((Jf p0 x5).bind fun x10 => (Eo (⟨x1, x2, x3, x4⟩ : Ar) x10).bind fun x11 => some (.inl (x11.w0, x11.w1, x11.w2, x11.w3, IntKind.i64.wrap (x5 + 1)))) (some (.inr (x1, x2, x3, x4)))
def GH (p0 : List UInt8) : Option (Ar) :=
 (loop (HC p0) ((0 : Int), (0 : Int), (0 : Int), (0 : Int), (0 : Int))).bind fun (x6, x7, x8, x9) => some (⟨x6, x7, x8, x9⟩ : Ar)
theorem Kl {p0 q0} (hm : GH p0 = some q0) (A : HH g h [] F) (hc : BZ (cfg.still 119) av = [.str p0] := by kernel_rfl) : ∃ v h', Bg cfg g h 119 av v h' ∧ v = .agg (AL q0) ∧ HH g h' [] F := by
 refine E5 16 [.cell 2 92] hc ?_
 clear hc
 unfold GH at hm
 refine bg 16 [(0, .str p0)] fun fr H => ?_
 refine AD 1 ?_
 obtain ⟨h1, e1, A⟩ := A.pu (.cells none 2 [Au 0, Au 0, Au 0, Au 0])
 refine Bo 2 (.ptr (some (h.size, 0))) e1 H fun fr t H => ?_
 refine CG 1 id ?_
 obtain ⟨h2, e2, A⟩ := A.pu (.cells none 2 [Au 0, Au 0, Au 0, Au 0])
 refine Bo 3 (.ptr (some (h1.size, 0))) e2 H fun fr t H => ?_
 refine BK id (AQ (AD 3 (AM 3 [(6, Ai (p0.length : Int)), (7, Ai 0)] H fun fr H => Ac (id := 0) (by kernel_rfl) ?_)))
 obtain ⟨o1, ho, hm⟩ := bind_some hm
 refine As (Q' := fun e fr' h' => (∃ x6 x7 x8 x9, e = .exit 0 ∧ (x6, x7, x8, x9) = o1 ∧ Has fr' 16 [(2, .ptr (some (h.size, 0))), (3, .ptr (some (h1.size, 0)))] ∧ HH g h' [.obj h1.size (.cells none 2 [Au x6, Au x7, Au x8, Au x9]), .obj h.size (.cells none 2 [Au 0, Au 0, Au 0, Au 0])] F) ∨ False) ?_ ?_
 ·refine B2 (by kernel_rfl) (fun (s : Int × Int × Int × Int × Int) fr' h' => ∃ x1 x2 x3 x4 x5, (x1, x2, x3, x4, x5) = s ∧ Has fr' 16 [(0, .str p0), (2, .ptr (some (h.size, 0))), (3, .ptr (some (h1.size, 0))), (6, Ai (p0.length : Int)), (7, Ai x5)] ∧ HH g h' [.obj h1.size (.cells none 2 [Au x1, Au x2, Au x3, Au x4]), .obj h.size (.cells none 2 [Au 0, Au 0, Au 0, Au 0])] F) ho ⟨_, _, _, _, _, rfl, H.ls, A⟩ ?_
  clear ho hm H A
  intro s q fr h3 hI hm
  obtain ⟨x1, x2, x3, x4, x5, rfl, H, A⟩ := hI
  unfold HC at hm
  refine AD 1 (AM 1 [(8, .bool (decide (x5 < (p0.length : Int))))] H fun fr H => AQ (AV 8 H hm (fun hb hm H => ?_) fun hb hm H => ?_))
  ·refine CE id (AQ (Ac (id := 1) (by kernel_rfl) ?_))
   refine AD 2 (Vt 2 [(4, Ai x5)] 4 H fun fr H => ?_)
   obtain ⟨x10, hx, hm⟩ := bind_some hm
   refine BI 2 [] 12 (Ab x10) h3 H (fun fr => .of (EL (by kernel_rfl) hx)) fun fr t H => ?_
   obtain ⟨x11, hx, hm⟩ := bind_some hm
   obtain ⟨v1, h4, hr, rfl, A1⟩ := JM (av := [.ptr (some (h1.size, 0)), Ab x10]) hx (A.cut 1)
   replace A := A.g11 A1
   refine MF hr H fun fr t H => ?_
   refine Gq 2 id (BG 2 [(0, .str p0), (2, .ptr (some (h.size, 0))), (3, .ptr (some (h1.size, 0))), (6, Ai (p0.length : Int)), (7, Ai (IntKind.i64.wrap (x5 + 1)))] H fun fr H => at_nil ?_)
   exact nx hm ⟨_, _, _, _, _, rfl, H.ls, A⟩
  refine BO (i := 0) (by kernel_rfl) ?_
  exact nr hm fun e => .inl ⟨_, _, _, _, rfl, e, H.ls, A⟩
 clear ho
 clear A
 intro e fr h5 hQ
 rcases hQ with ⟨x6, x7, x8, x9, rfl, rfl, H, A⟩ | hF
 ·show AW _ _ _ _ _ _ _
  refine AD 2 (Ax 15 _ _ H (fun fr => .of (CD (by kernel_rfl) (A.GX 0 rfl (o := 0) (n := 4) ⟨Nat.le_of_ble_eq_true rfl, rfl⟩))) fun fr t H => ?_)
  obtain ⟨h6, hx, A⟩ := A.s1 0 [Au x6, Au x7, Au x8, Au x9] [_, _, _, _]
  refine DN hx H fun fr t H => ?_
  refine BK id (Ag ?_)
  obtain rfl := Ah hm
  refine ⟨.inl rfl, .agg [Au x6, Au x7, Au x8, Au x9], JA (.cell (rT H) (Bl (by kernel_rfl) (by kernel_rfl) (A.la 1 0 4)) .nil), ?_⟩
  replace A := A.d0
  exact ⟨rfl, A⟩
 exact hF.elim
def GK (s : Int × Int × Int × Int × Int) : Option ((Int × Int × Int × Int × Int) ⊕ ((Int × Int × Int × Int))) :=
 match s with
 | (x1, x2, x3, x4, x5) => Af (decide (x5 < 4)) ((Ff ([x1, x2, x3, x4] : List Int) x5).bind fun x10 => (Ff ([x1, x2, x3, x4] : List Int) x5).bind fun x11 => some (.inl ((bif x5 == 0 then Lh .u64 x10 else x1), (bif (x5 - 1) == 0 then Lh .u64 x10 else x2), (bif ((x5 - 1) - 1) == 0 then Lh .u64 x10 else x3), (bif (((x5 - 1) - 1) - 1) == 0 then Lh .u64 x10 else x4), IntKind.i64.wrap (x5 + 1)))) (some (.inr (x1, x2, x3, x4)))
def EF (p0 : Ar) : Option (Ar) :=
 (loop (GK) (p0.w0, p0.w1, p0.w2, p0.w3, (0 : Int))).bind fun (x6, x7, x8, x9) => some (⟨x6, x7, x8, x9⟩ : Ar)
theorem Gy {p0 q0} (hm : EF p0 = some q0) (A : HH g h [] F) (hc : BZ (cfg.still 100) av = [.agg (AL p0)] := by kernel_rfl) : ∃ v h', Bg cfg g h 100 av v h' ∧ v = .agg (AL q0) ∧ HH g h' [] F := by
 refine E5 15 [.cell 2 92] hc ?_
 clear hc
 unfold EF at hm
 refine bg 15 [(0, .agg (AL p0))] fun fr H => ?_
 refine AD 2 ?_
 obtain ⟨h1, e1, A⟩ := A.pu (.cells none 2 (AL p0))
 refine Bo 1 (.ptr (some (h.size, 0))) e1 H fun fr t H => ?_
 obtain ⟨h2, e2, A⟩ := A.pu (.cells none 2 [Au 0, Au 0, Au 0, Au 0])
 refine Bo 2 (.ptr (some (h1.size, 0))) e2 H fun fr t H => ?_
 refine BK id (AQ (AD 1 (AM 1 [(4, Ai 0)] H fun fr H => Ac (id := 0) (by kernel_rfl) ?_)))
 obtain ⟨o1, ho, hm⟩ := bind_some hm
 refine As (Q' := fun e fr' h' => (∃ x6 x7 x8 x9, e = .exit 0 ∧ (x6, x7, x8, x9) = o1 ∧ Has fr' 15 [(1, .ptr (some (h.size, 0))), (2, .ptr (some (h1.size, 0)))] ∧ HH g h' [.obj h1.size (.cells none 2 [Au 0, Au 0, Au 0, Au 0]), .obj h.size (.cells none 2 [Au x6, Au x7, Au x8, Au x9])] F) ∨ False) ?_ ?_
 ·refine B2 (by kernel_rfl) (fun (s : Int × Int × Int × Int × Int) fr' h' => ∃ x1 x2 x3 x4 x5, (x1, x2, x3, x4, x5) = s ∧ Has fr' 15 [(1, .ptr (some (h.size, 0))), (2, .ptr (some (h1.size, 0))), (4, Ai x5)] ∧ HH g h' [.obj h1.size (.cells none 2 [Au 0, Au 0, Au 0, Au 0]), .obj h.size (.cells none 2 [Au x1, Au x2, Au x3, Au x4])] F) ho ⟨_, _, _, _, _, rfl, H.ls, A⟩ ?_
  clear ho hm H A
  intro s q fr h3 hI hm
  obtain ⟨x1, x2, x3, x4, x5, rfl, H, A⟩ := hI
  unfold GK at hm
  refine AD 1 (AM 1 [(5, .bool (decide (x5 < 4)))] H fun fr H => AQ (AV 5 H hm (fun hb hm H => ?_) fun hb hm H => ?_))
  ·refine CE id (AQ (Ac (id := 1) (by kernel_rfl) ?_))
   refine AD 2 (Vt 2 [(3, Ai x5)] 7 H fun fr H => ?_)
   obtain ⟨x10, hq1, hm⟩ := bind_some hm
   refine BI 2 [(7, Ai x5)] 9 (.ptr (some (h.size, 0 + x5.toNat * 1))) h3 H (fun fr => .of (J4 (by kernel_rfl) (IF hq1 (h.size, 0) 1 rfl))) fun fr t H => ?_
   refine Ax 10 _ _ H (fun fr => .of (Dd (by kernel_rfl) (HH.Vb A 1 rfl 0 (fun w : Int => Au w) [x1, x2, x3, x4] rfl hq1))) fun fr t H => ?_
   obtain ⟨x11, hq2, hm⟩ := bind_some hm
   refine BI 1 [(11, Au (Lh .u64 x10))] 12 (.ptr (some (h.size, 0 + x5.toNat * 1))) h3 H (fun fr => .of (J4 (by kernel_rfl) (IF hq2 (h.size, 0) 1 rfl))) fun fr t H => ?_
   obtain ⟨h4, hx, A1⟩ := HH.XF A 1 rfl 0 (fun w : Int => Au w) [x1, x2, x3, x4] (Lh .u64 x10) (ds := [Au (bif x5 == 0 then Lh .u64 x10 else x1), Au (bif (x5 - 1) == 0 then Lh .u64 x10 else x2), Au (bif ((x5 - 1) - 1) == 0 then Lh .u64 x10 else x3), Au (bif (((x5 - 1) - 1) - 1) == 0 then Lh .u64 x10 else x4)]) rfl hq2 rfl rfl
   replace A : HH g h4 [_, .obj h.size (.cells none 2 [Au (bif x5 == 0 then Lh .u64 x10 else x1), Au (bif (x5 - 1) == 0 then Lh .u64 x10 else x2), Au (bif ((x5 - 1) - 1) == 0 then Lh .u64 x10 else x3), Au (bif (((x5 - 1) - 1) - 1) == 0 then Lh .u64 x10 else x4)])] F := A1
   refine Kh hx H fun fr t H => ?_
   refine Gq 2 id (BG 2 [(1, .ptr (some (h.size, 0))), (2, .ptr (some (h1.size, 0))), (4, Ai (IntKind.i64.wrap (x5 + 1)))] H fun fr H => at_nil ?_)
   exact nx hm ⟨_, _, _, _, _, rfl, H.ls, A⟩
  refine BO (i := 0) (by kernel_rfl) ?_
  exact nr hm fun e => .inl ⟨_, _, _, _, rfl, e, H.ls, A⟩
 clear ho
 clear A
 intro e fr h5 hQ
 rcases hQ with ⟨x6, x7, x8, x9, rfl, rfl, H, A⟩ | hF
 ·show AW _ _ _ _ _ _ _
  refine AD 2 (Ax 14 _ _ H (fun fr => .of (CD (by kernel_rfl) (A.GX 1 rfl (o := 0) (n := 4) ⟨Nat.le_of_ble_eq_true rfl, rfl⟩))) fun fr t H => ?_)
  obtain ⟨h6, hx, A⟩ := A.s0 0 [Au x6, Au x7, Au x8, Au x9] [_, _, _, _]
  refine DN hx H fun fr t H => ?_
  refine BK id (Ag ?_)
  obtain rfl := Ah hm
  refine ⟨.inl rfl, .agg [Au x6, Au x7, Au x8, Au x9], JA (.cell (rT H) (Bl (by kernel_rfl) (by kernel_rfl) (A.la 0 0 4)) .nil), ?_⟩
  replace A := A.d0
  exact ⟨rfl, A⟩
 exact hF.elim
def GI (p1 : Ar) (s : Int × Int × Int × Int × Int) : Option ((Int × Int × Int × Int × Int) ⊕ ((Int × Int × Int × Int))) :=
 match s with
 | (x1, x2, x3, x4, x5) => Af (decide (x5 < 4)) ((Ff ([x1, x2, x3, x4] : List Int) x5).bind fun x10 => (Ff ([p1.w0, p1.w1, p1.w2, p1.w3] : List Int) x5).bind fun x11 => (Ff ([x1, x2, x3, x4] : List Int) x5).bind fun x12 => some (.inl ((bif x5 == 0 then FF .u64 x10 x11 else x1), (bif (x5 - 1) == 0 then FF .u64 x10 x11 else x2), (bif ((x5 - 1) - 1) == 0 then FF .u64 x10 x11 else x3), (bif (((x5 - 1) - 1) - 1) == 0 then FF .u64 x10 x11 else x4), IntKind.i64.wrap (x5 + 1)))) (some (.inr (x1, x2, x3, x4)))
def FP (p0 : Ar) (p1 : Ar) : Option (Ar) :=
 (loop (GI p1) (p0.w0, p0.w1, p0.w2, p0.w3, (0 : Int))).bind fun (x6, x7, x8, x9) => some (⟨x6, x7, x8, x9⟩ : Ar)
theorem MK {p0 p1 q0} (hm : FP p0 p1 = some q0) (A : HH g h [] F) (hc : BZ (cfg.still 120) av = [.agg (AL p0), .agg (AL p1)] := by kernel_rfl) : ∃ v h', Bg cfg g h 120 av v h' ∧ v = .agg (AL q0) ∧ HH g h' [] F := by
 refine E5 19 [.cell 4 92] hc ?_
 clear hc
 unfold FP at hm
 refine bg 19 [(0, .agg (AL p0)), (1, .agg (AL p1))] fun fr H => ?_
 refine AD 3 ?_
 obtain ⟨h1, e1, A⟩ := A.pu (.cells none 2 (AL p0))
 refine Bo 2 (.ptr (some (h.size, 0))) e1 H fun fr t H => ?_
 obtain ⟨h2, e2, A⟩ := A.pu (.cells none 2 (AL p1))
 refine Bo 3 (.ptr (some (h1.size, 0))) e2 H fun fr t H => ?_
 obtain ⟨h3, e3, A⟩ := A.pu (.cells none 2 [Au 0, Au 0, Au 0, Au 0])
 refine Bo 4 (.ptr (some (h2.size, 0))) e3 H fun fr t H => ?_
 refine BK id (AQ (AD 1 (AM 1 [(6, Ai 0)] H fun fr H => Ac (id := 0) (by kernel_rfl) ?_)))
 obtain ⟨o1, ho, hm⟩ := bind_some hm
 refine As (Q' := fun e fr' h' => (∃ x6 x7 x8 x9, e = .exit 0 ∧ (x6, x7, x8, x9) = o1 ∧ Has fr' 19 [(2, .ptr (some (h.size, 0))), (4, .ptr (some (h2.size, 0)))] ∧ HH g h' [.obj h2.size (.cells none 2 [Au 0, Au 0, Au 0, Au 0]), .obj h1.size (.cells none 2 (AL p1)), .obj h.size (.cells none 2 [Au x6, Au x7, Au x8, Au x9])] F) ∨ False) ?_ ?_
 ·refine B2 (by kernel_rfl) (fun (s : Int × Int × Int × Int × Int) fr' h' => ∃ x1 x2 x3 x4 x5, (x1, x2, x3, x4, x5) = s ∧ Has fr' 19 [(2, .ptr (some (h.size, 0))), (3, .ptr (some (h1.size, 0))), (4, .ptr (some (h2.size, 0))), (6, Ai x5)] ∧ HH g h' [.obj h2.size (.cells none 2 [Au 0, Au 0, Au 0, Au 0]), .obj h1.size (.cells none 2 (AL p1)), .obj h.size (.cells none 2 [Au x1, Au x2, Au x3, Au x4])] F) ho ⟨_, _, _, _, _, rfl, H.ls, A⟩ ?_
  clear ho hm H A
  intro s q fr h4 hI hm
  obtain ⟨x1, x2, x3, x4, x5, rfl, H, A⟩ := hI
  unfold GI at hm
  refine AD 1 (AM 1 [(7, .bool (decide (x5 < 4)))] H fun fr H => AQ (AV 7 H hm (fun hb hm H => ?_) fun hb hm H => ?_))
  ·refine CE id (AQ (Ac (id := 1) (by kernel_rfl) ?_))
   refine AD 2 (AM 2 [(5, Ai x5)] H fun fr H => EO 4 9 ?_)
   obtain ⟨x10, hq1, hm⟩ := bind_some hm
   refine BI 1 [(9, Ai x5)] 10 (.ptr (some (h.size, 0 + x5.toNat * 1))) h4 H (fun fr => .of (J4 (by kernel_rfl) (IF hq1 (h.size, 0) 1 rfl))) fun fr t H => ?_
   refine Ax 11 _ _ H (fun fr => .of (Dd (by kernel_rfl) (HH.Vb A 2 rfl 0 (fun w : Int => Au w) [x1, x2, x3, x4] rfl hq1))) fun fr t H => ?_
   obtain ⟨x11, hq2, hm⟩ := bind_some hm
   refine BI 1 [] 13 (.ptr (some (h1.size, 0 + x5.toNat * 1))) h4 H (fun fr => .of (J4 (by kernel_rfl) (IF hq2 (h1.size, 0) 1 rfl))) fun fr t H => ?_
   refine Ax 14 _ _ H (fun fr => .of (Dd (by kernel_rfl) (HH.Vb A 1 rfl 0 (fun w : Int => Au w) [p1.w0, p1.w1, p1.w2, p1.w3] rfl hq2))) fun fr t H => ?_
   obtain ⟨x12, hq3, hm⟩ := bind_some hm
   refine BI 1 [(15, Au (FF .u64 x10 x11))] 16 (.ptr (some (h.size, 0 + x5.toNat * 1))) h4 H (fun fr => .of (J4 (by kernel_rfl) (IF hq3 (h.size, 0) 1 rfl))) fun fr t H => ?_
   obtain ⟨h5, hx, A1⟩ := HH.XF A 2 rfl 0 (fun w : Int => Au w) [x1, x2, x3, x4] (FF .u64 x10 x11) (ds := [Au (bif x5 == 0 then FF .u64 x10 x11 else x1), Au (bif (x5 - 1) == 0 then FF .u64 x10 x11 else x2), Au (bif ((x5 - 1) - 1) == 0 then FF .u64 x10 x11 else x3), Au (bif (((x5 - 1) - 1) - 1) == 0 then FF .u64 x10 x11 else x4)]) rfl hq3 rfl rfl
   replace A : HH g h5 [_, _, .obj h.size (.cells none 2 [Au (bif x5 == 0 then FF .u64 x10 x11 else x1), Au (bif (x5 - 1) == 0 then FF .u64 x10 x11 else x2), Au (bif ((x5 - 1) - 1) == 0 then FF .u64 x10 x11 else x3), Au (bif (((x5 - 1) - 1) - 1) == 0 then FF .u64 x10 x11 else x4)])] F := A1
   refine Kh hx H fun fr t H => ?_
   refine Gq 2 id (BG 2 [(2, .ptr (some (h.size, 0))), (3, .ptr (some (h1.size, 0))), (4, .ptr (some (h2.size, 0))), (6, Ai (IntKind.i64.wrap (x5 + 1)))] H fun fr H => at_nil ?_)
   exact nx hm ⟨_, _, _, _, _, rfl, H.ls, A⟩
  refine BO (i := 0) (by kernel_rfl) ?_
  exact nr hm fun e => .inl ⟨_, _, _, _, rfl, e, H.ls, A⟩
 clear ho
 clear A
 intro e fr h6 hQ
 rcases hQ with ⟨x6, x7, x8, x9, rfl, rfl, H, A⟩ | hF
 ·show AW _ _ _ _ _ _ _
  refine AD 2 (Ax 18 _ _ H (fun fr => .of (CD (by kernel_rfl) (A.GX 2 rfl (o := 0) (n := 4) ⟨Nat.le_of_ble_eq_true rfl, rfl⟩))) fun fr t H => ?_)
  obtain ⟨h7, hx, A⟩ := A.s0 0 [Au x6, Au x7, Au x8, Au x9] [_, _, _, _]
  refine DN hx H fun fr t H => ?_
  refine BK id (Ag ?_)
  obtain rfl := Ah hm
  refine ⟨.inl rfl, .agg [Au x6, Au x7, Au x8, Au x9], JA (.cell (rT H) (Bl (by kernel_rfl) (by kernel_rfl) (A.la 0 0 4)) .nil), ?_⟩
  replace A := A.d0
  exact ⟨rfl, A⟩
 exact hF.elim
def Fz (p0 : List UInt8) : Option (Ar × Bool) :=
 (B4 (65 : Int) (90 : Int)).bind fun x1 => (B4 (97 : Int) (122 : Int)).bind fun x2 => (B4 (48 : Int) (57 : Int)).bind fun x3 => (CN x1 x2).bind fun x4 => (CN x4 x3).bind fun x5 => Af (p0 == ([97, 108, 112, 104, 97] : List UInt8)) ((CN x1 x2).bind fun x6 => some (x6, true)) (Af (p0 == ([100, 105, 103, 105, 116] : List UInt8)) (some (x3, true)) (Af (p0 == ([97, 108, 110, 117, 109] : List UInt8)) (some (x5, true)) (Af (p0 == ([117, 112, 112, 101, 114] : List UInt8)) (some (x1, true)) (Af (p0 == ([108, 111, 119, 101, 114] : List UInt8)) (some (x2, true)) (Af (p0 == ([120, 100, 105, 103, 105, 116] : List UInt8)) ((B4 (65 : Int) (70 : Int)).bind fun x7 => (CN x3 x7).bind fun x8 => (B4 (97 : Int) (102 : Int)).bind fun x9 => (CN x8 x9).bind fun x10 => some (x10, true)) (Af (p0 == ([98, 108, 97, 110, 107] : List UInt8)) ((GH ([32, 9] : List UInt8)).bind fun x11 => some (x11, true)) (Af (p0 == ([115, 112, 97, 99, 101] : List UInt8)) ((B4 (9 : Int) (13 : Int)).bind fun x12 => (GH ([32] : List UInt8)).bind fun x13 => (CN x12 x13).bind fun x14 => some (x14, true)) (Af (p0 == ([99, 110, 116, 114, 108] : List UInt8)) ((B4 (0 : Int) (31 : Int)).bind fun x15 => (GH ([127] : List UInt8)).bind fun x16 => (CN x15 x16).bind fun x17 => some (x17, true)) (Af (p0 == ([103, 114, 97, 112, 104] : List UInt8)) ((B4 (33 : Int) (126 : Int)).bind fun x18 => some (x18, true)) (Af (p0 == ([112, 114, 105, 110, 116] : List UInt8)) ((B4 (32 : Int) (126 : Int)).bind fun x19 => some (x19, true)) (Af (p0 == ([112, 117, 110, 99, 116] : List UInt8)) ((B4 (33 : Int) (126 : Int)).bind fun x20 => (EF x5).bind fun x21 => (FP x20 x21).bind fun x22 => some (x22, true)) (some ((⟨(0 : Int), (0 : Int), (0 : Int), (0 : Int)⟩ : Ar), false)))))))))))))
theorem NS {p0 q0 q1} (hm : Fz p0 = some (q0, q1)) (A : HH g h [] F) (hc : BZ (cfg.still 115) av = [.str p0] := by kernel_rfl) : ∃ v h', Bg cfg g h 115 av v h' ∧ v = .tuple [.agg (AL q0), .bool q1] ∧ HH g h' [] F := by
 refine E5 67 [.cell 2 92, .tmp 3] hc ?_
 clear hc
 unfold Fz at hm
 refine bg 67 [(0, .str p0)] fun fr H => ?_
 refine AD 2 ?_
 obtain ⟨h1, e1, A⟩ := A.pu (.cells none 2 [Au 0, Au 0, Au 0, Au 0])
 refine Bo 2 (.ptr (some (h.size, 0))) e1 H fun fr t H => ?_
 refine Bw 1 [] 9 H fun fr H => ?_
 obtain ⟨x1, hx, hm⟩ := bind_some hm
 obtain ⟨v1, h2, hr, rfl, A1⟩ := CS (av := [Ab 65, Ab 90]) hx (A.cut 0)
 replace A : HH g h2 [.obj h.size (.cells none 2 [Au (0 : Int), Au (0 : Int), Au (0 : Int), Au (0 : Int)])] F := A.Ex (n := 0) A1
 refine Be 8 hr H fun fr t H => ?_
 obtain ⟨x2, hx, hm⟩ := bind_some hm
 obtain ⟨v1, h3, hr, rfl, A1⟩ := CS (av := [Ab 97, Ab 122]) hx (A.cut 0)
 replace A := A.Ea A1
 refine Be 9 hr H fun fr t H => ?_
 obtain ⟨x3, hx, hm⟩ := bind_some hm
 obtain ⟨v1, h4, hr, rfl, A1⟩ := CS (av := [Ab 48, Ab 57]) hx (A.cut 0)
 replace A := A.Ea A1
 refine Be 10 hr H fun fr t H => ?_
 obtain ⟨h5, e2, A⟩ := A.pu (.cells none 2 [Au 0, Au 0, Au 0, Au 0])
 refine Bo 4 (.ptr (some (h4.size, 0))) e2 H fun fr t H => ?_
 obtain ⟨h6, e3, A⟩ := A.pu (.cells none 2 [Au 0, Au 0, Au 0, Au 0])
 refine Bo 5 (.ptr (some (h5.size, 0))) e3 H fun fr t H => ?_
 obtain ⟨h7, e4, A⟩ := A.pu (.cells none 2 [Au 0, Au 0, Au 0, Au 0])
 refine Bo 6 (.ptr (some (h6.size, 0))) e4 H fun fr t H => ?_
 obtain ⟨h8, hx, A1⟩ := A.st 2 rfl (o := 0) (new := (AL x1)) (ds := (AL x1)) (Nat.le_of_ble_eq_true rfl) rfl rfl
 replace A : HH g h8 [.obj h6.size (.cells none 2 [Au 0, Au 0, Au 0, Au 0]), .obj h5.size (.cells none 2 [Au 0, Au 0, Au 0, Au 0]), .obj h4.size (.cells none 2 (AL x1)), _] F := A1
 refine DN hx H fun fr t H => ?_
 obtain ⟨h9, hx, A⟩ := A.s1 0 (AL x2) [_, _, _, _]
 refine DN hx H fun fr t H => ?_
 obtain ⟨h10, hx, A⟩ := A.s0 0 (AL x3) [_, _, _, _]
 refine DN hx H fun fr t H => ?_
 refine BK id (AQ (Ft 2 7 [(0, []), (1, []), (3, []), (5, []), (2, [3, 5]), (4, [5]), (6, [])] ?_))
 refine BT 11 (.agg (AL x1)) h10 [(0, h4.size)] (g.BR) H (fun fr => .of (CD (by kernel_rfl) (A.la 2 0 4))) (fun fr H => ?_)
 refine BT 12 (.agg (AL x2)) h10 [(1, h5.size), (0, h4.size)] (g.BR) H (fun fr => .of (CD (by kernel_rfl) (A.la 1 0 4))) (fun fr H => ?_)
 refine BT 14 (.agg (AL x3)) h10 [(3, h6.size), (1, h5.size), (0, h4.size)] (g.BR) H (fun fr => .of (CD (by kernel_rfl) (A.la 0 0 4))) (fun fr H => ?_)
 obtain ⟨h11, e5, A⟩ := A.pu (.cells none 2 [Au 0, Au 0, Au 0, Au 0])
 refine BT 7 (.ptr (some (h10.size, 0))) h11 [(5, h10.size), (3, h6.size), (1, h5.size), (0, h4.size)] (g.BR) H (fun fr => .of (OQ (by kernel_rfl) (congrArg some e5.symm))) (fun fr H => ?_)
 have A1 := A.Fe 0 (pr := [h10.size, h6.size]) (.cons 0 rfl (by simp [Ck.ids]) (.cons 1 rfl (by simp [Ck.ids]) .nil))
 obtain ⟨x4, hx, hm⟩ := bind_some hm
 obtain ⟨v1, h12, hr, rfl, A1⟩ := Cu (av := [.agg (AL x1), .agg (AL x2)]) hx A1
 replace A : HH g h12 [.obj h10.size (.cells none 2 [Au (0 : Int), Au (0 : Int), Au (0 : Int), Au (0 : Int)]), _, _, _, _] F := A.QK (n := 0) A1
 refine BT 13 (.agg (AL x4)) h12 [(5, h10.size), (3, h6.size), (1, h5.size), (0, h4.size)] (h10.size :: h6.size :: g.BR) H (fun fr => Steps.call (by kernel_rfl) hr) (fun fr H => ?_)
 have A1 := A.Fe 0 (pr := [h10.size]) (.cons 0 rfl (by simp [Ck.ids]) .nil)
 obtain ⟨x5, hx, hm⟩ := bind_some hm
 obtain ⟨v1, h13, hr, rfl, A1⟩ := Cu (av := [.agg (AL x4), .agg (AL x3)]) hx A1
 replace A := A.Tu A1
 refine BT 15 (.agg (AL x5)) h13 [(5, h10.size), (3, h6.size), (1, h5.size), (0, h4.size)] (h10.size :: g.BR) H (fun fr => Steps.call (by kernel_rfl) hr) (fun fr H => ?_)
 obtain ⟨h14, hx, A⟩ := A.s0 0 (AL x5) [_, _, _, _]
 refine Gj (.tuple []) h14 [(5, h10.size), (3, h6.size), (1, h5.size), (0, h4.size)] (g.BR) H (fun fr => .of (K4 (by kernel_rfl) (I3 hx rfl))) (fun fr H => ?_)
 refine BK id (AQ (AD 1 (AM 1 [(16, .str p0)] H fun fr H => Ac (id := 0) (by kernel_rfl) ?_)))
 refine AD 2 (AM 2 [(17, .bool (p0 == ([97, 108, 112, 104, 97] : List UInt8)))] H fun fr H => AV 17 H hm (fun hb hm H => ?_) fun hb hm H => ?_)
 ·refine AD 5 (Ax 19 _ _ H (fun fr => .of (CD (by kernel_rfl) (A.GX 3 rfl (o := 0) (n := 4) ⟨Nat.le_of_ble_eq_true rfl, rfl⟩))) fun fr t H => ?_)
  refine Ax 20 _ _ H (fun fr => .of (CD (by kernel_rfl) (A.GX 2 rfl (o := 0) (n := 4) ⟨Nat.le_of_ble_eq_true rfl, rfl⟩))) fun fr t H => ?_
  obtain ⟨x6, hx, hm⟩ := bind_some hm
  obtain ⟨v1, h15, hr, rfl, A1⟩ := Cu (av := [.agg (AL x1), .agg (AL x2)]) hx (A.cut 0)
  replace A := A.Ea A1
  refine Be 21 hr H fun fr t H => ?_
  obtain ⟨h16, hx, A⟩ := A.s4 0 (AL x6) [_, _, _, _]
  refine DN hx H fun fr t H => ?_
  refine AM 1 [(3, .bool true)] H fun fr H => Ag ?_
  obtain ⟨rfl, rfl⟩ := Ds hm
  refine ⟨.inl rfl, .tuple [.agg (AL x6), .bool true], Bm (.cell (rT H) (Bl (by kernel_rfl) (by kernel_rfl) (A.la 4 0 4)) (.tmp (rT H) .nil)), ?_⟩
  replace A := A.d0
  exact ⟨rfl, A⟩
 refine AD 2 (AM 2 [(22, .bool (p0 == ([100, 105, 103, 105, 116] : List UInt8)))] H fun fr H => AV 22 H hm (fun hb hm H => ?_) fun hb hm H => ?_)
 ·refine AD 3 (Ax 24 _ _ H (fun fr => .of (CD (by kernel_rfl) (A.GX 1 rfl (o := 0) (n := 4) ⟨Nat.le_of_ble_eq_true rfl, rfl⟩))) fun fr t H => ?_)
  obtain ⟨h17, hx, A⟩ := A.s4 0 (AL x3) [_, _, _, _]
  refine DN hx H fun fr t H => ?_
  refine AM 1 [(3, .bool true)] H fun fr H => Ag ?_
  obtain ⟨rfl, rfl⟩ := Ds hm
  refine ⟨.inl rfl, .tuple [.agg (AL x3), .bool true], Bm (.cell (rT H) (Bl (by kernel_rfl) (by kernel_rfl) (A.la 4 0 4)) (.tmp (rT H) .nil)), ?_⟩
  replace A := A.d0
  exact ⟨rfl, A⟩
 refine AD 2 (AM 2 [(25, .bool (p0 == ([97, 108, 110, 117, 109] : List UInt8)))] H fun fr H => AV 25 H hm (fun hb hm H => ?_) fun hb hm H => ?_)
 ·refine AD 3 (Ax 27 _ _ H (fun fr => .of (CD (by kernel_rfl) (A.GX 0 rfl (o := 0) (n := 4) ⟨Nat.le_of_ble_eq_true rfl, rfl⟩))) fun fr t H => ?_)
  obtain ⟨h18, hx, A⟩ := A.s4 0 (AL x5) [_, _, _, _]
  refine DN hx H fun fr t H => ?_
  refine AM 1 [(3, .bool true)] H fun fr H => Ag ?_
  obtain ⟨rfl, rfl⟩ := Ds hm
  refine ⟨.inl rfl, .tuple [.agg (AL x5), .bool true], Bm (.cell (rT H) (Bl (by kernel_rfl) (by kernel_rfl) (A.la 4 0 4)) (.tmp (rT H) .nil)), ?_⟩
  replace A := A.d0
  exact ⟨rfl, A⟩
 refine AD 2 (AM 2 [(28, .bool (p0 == ([117, 112, 112, 101, 114] : List UInt8)))] H fun fr H => AV 28 H hm (fun hb hm H => ?_) fun hb hm H => ?_)
 ·refine AD 3 (Ax 30 _ _ H (fun fr => .of (CD (by kernel_rfl) (A.GX 3 rfl (o := 0) (n := 4) ⟨Nat.le_of_ble_eq_true rfl, rfl⟩))) fun fr t H => ?_)
  obtain ⟨h19, hx, A⟩ := A.s4 0 (AL x1) [_, _, _, _]
  refine DN hx H fun fr t H => ?_
  refine AM 1 [(3, .bool true)] H fun fr H => Ag ?_
  obtain ⟨rfl, rfl⟩ := Ds hm
  refine ⟨.inl rfl, .tuple [.agg (AL x1), .bool true], Bm (.cell (rT H) (Bl (by kernel_rfl) (by kernel_rfl) (A.la 4 0 4)) (.tmp (rT H) .nil)), ?_⟩
  replace A := A.d0
  exact ⟨rfl, A⟩
 refine AD 2 (AM 2 [(31, .bool (p0 == ([108, 111, 119, 101, 114] : List UInt8)))] H fun fr H => AV 31 H hm (fun hb hm H => ?_) fun hb hm H => ?_)
 ·refine AD 3 (Ax 33 _ _ H (fun fr => .of (CD (by kernel_rfl) (A.GX 2 rfl (o := 0) (n := 4) ⟨Nat.le_of_ble_eq_true rfl, rfl⟩))) fun fr t H => ?_)
  obtain ⟨h20, hx, A⟩ := A.s4 0 (AL x2) [_, _, _, _]
  refine DN hx H fun fr t H => ?_
  refine AM 1 [(3, .bool true)] H fun fr H => Ag ?_
  obtain ⟨rfl, rfl⟩ := Ds hm
  refine ⟨.inl rfl, .tuple [.agg (AL x2), .bool true], Bm (.cell (rT H) (Bl (by kernel_rfl) (by kernel_rfl) (A.la 4 0 4)) (.tmp (rT H) .nil)), ?_⟩
  replace A := A.d0
  exact ⟨rfl, A⟩
 refine AD 2 (AM 2 [(34, .bool (p0 == ([120, 100, 105, 103, 105, 116] : List UInt8)))] H fun fr H => AV 34 H hm (fun hb hm H => ?_) fun hb hm H => ?_)
 ·refine AQ (Ft 15 7 [(0, []), (1, [0]), (2, []), (3, []), (4, []), (5, []), (6, [])] ?_)
  refine BT 36 (.agg (AL x3)) h14 [(0, h6.size)] (g.BR) H (fun fr => .of (CD (by kernel_rfl) (A.la 1 0 4))) (fun fr H => ?_)
  have A1 := A.Fe 0 (pr := [h6.size]) (.cons 1 rfl (by simp [Ck.ids]) .nil)
  obtain ⟨x7, hx, hm⟩ := bind_some hm
  obtain ⟨v1, h21, hr, rfl, A1⟩ := CS (av := [Ab 65, Ab 70]) hx A1
  replace A := A.Tu A1
  refine BT 37 (.agg (AL x7)) h21 [(0, h6.size)] (h6.size :: g.BR) H (fun fr => Steps.call (by kernel_rfl) hr) (fun fr H => ?_)
  obtain ⟨x8, hx, hm⟩ := bind_some hm
  obtain ⟨v1, h22, hr, rfl, A1⟩ := Cu (av := [.agg (AL x3), .agg (AL x7)]) hx (A.cut 0)
  replace A := A.Ea A1
  refine BT 38 (.agg (AL x8)) h22 [(0, h6.size)] (g.BR) H (fun fr => Steps.call (by kernel_rfl) hr) (fun fr H => ?_)
  obtain ⟨x9, hx, hm⟩ := bind_some hm
  obtain ⟨v1, h23, hr, rfl, A1⟩ := CS (av := [Ab 97, Ab 102]) hx (A.cut 0)
  replace A := A.Ea A1
  refine BT 39 (.agg (AL x9)) h23 [(0, h6.size)] (g.BR) H (fun fr => Steps.call (by kernel_rfl) hr) (fun fr H => ?_)
  obtain ⟨x10, hx, hm⟩ := bind_some hm
  obtain ⟨v1, h24, hr, rfl, A1⟩ := Cu (av := [.agg (AL x8), .agg (AL x9)]) hx (A.cut 0)
  replace A := A.Ea A1
  refine BT 40 (.agg (AL x10)) h24 [(0, h6.size)] (g.BR) H (fun fr => Steps.call (by kernel_rfl) hr) (fun fr H => ?_)
  obtain ⟨h25, hx, A⟩ := A.s4 0 (AL x10) [_, _, _, _]
  refine Gj (.tuple []) h25 [(0, h6.size)] (g.BR) H (fun fr => .of (K4 (by kernel_rfl) (I3 hx rfl))) (fun fr H => ?_)
  refine AM 1 [(3, .bool true)] H fun fr H => Ag ?_
  obtain ⟨rfl, rfl⟩ := Ds hm
  refine ⟨.inl rfl, .tuple [.agg (AL x10), .bool true], Bm (.cell (rT H) (Bl (by kernel_rfl) (by kernel_rfl) (A.la 4 0 4)) (.tmp (rT H) .nil)), ?_⟩
  replace A := A.d0
  exact ⟨rfl, A⟩
 refine AD 2 (AM 2 [(41, .bool (p0 == ([98, 108, 97, 110, 107] : List UInt8)))] H fun fr H => AV 41 H hm (fun hb hm H => ?_) fun hb hm H => ?_)
 ·refine AD 3 ?_
  obtain ⟨x11, hx, hm⟩ := bind_some hm
  obtain ⟨v1, h26, hr, rfl, A1⟩ := Kl (av := [.str ([32, 9] : List UInt8)]) hx (A.cut 0)
  replace A := A.Ea A1
  refine Be 43 hr H fun fr t H => ?_
  obtain ⟨h27, hx, A⟩ := A.s4 0 (AL x11) [_, _, _, _]
  refine DN hx H fun fr t H => ?_
  refine AM 1 [(3, .bool true)] H fun fr H => Ag ?_
  obtain ⟨rfl, rfl⟩ := Ds hm
  refine ⟨.inl rfl, .tuple [.agg (AL x11), .bool true], Bm (.cell (rT H) (Bl (by kernel_rfl) (by kernel_rfl) (A.la 4 0 4)) (.tmp (rT H) .nil)), ?_⟩
  replace A := A.d0
  exact ⟨rfl, A⟩
 refine AD 2 (AM 2 [(44, .bool (p0 == ([115, 112, 97, 99, 101] : List UInt8)))] H fun fr H => AV 44 H hm (fun hb hm H => ?_) fun hb hm H => ?_)
 ·refine AD 5 ?_
  obtain ⟨x12, hx, hm⟩ := bind_some hm
  obtain ⟨v1, h28, hr, rfl, A1⟩ := CS (av := [Ab 9, Ab 13]) hx (A.cut 0)
  replace A := A.Ea A1
  refine Be 46 hr H fun fr t H => ?_
  obtain ⟨x13, hx, hm⟩ := bind_some hm
  obtain ⟨v1, h29, hr, rfl, A1⟩ := Kl (av := [.str ([32] : List UInt8)]) hx (A.cut 0)
  replace A := A.Ea A1
  refine Be 47 hr H fun fr t H => ?_
  obtain ⟨x14, hx, hm⟩ := bind_some hm
  obtain ⟨v1, h30, hr, rfl, A1⟩ := Cu (av := [.agg (AL x12), .agg (AL x13)]) hx (A.cut 0)
  replace A := A.Ea A1
  refine Be 48 hr H fun fr t H => ?_
  obtain ⟨h31, hx, A⟩ := A.s4 0 (AL x14) [_, _, _, _]
  refine DN hx H fun fr t H => ?_
  refine AM 1 [(3, .bool true)] H fun fr H => Ag ?_
  obtain ⟨rfl, rfl⟩ := Ds hm
  refine ⟨.inl rfl, .tuple [.agg (AL x14), .bool true], Bm (.cell (rT H) (Bl (by kernel_rfl) (by kernel_rfl) (A.la 4 0 4)) (.tmp (rT H) .nil)), ?_⟩
  replace A := A.d0
  exact ⟨rfl, A⟩
 refine AD 2 (AM 2 [(49, .bool (p0 == ([99, 110, 116, 114, 108] : List UInt8)))] H fun fr H => AV 49 H hm (fun hb hm H => ?_) fun hb hm H => ?_)
 ·refine AD 5 ?_
  obtain ⟨x15, hx, hm⟩ := bind_some hm
  obtain ⟨v1, h32, hr, rfl, A1⟩ := CS (av := [Ab 0, Ab 31]) hx (A.cut 0)
  replace A := A.Ea A1
  refine Be 51 hr H fun fr t H => ?_
  obtain ⟨x16, hx, hm⟩ := bind_some hm
  obtain ⟨v1, h33, hr, rfl, A1⟩ := Kl (av := [.str ([127] : List UInt8)]) hx (A.cut 0)
  replace A := A.Ea A1
  refine Be 52 hr H fun fr t H => ?_
  obtain ⟨x17, hx, hm⟩ := bind_some hm
  obtain ⟨v1, h34, hr, rfl, A1⟩ := Cu (av := [.agg (AL x15), .agg (AL x16)]) hx (A.cut 0)
  replace A := A.Ea A1
  refine Be 53 hr H fun fr t H => ?_
  obtain ⟨h35, hx, A⟩ := A.s4 0 (AL x17) [_, _, _, _]
  refine DN hx H fun fr t H => ?_
  refine AM 1 [(3, .bool true)] H fun fr H => Ag ?_
  obtain ⟨rfl, rfl⟩ := Ds hm
  refine ⟨.inl rfl, .tuple [.agg (AL x17), .bool true], Bm (.cell (rT H) (Bl (by kernel_rfl) (by kernel_rfl) (A.la 4 0 4)) (.tmp (rT H) .nil)), ?_⟩
  replace A := A.d0
  exact ⟨rfl, A⟩
 refine AD 2 (AM 2 [(54, .bool (p0 == ([103, 114, 97, 112, 104] : List UInt8)))] H fun fr H => AV 54 H hm (fun hb hm H => ?_) fun hb hm H => ?_)
 ·refine AD 3 ?_
  obtain ⟨x18, hx, hm⟩ := bind_some hm
  obtain ⟨v1, h36, hr, rfl, A1⟩ := CS (av := [Ab 33, Ab 126]) hx (A.cut 0)
  replace A := A.Ea A1
  refine Be 56 hr H fun fr t H => ?_
  obtain ⟨h37, hx, A⟩ := A.s4 0 (AL x18) [_, _, _, _]
  refine DN hx H fun fr t H => ?_
  refine AM 1 [(3, .bool true)] H fun fr H => Ag ?_
  obtain ⟨rfl, rfl⟩ := Ds hm
  refine ⟨.inl rfl, .tuple [.agg (AL x18), .bool true], Bm (.cell (rT H) (Bl (by kernel_rfl) (by kernel_rfl) (A.la 4 0 4)) (.tmp (rT H) .nil)), ?_⟩
  replace A := A.d0
  exact ⟨rfl, A⟩
 refine AD 2 (AM 2 [(57, .bool (p0 == ([112, 114, 105, 110, 116] : List UInt8)))] H fun fr H => AV 57 H hm (fun hb hm H => ?_) fun hb hm H => ?_)
 ·refine AD 3 ?_
  obtain ⟨x19, hx, hm⟩ := bind_some hm
  obtain ⟨v1, h38, hr, rfl, A1⟩ := CS (av := [Ab 32, Ab 126]) hx (A.cut 0)
  replace A := A.Ea A1
  refine Be 59 hr H fun fr t H => ?_
  obtain ⟨h39, hx, A⟩ := A.s4 0 (AL x19) [_, _, _, _]
  refine DN hx H fun fr t H => ?_
  refine AM 1 [(3, .bool true)] H fun fr H => Ag ?_
  obtain ⟨rfl, rfl⟩ := Ds hm
  refine ⟨.inl rfl, .tuple [.agg (AL x19), .bool true], Bm (.cell (rT H) (Bl (by kernel_rfl) (by kernel_rfl) (A.la 4 0 4)) (.tmp (rT H) .nil)), ?_⟩
  replace A := A.d0
  exact ⟨rfl, A⟩
 refine AD 2 (AM 2 [(60, .bool (p0 == ([112, 117, 110, 99, 116] : List UInt8)))] H fun fr H => AV 60 H hm (fun hb hm H => ?_) fun hb hm H => ?_)
 ·refine AQ (Ft 27 6 [(1, []), (0, [1]), (2, []), (3, []), (4, []), (5, [])] ?_)
  refine BT 63 (.agg (AL x5)) h14 [(1, h10.size)] (g.BR) H (fun fr => .of (CD (by kernel_rfl) (A.la 0 0 4))) (fun fr H => ?_)
  have A1 := A.Fe 0 (pr := [h10.size]) (.cons 0 rfl (by simp [Ck.ids]) .nil)
  obtain ⟨x20, hx, hm⟩ := bind_some hm
  obtain ⟨v1, h40, hr, rfl, A1⟩ := CS (av := [Ab 33, Ab 126]) hx A1
  replace A := A.Tu A1
  refine BT 62 (.agg (AL x20)) h40 [(1, h10.size)] (h10.size :: g.BR) H (fun fr => Steps.call (by kernel_rfl) hr) (fun fr H => ?_)
  obtain ⟨x21, hx, hm⟩ := bind_some hm
  obtain ⟨v1, h41, hr, rfl, A1⟩ := Gy (av := [.agg (AL x5)]) hx (A.cut 0)
  replace A := A.Ea A1
  refine BT 64 (.agg (AL x21)) h41 [(1, h10.size)] (g.BR) H (fun fr => Steps.call (by kernel_rfl) hr) (fun fr H => ?_)
  obtain ⟨x22, hx, hm⟩ := bind_some hm
  obtain ⟨v1, h42, hr, rfl, A1⟩ := MK (av := [.agg (AL x20), .agg (AL x21)]) hx (A.cut 0)
  replace A := A.Ea A1
  refine BT 65 (.agg (AL x22)) h42 [(1, h10.size)] (g.BR) H (fun fr => Steps.call (by kernel_rfl) hr) (fun fr H => ?_)
  obtain ⟨h43, hx, A⟩ := A.s4 0 (AL x22) [_, _, _, _]
  refine Gj (.tuple []) h43 [(1, h10.size)] (g.BR) H (fun fr => .of (K4 (by kernel_rfl) (I3 hx rfl))) (fun fr H => ?_)
  refine AM 1 [(3, .bool true)] H fun fr H => Ag ?_
  obtain ⟨rfl, rfl⟩ := Ds hm
  refine ⟨.inl rfl, .tuple [.agg (AL x22), .bool true], Bm (.cell (rT H) (Bl (by kernel_rfl) (by kernel_rfl) (A.la 4 0 4)) (.tmp (rT H) .nil)), ?_⟩
  replace A := A.d0
  exact ⟨rfl, A⟩
 refine Ca 3 id ?_
 obtain ⟨h44, hx, A⟩ := A.s4 0 [Au 0, Au 0, Au 0, Au 0] [_, _, _, _]
 refine F7 1 [] hx H fun fr t H => ?_
 refine AM 1 [(3, .bool false)] H fun fr H => Ag ?_
 obtain ⟨rfl, rfl⟩ := Ds hm
 refine ⟨.inl rfl, .tuple [.agg [Au 0, Au 0, Au 0, Au 0], .bool false], Bm (.cell (rT H) (Bl (by kernel_rfl) (by kernel_rfl) (A.la 4 0 4)) (.tmp (rT H) .nil)), ?_⟩
 replace A := A.d0
 exact ⟨rfl, A⟩
def D6 (p0 : BA) : Option (Bool × BA) :=
 (IB p0.s_ (some p0.at_) none).bind fun x1 => Cm (decide (x1.length ≤ 4294967280)) <| Af (!((Lib.cut x1 ([58, 93] : List UInt8)).2.2)) (some (false, p0)) ((Fz ((Lib.cut x1 ([58, 93] : List UInt8)).1)).bind fun (x2, x3) => (CN p0.CM x2).bind fun x4 => some (x3, (⟨p0.s_, IntKind.i64.wrap (p0.at_ + (IntKind.i64.wrap ((((Lib.cut x1 ([58, 93] : List UInt8)).1).length : Int) + 2))), p0.GV, x4⟩ : BA)))
theorem KA {p0 bp0 q0 u0} (hm : D6 p0 = some (q0, u0)) (A : HH g h [.obj bp0 (.cells none 2 (CL p0))] F) (hc : BZ (cfg.still 106) av = [.ptr (some (bp0, 0))] := by kernel_rfl) : ∃ v h', Bg cfg g h 106 av v h' ∧ v = .bool q0 ∧ HH g h' [.obj bp0 (.cells none 2 (CL u0))] F := by
 refine E5 48 [.tmp 2] hc ?_
 clear hc
 unfold D6 at hm
 refine bg 48 [(0, .ptr (some (bp0, 0)))] fun fr H => ?_
 refine AD 1 (AM 1 [] H fun fr H => AQ (EO 1 17 ?_))
 refine Ad 3 [] 11 0 0 A H fun fr t H => ?_
 refine Ad 3 [] 15 0 1 A H fun fr t H => ?_
 obtain ⟨x1, hx, hm⟩ := bind_some hm
 refine Ax 16 (.str x1) h H (fun fr => .of (Gp (k := .i64) (k' := .i64) (lo := (some p0.at_)) (hi := none) (by kernel_rfl) hx)) fun fr t H => ?_
 obtain ⟨hb, hm⟩ := BQ hm
 refine Ax 17 (.tuple [.str ((Lib.cut x1 ([58, 93] : List UInt8)).1), .str ((Lib.cut x1 ([58, 93] : List UInt8)).2.1), .bool ((Lib.cut x1 ([58, 93] : List UInt8)).2.2)]) h H (fun fr => Steps.call (by kernel_rfl) (Uj (C := cfg) (f := 114) (a := 2) (by kernel_rfl) (l := exts) rfl (by kernel_rfl) hb)) fun fr t H => ?_
 refine AM 7 [(3, .str ((Lib.cut x1 ([58, 93] : List UInt8)).1)), (5, .bool ((Lib.cut x1 ([58, 93] : List UInt8)).2.2))] H fun fr H => AQ (AD 2 (AM 2 [(22, .bool (!((Lib.cut x1 ([58, 93] : List UInt8)).2.2)))] H fun fr H => AV 22 H hm (fun hb hm H => ?_) fun hb hm H => ?_))
 ·refine AD 1 (AM 1 [(2, .bool false)] H fun fr H => Ag ?_)
  obtain ⟨rfl, rfl⟩ := Ds hm
  exact ⟨.inl rfl, _, rH H, rfl, A⟩
 refine Ca 8 id ?_
 obtain ⟨⟨x2, x3⟩, hx, hm⟩ := bind_some hm
 obtain ⟨v1, h1, hr, rfl, A1⟩ := NS (av := [.str ((Lib.cut x1 ([58, 93] : List UInt8)).1)]) hx (A.cut 0)
 replace A := A.Ea A1
 refine Ap 1 [] 25 hr H fun fr t H => ?_
 obtain ⟨h2, e1, A⟩ := A.pu (.cells none 2 [Au 0, Au 0, Au 0, Au 0])
 refine F8 3 [(26, .agg (AL x2)), (27, .bool x3)] 6 (.ptr (some (h1.size, 0))) e1 H fun fr t H => ?_
 obtain ⟨h3, hx, A⟩ := A.s0 0 (AL x2) [_, _, _, _]
 refine DN hx H fun fr t H => ?_
 refine BG 1 [(0, .ptr (some (bp0, 0))), (3, .str ((Lib.cut x1 ([58, 93] : List UInt8)).1)), (5, .bool x3), (6, .ptr (some (h1.size, 0)))] H fun fr H => BK id (AQ (EO 5 10 ?_))
 refine BI 4 [(28, .ptr (some (bp0, 0)))] 32 _ _ H (fun fr => .of (CD (by kernel_rfl) (A.GX 1 rfl (o := 3) (n := 4) ⟨Nat.le_of_ble_eq_true rfl, rfl⟩))) fun fr t H => ?_
 refine Ax 33 _ _ H (fun fr => .of (CD (by kernel_rfl) (A.GX 0 rfl (o := 0) (n := 4) ⟨Nat.le_of_ble_eq_true rfl, rfl⟩))) fun fr t H => ?_
 obtain ⟨x4, hx, hm⟩ := bind_some hm
 obtain ⟨v1, h4, hr, rfl, A1⟩ := Cu (av := [.agg (AL p0.CM), .agg (AL x2)]) hx (A.cut 0)
 replace A := A.Ea A1
 refine Be 34 hr H fun fr t H => ?_
 obtain ⟨h5, hx, A⟩ := A.s1 3 (AL x4) [_, _, _, _, _, _, _]
 refine F7 2 [] hx H fun fr t H => ?_
 refine CG 11 id (Ad 3 [(37, .ptr (some (bp0, 0)))] 40 1 1 A H fun fr t H => ?_)
 obtain ⟨h6, hx, A⟩ := A.s1 1 [Ai (IntKind.i64.wrap (p0.at_ + (IntKind.i64.wrap ((((Lib.cut x1 ([58, 93] : List UInt8)).1).length : Int) + 2))))] [_, _, _, _, _, _, _]
 refine C1 6 [] hx H fun fr t H => ?_
 refine CG 2 id (AM 2 [(2, .bool x3)] H fun fr H => Ag ?_)
 obtain ⟨rfl, rfl⟩ := Ds hm
 refine ⟨.inl rfl, .bool x3, rH H, ?_⟩
 replace A := A.k1 1
 exact ⟨rfl, A⟩
def DC (p0 : BA) (p1 : List UInt8) : Option (Int × Bool × BA) :=
 (Af (decide ((IntKind.i64.wrap (p0.at_ + 3)) > (p0.s_.length : Int))) (some true) ((IB p0.s_ (some (IntKind.i64.wrap (p0.at_ + 1))) (some (IntKind.i64.wrap (p0.at_ + 3)))).bind fun x2 => some (!(x2 == p1))) : Option (Bool)).bind fun x1 => Af x1 (some ((0 : Int), false, p0)) ((Jf p0.s_ p0.at_).bind fun x3 => some (x3, true, (⟨p0.s_, IntKind.i64.wrap (p0.at_ + 3), p0.GV, p0.CM⟩ : BA)))
theorem Gn {p0 p1 bp0 q0 q1 u0} (hm : DC p0 p1 = some (q0, q1, u0)) (A : HH g h [.obj bp0 (.cells none 2 (CL p0))] F) (hc : BZ (cfg.still 107) av = [.ptr (some (bp0, 0)), .str p1] := by kernel_rfl) : ∃ v h', Bg cfg g h 107 av v h' ∧ v = .tuple [Ab q0, .bool q1] ∧ HH g h' [.obj bp0 (.cells none 2 (CL u0))] F := by
 refine E5 54 [.tmp 4, .tmp 5] hc ?_
 clear hc
 unfold DC at hm
 refine bg 54 [(0, .ptr (some (bp0, 0))), (1, .str p1)] fun fr H => ?_
 refine AD 2 (AM 2 [] H fun fr H => AQ (AQ (EO 1 30 ?_)))
 refine Ad 3 [] 10 0 1 A H fun fr t H => ?_
 refine Ad 4 [(11, Ai (IntKind.i64.wrap (p0.at_ + 3)))] 15 0 0 A H fun fr t H => ?_
 refine AE 3 [(18, .bool (decide ((IntKind.i64.wrap (p0.at_ + 3)) > (p0.s_.length : Int))))] H fun fr H => ?_
 obtain ⟨x1, ho, hm⟩ := bind_some hm
 refine BD 18 (fun fr' h' => Has fr' 54 [(0, .ptr (some (bp0, 0))), (36, .bool x1)] ∧ HH g h' [.obj bp0 (.cells none 2 (CL p0))] F) ?_ ?_
 ·rcases BJ ho with ⟨hb, hm⟩ | ⟨hb, hm⟩
  ·replace H := H.kn 18 hb
   refine AE 18 [(36, .bool true)] H fun fr H => ?_
   obtain rfl := Ah hm
   exact at_nil ⟨H.ls, A⟩
  replace H := H.kn 18 hb
  refine Ad 3 [] 22 0 0 A H fun fr t H => ?_
  refine Ad 3 [] 26 0 1 A H fun fr t H => ?_
  refine Ad 4 [(27, Ai (IntKind.i64.wrap (p0.at_ + 1)))] 31 0 1 A H fun fr t H => ?_
  obtain ⟨x2, hx, hm⟩ := bind_some hm
  refine BI 1 [] 33 (.str x2) h H (fun fr => .of (Gp (k := .i64) (k' := .i64) (lo := (some (IntKind.i64.wrap (p0.at_ + 1)))) (hi := (some (IntKind.i64.wrap (p0.at_ + 3)))) (by kernel_rfl) hx)) fun fr t H => ?_
  refine AE 3 [(36, .bool (!(x2 == p1)))] H fun fr H => ?_
  obtain rfl := Ah hm
  exact at_nil ⟨H.ls, A⟩
 clear A
 intro t fr h1 hK
 obtain ⟨H, A⟩ := hK
 refine BK id (AV 36 H hm (fun hb hm H => ?_) fun hb hm H => ?_)
 ·refine AD 2 (AM 2 [(4, Ab 0), (5, .bool false)] H fun fr H => Ag ?_)
  obtain ⟨rfl, rfl, rfl⟩ := DR hm
  exact ⟨.inl rfl, _, rH H, rfl, A⟩
 refine CE id (AQ (EO 3 10 ?_))
 refine Ad 3 [] 40 0 0 A H fun fr t H => ?_
 refine Ad 3 [] 44 0 1 A H fun fr t H => ?_
 obtain ⟨x3, hx, hm⟩ := bind_some hm
 refine Ax 45 (Ab x3) h1 H (fun fr => .of (EL (by kernel_rfl) hx)) fun fr t H => ?_
 refine Bw 1 [(6, Ab x3)] 8 H fun fr H => Ad 3 [(46, .ptr (some (bp0, 0)))] 49 0 1 A H fun fr t H => ?_
 obtain ⟨h2, hx, A⟩ := A.s0 1 [Ai (IntKind.i64.wrap (p0.at_ + 3))] [_, _, _, _, _, _, _]
 refine C1 3 [] hx H fun fr t H => ?_
 refine CG 3 id (AM 3 [(4, Ab x3), (5, .bool true)] H fun fr H => Ag ?_)
 obtain ⟨rfl, rfl, rfl⟩ := DR hm
 exact ⟨.inl rfl, _, rH H, rfl, A⟩
def Dj (p0 : BA) : Option (Int × Bool × BA) :=
 (B5 p0 ([91, 46] : List UInt8)).bind fun (x1, x2) => Af x1 ((DC x2 ([46, 93] : List UInt8)).bind fun (x3, x4, x5) => some (x3, x4, x5)) ((Af x2.GV ((B5 x2 ([92] : List UInt8)).bind fun (x13, x14) => some (x14.s_, x14.at_, x14.GV, x14.CM.w0, x14.CM.w1, x14.CM.w2, x14.CM.w3)) (some (x2.s_, x2.at_, x2.GV, x2.CM.w0, x2.CM.w1, x2.CM.w2, x2.CM.w3)) : Option (((List UInt8) × Int × Bool × Int × Int × Int × Int))).bind fun (x6, x7, x8, x9, x10, x11, x12) => Af (decide (x7 ≥ (x6.length : Int))) (some ((0 : Int), false, (⟨x6, x7, x8, (⟨x9, x10, x11, x12⟩ : Ar)⟩ : BA))) ((Jf x6 (IntKind.i64.wrap ((IntKind.i64.wrap (x7 + 1)) - 1))).bind fun x15 => some (x15, true, (⟨x6, IntKind.i64.wrap (x7 + 1), x8, (⟨x9, x10, x11, x12⟩ : Ar)⟩ : BA))))
theorem HL {p0 bp0 q0 q1 u0} (hm : Dj p0 = some (q0, q1, u0)) (A : HH g h [.obj bp0 (.cells none 2 (CL p0))] F) (hc : BZ (cfg.still 109) av = [.ptr (some (bp0, 0))] := by kernel_rfl) : ∃ v h', Bg cfg g h 109 av v h' ∧ v = .tuple [Ab q0, .bool q1] ∧ HH g h' [.obj bp0 (.cells none 2 (CL u0))] F := by
 refine E5 43 [.tmp 2, .tmp 3] hc ?_
 clear hc
 unfold Dj at hm
 refine bg 43 [(0, .ptr (some (bp0, 0)))] fun fr H => ?_
 refine AD 2 (AM 2 [] H fun fr H => AQ (AD 2 ?_))
 obtain ⟨⟨x1, x2⟩, hx, hm⟩ := bind_some hm
 obtain ⟨v1, h1, hr, rfl, A1⟩ := DP (av := [.ptr (some (bp0, 0)), .str ([91, 46] : List UInt8)]) hx (A.cut 1)
 replace A := A.g11 A1
 refine Ap 1 [] 5 hr H fun fr t H => ?_
 refine BK id (AV 5 H hm (fun hb hm H => ?_) fun hb hm H => ?_)
 ·refine AD 6 ?_
  obtain ⟨⟨x3, x4, x5⟩, hx, hm⟩ := bind_some hm
  obtain ⟨v1, h2, hr, rfl, A1⟩ := Gn (av := [.ptr (some (bp0, 0)), .str ([46, 93] : List UInt8)]) hx (A.cut 1)
  replace A := A.g11 A1
  refine Ap 1 [] 7 hr H fun fr t H => ?_
  refine AM 4 [(2, Ab x3), (3, .bool x4)] H fun fr H => Ag ?_
  obtain ⟨rfl, rfl, rfl⟩ := DR hm
  exact ⟨.inl rfl, _, rH H, rfl, A⟩
 refine CE id (AQ ?_)
 obtain ⟨o1, ho, hm⟩ := bind_some hm
 refine As (Q' := fun e fr' h' => (∃ x6 x7 x8 x9 x10 x11 x12, e = .normal ∧ (x6, x7, x8, x9, x10, x11, x12) = o1 ∧ Has fr' 43 [(0, .ptr (some (bp0, 0)))] ∧ HH g h' [.obj bp0 (.cells none 2 [.str x6, Ai x7, .bool x8, Au x9, Au x10, Au x11, Au x12])] F) ∨ False) ?_ ?_
 ·replace hm := ho
  clear ho
  refine AD 4 (Ad 3 [] 13 0 2 A H fun fr t H => ?_)
  refine BK id (AV 13 H hm (fun hb hm H => ?_) fun hb hm H => ?_)
  ·refine Bd 2 ?_
   obtain ⟨⟨x13, x14⟩, hx, hm⟩ := bind_some hm
   obtain ⟨v1, h3, hr, rfl, A1⟩ := DP (av := [.ptr (some (bp0, 0)), .str ([92] : List UInt8)]) hx (A.cut 1)
   replace A := A.g11 A1
   refine LS 1 [] hr H fun fr t H => ?_
   refine at_nil ?_
   exact .inl ⟨_, _, _, _, _, _, _, rfl, Ah hm, H.ls, A⟩
  exact By (.inl ⟨_, _, _, _, _, _, _, rfl, Ah hm, H.ls, A⟩)
 clear ho
 clear A
 intro e fr h4 hQ
 rcases hQ with ⟨x6, x7, x8, x9, x10, x11, x12, rfl, rfl, H, A⟩ | hF
 ·show AW _ _ _ _ _ _ _
  refine AQ (AQ (EO 5 10 ?_))
  refine Ad 3 [] 19 0 1 A H fun fr t H => ?_
  refine Ad 3 [] 23 0 0 A H fun fr t H => ?_
  refine AM 2 [(25, .bool (decide (x7 ≥ (x6.length : Int))))] H fun fr H => AV 25 H hm (fun hb hm H => ?_) fun hb hm H => ?_
  ·refine AD 2 (AM 2 [(2, Ab 0), (3, .bool false)] H fun fr H => Ag ?_)
   obtain ⟨rfl, rfl, rfl⟩ := DR hm
   exact ⟨.inl rfl, _, rH H, rfl, A⟩
  refine Ca 8 id (Ad 3 [(26, .ptr (some (bp0, 0)))] 29 0 1 A H fun fr t H => ?_)
  obtain ⟨h5, hx, A⟩ := A.s0 1 [Ai (IntKind.i64.wrap (x7 + 1))] [_, _, _, _, _, _, _]
  refine C1 3 [] hx H fun fr t H => ?_
  refine BK id (AQ (EO 8 12 ?_))
  refine Ad 3 [] 36 0 0 A H fun fr t H => ?_
  refine Ad 3 [] 40 0 1 A H fun fr t H => ?_
  obtain ⟨x15, hx, hm⟩ := bind_some hm
  refine BI 1 [] 42 (Ab x15) h5 H (fun fr => .of (EL (by kernel_rfl) hx)) fun fr t H => ?_
  refine AM 2 [(2, Ab x15), (3, .bool true)] H fun fr H => Ag ?_
  obtain ⟨rfl, rfl, rfl⟩ := DR hm
  exact ⟨.inl rfl, _, rH H, rfl, A⟩
 exact hF.elim
def EJ (p0 : BA) : Option (Bool × BA) :=
 (B5 p0 ([91, 58] : List UInt8)).bind fun (x1, x2) => Af x1 ((D6 x2).bind fun (x3, x4) => some (x3, x4)) ((B5 x2 ([91, 61] : List UInt8)).bind fun (x5, x6) => Af x5 ((DC x6 ([61, 93] : List UInt8)).bind fun (x7, x8, x9) => (B4 x7 x7).bind fun x10 => (CN x9.CM x10).bind fun x11 => some (x8, (⟨x9.s_, x9.at_, x9.GV, x11⟩ : BA))) ((Dj x6).bind fun (x12, x13, x14) => Af (!x13) (some (false, x14)) (((IB x14.s_ (some x14.at_) none).bind fun x31 => (Bt x31 ([45] : List UInt8)).bind fun x32 => (Af x32 ((Bt x31 ([45, 93] : List UInt8)).bind fun x34 => some (!x34)) (some false) : Option (Bool)).bind fun x33 => Af x33 ((IB x31 (some (1 : Int)) none).bind fun x35 => (Bt x35 ([91, 58] : List UInt8)).bind fun x36 => (Af x36 (some true) ((Bt x35 ([91, 61] : List UInt8)).bind fun x38 => some x38) : Option (Bool)).bind fun x37 => Af x37 (some (.inr (x14.s_, IntKind.i64.wrap (x14.at_ + 1), x14.GV, x14.CM.w0, x14.CM.w1, x14.CM.w2, x14.CM.w3, false))) ((Dj (⟨x14.s_, IntKind.i64.wrap (x14.at_ + 1), x14.GV, x14.CM⟩ : BA)).bind fun (x39, x40, x41) => Af ((!x40) || (decide (x39 < x12))) (some (.inr (x41.s_, x41.at_, x41.GV, x41.CM.w0, x41.CM.w1, x41.CM.w2, x41.CM.w3, false))) (some (.inl (x41.s_, x41.at_, x41.GV, x41.CM.w0, x41.CM.w1, x41.CM.w2, x41.CM.w3, x39))))) (some (.inl (x14.s_, x14.at_, x14.GV, x14.CM.w0, x14.CM.w1, x14.CM.w2, x14.CM.w3, x12))) : Option (((List UInt8) × Int × Bool × Int × Int × Int × Int × Int) ⊕ ((List UInt8) × Int × Bool × Int × Int × Int × Int × Bool))).bind fun o1 => (match o1 with | .inl (x15, x16, x17, x18, x19, x20, x21, x22) => (B4 x12 x22).bind fun x42 => (CN (⟨x18, x19, x20, x21⟩ : Ar) x42).bind fun x43 => some (true, (⟨x15, x16, x17, x43⟩ : BA)) | .inr (x23, x24, x25, x26, x27, x28, x29, x30) => some (x30, (⟨x23, x24, x25, (⟨x26, x27, x28, x29⟩ : Ar)⟩ : BA))))))
theorem Kr {p0 bp0 q0 u0} (hm : EJ p0 = some (q0, u0)) (A : HH g h [.obj bp0 (.cells none 2 (CL p0))] F) (hc : BZ (cfg.still 99) av = [.ptr (some (bp0, 0))] := by kernel_rfl) : ∃ v h', Bg cfg g h 99 av v h' ∧ v = .bool q0 ∧ HH g h' [.obj bp0 (.cells none 2 (CL u0))] F := by
 refine E5 94 [.tmp 2] hc ?_
 clear hc
 unfold EJ at hm
 refine bg 94 [(0, .ptr (some (bp0, 0)))] fun fr H => ?_
 refine AD 1 (AM 1 [] H fun fr H => AQ (AD 2 ?_))
 obtain ⟨⟨x1, x2⟩, hx, hm⟩ := bind_some hm
 obtain ⟨v1, h1, hr, rfl, A1⟩ := DP (av := [.ptr (some (bp0, 0)), .str ([91, 58] : List UInt8)]) hx (A.cut 1)
 replace A := A.g11 A1
 refine Ap 1 [] 10 hr H fun fr t H => ?_
 refine BK id (AV 10 H hm (fun hb hm H => ?_) fun hb hm H => ?_)
 ·refine AD 3 ?_
  obtain ⟨⟨x3, x4⟩, hx, hm⟩ := bind_some hm
  obtain ⟨v1, h2, hr, rfl, A1⟩ := KA (av := [.ptr (some (bp0, 0))]) hx (A.cut 1)
  replace A := A.g11 A1
  refine Ap 1 [] 12 hr H fun fr t H => ?_
  refine AM 1 [(2, .bool x3)] H fun fr H => Ag ?_
  obtain ⟨rfl, rfl⟩ := Ds hm
  exact ⟨.inl rfl, _, rH H, rfl, A⟩
 refine CE id (AQ (AD 2 ?_))
 obtain ⟨⟨x5, x6⟩, hx, hm⟩ := bind_some hm
 obtain ⟨v1, h3, hr, rfl, A1⟩ := DP (av := [.ptr (some (bp0, 0)), .str ([91, 61] : List UInt8)]) hx (A.cut 1)
 replace A := A.g11 A1
 refine Ap 1 [] 14 hr H fun fr t H => ?_
 refine BK id (AV 14 H hm (fun hb hm H => ?_) fun hb hm H => ?_)
 ·refine AD 7 ?_
  obtain ⟨⟨x7, x8, x9⟩, hx, hm⟩ := bind_some hm
  obtain ⟨v1, h4, hr, rfl, A1⟩ := Gn (av := [.ptr (some (bp0, 0)), .str ([61, 93] : List UInt8)]) hx (A.cut 1)
  replace A := A.g11 A1
  refine Ap 1 [] 17 hr H fun fr t H => ?_
  refine AM 5 [(3, Ab x7), (4, .bool x8)] H fun fr H => AQ (Ft 5 12 [(0, []), (1, []), (2, []), (3, []), (4, []), (5, []), (6, []), (7, [4]), (8, []), (9, []), (10, []), (11, [])] ?_)
  refine AE 4 [(20, .ptr (some (bp0, 0))), (23, .ptr (some (bp0, 3)))] H fun fr H => BT 24 (.agg (AL x9.CM)) h4 [(4, bp0)] (g.BR) H (fun fr => .of (CD (by kernel_rfl) (A.la 0 3 4))) (fun fr H => ?_)
  refine AE 2 [(25, Ab x7), (26, Ab x7)] H fun fr H => ?_
  have A1 := A.Fe 0 (pr := [bp0]) (.cons 0 rfl (by simp [Ck.ids]) .nil)
  obtain ⟨x10, hx, hm⟩ := bind_some hm
  obtain ⟨v1, h5, hr, rfl, A1⟩ := CS (av := [Ab x7, Ab x7]) hx A1
  replace A := A.Tu A1
  refine BT 27 (.agg (AL x10)) h5 [(4, bp0)] (bp0 :: g.BR) H (fun fr => Steps.call (by kernel_rfl) hr) (fun fr H => ?_)
  obtain ⟨x11, hx, hm⟩ := bind_some hm
  obtain ⟨v1, h6, hr, rfl, A1⟩ := Cu (av := [.agg (AL x9.CM), .agg (AL x10)]) hx (A.cut 0)
  replace A := A.Ea A1
  refine BT 28 (.agg (AL x11)) h6 [(4, bp0)] (g.BR) H (fun fr => Steps.call (by kernel_rfl) hr) (fun fr H => ?_)
  refine AE 2 [(30, .ptr (some (bp0, 3)))] H fun fr H => ?_
  obtain ⟨h7, hx, A⟩ := A.s0 3 (AL x11) [_, _, _, _, _, _, _]
  refine Gj (.tuple []) h7 [(4, bp0)] (g.BR) H (fun fr => .of (K4 (by kernel_rfl) (I3 hx rfl))) (fun fr H => ?_)
  refine CG 2 id (AM 2 [(2, .bool x8)] H fun fr H => Ag ?_)
  obtain ⟨rfl, rfl⟩ := Ds hm
  exact ⟨.inl rfl, _, rH H, rfl, A⟩
 refine Ca 7 id ?_
 obtain ⟨⟨x12, x13, x14⟩, hx, hm⟩ := bind_some hm
 obtain ⟨v1, h8, hr, rfl, A1⟩ := HL (av := [.ptr (some (bp0, 0))]) hx (A.cut 1)
 replace A := A.g11 A1
 refine Ap 1 [] 34 hr H fun fr t H => ?_
 refine AM 5 [(5, Ab x12), (6, .bool x13)] H fun fr H => AQ (AD 2 (AM 2 [(38, .bool (!x13))] H fun fr H => AV 38 H hm (fun hb hm H => ?_) fun hb hm H => ?_))
 ·refine AD 1 (AM 1 [(2, .bool false)] H fun fr H => Ag ?_)
  obtain ⟨rfl, rfl⟩ := Ds hm
  exact ⟨.inl rfl, _, rH H, rfl, A⟩
 refine Ca 2 id (AM 2 [(7, Ab x12)] H fun fr H => AQ ?_)
 obtain ⟨o1, ho, hm⟩ := bind_some hm
 refine As (Q' := fun e fr' h' => (∃ x15 x16 x17 x18 x19 x20 x21 x22, e = .normal ∧ .inl (x15, x16, x17, x18, x19, x20, x21, x22) = o1 ∧ Has fr' 94 [(0, .ptr (some (bp0, 0))), (5, Ab x12), (7, Ab x22)] ∧ HH g h' [.obj bp0 (.cells none 2 [.str x15, Ai x16, .bool x17, Au x18, Au x19, Au x20, Au x21])] F) ∨ (∃ x23 x24 x25 x26 x27 x28 x29 x30, e = .ret ∧ .inr (x23, x24, x25, x26, x27, x28, x29, x30) = o1 ∧ Has fr' 94 [(2, .bool x30)] ∧ HH g h' [.obj bp0 (.cells none 2 [.str x23, Ai x24, .bool x25, Au x26, Au x27, Au x28, Au x29])] F) ∨ False) ?_ ?_
 ·replace hm := ho
  clear ho
  refine AQ (EO 11 10 ?_)
  refine Ad 3 [] 43 0 0 A H fun fr t H => ?_
  refine Ad 3 [] 47 0 1 A H fun fr t H => ?_
  obtain ⟨x31, hx, hm⟩ := bind_some hm
  refine Ax 48 (.str x31) h8 H (fun fr => .of (Gp (k := .i64) (k' := .i64) (lo := (some x14.at_)) (hi := none) (by kernel_rfl) hx)) fun fr t H => ?_
  refine Bw 1 [(8, .str x31)] 7 H fun fr H => ?_
  obtain ⟨x32, hx, hm⟩ := bind_some hm
  obtain ⟨v1, h9, hr, rfl, A1⟩ := Cc (av := [.str x31, .str ([45] : List UInt8)]) hx (A.cut 0)
  replace A := A.Ea A1
  refine Ap 1 [] 50 hr H fun fr t H => ?_
  refine AE 1 [(51, .bool x32)] H fun fr H => ?_
  obtain ⟨x33, ho, hm⟩ := bind_some hm
  refine BD 4 (fun fr' h' => Has fr' 94 [(0, .ptr (some (bp0, 0))), (5, Ab x12), (7, Ab x12), (8, .str x31), (55, .bool x33)] ∧ HH g h' [.obj bp0 (.cells none 2 (CL x14))] F) ?_ ?_
  ·rcases BJ ho with ⟨hb, hm⟩ | ⟨hb, hm⟩
   ·replace H := H.kn 51 hb
    obtain ⟨x34, hx, hm⟩ := bind_some hm
    obtain ⟨v1, h11, hr, rfl, A1⟩ := Cc (av := [.str x31, .str ([45, 93] : List UInt8)]) hx (A.cut 0)
    replace A := A.Ea A1
    refine Ap 1 [] 53 hr H fun fr t H => ?_
    refine AE 2 [(55, .bool (!x34))] H fun fr H => ?_
    obtain rfl := Ah hm
    exact at_nil ⟨H.ls, A⟩
   replace H := H.kn 51 hb
   refine AE 4 [(55, .bool false)] H fun fr H => ?_
   obtain rfl := Ah hm
   exact at_nil ⟨H.ls, A⟩
  clear A
  intro t fr h10 hK
  obtain ⟨H, A⟩ := hK
  refine BK id (AV 55 H hm (fun hb hm H => ?_) fun hb hm H => ?_)
  ·refine AD 8 (Ad 3 [(56, .ptr (some (bp0, 0)))] 59 0 1 A H fun fr t H => ?_)
   obtain ⟨h12, hx, A⟩ := A.s0 1 [Ai (IntKind.i64.wrap (x14.at_ + 1))] [_, _, _, _, _, _, _]
   refine C1 3 [] hx H fun fr t H => ?_
   refine BK id (AQ (AD 3 ?_))
   obtain ⟨x35, hx, hm⟩ := bind_some hm
   refine BI 1 [] 64 (.str x35) h12 H (fun fr => .of (Gp (k := .i64) (k' := .i64) (lo := (some (1 : Int))) (hi := none) (by kernel_rfl) hx)) fun fr t H => ?_
   refine BG 1 [(0, .ptr (some (bp0, 0))), (5, Ab x12), (8, .str x35)] H fun fr H => CG 6 id ?_
   obtain ⟨x36, hx, hm⟩ := bind_some hm
   obtain ⟨v1, h13, hr, rfl, A1⟩ := Cc (av := [.str x35, .str ([91, 58] : List UInt8)]) hx (A.cut 0)
   replace A := A.Ea A1
   refine Ap 1 [] 66 hr H fun fr t H => ?_
   refine AE 1 [(67, .bool x36)] H fun fr H => ?_
   obtain ⟨x37, ho, hm⟩ := bind_some hm
   refine BD 3 (fun fr' h' => Has fr' 94 [(0, .ptr (some (bp0, 0))), (5, Ab x12), (70, .bool x37)] ∧ HH g h' [.obj bp0 (.cells none 2 (Ma x14 (Ai (IntKind.i64.wrap (x14.at_ + 1)))))] F) ?_ ?_
   ·rcases BJ ho with ⟨hb, hm⟩ | ⟨hb, hm⟩
    ·replace H := H.kn 67 hb
     refine AE 3 [(70, .bool true)] H fun fr H => ?_
     obtain rfl := Ah hm
     exact at_nil ⟨H.ls, A⟩
    replace H := H.kn 67 hb
    obtain ⟨x38, hx, hm⟩ := bind_some hm
    obtain ⟨v1, h15, hr, rfl, A1⟩ := Cc (av := [.str x35, .str ([91, 61] : List UInt8)]) hx (A.cut 0)
    replace A := A.Ea A1
    refine Ap 1 [] 69 hr H fun fr t H => ?_
    refine AE 1 [(70, .bool x38)] H fun fr H => ?_
    obtain rfl := Ah hm
    exact at_nil ⟨H.ls, A⟩
   clear A
   intro t fr h14 hK
   obtain ⟨H, A⟩ := hK
   refine BK id (AV 70 H hm (fun hb hm H => ?_) fun hb hm H => ?_)
   ·refine AD 1 (AM 1 [(2, .bool false)] H fun fr H => Ag ?_)
    exact .inr (.inl ⟨_, _, _, _, _, _, _, _, rfl, Ah hm, H.ls, A⟩)
   refine Ca 7 id ?_
   obtain ⟨⟨x39, x40, x41⟩, hx, hm⟩ := bind_some hm
   obtain ⟨v1, h16, hr, rfl, A1⟩ := HL (av := [.ptr (some (bp0, 0))]) hx (A.cut 1)
   replace A := A.g11 A1
   refine Ap 1 [] 73 hr H fun fr t H => ?_
   refine Bw 5 [(6, .bool x40), (7, Ab x39)] 7 H fun fr H => AE 3 [(78, .bool (!x40))] H fun fr H => BD 4 (fun fr' h' => h16 = h' ∧ Has fr' 94 [(0, .ptr (some (bp0, 0))), (5, Ab x12), (7, Ab x39), (82, .bool ((!x40) || (decide (x39 < x12))))]) ?_ ?_
   ·cases hb : (!x40 : Bool) with
    | true =>
     replace H := H.kn 78 hb
     exact AE 4 [(82, .bool true)] H fun fr H => Am H hb
    | false =>
     replace H := H.kn 78 hb
     exact AE 4 [(82, .bool (decide (x39 < x12)))] H fun fr H => Am H hb
   intro t fr h' hK
   obtain ⟨e, H⟩ := hK
   subst e
   refine BK id (AV 82 H hm (fun hb hm H => ?_) fun hb hm H => ?_)
   ·refine AD 1 (AM 1 [(2, .bool false)] H fun fr H => Ag ?_)
    exact .inr (.inl ⟨_, _, _, _, _, _, _, _, rfl, Ah hm, H.ls, A⟩)
   exact By (.inl ⟨_, _, _, _, _, _, _, _, rfl, Ah hm, H.ls, A⟩)
  exact By (.inl ⟨_, _, _, _, _, _, _, _, rfl, Ah hm, H.ls, A⟩)
 clear ho
 clear A
 intro e fr h17 hQ
 rcases hQ with ⟨x15, x16, x17, x18, x19, x20, x21, x22, rfl, rfl, H, A⟩ | ⟨x23, x24, x25, x26, x27, x28, x29, x30, rfl, rfl, H, A⟩ | hF
 ·show AW _ _ _ _ _ _ _
  refine AQ (Ft 20 12 [(0, []), (1, []), (2, []), (3, []), (4, []), (5, []), (6, []), (7, [4]), (8, []), (9, []), (10, []), (11, [])] ?_)
  refine AE 4 [(83, .ptr (some (bp0, 0))), (86, .ptr (some (bp0, 3)))] H fun fr H => BT 87 (.agg [Au x18, Au x19, Au x20, Au x21]) h17 [(4, bp0)] (g.BR) H (fun fr => .of (CD (by kernel_rfl) (A.la 0 3 4))) (fun fr H => ?_)
  refine AE 2 [(88, Ab x12), (89, Ab x22)] H fun fr H => ?_
  have A1 := A.Fe 0 (pr := [bp0]) (.cons 0 rfl (by simp [Ck.ids]) .nil)
  obtain ⟨x42, hx, hm⟩ := bind_some hm
  obtain ⟨v1, h18, hr, rfl, A1⟩ := CS (av := [Ab x12, Ab x22]) hx A1
  replace A := A.Tu A1
  refine BT 90 (.agg (AL x42)) h18 [(4, bp0)] (bp0 :: g.BR) H (fun fr => Steps.call (by kernel_rfl) hr) (fun fr H => ?_)
  obtain ⟨x43, hx, hm⟩ := bind_some hm
  obtain ⟨v1, h19, hr, rfl, A1⟩ := Cu (av := [.agg [Au x18, Au x19, Au x20, Au x21], .agg (AL x42)]) hx (A.cut 0)
  replace A := A.Ea A1
  refine BT 91 (.agg (AL x43)) h19 [(4, bp0)] (g.BR) H (fun fr => Steps.call (by kernel_rfl) hr) (fun fr H => ?_)
  refine AE 2 [(93, .ptr (some (bp0, 3)))] H fun fr H => ?_
  obtain ⟨h20, hx, A⟩ := A.s0 3 (AL x43) [_, _, _, _, _, _, _]
  refine Gj (.tuple []) h20 [(4, bp0)] (g.BR) H (fun fr => .of (K4 (by kernel_rfl) (I3 hx rfl))) (fun fr H => ?_)
  refine CG 1 id (AM 1 [(2, .bool true)] H fun fr H => Ag ?_)
  obtain ⟨rfl, rfl⟩ := Ds hm
  exact ⟨.inl rfl, _, rH H, rfl, A⟩
 ·obtain ⟨rfl, rfl⟩ := Ds hm
  exact ⟨.inl rfl, _, rH H, rfl, A⟩
 exact hF.elim
end
end Go.Av.L
