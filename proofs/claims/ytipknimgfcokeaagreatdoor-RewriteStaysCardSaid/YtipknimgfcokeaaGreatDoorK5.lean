/-
 Models of functions, and that the abstract run tells them. Written by lift2.py.
-/
import Derived.Test.YtipknimgfcokeaaGreatDoorKCfg
import Derived.Test.YtipknimgfcokeaaGreatDoorK0
import Derived.Test.YtipknimgfcokeaaGreatDoorK1
import Derived.Test.YtipknimgfcokeaaGreatDoorK3
import Derived.Test.YtipknimgfcokeaaGreatDoorK4
namespace Go.Av.L
open Go.Av Go.Lib
set_option maxRecDepth 10000
set_option linter.unusedVariables false
set_option linter.unusedSimpArgs false
variable {g : Gd} {h : AH} {F : List Ck} {av : List AB}
noncomputable section
def D2 (p0 : List UInt8) (p1 : Bool) : Option (AI × Int × Int) :=
 Af (decide ((p0.length : Int) > 8192)) (some ((⟨([] : List AJ), (0 : Int)⟩ : AI), (0 : Int), (12 : Int))) ((CK (⟨p0, (0 : Int), p1, (⟨([] : List AJ), (0 : Int)⟩ : AI), (0 : Int), (0 : Int), (-1 : Int), false⟩ : AF)).bind fun (x1, x2, x3) => ((Ci (⟨x2.s_, x2.at_, x2.AX, (⟨x3, x2.t_.Bf⟩ : AI), x2.An, x2.BC, x2.BB, x2.Ay⟩ : AF)).bind fun x12 => Af (x12 && (decide (x2.at_ < (p0.length : Int)))) ((CA (⟨x2.s_, x2.at_, x2.AX, (⟨x3, x2.t_.Bf⟩ : AI), x2.An, x2.BC, x2.BB, x2.Ay⟩ : AF) x2.at_).bind fun x13 => some (x13.s_, x13.at_, x13.AX, x13.t_.Bf, x13.An, x13.BC, x13.BB, x13.Ay)) (some (x2.s_, x2.at_, x2.AX, x2.t_.Bf, x2.An, x2.BC, x2.BB, x2.Ay)) : Option (((List UInt8) × Int × Bool × Int × Int × Int × Int × Bool))).bind fun (x4, x5, x6, x7, x8, x9, x10, x11) => (Ci (⟨x4, x5, x6, (⟨x3, x7⟩ : AI), x8, x9, x10, x11⟩ : AF)).bind fun x14 => Af (!x14) (some ((⟨([] : List AJ), (0 : Int)⟩ : AI), x10, (11 : Int))) (Af x11 (some ((⟨([] : List AJ), (0 : Int)⟩ : AI), (0 : Int), (8 : Int))) (some ((⟨x3, x7⟩ : AI), (0 : Int), (0 : Int)))))
theorem Jl {p0 p1 q0 q1 q2} (hm : D2 p0 p1 = some (q0, q1, q2)) (A : HH g h [] F) (hc : BZ (cfg.still 7) av = [.str p0, .bool p1] := by kernel_rfl) : ∃ v h', Bg cfg g h 7 av v h' ∧ v = .tuple [.agg (Aa q0), Ai q1, Ai q2] ∧ HH g h' [] F := by
 refine Xa 54 [.cell 4 32, .tmp 5, .tmp 6] hc ?_
 clear hc
 unfold D2 at hm
 refine bg 54 [(0, .str p0), (1, .bool p1)] fun fr H => ?_
 refine AD 3 ?_
 obtain ⟨h1, e1, A⟩ := A.pu (.cells none 2 [.slice none 0, Ai 0])
 refine Bo 4 (.ptr (some (h.size, 0))) e1 H fun fr t H => ?_
 refine AM 2 [] H fun fr H => AQ (AD 3 (AM 3 [(10, .bool (decide ((p0.length : Int) > 8192)))] H fun fr H => AV 10 H hm (fun hb hm H => ?_) fun hb hm H => ?_))
 ·refine AD 4 ?_
  obtain ⟨h2, hx, A⟩ := A.s0 0 [.slice none 0, Ai 0] [_, _]
  refine F7 1 [] hx H fun fr t H => ?_
  refine AM 2 [(5, Ai 0), (6, Ai 12)] H fun fr H => Ag ?_
  obtain ⟨rfl, rfl, rfl⟩ := DR hm
  refine ⟨.inl rfl, .tuple [.agg [.slice none 0, Ai 0], Ai 0, Ai 12], Bm (.cell (rT H) (Bl (by kernel_rfl) (by kernel_rfl) (A.la 0 0 2)) (.tmp (rT H) (.tmp (rT H) .nil))), ?_⟩
  refine ⟨.tuple [.agg [vs AA ([] : List AJ), Ai 0], Ai 0, Ai 12], h2, by first | rfl | (simp only [SV, Sv, Sr, SY, S2, Sb, SP, SU, Ss, S3, S0, HI, HJ, HN, HG, HM, HQ, HX, Option.map_some] <;> rfl), ?_⟩
  replace A := A.d0
  exact ⟨rfl, A⟩
 refine Ca 5 id ?_
 obtain ⟨h3, e2, A⟩ := A.pu (.cells none 2 [.str p0, Ai 0, .bool p1, .slice none 0, Ai 0, Ai 0, Ai 0, Ai (-1), .bool false])
 refine F8 3 [] 15 (.ptr (some (h1.size, 0))) e2 H fun fr t H => ?_
 refine Bw 1 [(7, .ptr (some (h1.size, 0)))] 2 H fun fr H => ?_
 replace A : HH g h3 [.AO none 94 (AO AA ([] : List AJ)), .obj h1.size (.cells none 2 [.str p0, Ai 0, .bool p1, AG none (([] : List AJ).length), Ai 0, Ai 0, Ai 0, Ai (-1), .bool false]), .obj h.size (.cells none 2 [.slice none 0, Ai 0])] F := A.IY 94
 replace A := A.k3 1 0 2
 obtain ⟨⟨x1, x2, x3⟩, hx, hm⟩ := bind_some hm
 obtain ⟨v1, h4, hr, r1, rfl, A1⟩ := DY (av := [.ptr (some (h1.size, 0))]) hx (A.cut 2)
 replace A := A.g22 A1
 refine LS 1 [] hr H fun fr t H => ?_
 refine BK id (AQ ?_)
 obtain ⟨o1, ho, hm⟩ := bind_some hm
 refine As (Q' := fun e fr' h' => (∃ x4 x5 x6 x7 x8 x9 x10 x11, e = .normal ∧ (x4, x5, x6, x7, x8, x9, x10, x11) = o1 ∧ Has fr' 54 [(4, .ptr (some (h.size, 0))), (7, .ptr (some (h1.size, 0)))] ∧ HH g h' [.obj h1.size (.cells none 2 [.str x4, Ai x5, .bool x6, AG r1 x3.length, Ai x7, Ai x8, Ai x9, Ai x10, .bool x11]), .AO r1 94 (AO AA x3), .obj h.size (.cells none 2 [.slice none 0, Ai 0])] F) ∨ False) ?_ ?_
 ·replace hm := ho
  clear ho
  refine AD 11 ?_
  obtain ⟨x12, hx, hm⟩ := bind_some hm
  obtain ⟨v1, h5, hr, rfl, A1⟩ := DO (av := [.ptr (some (h1.size, 0))]) hx (A.cut 2)
  replace A := A.g22 A1
  refine Ap 1 [] 19 hr H fun fr t H => ?_
  refine AE 1 [(20, .bool x12)] H fun fr H => BD 8 (fun fr' h' => h5 = h' ∧ Has fr' 54 [(4, .ptr (some (h.size, 0))), (7, .ptr (some (h1.size, 0))), (28, .bool (x12 && (decide (x2.at_ < (p0.length : Int)))))]) ?_ ?_
  ·cases hb : (x12 : Bool) with
   | true =>
    replace H := H.kn 20 hb
    refine Ad 3 [] 24 0 1 A H fun fr t H => ?_
    exact AE 4 [(28, .bool (decide (x2.at_ < (p0.length : Int))))] H fun fr H => Am H hb
   | false =>
    replace H := H.kn 20 hb
    exact AE 8 [(28, .bool false)] H fun fr H => Am H hb
  intro t fr h' hK
  obtain ⟨e, H⟩ := hK
  subst e
  refine BK id (AV 28 H hm (fun hb hm H => ?_) fun hb hm H => ?_)
  ·refine Bd 6 (Ad 4 [(29, .ptr (some (h1.size, 0)))] 33 0 1 A H fun fr t H => ?_)
   obtain ⟨x13, hx, hm⟩ := bind_some hm
   obtain ⟨v1, h6, hr, rfl, A1⟩ := C8 (av := [.ptr (some (h1.size, 0)), Ai x2.at_]) hx (A.cut 2)
   replace A := A.g22 A1
   refine MF hr H fun fr t H => ?_
   refine at_nil ?_
   exact .inl ⟨_, _, _, _, _, _, _, _, rfl, Ah hm, H.ls, A⟩
  exact By (.inl ⟨_, _, _, _, _, _, _, _, rfl, Ah hm, H.ls, A⟩)
 clear ho
 clear A
 intro e fr h7 hQ
 rcases hQ with ⟨x4, x5, x6, x7, x8, x9, x10, x11, rfl, rfl, H, A⟩ | hF
 ·show AW _ _ _ _ _ _ _
  refine AQ (Ac (id := 0) (by kernel_rfl) ?_)
  refine AD 4 ?_
  obtain ⟨x14, hx, hm⟩ := bind_some hm
  obtain ⟨v1, h8, hr, rfl, A1⟩ := DO (av := [.ptr (some (h1.size, 0))]) hx (A.cut 2)
  replace A := A.g22 A1
  refine Ap 1 [] 37 hr H fun fr t H => ?_
  refine AM 2 [(35, .bool (!x14))] H fun fr H => AV 35 H hm (fun hb hm H => ?_) fun hb hm H => ?_
  ·refine AQ (Ft 8 8 [(0, []), (1, []), (2, []), (3, []), (4, []), (5, [4]), (6, []), (7, [])] ?_)
   refine AE 4 [(39, .agg [.slice none 0, Ai 0]), (42, .ptr (some (h1.size, 7)))] H fun fr H => BT 43 (Ai x10) h8 [(4, h1.size)] (g.BR) H (fun fr => .of (Dd (by kernel_rfl) (A.l1 0 7))) (fun fr H => ?_)
   replace A := A.k3 2 0 1
   have A1 := A.Fe 1 (pr := [h1.size]) (.cons 0 rfl (by simp [Ck.ids]) .nil)
   obtain ⟨h9, hx, A1⟩ := A1.st 0 rfl (o := 0) (new := [.slice none 0, Ai 0]) (ds := [.slice none 0, Ai 0]) (Nat.le_of_ble_eq_true rfl) rfl rfl
   replace A := A.VA A1
   refine Gj (.tuple []) h9 [(4, h1.size)] (h1.size :: g.BR) H (fun fr => .of (K4 (by kernel_rfl) (I3 hx rfl))) (fun fr H => ?_)
   refine AM 2 [(5, Ai x10), (6, Ai 11)] H fun fr H => Ag ?_
   obtain ⟨rfl, rfl, rfl⟩ := DR hm
   refine ⟨.inl rfl, .tuple [.agg [.slice none 0, Ai 0], Ai x10, Ai 11], Bm (.cell (rT H) (Bl (by kernel_rfl) (by kernel_rfl) (A.la 0 0 2)) (.tmp (rT H) (.tmp (rT H) .nil))), ?_⟩
   refine ⟨.tuple [.agg [vs AA ([] : List AJ), Ai 0], Ai x10, Ai 11], h9, by first | rfl | (simp only [SV, Sv, Sr, SY, S2, Sb, SP, SU, Ss, S3, S0, HI, HJ, HN, HG, HM, HQ, HX, Option.map_some] <;> rfl), ?_⟩
   replace A := A.d0
   exact ⟨rfl, A⟩
  refine AD 5 (Ad 3 [] 48 0 8 A H fun fr t H => ?_)
  refine AM 1 [(44, .bool x11)] H fun fr H => AV 44 H hm (fun hb hm H => ?_) fun hb hm H => ?_
  ·refine AD 4 ?_
   obtain ⟨h10, hx, A⟩ := A.s2 0 [.slice none 0, Ai 0] [_, _]
   refine F7 1 [] hx H fun fr t H => ?_
   refine AM 2 [(5, Ai 0), (6, Ai 8)] H fun fr H => Ag ?_
   obtain ⟨rfl, rfl, rfl⟩ := DR hm
   refine ⟨.inl rfl, .tuple [.agg [.slice none 0, Ai 0], Ai 0, Ai 8], Bm (.cell (rT H) (Bl (by kernel_rfl) (by kernel_rfl) (A.la 2 0 2)) (.tmp (rT H) (.tmp (rT H) .nil))), ?_⟩
   refine ⟨.tuple [.agg [vs AA ([] : List AJ), Ai 0], Ai 0, Ai 8], h10, by first | rfl | (simp only [SV, Sv, Sr, SY, S2, Sb, SP, SU, Ss, S3, S0, HI, HJ, HN, HG, HM, HQ, HX, Option.map_some] <;> rfl), ?_⟩
   replace A := A.d0
   exact ⟨rfl, A⟩
  refine Ca 7 id (BI 3 [] 53 _ _ H (fun fr => .of (CD (by kernel_rfl) (A.GX 0 rfl (o := 3) (n := 2) ⟨Nat.le_of_ble_eq_true rfl, rfl⟩))) fun fr t H => ?_)
  obtain ⟨h11, hx, A⟩ := A.s2 0 [AG r1 x3.length, Ai x7] [_, _]
  refine DN hx H fun fr t H => ?_
  refine AM 2 [(5, Ai 0), (6, Ai 0)] H fun fr H => Ag ?_
  obtain ⟨rfl, rfl, rfl⟩ := DR hm
  refine ⟨.inl rfl, .tuple [.agg [AG r1 x3.length, Ai x7], Ai 0, Ai 0], Bm (.cell (rT H) (Bl (by kernel_rfl) (by kernel_rfl) (A.la 2 0 2)) (.tmp (rT H) (.tmp (rT H) .nil))), ?_⟩
  obtain ⟨h12, hz0, A1⟩ := (A.front 1 rfl).VN (n := x3.length) (z := 10) (En.Hb _) (by decide)
  replace A : HH g h12 [_, _] F := A1
  refine ⟨.tuple [.agg [vs AA x3, Ai x7], Ai 0, Ai 0], h12, by first | rfl | (simp only [SV, Sv, Sr, SY, S2, Sb, SP, SU, Ss, S3, S0, HI, HJ, HN, HG, HM, HQ, HX, Option.map_some, hz0] <;> rfl), ?_⟩
  replace A := A.d0
  exact ⟨rfl, A⟩
 exact hF.elim
def Fw (p0 : AI) (s : (List Bool) × Int) : Option (((List Bool) × Int) ⊕ (((List Bool)))) :=
 match s with
 | (x2, x3) => Af (decide (x3 ≥ 0)) (((Ff x2 x3).bind fun x6 => Af (!x6) (some x2) ((Ff p0.AU x3).bind fun x7 => (Af (x7.Kind == 2) (some true) (some (x7.Kind == 3)) : Option ((Bool))).bind fun x8 => Af x8 ((Ff x2 x7.A).bind fun x9 => (Ff (x2.set x7.A.toNat true) x7.B).bind fun x10 => some ((x2.set x7.A.toNat true).set x7.B.toNat true)) ((Af (x7.Kind == 4) (some true) (some (x7.Kind == 5)) : Option ((Bool))).bind fun x11 => Af x11 ((Ff x2 x7.A).bind fun x12 => some (x2.set x7.A.toNat true)) (some x2))) : Option (((List Bool)))).bind fun x5 => some (.inl (x5, IntKind.i64.wrap (x3 - 1)))) (some (.inr x2))
def FA (p0 : AI) : Option ((List Bool)) :=
 Cm (WO 1 (p0.AU.length : Int)) <| (Ff (List.replicate (p0.AU.length : Int).toNat false) p0.Bf).bind fun x1 => (loop (Fw p0) (((List.replicate (p0.AU.length : Int).toNat false).set p0.Bf.toNat true), p0.Bf)).bind fun x4 => some x4
theorem Lt {p0 q0} (hm : FA p0 = some q0) (A : HH g h [] F) (hc : BZ (cfg.still 33) av = [.agg (Aa p0)] := by kernel_rfl) : ∃ v h', Bg cfg g h 33 av v h' ∧ ∃ (rq0 : Option Nat), v = AG rq0 q0.length ∧ HH g h' [.AO rq0 4 (AO eB q0)] F := by
 refine E5 51 [.tmp 2] hc ?_
 clear hc
 unfold FA at hm
 refine bg 51 [(0, .agg (Aa p0))] fun fr H => ?_
 refine AD 2 ?_
 obtain ⟨h1, e1, A⟩ := A.pu (.cells none 2 (Aa p0))
 refine Bo 1 (.ptr (some (h.size, 0))) e1 H fun fr t H => ?_
 refine Bw 1 [] 5 H fun fr H => Ad 1 [] 7 0 0 A H fun fr t H => ?_
 obtain ⟨hb, hm⟩ := BQ hm
 obtain ⟨h2, e2, A⟩ := A.pL 4 (AO eB (List.replicate (p0.AU.length : Int).toNat false))
 refine BI 1 [] 9 (AG (some h1.size) (List.replicate (p0.AU.length : Int).toNat false).length) h2 H (fun fr => .of (TX (e := eB) Fx (x := false) (by kernel_rfl) hb (congrArg some e2.symm))) fun fr t H => ?_
 refine Bw 1 [(3, AG (some h1.size) ((List.replicate (p0.AU.length : Int).toNat false).length))] 5 H fun fr H => Ad 2 [(10, AG (some h1.size) ((List.replicate (p0.AU.length : Int).toNat false).length))] 12 1 1 A H fun fr t H => ?_
 obtain ⟨x1, hx, hm⟩ := bind_some hm
 obtain ⟨i1, er1, _, hx, hq1⟩ := HH.ND Fx (by decide) A 0 (xs := (List.replicate (p0.AU.length : Int).toNat false)) rfl hx
 refine Ax 13 (.ptr (some (i1, p0.Bf.toNat * 1))) h2 H (fun fr => .of (FI (s := Cf (some h1.size) ((List.replicate (p0.AU.length : Int).toNat false).length)) (by kernel_rfl) hx)) fun fr t H => ?_
 obtain ⟨h3, hx, A1⟩ := HH.VK Fx A 0 rfl er1 hq1 (y := true) (o := 0) (new := [.bool true]) rfl rfl (Nat.le_of_ble_eq_true rfl)
 have hl1 : ((List.replicate (p0.AU.length : Int).toNat false).set p0.Bf.toNat true).length = (List.replicate (p0.AU.length : Int).toNat false).length := List.length_set
 have el : AG (some h1.size) (List.replicate (p0.AU.length : Int).toNat false).length = AG (some h1.size) ((List.replicate (p0.AU.length : Int).toNat false).set p0.Bf.toNat true).length := congrArg _ List.length_set.symm
 try rw [el] at H
 try rw [el] at A1
 replace A : HH g h3 [.AO (some h1.size) 4 (AO eB ((List.replicate (p0.AU.length : Int).toNat false).set p0.Bf.toNat true)), .obj h.size (.cells none 2 (Aa p0))] F := A1
 refine Kh hx H fun fr t H => ?_
 refine BK id (AQ (AD 3 (Ad 1 [] 15 1 1 A H fun fr t H => ?_)))
 refine AM 1 [(4, Ai p0.Bf)] H fun fr H => Ac (id := 0) (by kernel_rfl) ?_
 obtain ⟨o1, ho, hm⟩ := bind_some hm
 refine As (Q' := fun e fr' h' => (∃ x4, e = .exit 0 ∧ x4 = o1 ∧ ∃ (hl3 : x4.length = (List.replicate (p0.AU.length : Int).toNat false).length), Has fr' 51 [(3, AG (some h1.size) x4.length)] ∧ HH g h' [.AO (some h1.size) 4 (AO eB x4), .obj h.size (.cells none 2 (Aa p0))] F) ∨ False) ?_ ?_
 ·refine B2 (by kernel_rfl) (fun (s : (List Bool) × Int) fr' h' => ∃ x2 x3, (x2, x3) = s ∧ ∃ (hl2 : x2.length = (List.replicate (p0.AU.length : Int).toNat false).length), Has fr' 51 [(1, .ptr (some (h.size, 0))), (3, AG (some h1.size) x2.length), (4, Ai x3)] ∧ HH g h' [.AO (some h1.size) 4 (AO eB x2), .obj h.size (.cells none 2 (Aa p0))] F) ho ⟨_, _, rfl, hl1, H.ls, A⟩ ?_
  clear ho hm H A
  intro s q fr h4 hI hm
  obtain ⟨x2, x3, rfl, hl2, H, A⟩ := hI
  unfold Fw at hm
  refine AQ (AD 2 (AM 2 [(17, .bool (decide (x3 ≥ 0)))] H fun fr H => AV 17 H hm (fun hb hm H => ?_) fun hb hm H => ?_))
  ·refine CE id (AQ ?_)
   obtain ⟨o2, ho, hm⟩ := bind_some hm
   refine As (Q' := fun e fr' h' => (∃ x5, e = .normal ∧ x5 = o2 ∧ ∃ (hl4 : x5.length = (List.replicate (p0.AU.length : Int).toNat false).length), Has fr' 51 [(1, .ptr (some (h.size, 0))), (3, AG (some h1.size) x5.length), (4, Ai x3)] ∧ HH g h' [.AO (some h1.size) 4 (AO eB x5), .obj h.size (.cells none 2 (Aa p0))] F) ∨ False) ?_ ?_
   ·replace hm := ho
    clear ho
    refine Ac (id := 1) (by kernel_rfl) ?_
    refine AQ (AD 5 ?_)
    obtain ⟨x6, hx, hm⟩ := bind_some hm
    obtain ⟨i2, er2, _, hx, hq2⟩ := HH.ND Fx (by decide) A 0 (xs := x2) rfl hx
    refine BI 2 [] 22 (.ptr (some (i2, x3.toNat * 1))) h4 H (fun fr => .of (FI (s := Cf (some h1.size) x2.length) (by kernel_rfl) hx)) fun fr t H => ?_
    refine Ax 23 _ _ H (fun fr => .of (Dd (by kernel_rfl) (E7 Fx (HH.row A 0 rfl er2) hq2 (o := 0) rfl))) fun fr t H => ?_
    refine AM 1 [(24, .bool (!x6))] H fun fr H => AV 24 H hm (fun hb hm H => ?_) fun hb hm H => ?_
    ·refine BO (i := 1) (by kernel_rfl) ?_
     exact .inl ⟨_, rfl, Ah hm, hl2, H.ls, A⟩
    refine Ca 7 id (Ad 1 [] 26 1 0 A H fun fr t H => ?_)
    obtain ⟨x7, hx, hm⟩ := bind_some hm
    refine BI 1 [] 28 (.Aq (AA x7)) h4 H (fun fr => .of (Hl (e := AA) (x := x7) En (by decide) (by kernel_rfl) hx)) fun fr t H => ?_
    refine Ax 29 (.agg (AA x7)) h4 H (fun fr => .of (FK (by kernel_rfl))) fun fr t H => ?_
    obtain ⟨h5, e3, A⟩ := A.pu (.cells none 2 [Ai 0, Ai 0, Ai 0, Ai 0, Ai 0, Ai 0, Au 0, Au 0, Au 0, Au 0])
    refine Bo 5 (.ptr (some (h4.size, 0))) e3 H fun fr t H => ?_
    obtain ⟨h6, hx, A⟩ := A.s0 0 (AA x7) [_, _, _, _, _, _, _, _, _, _]
    refine DN hx H fun fr t H => ?_
    refine CG 2 id (Ad 1 [] 31 0 0 A H fun fr t H => ?_)
    refine BK id (Ac (id := 2) (by kernel_rfl) ?_)
    refine AQ ?_
    obtain ⟨o3, ho, hm⟩ := bind_some hm
    refine As (Q' := fun e fr' h' => (∃ x8, e = .normal ∧ x8 = o3 ∧ Has fr' 51 [(1, .ptr (some (h.size, 0))), (3, AG (some h1.size) x2.length), (4, Ai x3), (5, .ptr (some (h4.size, 0))), (31, Ai x7.Kind), (32, .bool x8)] ∧ HH g h' [.obj h4.size (.cells none 2 (AA x7)), .AO (some h1.size) 4 (AO eB x2), .obj h.size (.cells none 2 (Aa p0))] F) ∨ False) ?_ ?_
    ·replace hm := ho
     clear ho
     refine AD 2 (AM 2 [(32, .bool (x7.Kind == 2))] H fun fr H => AV 32 H hm (fun hb hm H => ?_) fun hb hm H => ?_)
     ·exact By (.inl ⟨_, rfl, Ah hm, H.ls, A⟩)
     refine Bd 2 (BG 2 [(1, .ptr (some (h.size, 0))), (3, AG (some h1.size) x2.length), (4, Ai x3), (5, .ptr (some (h4.size, 0))), (31, Ai x7.Kind), (32, .bool (x7.Kind == 3))] H fun fr H => at_nil ?_)
     exact .inl ⟨_, rfl, Ah hm, H.ls, A⟩
    clear ho
    clear A
    intro e fr h7 hQ
    rcases hQ with ⟨x8, rfl, rfl, H, A⟩ | hF
    ·show AW _ _ _ _ _ _ _
     refine AV 32 H hm (fun hb hm H => ?_) fun hb hm H => ?_
     ·refine Ft 11 10 [(0, []), (1, []), (2, []), (3, []), (4, []), (5, []), (6, []), (7, [5]), (8, []), (9, [])] ?_
      refine AE 2 [(35, AG (some h1.size) x2.length), (36, .ptr (some (h4.size, 1)))] H fun fr H => BT 37 (Ai x7.A) h7 [(2, h4.size)] (g.BR) H (fun fr => .of (Dd (by kernel_rfl) (A.l1 0 1))) (fun fr H => ?_)
      refine AE 2 [(38, AG (some h1.size) x2.length), (39, .ptr (some (h4.size, 2)))] H fun fr H => BT 40 (Ai x7.B) h7 [(5, h4.size), (2, h4.size)] (g.BR) H (fun fr => .of (Dd (by kernel_rfl) (A.l1 0 2))) (fun fr H => ?_)
      obtain ⟨x9, hx, hm⟩ := bind_some hm
      obtain ⟨i3, er3, _, hx, hq3⟩ := HH.ND Fx (by decide) A 1 (xs := x2) rfl hx
      refine BT 41 (.ptr (some (i3, x7.A.toNat * 1))) h7 [(5, h4.size), (2, h4.size)] (g.BR) H (fun fr => .of (FI (s := Cf (some h1.size) x2.length) (by kernel_rfl) hx)) (fun fr H => ?_)
      replace A := A.k3 1 0 2
      have A1 := A.Fe 1 (pr := [h4.size]) (.cons 0 rfl (by simp [Ck.ids]) .nil)
      obtain ⟨h8, hx, A1⟩ := HH.VK Fx A1 0 rfl er3 hq3 (y := true) (o := 0) (new := [.bool true]) rfl rfl (Nat.le_of_ble_eq_true rfl)
      have hl5 : (x2.set x7.A.toNat true).length = (List.replicate (p0.AU.length : Int).toNat false).length := List.length_set.trans hl2
      have el : AG (some h1.size) x2.length = AG (some h1.size) (x2.set x7.A.toNat true).length := congrArg _ List.length_set.symm
      try rw [el] at H
      try rw [el] at A1
      replace A := A.VA A1
      refine Gj (.tuple []) h8 [(5, h4.size), (2, h4.size)] (h4.size :: g.BR) H (fun fr => .of (MS (by kernel_rfl) rfl hx)) (fun fr H => ?_)
      obtain ⟨x10, hx, hm⟩ := bind_some hm
      obtain ⟨i4, er4, _, hx, hq4⟩ := HH.ND Fx (by decide) A 0 (xs := (x2.set x7.A.toNat true)) rfl hx
      refine BT 42 (.ptr (some (i4, x7.B.toNat * 1))) h8 [(5, h4.size), (2, h4.size)] (g.BR) H (fun fr => .of (FI (s := Cf (some h1.size) ((x2.set x7.A.toNat true).length)) (by kernel_rfl) hx)) (fun fr H => ?_)
      obtain ⟨h9, hx, A1⟩ := HH.VK Fx A 0 rfl er4 hq4 (y := true) (o := 0) (new := [.bool true]) rfl rfl (Nat.le_of_ble_eq_true rfl)
      have hl6 : ((x2.set x7.A.toNat true).set x7.B.toNat true).length = (List.replicate (p0.AU.length : Int).toNat false).length := List.length_set.trans hl5
      have el : AG (some h1.size) (x2.set x7.A.toNat true).length = AG (some h1.size) ((x2.set x7.A.toNat true).set x7.B.toNat true).length := congrArg _ List.length_set.symm
      try rw [el] at H
      try rw [el] at A1
      replace A : HH g h9 [.AO (some h1.size) 4 (AO eB ((x2.set x7.A.toNat true).set x7.B.toNat true)), _, _] F := A1
      refine Gj (.tuple []) h9 [(5, h4.size), (2, h4.size)] (g.BR) H (fun fr => .of (MS (by kernel_rfl) rfl hx)) (fun fr H => ?_)
      refine at_nil ?_
      replace A := A.k2 0 2
      exact .inl ⟨_, rfl, Ah hm, hl6, H.ls, A⟩
     refine AQ ?_
     obtain ⟨o4, ho, hm⟩ := bind_some hm
     refine As (Q' := fun e fr' h' => (∃ x11, e = .normal ∧ x11 = o4 ∧ Has fr' 51 [(1, .ptr (some (h.size, 0))), (3, AG (some h1.size) x2.length), (4, Ai x3), (5, .ptr (some (h4.size, 0))), (43, .bool x11)] ∧ HH g h' [.obj h4.size (.cells none 2 (AA x7)), .AO (some h1.size) 4 (AO eB x2), .obj h.size (.cells none 2 (Aa p0))] F) ∨ False) ?_ ?_
     ·replace hm := ho
      clear ho
      refine AD 2 (AM 2 [(43, .bool (x7.Kind == 4))] H fun fr H => AV 43 H hm (fun hb hm H => ?_) fun hb hm H => ?_)
      ·exact By (.inl ⟨_, rfl, Ah hm, H.ls, A⟩)
      refine Bd 2 (BG 2 [(1, .ptr (some (h.size, 0))), (3, AG (some h1.size) x2.length), (4, Ai x3), (5, .ptr (some (h4.size, 0))), (43, .bool (x7.Kind == 5))] H fun fr H => at_nil ?_)
      exact .inl ⟨_, rfl, Ah hm, H.ls, A⟩
     clear ho
     clear A
     intro e fr h10 hQ
     rcases hQ with ⟨x11, rfl, rfl, H, A⟩ | hF
     ·show AW _ _ _ _ _ _ _
      refine AV 43 H hm (fun hb hm H => ?_) fun hb hm H => ?_
      ·refine Bd 5 (Ad 2 [(46, AG (some h1.size) x2.length)] 48 0 1 A H fun fr t H => ?_)
       obtain ⟨x12, hx, hm⟩ := bind_some hm
       obtain ⟨i5, er5, _, hx, hq5⟩ := HH.ND Fx (by decide) A 1 (xs := x2) rfl hx
       refine Ax 49 (.ptr (some (i5, x7.A.toNat * 1))) h10 H (fun fr => .of (FI (s := Cf (some h1.size) x2.length) (by kernel_rfl) hx)) fun fr t H => ?_
       obtain ⟨h11, hx, A1⟩ := HH.VK Fx A 1 rfl er5 hq5 (y := true) (o := 0) (new := [.bool true]) rfl rfl (Nat.le_of_ble_eq_true rfl)
       have hl7 : (x2.set x7.A.toNat true).length = (List.replicate (p0.AU.length : Int).toNat false).length := List.length_set.trans hl2
       have el : AG (some h1.size) x2.length = AG (some h1.size) (x2.set x7.A.toNat true).length := congrArg _ List.length_set.symm
       try rw [el] at H
       try rw [el] at A1
       replace A : HH g h11 [_, .AO (some h1.size) 4 (AO eB (x2.set x7.A.toNat true)), _] F := A1
       refine Kh hx H fun fr t H => ?_
       refine at_nil ?_
       replace A := A.k2 1 2
       exact .inl ⟨_, rfl, Ah hm, hl7, H.ls, A⟩
      refine By ?_
      replace A := A.k2 1 2
      exact .inl ⟨_, rfl, Ah hm, hl2, H.ls, A⟩
     exact hF.elim
    exact hF.elim
   clear ho
   clear A
   intro e fr h12 hQ
   rcases hQ with ⟨x5, rfl, rfl, hl4, H, A⟩ | hF
   ·show AW _ _ _ _ _ _ _
    refine Bd 3 (BG 3 [(1, .ptr (some (h.size, 0))), (3, AG (some h1.size) x5.length), (4, Ai (IntKind.i64.wrap (x3 - 1)))] H fun fr H => at_nil ?_)
    exact nx hm ⟨_, _, rfl, hl4, H.ls, A⟩
   exact hF.elim
  refine BO (i := 0) (by kernel_rfl) ?_
  exact nr hm fun e => .inl ⟨_, rfl, e, hl2, H.ls, A⟩
 clear ho
 clear A
 intro e fr h13 hQ
 rcases hQ with ⟨x4, rfl, rfl, hl3, H, A⟩ | hF
 ·show AW _ _ _ _ _ _ _
  refine AD 2 (AM 2 [(2, AG (some h1.size) x4.length)] H fun fr H => Ag ?_)
  obtain rfl := Ah hm
  refine ⟨.inl rfl, AG (some h1.size) x4.length, rH H, ?_⟩
  replace A := A.d1
  exact ⟨some h1.size, rfl, A⟩
 exact hF.elim
def Fa (p0 : AI) (x2 : List Bool) (s : Int × Int) : Option ((Int × Int) ⊕ ((Int))) :=
 match s with
 | (x3, x4) => Af (decide (x4 < (x2.length : Int))) (((Ff x2 x4).bind fun x7 => Af x7 ((Ff p0.AU x4).bind fun x8 => some (mx x3 x8.C4)) (some x3) : Option ((Int))).bind fun x6 => some (.inl (x6, IntKind.i64.wrap (x4 + 1)))) (some (.inr x3))
def Ct (p0 : AI) : Option (Int) :=
 (CC p0).bind fun x1 => Af (!x1) (some (0 : Int)) ((FA p0).bind fun x2 => (loop (Fa p0 x2) ((0 : Int), (0 : Int))).bind fun x5 => some x5)
theorem K1 {p0 q0} (hm : Ct p0 = some q0) (A : HH g h [] F) (hc : BZ (cfg.still 13) av = [.agg (Aa p0)] := by kernel_rfl) : ∃ v h', Bg cfg g h 13 av v h' ∧ v = Ai q0 ∧ HH g h' [] F := by
 refine E5 28 [.tmp 2] hc ?_
 clear hc
 unfold Ct at hm
 refine bg 28 [(0, .agg (Aa p0))] fun fr H => ?_
 refine AD 2 ?_
 obtain ⟨h1, e1, A⟩ := A.pu (.cells none 2 (Aa p0))
 refine Bo 1 (.ptr (some (h.size, 0))) e1 H fun fr t H => ?_
 refine AM 1 [] H fun fr H => AQ (AD 3 (Ax 6 _ _ H (fun fr => .of (CD (by kernel_rfl) (A.GX 0 rfl (o := 0) (n := 2) ⟨Nat.le_of_ble_eq_true rfl, rfl⟩))) fun fr t H => ?_))
 obtain ⟨x1, hx, hm⟩ := bind_some hm
 obtain ⟨v1, h2, hr, rfl, A1⟩ := IP (av := [.agg (Aa p0)]) hx (A.cut 0)
 replace A : HH g h2 [.obj h.size (.cells none 2 (Aa p0))] F := A.Ex (n := 0) A1
 refine Be 7 hr H fun fr t H => ?_
 refine AM 1 [(8, .bool (!x1))] H fun fr H => AV 8 H hm (fun hb hm H => ?_) fun hb hm H => ?_
 ·refine AD 1 (AM 1 [(2, Ai 0)] H fun fr H => Ag ?_)
  obtain rfl := Ah hm
  refine ⟨.inl rfl, Ai 0, rH H, ?_⟩
  replace A := A.d0
  exact ⟨rfl, A⟩
 refine Ca 1 id (AM 1 [(3, Ai 0)] H fun fr H => AQ (AD 4 (Ax 9 _ _ H (fun fr => .of (CD (by kernel_rfl) (A.GX 0 rfl (o := 0) (n := 2) ⟨Nat.le_of_ble_eq_true rfl, rfl⟩))) fun fr t H => ?_)))
 obtain ⟨x2, hx, hm⟩ := bind_some hm
 obtain ⟨v1, h3, hr, rqw2, rfl, A1⟩ := Lt (av := [.agg (Aa p0)]) hx (A.cut 0)
 replace A := A.XR A1
 refine Be 10 hr H fun fr t H => ?_
 refine AM 2 [(11, Ai (x2.length : Int)), (12, Ai 0)] H fun fr H => Ac (id := 0) (by kernel_rfl) ?_
 obtain ⟨o1, ho, hm⟩ := bind_some hm
 refine As (Q' := fun e fr' h' => (∃ x5, e = .exit 0 ∧ x5 = o1 ∧ Has fr' 28 [(3, Ai x5)] ∧ HH g h' [.obj h.size (.cells none 2 (Aa p0))] F) ∨ False) ?_ ?_
 ·refine B2 (by kernel_rfl) (fun (s : Int × Int) fr' h' => ∃ x3 x4, (x3, x4) = s ∧ Has fr' 28 [(1, .ptr (some (h.size, 0))), (3, Ai x3), (10, AG rqw2 x2.length), (11, Ai (x2.length : Int)), (12, Ai x4)] ∧ HH g h' [.AO rqw2 4 (AO eB x2), .obj h.size (.cells none 2 (Aa p0))] F) ho ⟨_, _, rfl, H.ls, A⟩ ?_
  clear ho hm H A
  intro s q fr h4 hI hm
  obtain ⟨x3, x4, rfl, H, A⟩ := hI
  unfold Fa at hm
  refine AD 1 (AM 1 [(13, .bool (decide (x4 < (x2.length : Int))))] H fun fr H => AQ (AV 13 H hm (fun hb hm H => ?_) fun hb hm H => ?_))
  ·refine CE id (AQ ?_)
   obtain ⟨o2, ho, hm⟩ := bind_some hm
   refine As (Q' := fun e fr' h' => (∃ x6, e = .normal ∧ x6 = o2 ∧ Has fr' 28 [(1, .ptr (some (h.size, 0))), (3, Ai x6), (10, AG rqw2 x2.length), (11, Ai (x2.length : Int)), (12, Ai x4)] ∧ HH g h' [.AO rqw2 4 (AO eB x2), .obj h.size (.cells none 2 (Aa p0))] F) ∨ False) ?_ ?_
   ·replace hm := ho
    clear ho
    refine Ac (id := 1) (by kernel_rfl) ?_
    refine AD 5 ?_
    obtain ⟨x7, hx, hm⟩ := bind_some hm
    obtain ⟨i1, er1, _, hx, hq1⟩ := HH.ND Fx (by decide) A 0 (xs := x2) rfl hx
    refine BI 1 [(14, Ai x4)] 15 (.ptr (some (i1, x4.toNat * 1))) h4 H (fun fr => .of (FI (s := Cf rqw2 x2.length) (by kernel_rfl) hx)) fun fr t H => ?_
    refine Ax 16 _ _ H (fun fr => .of (Dd (by kernel_rfl) (E7 Fx (HH.row A 0 rfl er1) hq1 (o := 0) rfl))) fun fr t H => ?_
    refine Bw 2 [(4, Ai x4), (5, .bool x7)] 1 H fun fr H => AM 1 [(17, .bool x7)] H fun fr H => AV 17 H hm (fun hb hm H => ?_) fun hb hm H => ?_
    ·refine Bd 9 (Ad 2 [(18, Ai x3)] 20 1 0 A H fun fr t H => ?_)
     obtain ⟨x8, hx, hm⟩ := bind_some hm
     refine BI 1 [] 22 (.Aq (AA x8)) h4 H (fun fr => .of (Hl (e := AA) (x := x8) En (by decide) (by kernel_rfl) hx)) fun fr t H => ?_
     refine BI 1 [] 24 (Ai x8.C4) h4 H (fun fr => .of (FK (by kernel_rfl))) fun fr t H => ?_
     refine BG 2 [(1, .ptr (some (h.size, 0))), (3, Ai (mx x3 x8.C4)), (10, AG rqw2 x2.length), (11, Ai (x2.length : Int)), (12, Ai x4)] H fun fr H => at_nil ?_
     exact .inl ⟨_, rfl, Ah hm, H.ls, A⟩
    exact By (.inl ⟨_, rfl, Ah hm, H.ls, A⟩)
   clear ho
   clear A
   intro e fr h5 hQ
   rcases hQ with ⟨x6, rfl, rfl, H, A⟩ | hF
   ·show AW _ _ _ _ _ _ _
    refine Bd 2 (BG 2 [(1, .ptr (some (h.size, 0))), (3, Ai x6), (10, AG rqw2 x2.length), (11, Ai (x2.length : Int)), (12, Ai (IntKind.i64.wrap (x4 + 1)))] H fun fr H => at_nil ?_)
    exact nx hm ⟨_, _, rfl, H.ls, A⟩
   exact hF.elim
  refine BO (i := 0) (by kernel_rfl) ?_
  replace A := A.k1 1
  exact nr hm fun e => .inl ⟨_, rfl, e, H.ls, A⟩
 clear ho
 clear A
 intro e fr h6 hQ
 rcases hQ with ⟨x5, rfl, rfl, H, A⟩ | hF
 ·show AW _ _ _ _ _ _ _
  refine AD 2 (AM 2 [(2, Ai x5)] H fun fr H => Ag ?_)
  obtain rfl := Ah hm
  refine ⟨.inl rfl, Ai x5, rH H, ?_⟩
  replace A := A.d0
  exact ⟨rfl, A⟩
 exact hF.elim
def BU (p0 : Ae) (p1 : AN) : Option (Int × Ae × (List AN)) :=
 Af (p0.Ay || (decide ((p0.a_.l_.length : Int) ≥ p0.CH))) (some ((0 : Int), (⟨p0.t_, p0.a_, p0.CH, p0.Ay || (decide ((p0.a_.l_.length : Int) ≥ p0.CH))⟩ : Ae), p0.a_.l_)) (Cm (KI 56 (p0.a_.l_.length + ([p1] : List AN).length)) <| some (IntKind.i64.wrap (((p0.a_.l_ ++ ([p1] : List AN)).length : Int) - 1), (⟨p0.t_, (⟨(p0.a_.l_ ++ ([p1] : List AN)), p0.a_.Aj⟩ : Ak), p0.CH, p0.Ay || (decide ((p0.a_.l_.length : Int) ≥ p0.CH))⟩ : Ae), (p0.a_.l_ ++ ([p1] : List AN))))
theorem CY {p0 p1 bp0 bp0_2 rp0_2_0 q0 u0 u2} (hm : BU p0 p1 = some (q0, u0, u2)) (A : HH g h [.obj bp0 (.cells none 2 (BM p0 (.ptr (some (bp0_2, 0))))), .obj bp0_2 (.cells none 2 [AG rp0_2_0 p0.a_.l_.length, Ai p0.a_.Aj]), .AO rp0_2_0 114 (AO AP p0.a_.l_)] F) (hc : BZ (cfg.still 42) av = [.ptr (some (bp0, 0)), .agg (AP p1)] := by kernel_rfl) : ∃ v h', Bg cfg g h 42 av v h' ∧ ∃ (r'2 : Option Nat), v = Ai q0 ∧ HH g h' [.obj bp0 (.cells none 2 (BM u0 (.ptr (some (bp0_2, 0))))), .obj bp0_2 (.cells none 2 [AG r'2 u2.length, Ai p0.a_.Aj]), .AO r'2 114 (AO AP u2)] F := by
 refine E5 56 [.tmp 4] hc ?_
 clear hc
 unfold BU at hm
 refine bg 56 [(0, .ptr (some (bp0, 0))), (1, .agg (AP p1))] fun fr H => ?_
 refine AD 2 ?_
 obtain ⟨h1, e1, A⟩ := A.pu (.cells none 2 (AP p1))
 refine Bo 3 (.ptr (some (h.size, 0))) e1 H fun fr t H => ?_
 refine AM 1 [] H fun fr H => AQ (AQ (EO 1 23 ?_))
 refine Ad 4 [(5, .ptr (some (bp0, 0)))] 9 1 4 A H fun fr t H => ?_
 refine AE 1 [(10, .bool p0.Ay)] H fun fr H => BD 14 (fun fr' h' => h1 = h' ∧ Has fr' 56 [(0, .ptr (some (bp0, 0))), (3, .ptr (some (h.size, 0))), (5, .ptr (some (bp0, 0))), (24, .bool (p0.Ay || (decide ((p0.a_.l_.length : Int) ≥ p0.CH))))]) ?_ ?_
 ·cases hb : (p0.Ay : Bool) with
  | true =>
   replace H := H.kn 10 hb
   exact AE 14 [(24, .bool true)] H fun fr H => Am H hb
  | false =>
   replace H := H.kn 10 hb
   refine Ad 3 [] 14 1 2 A H fun fr t H => ?_
   refine Ad 2 [] 17 2 0 A H fun fr t H => ?_
   refine Ad 4 [(18, Ai (p0.a_.l_.length : Int))] 22 1 3 A H fun fr t H => ?_
   exact AE 2 [(24, .bool (decide ((p0.a_.l_.length : Int) ≥ p0.CH)))] H fun fr H => Am H hb
 intro t fr h' hK
 obtain ⟨e, H⟩ := hK
 subst e
 obtain ⟨h2, hx, A1⟩ := A.st 1 rfl (o := 4) (new := [.bool (p0.Ay || (decide ((p0.a_.l_.length : Int) ≥ p0.CH)))]) (ds := (Mb p0 (.ptr (some (bp0_2, 0))) (.bool (p0.Ay || (decide ((p0.a_.l_.length : Int) ≥ p0.CH)))))) (Nat.le_of_ble_eq_true rfl) rfl rfl
 replace A : HH g h2 [.obj h.size (.cells none 2 (AP p1)), .obj bp0 (.cells none 2 [_, _, _, _, .bool (p0.Ay || (decide ((p0.a_.l_.length : Int) ≥ p0.CH)))]), _, _] F := A1
 refine C1 2 [] hx H fun fr t H => ?_
 refine CG 4 id (Ad 3 [] 30 1 4 A H fun fr t H => ?_)
 refine BK id (AV 30 H hm (fun hb hm H => ?_) fun hb hm H => ?_)
 ·refine AD 1 (AM 1 [(4, Ai 0)] H fun fr H => Ag ?_)
  obtain ⟨rfl, rfl, rfl⟩ := DR hm
  refine ⟨.inl rfl, Ai 0, rH H, ?_⟩
  replace A := A.k3 1 2 3
  exact ⟨rp0_2_0, rfl, A⟩
 refine CE id (AQ (Ft 4 17 [(0, []), (1, []), (2, []), (3, []), (4, []), (5, []), (6, []), (7, []), (8, []), (9, []), (10, []), (11, []), (12, []), (13, [3]), (14, []), (15, []), (16, [])] ?_))
 refine AE 3 [(33, .ptr (some (bp0, 2)))] H fun fr H => BT 34 (.ptr (some (bp0_2, 0))) h2 [(3, bp0)] (g.BR) H (fun fr => .of (Dd (by kernel_rfl) (A.l1 1 2))) (fun fr H => ?_)
 refine AE 3 [(37, .ptr (some (bp0, 2)))] H fun fr H => BT 38 (.ptr (some (bp0_2, 0))) h2 [(7, bp0), (3, bp0)] (g.BR) H (fun fr => .of (Dd (by kernel_rfl) (A.l1 1 2))) (fun fr H => ?_)
 refine AE 2 [(40, .ptr (some (bp0_2, 0)))] H fun fr H => BT 41 (AG rp0_2_0 p0.a_.l_.length) h2 [(10, bp0_2), (7, bp0), (3, bp0)] (g.BR) H (fun fr => .of (Dd (by kernel_rfl) (A.l1 2 0))) (fun fr H => ?_)
 refine BT 42 (.agg (AP p1)) h2 [(11, h.size), (10, bp0_2), (7, bp0), (3, bp0)] (g.BR) H (fun fr => .of (CD (by kernel_rfl) (A.la 0 0 7))) (fun fr H => ?_)
 obtain ⟨h3, e2, A⟩ := A.pL 114 (AP p1)
 refine BT 43 (AG (some h2.size) (([p1] : List AN).length)) h3 [(12, h2.size), (11, h.size), (10, bp0_2), (7, bp0), (3, bp0)] (g.BR) H (fun fr => .of (OQ (by kernel_rfl) (congrArg some e2.symm))) (fun fr H => ?_)
 replace A : HH g h3 [_, .AO (some h2.size) 114 ((AP p1)), _, _, _] F := (A.front 4 rfl)
 have A1 := A.Fe 1 (pr := [bp0]) (.cons 2 rfl (by simp [Ck.ids]) .nil)
 obtain ⟨hb, hm⟩ := BQ hm
 obtain ⟨r1, h4, hx, A1⟩ := HH.Hd DS (by decide) A1 0 (xs := p0.a_.l_) (ys := ([p1] : List AN)) rfl (B6 A 1 rfl (n := ([p1] : List AN).length) (z := 7) rfl (by decide)) rfl rfl hb
 replace A := A.VA A1
 replace A := A.k4 0 2 3 4
 refine BT 44 (AG r1 ((p0.a_.l_ ++ ([p1] : List AN)).length)) h4 [(12, h2.size), (11, h.size), (10, bp0_2), (7, bp0), (3, bp0)] (bp0 :: g.BR) H (fun fr => .of (Er (s := Cf rp0_2_0 p0.a_.l_.length) (by kernel_rfl) hx)) (fun fr H => ?_)
 refine AE 2 [(46, .ptr (some (bp0_2, 0)))] H fun fr H => ?_
 obtain ⟨h5, hx, A1⟩ := A.st 3 rfl (o := 0) (new := [AG r1 ((p0.a_.l_ ++ ([p1] : List AN)).length)]) (ds := [AG r1 ((p0.a_.l_ ++ ([p1] : List AN)).length), Ai p0.a_.Aj]) (Nat.le_of_ble_eq_true rfl) rfl rfl
 replace A : HH g h5 [_, _, _, .obj bp0_2 (.cells none 2 [AG r1 ((p0.a_.l_ ++ ([p1] : List AN)).length), Ai p0.a_.Aj])] F := A1
 refine Gj (.tuple []) h5 [(12, h2.size), (11, h.size), (10, bp0_2), (7, bp0), (3, bp0)] (g.BR) H (fun fr => .of (MS (by kernel_rfl) rfl hx)) (fun fr H => ?_)
 refine CG 10 id (Ad 3 [] 50 2 2 A H fun fr t H => ?_)
 refine Ad 2 [] 53 3 0 A H fun fr t H => ?_
 refine AM 3 [(4, Ai (IntKind.i64.wrap (((p0.a_.l_ ++ ([p1] : List AN)).length : Int) - 1)))] H fun fr H => Ag ?_
 obtain ⟨rfl, rfl, rfl⟩ := DR hm
 refine ⟨.inl rfl, Ai (IntKind.i64.wrap (((p0.a_.l_ ++ ([p1] : List AN)).length : Int) - 1)), rH H, ?_⟩
 replace A := A.k3 2 3 0
 exact ⟨r1, rfl, A⟩
def CF (p0 : Int) (p1 : Int) (p2_0 : Ae) : Option (Int × Ae × (List AN)) :=
 (BU p2_0 (⟨(2 : Int), p0, p1, (⟨(0 : Int), (0 : Int), (0 : Int), (0 : Int)⟩ : Ar)⟩ : AN)).bind fun (x1, x2, x3) => some (x1, (⟨x2.t_, (⟨x3, p2_0.a_.Aj⟩ : Ak), x2.CH, x2.Ay⟩ : Ae), x3)
theorem FC {p0 p1 p2_0 bp2 bp2_0 bp2_0_2 rp2_0_2_0 q0 u1 u3} (hm : CF p0 p1 p2_0 = some (q0, u1, u3)) (A : HH g h [.obj bp2 (.cells none 2 [.ptr (some (bp2_0, 0))]), .obj bp2_0 (.cells none 2 (BM p2_0 (.ptr (some (bp2_0_2, 0))))), .obj bp2_0_2 (.cells none 2 [AG rp2_0_2_0 p2_0.a_.l_.length, Ai p2_0.a_.Aj]), .AO rp2_0_2_0 114 (AO AP p2_0.a_.l_)] F) (hc : BZ (cfg.still 87) av = [Ai p0, Ai p1, .ptr (some (bp2, 0))] := by kernel_rfl) : ∃ v h', Bg cfg g h 87 av v h' ∧ ∃ (r'3 : Option Nat), v = Ai q0 ∧ HH g h' [.obj bp2 (.cells none 2 [.ptr (some (bp2_0, 0))]), .obj bp2_0 (.cells none 2 (BM u1 (.ptr (some (bp2_0_2, 0))))), .obj bp2_0_2 (.cells none 2 [AG r'3 u3.length, Ai p2_0.a_.Aj]), .AO r'3 114 (AO AP u3)] F := by
 refine E5 11 [.tmp 5] hc ?_
 clear hc
 unfold CF at hm
 refine bg 11 [(0, Ai p0), (1, Ai p1), (2, .ptr (some (bp2, 0)))] fun fr H => ?_
 refine AD 1 (Bw 1 [] 6 H fun fr H => Io 6 0 0 A H fun fr t H => ?_)
 replace A := A.k4 1 2 3 0
 obtain ⟨⟨x1, x2, x3⟩, hx, hm⟩ := bind_some hm
 obtain ⟨v1, h1, hr, r1, rfl, A1⟩ := CY (av := [.ptr (some (bp2_0, 0)), .agg [Ai 2, Ai p0, Ai p1, Au 0, Au 0, Au 0, Au 0]]) hx (A.cut 3)
 replace A := A.Rj A1
 refine Ap 3 [] 10 hr H fun fr t H => ?_
 refine AM 1 [(5, Ai x1)] H fun fr H => Ag ?_
 obtain ⟨rfl, rfl, rfl⟩ := DR hm
 refine ⟨.inl rfl, Ai x1, rH H, ?_⟩
 replace A := A.k4 3 0 1 2
 exact ⟨r1, rfl, A⟩
def EV (p0 : Ak) (p2 : Bool) (p3 : Bool) (s : (List Int) × (List Bool)) : Option (((List Int) × (List Bool)) ⊕ (((List Bool)))) :=
 match s with
 | (x1, x2) => Af (decide ((x1.length : Int) > 0)) ((Ff x1 (IntKind.i64.wrap ((x1.length : Int) - 1))).bind fun x4 => (N4 x1 none (some (IntKind.i64.wrap ((x1.length : Int) - 1)))).bind fun x5 => (Ff x2 x4).bind fun x6 => Af x6 (some (.inl (x5, x2))) ((Ff x2 x4).bind fun x7 => (Ff p0.l_ x4).bind fun x8 => Af (x8.CZ == 2) (Cm (KI 8 (x5.length + ([x8.a_, x8.b_] : List Int).length)) <| some (.inl ((x5 ++ ([x8.a_, x8.b_] : List Int)), (x2.set x4.toNat true)))) ((Af ((x8.CZ == 3) && p2) (some true) (some ((x8.CZ == 4) && p3)) : Option ((Bool))).bind fun x9 => Af x9 (Cm (KI 8 (x5.length + ([x8.a_] : List Int).length)) <| some (.inl ((x5 ++ ([x8.a_] : List Int)), (x2.set x4.toNat true)))) (some (.inl (x5, (x2.set x4.toNat true))))))) (some (.inr x2))
def EP (x3 : List Bool) (s : (List Int) × Int) : Option (((List Int) × Int) ⊕ (((List Int)))) :=
 match s with
 | (x10, x11) => Af (decide (x11 < (x3.length : Int))) (((Ff x3 x11).bind fun x14 => Af x14 (Cm (KI 8 (x10.length + ([x11] : List Int).length)) <| some (x10 ++ ([x11] : List Int))) (some x10) : Option (((List Int)))).bind fun x13 => some (.inl (x13, IntKind.i64.wrap (x11 + 1)))) (some (.inr x10))
def CQ (p0 : Ak) (p1 : List Int) (p2 : Bool) (p3 : Bool) : Option ((List Int)) :=
 Cm (WO 1 (p0.l_.length : Int)) <| Cm (KI 8 p1.length) <| (loop (EV p0 p2 p3) (p1, (List.replicate (p0.l_.length : Int).toNat false))).bind fun x3 => (loop (EP x3) (([] : List Int), (0 : Int))).bind fun x12 => some x12
theorem Fu {p0 p1 p2 p3 rp1 q0} (hm : CQ p0 p1 p2 p3 = some q0) (A : HH g h [.AO rp1 3 (AO (eI .i64) p1)] F) (hc : BZ (cfg.still 50) av = [.Aq (AK p0), AG rp1 p1.length, .bool p2, .bool p3] := by kernel_rfl) : ∃ v h', Bg cfg g h 50 av v h' ∧ v = vs (eI .i64) q0 ∧ HH g h' [.AO rp1 3 (AO (eI .i64) p1)] F := by
 refine Xa 95 [.tmp 8] hc ?_
 clear hc
 unfold CQ at hm
 refine bg 95 [(0, .Aq (AK p0)), (1, AG rp1 p1.length), (2, .bool p2), (3, .bool p3)] fun fr H => ?_
 refine AD 1 (Bw 1 [] 7 H fun fr H => BI 3 [] 19 (vs AP p0.l_) h H (fun fr => .of (FK (by kernel_rfl))) fun fr t H => ?_)
 obtain ⟨hb, hm⟩ := BQ hm
 obtain ⟨h1, e1, A⟩ := A.pL 4 (AO eB (List.replicate (p0.l_.length : Int).toNat false))
 refine BI 1 [] 21 (AG (some h.size) (List.replicate (p0.l_.length : Int).toNat false).length) h1 H (fun fr => .of (TX (e := eB) Fx (x := false) (by kernel_rfl) hb (congrArg some e1.symm))) fun fr t H => ?_
 refine Bw 1 [(9, AG (some h.size) ((List.replicate (p0.l_.length : Int).toNat false).length))] 3 H fun fr H => ?_
 replace A : HH g h1 [_, .AO (some h.size) 4 (AO eB (List.replicate (p0.l_.length : Int).toNat false))] F := (A.front 1 rfl)
 have A1 := A.cut 1
 obtain ⟨hb, hm⟩ := BQ hm
 obtain ⟨r1, h2, hr, A1⟩ := HH.clone (C := cfg) (f := 67) (a := 0) (t := 3) (xs := p1) (encI .i64) (by decide) A1 (by kernel_rfl) (l := exts) rfl (by kernel_rfl) (by kernel_rfl) rfl (HH.WD (encI .i64) (by decide) A1 0 (xs := p1) rfl) ((encI .i64).BZ _) hb
 replace A := A.g12 A1
 refine Ap 1 [] 23 hr H fun fr t H => ?_
 refine AM 1 [(10, AG r1 p1.length)] H fun fr H => AQ (Ac (id := 0) (by kernel_rfl) ?_)
 replace A : HH g h2 [.AO r1 3 (AO (eI .i64) (p1 ++ [])), _, _] F := A.X3 0 rfl
 obtain ⟨o1, ho, hm⟩ := bind_some hm
 refine As (Q' := fun e fr' h' => (∃ x3, e = .exit 0 ∧ x3 = o1 ∧ ∃ (hl2 : x3.length = (List.replicate (p0.l_.length : Int).toNat false).length), Has fr' 95 [(9, AG (some h.size) x3.length)] ∧ HH g h' [.AO rp1 3 (AO (eI .i64) p1), .AO (some h.size) 4 (AO eB x3)] F) ∨ False) ?_ ?_
 ·refine B2 (by kernel_rfl) (fun (s : (List Int) × (List Bool)) fr' h' => ∃ x1 x2, (x1, x2) = s ∧ ∃ r2 tl1, ∃ (hl1 : x2.length = (List.replicate (p0.l_.length : Int).toNat false).length), Has fr' 95 [(0, .Aq (AK p0)), (2, .bool p2), (3, .bool p3), (9, AG (some h.size) x2.length), (10, AG r2 x1.length)] ∧ HH g h' [.AO r2 3 (AO (eI .i64) (x1 ++ tl1)), .AO rp1 3 (AO (eI .i64) p1), .AO (some h.size) 4 (AO eB x2)] F) ho ⟨_, _, rfl, _, [], rfl, H.ls, A⟩ ?_
  clear ho hm H A
  intro s q fr h3 hI hm
  obtain ⟨x1, x2, rfl, r2, tl1, hl1, H, A⟩ := hI
  unfold EV at hm
  refine AQ (AD 3 (AM 3 [(26, .bool (decide ((x1.length : Int) > 0)))] H fun fr H => AV 26 H hm (fun hb hm H => ?_) fun hb hm H => ?_))
  ·refine CE id (Ac (id := 1) (by kernel_rfl) ?_)
   refine AD 7 ?_
   obtain ⟨x4, hx, hm⟩ := bind_some hm
   obtain ⟨i1, er1, _, hx, hq1⟩ := HH.X8 (encI .i64) (by decide) A 0 (xs := x1) (tl := tl1) rfl hx
   refine BI 4 [] 31 (.ptr (some (i1, (IntKind.i64.wrap ((x1.length : Int) - 1)).toNat * 1))) h3 H (fun fr => .of (FI (s := Cf r2 x1.length) (by kernel_rfl) hx)) fun fr t H => ?_
   refine Ax 32 _ _ H (fun fr => .of (Dd (by kernel_rfl) (E7 (encI .i64) (HH.row A 0 rfl er1) hq1 (o := 0) rfl))) fun fr t H => ?_
   refine Bw 1 [(11, Ai x4)] 6 H fun fr H => ?_
   obtain ⟨x5, hx, hm⟩ := bind_some hm
   have Aw1 := A
   obtain ⟨tl2, A1⟩ := HH.Wy A 0 (xs := x1) (tl := tl1) rfl hx
   replace A : HH g h3 [.AO r2 3 (AO (eI .i64) (x5 ++ tl2)), _, _] F := A1
   refine BI 4 [] 37 (AG r2 x5.length) h3 H (fun fr => .of (UJ (encI .i64) (by decide) Aw1 0 (xs := x1) (tl := tl1) (k' := .i64) rfl (by kernel_rfl) (by kernel_rfl) hx)) fun fr t H => ?_
   refine BG 1 [(0, .Aq (AK p0)), (2, .bool p2), (3, .bool p3), (9, AG (some h.size) x2.length), (10, AG r2 x5.length), (11, Ai x4)] H fun fr H => BK id (AQ (AD 4 ?_))
   obtain ⟨x6, hx, hm⟩ := bind_some hm
   obtain ⟨i2, er2, _, hx, hq2⟩ := HH.ND Fx (by decide) A 2 (xs := x2) rfl hx
   refine BI 2 [] 40 (.ptr (some (i2, x4.toNat * 1))) h3 H (fun fr => .of (FI (s := Cf (some h.size) x2.length) (by kernel_rfl) hx)) fun fr t H => ?_
   refine Ax 41 _ _ H (fun fr => .of (Dd (by kernel_rfl) (E7 Fx (HH.row A 2 rfl er2) hq2 (o := 0) rfl))) fun fr t H => ?_
   refine BK id (AV 41 H hm (fun hb hm H => ?_) fun hb hm H => ?_)
   ·refine BO (i := 1) (by kernel_rfl) ?_
    exact nx hm ⟨_, _, rfl, _, tl2, hl1, H.ls, A⟩
   refine Ca 4 id ?_
   obtain ⟨x7, hx, hm⟩ := bind_some hm
   obtain ⟨i3, er3, _, hx, hq3⟩ := HH.ND Fx (by decide) A 2 (xs := x2) rfl hx
   refine BI 2 [] 44 (.ptr (some (i3, x4.toNat * 1))) h3 H (fun fr => .of (FI (s := Cf (some h.size) x2.length) (by kernel_rfl) hx)) fun fr t H => ?_
   obtain ⟨h4, hx, A1⟩ := HH.VK Fx A 2 rfl er3 hq3 (y := true) (o := 0) (new := [.bool true]) rfl rfl (Nat.le_of_ble_eq_true rfl)
   have hl3 : (x2.set x4.toNat true).length = (List.replicate (p0.l_.length : Int).toNat false).length := List.length_set.trans hl1
   have el : AG (some h.size) x2.length = AG (some h.size) (x2.set x4.toNat true).length := congrArg _ List.length_set.symm
   try rw [el] at H
   try rw [el] at A1
   replace A : HH g h4 [_, _, .AO (some h.size) 4 (AO eB (x2.set x4.toNat true))] F := A1
   refine Kh hx H fun fr t H => ?_
   refine CG 9 id (BI 3 [] 48 (vs AP p0.l_) h4 H (fun fr => .of (FK (by kernel_rfl))) fun fr t H => ?_)
   obtain ⟨x8, hx, hm⟩ := bind_some hm
   refine BI 1 [] 50 (.Aq (AP x8)) h4 H (fun fr => .of (Hl (e := AP) (x := x8) DS (by decide) (by kernel_rfl) hx)) fun fr t H => ?_
   refine Ax 51 (.agg (AP x8)) h4 H (fun fr => .of (FK (by kernel_rfl))) fun fr t H => ?_
   obtain ⟨h5, e2, A⟩ := A.pu (.cells none 2 [Ai 0, Ai 0, Ai 0, Au 0, Au 0, Au 0, Au 0])
   refine Bo 12 (.ptr (some (h4.size, 0))) e2 H fun fr t H => ?_
   obtain ⟨h6, hx, A⟩ := A.s0 0 (AP x8) [_, _, _, _, _, _, _]
   refine DN hx H fun fr t H => ?_
   refine BK id (Ac (id := 2) (by kernel_rfl) ?_)
   refine AD 4 (Ad 1 [] 54 0 0 A H fun fr t H => ?_)
   refine AM 2 [(52, .bool (x8.CZ == 2))] H fun fr H => AV 52 H hm (fun hb hm H => ?_) fun hb hm H => ?_
   ·refine Bd 8 (Ad 2 [(56, AG r2 x5.length)] 58 0 1 A H fun fr t H => ?_)
    refine Ad 1 [] 60 0 2 A H fun fr t H => ?_
    obtain ⟨h7, e3, A⟩ := A.pL 3 [Ai x8.a_, Ai x8.b_]
    refine Bo 61 (AG (some h6.size) (([x8.a_, x8.b_] : List Int).length)) e3 H fun fr t H => ?_
    obtain ⟨hb, hm⟩ := BQ hm
    obtain ⟨r3, tl3, h8, hx, A1⟩ := HH.U1 (encI .i64) (by decide) A 2 (xs := x5) (tl := tl2) (ys := ([x8.a_, x8.b_] : List Int)) rfl (B6 A 0 rfl (n := ([x8.a_, x8.b_] : List Int).length) (z := 1) rfl (by decide)) rfl rfl hb
    replace A : HH g h8 [.AO (some h6.size) 3 ([Ai x8.a_, Ai x8.b_]), _, .AO r3 3 (AO (eI .i64) ((x5 ++ ([x8.a_, x8.b_] : List Int)) ++ tl3)), _, _] F := A1
    replace A := A.k4 1 2 3 4
    refine Ax 62 _ _ H (fun fr => .of (Er (s := Cf r2 x5.length) (by kernel_rfl) hx)) fun fr t H => ?_
    refine BG 1 [(0, .Aq (AK p0)), (2, .bool p2), (3, .bool p3), (9, AG (some h.size) ((x2.set x4.toNat true).length)), (10, AG r3 ((x5 ++ ([x8.a_, x8.b_] : List Int)).length))] H fun fr H => at_nil ?_
    replace A := A.k3 1 2 3
    exact nx hm ⟨_, _, rfl, _, tl3, hl3, H.ls, A⟩
   refine AQ ?_
   obtain ⟨o2, ho, hm⟩ := bind_some hm
   refine As (Q' := fun e fr' h' => (∃ x9, e = .normal ∧ x9 = o2 ∧ Has fr' 95 [(0, .Aq (AK p0)), (2, .bool p2), (3, .bool p3), (9, AG (some h.size) ((x2.set x4.toNat true).length)), (10, AG r2 x5.length), (12, .ptr (some (h4.size, 0))), (63, .bool x9)] ∧ HH g h' [.obj h4.size (.cells none 2 (AP x8)), .AO r2 3 (AO (eI .i64) (x5 ++ tl2)), .AO rp1 3 (AO (eI .i64) p1), .AO (some h.size) 4 (AO eB (x2.set x4.toNat true))] F) ∨ False) ?_ ?_
   ·replace hm := ho
    clear ho
    refine AD 7 (Ad 1 [] 65 0 0 A H fun fr t H => ?_)
    refine AE 2 [(67, .bool (x8.CZ == 3))] H fun fr H => BD 2 (fun fr' h' => h6 = h' ∧ Has fr' 95 [(0, .Aq (AK p0)), (2, .bool p2), (3, .bool p3), (9, AG (some h.size) ((x2.set x4.toNat true).length)), (10, AG r2 x5.length), (12, .ptr (some (h4.size, 0))), (69, .bool ((x8.CZ == 3) && p2))]) ?_ ?_
    ·cases hb : (x8.CZ == 3 : Bool) with
     | true =>
      replace H := H.kn 67 hb
      exact AE 2 [(69, .bool p2)] H fun fr H => Am H hb
     | false =>
      replace H := H.kn 67 hb
      exact AE 2 [(69, .bool false)] H fun fr H => Am H hb
    intro t fr h' hK
    obtain ⟨e, H⟩ := hK
    subst e
    refine AM 1 [(63, .bool ((x8.CZ == 3) && p2))] H fun fr H => AV 63 H hm (fun hb hm H => ?_) fun hb hm H => ?_
    ·exact By (.inl ⟨_, rfl, Ah hm, H.ls, A⟩)
    refine Bd 7 (Ad 1 [] 71 0 0 A H fun fr t H => ?_)
    refine AE 2 [(73, .bool (x8.CZ == 4))] H fun fr H => BD 2 (fun fr' h' => h6 = h' ∧ Has fr' 95 [(0, .Aq (AK p0)), (2, .bool p2), (3, .bool p3), (9, AG (some h.size) ((x2.set x4.toNat true).length)), (10, AG r2 x5.length), (12, .ptr (some (h4.size, 0))), (75, .bool ((x8.CZ == 4) && p3))]) ?_ ?_
    ·cases hb : (x8.CZ == 4 : Bool) with
     | true =>
      replace H := H.kn 73 hb
      exact AE 2 [(75, .bool p3)] H fun fr H => Am H hb
     | false =>
      replace H := H.kn 73 hb
      exact AE 2 [(75, .bool false)] H fun fr H => Am H hb
    intro t fr h' hK
    obtain ⟨e, H⟩ := hK
    subst e
    refine AE 1 [(63, .bool ((x8.CZ == 4) && p3))] H fun fr H => at_nil ?_
    exact .inl ⟨_, rfl, Ah hm, H.ls, A⟩
   clear ho
   clear A
   intro e fr h9 hQ
   rcases hQ with ⟨x9, rfl, rfl, H, A⟩ | hF
   ·show AW _ _ _ _ _ _ _
    refine AV 63 H hm (fun hb hm H => ?_) fun hb hm H => ?_
    ·refine Bd 6 (Ad 2 [(76, AG r2 x5.length)] 78 0 1 A H fun fr t H => ?_)
     obtain ⟨h10, e4, A⟩ := A.pL 3 [Ai x8.a_]
     refine Bo 79 (AG (some h9.size) (([x8.a_] : List Int).length)) e4 H fun fr t H => ?_
     obtain ⟨hb, hm⟩ := BQ hm
     obtain ⟨r4, tl4, h11, hx, A1⟩ := HH.U1 (encI .i64) (by decide) A 2 (xs := x5) (tl := tl2) (ys := ([x8.a_] : List Int)) rfl (B6 A 0 rfl (n := ([x8.a_] : List Int).length) (z := 1) rfl (by decide)) rfl rfl hb
     replace A : HH g h11 [.AO (some h9.size) 3 ([Ai x8.a_]), _, .AO r4 3 (AO (eI .i64) ((x5 ++ ([x8.a_] : List Int)) ++ tl4)), _, _] F := A1
     replace A := A.k4 1 2 3 4
     refine Ax 80 _ _ H (fun fr => .of (Er (s := Cf r2 x5.length) (by kernel_rfl) hx)) fun fr t H => ?_
     refine BG 1 [(0, .Aq (AK p0)), (2, .bool p2), (3, .bool p3), (9, AG (some h.size) ((x2.set x4.toNat true).length)), (10, AG r4 ((x5 ++ ([x8.a_] : List Int)).length))] H fun fr H => at_nil ?_
     replace A := A.k3 1 2 3
     exact nx hm ⟨_, _, rfl, _, tl4, hl3, H.ls, A⟩
    refine By ?_
    replace A := A.k3 1 2 3
    exact nx hm ⟨_, _, rfl, _, tl2, hl3, H.ls, A⟩
   exact hF.elim
  refine BO (i := 0) (by kernel_rfl) ?_
  replace A := A.k2 1 2
  exact nr hm fun e => .inl ⟨_, rfl, e, hl1, H.ls, A⟩
 clear ho
 clear A
 intro e fr h12 hQ
 rcases hQ with ⟨x3, rfl, rfl, hl2, H, A⟩ | hF
 ·show AW _ _ _ _ _ _ _
  refine AD 1 (AM 1 [(13, .slice none 0)] H fun fr H => AQ (AD 3 (AM 3 [(81, AG (some h.size) x3.length), (82, Ai (x3.length : Int)), (83, Ai 0)] H fun fr H => Ac (id := 3) (by kernel_rfl) ?_)))
  replace A : HH g h12 [.AO none 3 (AO (eI .i64) ([] : List Int)), _, _] F := A.IY 3
  obtain ⟨o3, ho, hm⟩ := bind_some hm
  refine As (Q' := fun e fr' h' => (∃ x12, e = .exit 3 ∧ x12 = o3 ∧ ∃ r6, Has fr' 95 [(13, AG r6 x12.length)] ∧ HH g h' [.AO r6 3 (AO (eI .i64) x12), .AO rp1 3 (AO (eI .i64) p1)] F) ∨ False) ?_ ?_
  ·refine B2 (by kernel_rfl) (fun (s : (List Int) × Int) fr' h' => ∃ x10 x11, (x10, x11) = s ∧ ∃ r5, Has fr' 95 [(13, AG r5 x10.length), (81, AG (some h.size) x3.length), (82, Ai (x3.length : Int)), (83, Ai x11)] ∧ HH g h' [.AO r5 3 (AO (eI .i64) x10), .AO rp1 3 (AO (eI .i64) p1), .AO (some h.size) 4 (AO eB x3)] F) ho ⟨_, _, rfl, none, H.ls, A⟩ ?_
   clear ho hm H A
   intro s q fr h13 hI hm
   obtain ⟨x10, x11, rfl, r5, H, A⟩ := hI
   unfold EP at hm
   refine AD 1 (AM 1 [(84, .bool (decide (x11 < (x3.length : Int))))] H fun fr H => AQ (AV 84 H hm (fun hb hm H => ?_) fun hb hm H => ?_))
   ·refine CE id (AQ ?_)
    obtain ⟨o4, ho, hm⟩ := bind_some hm
    refine As (Q' := fun e fr' h' => (∃ x13, e = .normal ∧ x13 = o4 ∧ ∃ r7, Has fr' 95 [(13, AG r7 x13.length), (81, AG (some h.size) x3.length), (82, Ai (x3.length : Int)), (83, Ai x11)] ∧ HH g h' [.AO r7 3 (AO (eI .i64) x13), .AO rp1 3 (AO (eI .i64) p1), .AO (some h.size) 4 (AO eB x3)] F) ∨ False) ?_ ?_
    ·replace hm := ho
     clear ho
     refine Ac (id := 4) (by kernel_rfl) ?_
     refine AD 5 ?_
     obtain ⟨x14, hx, hm⟩ := bind_some hm
     obtain ⟨i4, er4, _, hx, hq4⟩ := HH.ND Fx (by decide) A 2 (xs := x3) rfl hx
     refine BI 1 [(85, Ai x11)] 86 (.ptr (some (i4, x11.toNat * 1))) h13 H (fun fr => .of (FI (s := Cf (some h.size) x3.length) (by kernel_rfl) hx)) fun fr t H => ?_
     refine Ax 87 _ _ H (fun fr => .of (Dd (by kernel_rfl) (E7 Fx (HH.row A 2 rfl er4) hq4 (o := 0) rfl))) fun fr t H => ?_
     refine Bw 2 [(14, Ai x11), (15, .bool x14)] 1 H fun fr H => AM 1 [(88, .bool x14)] H fun fr H => AV 88 H hm (fun hb hm H => ?_) fun hb hm H => ?_
     ·refine Bd 5 (AE 2 [(89, AG r5 x10.length), (90, Ai x11)] H fun fr H => ?_)
      obtain ⟨h14, e5, A⟩ := A.pL 3 [Ai x11]
      refine Bo 91 (AG (some h13.size) (([x11] : List Int).length)) e5 H fun fr t H => ?_
      obtain ⟨hb, hm⟩ := BQ hm
      obtain ⟨r8, h15, hx, A1⟩ := HH.Hd (encI .i64) (by decide) A 1 (xs := x10) (ys := ([x11] : List Int)) rfl (B6 A 0 rfl (n := ([x11] : List Int).length) (z := 1) rfl (by decide)) rfl rfl hb
      replace A : HH g h15 [.AO (some h13.size) 3 ([Ai x11]), .AO r8 3 (AO (eI .i64) (x10 ++ ([x11] : List Int))), _, _] F := A1
      replace A := A.k3 1 2 3
      refine Ax 92 _ _ H (fun fr => .of (Er (s := Cf r5 x10.length) (by kernel_rfl) hx)) fun fr t H => ?_
      refine BG 1 [(13, AG r8 ((x10 ++ ([x11] : List Int)).length)), (81, AG (some h.size) x3.length), (82, Ai (x3.length : Int)), (83, Ai x11)] H fun fr H => at_nil ?_
      exact .inl ⟨_, rfl, Ah hm, _, H.ls, A⟩
     exact By (.inl ⟨_, rfl, Ah hm, _, H.ls, A⟩)
    clear ho
    clear A
    intro e fr h16 hQ
    rcases hQ with ⟨x13, rfl, rfl, r7, H, A⟩ | hF
    ·show AW _ _ _ _ _ _ _
     refine Bd 2 (BG 2 [(13, AG r7 x13.length), (81, AG (some h.size) x3.length), (82, Ai (x3.length : Int)), (83, Ai (IntKind.i64.wrap (x11 + 1)))] H fun fr H => at_nil ?_)
     exact nx hm ⟨_, _, rfl, _, H.ls, A⟩
    exact hF.elim
   refine BO (i := 3) (by kernel_rfl) ?_
   replace A := A.d2
   exact nr hm fun e => .inl ⟨_, rfl, e, _, H.ls, A⟩
  clear ho
  clear A
  intro e fr h17 hQ
  rcases hQ with ⟨x12, rfl, rfl, r6, H, A⟩ | hF
  ·show AW _ _ _ _ _ _ _
   refine AD 2 (AM 2 [(8, AG r6 x12.length)] H fun fr H => Ag ?_)
   obtain rfl := Ah hm
   refine ⟨.inl rfl, AG r6 x12.length, rH H, ?_⟩
   obtain ⟨h18, hz0, A1⟩ := (A.front 0 rfl).VN (n := x12.length) (z := 1) ((encI .i64).Hb _) (by decide)
   replace A : HH g h18 [_] F := A1
   refine ⟨vs (eI .i64) x12, h18, by first | rfl | (simp only [SV, Sv, Sr, SY, S2, Sb, SP, SU, Ss, S3, S0, HI, HJ, HN, HG, HM, HQ, HX, Option.map_some, hz0] <;> rfl), ?_⟩
   exact ⟨rfl, A⟩
  exact hF.elim
 exact hF.elim
def Db (p0 : Ak) (p1 : Bool) : Option ((List Int)) :=
 (CQ p0 ([p0.Aj] : List Int) p1 false).bind fun x1 => some x1
theorem GD {p0 p1 q0} (hm : Db p0 p1 = some q0) (A : HH g h [] F) (hc : BZ (cfg.still 25) av = [.Aq (AK p0), .bool p1] := by kernel_rfl) : ∃ v h', Bg cfg g h 25 av v h' ∧ v = vs (eI .i64) q0 ∧ HH g h' [] F := by
 refine E5 13 [.tmp 4] hc ?_
 clear hc
 unfold Db at hm
 refine bg 13 [(0, .Aq (AK p0)), (1, .bool p1)] fun fr H => ?_
 refine AD 1 (Bw 1 [] 9 H fun fr H => BI 4 [(5, .Aq (AK p0))] 9 (Ai p0.Aj) h H (fun fr => .of (FK (by kernel_rfl))) fun fr t H => ?_)
 obtain ⟨h1, e1, A⟩ := A.pL 3 [Ai p0.Aj]
 refine Bo 10 (AG (some h.size) (([p0.Aj] : List Int).length)) e1 H fun fr t H => ?_
 replace A : HH g h1 [.AO (some h.size) 3 (AO (eI .i64) ([p0.Aj] : List Int))] F := A
 obtain ⟨x1, hx, hm⟩ := bind_some hm
 obtain ⟨v1, h2, hr, rfl, A1⟩ := Fu (av := [.Aq (AK p0), AG (some h.size) (([p0.Aj] : List Int).length), .bool p1, .bool false]) hx (A.cut 1)
 replace A := A.g11 A1
 refine Ap 1 [] 12 hr H fun fr t H => ?_
 refine AM 1 [(4, vs (eI .i64) x1)] H fun fr H => Ag ?_
 obtain rfl := Ah hm
 refine ⟨.inl rfl, vs (eI .i64) x1, rH H, ?_⟩
 replace A := A.d0
 exact ⟨rfl, A⟩
def HE (p0 : Ak) (p2 : Bool) (p3 : Bool) (s : (List Int) × (List Bool)) : Option (((List Int) × (List Bool)) ⊕ (((List Bool)))) :=
 match s with
 | (x1, x2) => Af (decide ((x1.length : Int) > 0)) ((Ff x1 (IntKind.i64.wrap ((x1.length : Int) - 1))).bind fun x4 => (N4 x1 none (some (IntKind.i64.wrap ((x1.length : Int) - 1)))).bind fun x5 => (Ff x2 x4).bind fun x6 => Af x6 (some (.inl (x5, x2))) ((Ff x2 x4).bind fun x7 => (Ff p0.l_ x4).bind fun x8 => Af (x8.CZ == 2) (Cm (KI 8 (x5.length + ([x8.a_, x8.b_] : List Int).length)) <| some (.inl ((x5 ++ ([x8.a_, x8.b_] : List Int)), (x2.set x4.toNat true)))) ((Af ((x8.CZ == 3) && p2) (some true) (some ((x8.CZ == 4) && p3)) : Option ((Bool))).bind fun x9 => Af x9 (Cm (KI 8 (x5.length + ([x8.a_] : List Int).length)) <| some (.inl ((x5 ++ ([x8.a_] : List Int)), (x2.set x4.toNat true)))) (some (.inl (x5, (x2.set x4.toNat true))))))) (some (.inr x2))
def HK (x3 : List Bool) (s : (List Int) × Int) : Option (((List Int) × Int) ⊕ (((List Int)))) :=
 match s with
 | (x10, x11) => Af (decide (x11 < (x3.length : Int))) (((Ff x3 x11).bind fun x14 => Af x14 (Cm (KI 8 (x10.length + ([x11] : List Int).length)) <| some (x10 ++ ([x11] : List Int))) (some x10) : Option (((List Int)))).bind fun x13 => some (.inl (x13, IntKind.i64.wrap (x11 + 1)))) (some (.inr x10))
def Et (p0 : Ak) (p1 : List Int) (p2 : Bool) (p3 : Bool) : Option ((List Int)) :=
 Cm (WO 1 (p0.l_.length : Int)) <| Cm (KI 8 p1.length) <| (loop (HE p0 p2 p3) (p1, (List.replicate (p0.l_.length : Int).toNat false))).bind fun x3 => (loop (HK x3) (([] : List Int), (0 : Int))).bind fun x12 => some x12
theorem LG {p0 p1 p2 p3 q0} (hm : Et p0 p1 p2 p3 = some q0) (A : HH g h [] F) (hc : BZ (cfg.still 50) av = [.Aq (AK p0), vs (eI .i64) p1, .bool p2, .bool p3] := by kernel_rfl) : ∃ v h', Bg cfg g h 50 av v h' ∧ v = vs (eI .i64) q0 ∧ HH g h' [] F := by
 refine Xa 95 [.tmp 8] hc ?_
 clear hc
 unfold Et at hm
 refine bg 95 [(0, .Aq (AK p0)), (1, vs (eI .i64) p1), (2, .bool p2), (3, .bool p3)] fun fr H => ?_
 refine AD 1 (Bw 1 [] 7 H fun fr H => BI 3 [] 19 (vs AP p0.l_) h H (fun fr => .of (FK (by kernel_rfl))) fun fr t H => ?_)
 obtain ⟨hb, hm⟩ := BQ hm
 obtain ⟨h1, e1, A⟩ := A.pL 4 (AO eB (List.replicate (p0.l_.length : Int).toNat false))
 refine BI 1 [] 21 (AG (some h.size) (List.replicate (p0.l_.length : Int).toNat false).length) h1 H (fun fr => .of (TX (e := eB) Fx (x := false) (by kernel_rfl) hb (congrArg some e1.symm))) fun fr t H => ?_
 refine Bw 1 [(9, AG (some h.size) ((List.replicate (p0.l_.length : Int).toNat false).length))] 3 H fun fr H => ?_
 have A1 := A.cut 0
 obtain ⟨hb, hm⟩ := BQ hm
 obtain ⟨r1, h2, hr, A1⟩ := HH.clone (C := cfg) (f := 67) (a := 0) (t := 3) (xs := p1) (encI .i64) (by decide) A1 (by kernel_rfl) (l := exts) rfl (by kernel_rfl) (by kernel_rfl) rfl (VZ (encI .i64) _ p1) ((encI .i64).BZ _) hb
 replace A : HH g h2 [.AO r1 3 (AO (eI .i64) p1), .AO (some h.size) 4 (AO eB (List.replicate (p0.l_.length : Int).toNat false))] F := A.Ex (n := 0) A1
 refine Ap 1 [] 23 hr H fun fr t H => ?_
 refine AM 1 [(10, AG r1 p1.length)] H fun fr H => AQ (Ac (id := 0) (by kernel_rfl) ?_)
 replace A : HH g h2 [.AO r1 3 (AO (eI .i64) (p1 ++ [])), _] F := A.X3 0 rfl
 obtain ⟨o1, ho, hm⟩ := bind_some hm
 refine As (Q' := fun e fr' h' => (∃ x3, e = .exit 0 ∧ x3 = o1 ∧ ∃ (hl2 : x3.length = (List.replicate (p0.l_.length : Int).toNat false).length), Has fr' 95 [(9, AG (some h.size) x3.length)] ∧ HH g h' [.AO (some h.size) 4 (AO eB x3)] F) ∨ False) ?_ ?_
 ·refine B2 (by kernel_rfl) (fun (s : (List Int) × (List Bool)) fr' h' => ∃ x1 x2, (x1, x2) = s ∧ ∃ r2 tl1, ∃ (hl1 : x2.length = (List.replicate (p0.l_.length : Int).toNat false).length), Has fr' 95 [(0, .Aq (AK p0)), (2, .bool p2), (3, .bool p3), (9, AG (some h.size) x2.length), (10, AG r2 x1.length)] ∧ HH g h' [.AO r2 3 (AO (eI .i64) (x1 ++ tl1)), .AO (some h.size) 4 (AO eB x2)] F) ho ⟨_, _, rfl, _, [], rfl, H.ls, A⟩ ?_
  clear ho hm H A
  intro s q fr h3 hI hm
  obtain ⟨x1, x2, rfl, r2, tl1, hl1, H, A⟩ := hI
  unfold HE at hm
  refine AQ (AD 3 (AM 3 [(26, .bool (decide ((x1.length : Int) > 0)))] H fun fr H => AV 26 H hm (fun hb hm H => ?_) fun hb hm H => ?_))
  ·refine CE id (Ac (id := 1) (by kernel_rfl) ?_)
   refine AD 7 ?_
   obtain ⟨x4, hx, hm⟩ := bind_some hm
   obtain ⟨i1, er1, _, hx, hq1⟩ := HH.X8 (encI .i64) (by decide) A 0 (xs := x1) (tl := tl1) rfl hx
   refine BI 4 [] 31 (.ptr (some (i1, (IntKind.i64.wrap ((x1.length : Int) - 1)).toNat * 1))) h3 H (fun fr => .of (FI (s := Cf r2 x1.length) (by kernel_rfl) hx)) fun fr t H => ?_
   refine Ax 32 _ _ H (fun fr => .of (Dd (by kernel_rfl) (E7 (encI .i64) (HH.row A 0 rfl er1) hq1 (o := 0) rfl))) fun fr t H => ?_
   refine Bw 1 [(11, Ai x4)] 6 H fun fr H => ?_
   obtain ⟨x5, hx, hm⟩ := bind_some hm
   have Aw1 := A
   obtain ⟨tl2, A1⟩ := HH.Wy A 0 (xs := x1) (tl := tl1) rfl hx
   replace A : HH g h3 [.AO r2 3 (AO (eI .i64) (x5 ++ tl2)), _] F := A1
   refine BI 4 [] 37 (AG r2 x5.length) h3 H (fun fr => .of (UJ (encI .i64) (by decide) Aw1 0 (xs := x1) (tl := tl1) (k' := .i64) rfl (by kernel_rfl) (by kernel_rfl) hx)) fun fr t H => ?_
   refine BG 1 [(0, .Aq (AK p0)), (2, .bool p2), (3, .bool p3), (9, AG (some h.size) x2.length), (10, AG r2 x5.length), (11, Ai x4)] H fun fr H => BK id (AQ (AD 4 ?_))
   obtain ⟨x6, hx, hm⟩ := bind_some hm
   obtain ⟨i2, er2, _, hx, hq2⟩ := HH.ND Fx (by decide) A 1 (xs := x2) rfl hx
   refine BI 2 [] 40 (.ptr (some (i2, x4.toNat * 1))) h3 H (fun fr => .of (FI (s := Cf (some h.size) x2.length) (by kernel_rfl) hx)) fun fr t H => ?_
   refine Ax 41 _ _ H (fun fr => .of (Dd (by kernel_rfl) (E7 Fx (HH.row A 1 rfl er2) hq2 (o := 0) rfl))) fun fr t H => ?_
   refine BK id (AV 41 H hm (fun hb hm H => ?_) fun hb hm H => ?_)
   ·refine BO (i := 1) (by kernel_rfl) ?_
    exact nx hm ⟨_, _, rfl, _, tl2, hl1, H.ls, A⟩
   refine Ca 4 id ?_
   obtain ⟨x7, hx, hm⟩ := bind_some hm
   obtain ⟨i3, er3, _, hx, hq3⟩ := HH.ND Fx (by decide) A 1 (xs := x2) rfl hx
   refine BI 2 [] 44 (.ptr (some (i3, x4.toNat * 1))) h3 H (fun fr => .of (FI (s := Cf (some h.size) x2.length) (by kernel_rfl) hx)) fun fr t H => ?_
   obtain ⟨h4, hx, A1⟩ := HH.VK Fx A 1 rfl er3 hq3 (y := true) (o := 0) (new := [.bool true]) rfl rfl (Nat.le_of_ble_eq_true rfl)
   have hl3 : (x2.set x4.toNat true).length = (List.replicate (p0.l_.length : Int).toNat false).length := List.length_set.trans hl1
   have el : AG (some h.size) x2.length = AG (some h.size) (x2.set x4.toNat true).length := congrArg _ List.length_set.symm
   try rw [el] at H
   try rw [el] at A1
   replace A : HH g h4 [_, .AO (some h.size) 4 (AO eB (x2.set x4.toNat true))] F := A1
   refine Kh hx H fun fr t H => ?_
   refine CG 9 id (BI 3 [] 48 (vs AP p0.l_) h4 H (fun fr => .of (FK (by kernel_rfl))) fun fr t H => ?_)
   obtain ⟨x8, hx, hm⟩ := bind_some hm
   refine BI 1 [] 50 (.Aq (AP x8)) h4 H (fun fr => .of (Hl (e := AP) (x := x8) DS (by decide) (by kernel_rfl) hx)) fun fr t H => ?_
   refine Ax 51 (.agg (AP x8)) h4 H (fun fr => .of (FK (by kernel_rfl))) fun fr t H => ?_
   obtain ⟨h5, e2, A⟩ := A.pu (.cells none 2 [Ai 0, Ai 0, Ai 0, Au 0, Au 0, Au 0, Au 0])
   refine Bo 12 (.ptr (some (h4.size, 0))) e2 H fun fr t H => ?_
   obtain ⟨h6, hx, A⟩ := A.s0 0 (AP x8) [_, _, _, _, _, _, _]
   refine DN hx H fun fr t H => ?_
   refine BK id (Ac (id := 2) (by kernel_rfl) ?_)
   refine AD 4 (Ad 1 [] 54 0 0 A H fun fr t H => ?_)
   refine AM 2 [(52, .bool (x8.CZ == 2))] H fun fr H => AV 52 H hm (fun hb hm H => ?_) fun hb hm H => ?_
   ·refine Bd 8 (Ad 2 [(56, AG r2 x5.length)] 58 0 1 A H fun fr t H => ?_)
    refine Ad 1 [] 60 0 2 A H fun fr t H => ?_
    obtain ⟨h7, e3, A⟩ := A.pL 3 [Ai x8.a_, Ai x8.b_]
    refine Bo 61 (AG (some h6.size) (([x8.a_, x8.b_] : List Int).length)) e3 H fun fr t H => ?_
    obtain ⟨hb, hm⟩ := BQ hm
    obtain ⟨r3, tl3, h8, hx, A1⟩ := HH.U1 (encI .i64) (by decide) A 2 (xs := x5) (tl := tl2) (ys := ([x8.a_, x8.b_] : List Int)) rfl (B6 A 0 rfl (n := ([x8.a_, x8.b_] : List Int).length) (z := 1) rfl (by decide)) rfl rfl hb
    replace A : HH g h8 [.AO (some h6.size) 3 ([Ai x8.a_, Ai x8.b_]), _, .AO r3 3 (AO (eI .i64) ((x5 ++ ([x8.a_, x8.b_] : List Int)) ++ tl3)), _] F := A1
    replace A := A.k3 1 2 3
    refine Ax 62 _ _ H (fun fr => .of (Er (s := Cf r2 x5.length) (by kernel_rfl) hx)) fun fr t H => ?_
    refine BG 1 [(0, .Aq (AK p0)), (2, .bool p2), (3, .bool p3), (9, AG (some h.size) ((x2.set x4.toNat true).length)), (10, AG r3 ((x5 ++ ([x8.a_, x8.b_] : List Int)).length))] H fun fr H => at_nil ?_
    replace A := A.k2 1 2
    exact nx hm ⟨_, _, rfl, _, tl3, hl3, H.ls, A⟩
   refine AQ ?_
   obtain ⟨o2, ho, hm⟩ := bind_some hm
   refine As (Q' := fun e fr' h' => (∃ x9, e = .normal ∧ x9 = o2 ∧ Has fr' 95 [(0, .Aq (AK p0)), (2, .bool p2), (3, .bool p3), (9, AG (some h.size) ((x2.set x4.toNat true).length)), (10, AG r2 x5.length), (12, .ptr (some (h4.size, 0))), (63, .bool x9)] ∧ HH g h' [.obj h4.size (.cells none 2 (AP x8)), .AO r2 3 (AO (eI .i64) (x5 ++ tl2)), .AO (some h.size) 4 (AO eB (x2.set x4.toNat true))] F) ∨ False) ?_ ?_
   ·replace hm := ho
    clear ho
    refine AD 7 (Ad 1 [] 65 0 0 A H fun fr t H => ?_)
    refine AE 2 [(67, .bool (x8.CZ == 3))] H fun fr H => BD 2 (fun fr' h' => h6 = h' ∧ Has fr' 95 [(0, .Aq (AK p0)), (2, .bool p2), (3, .bool p3), (9, AG (some h.size) ((x2.set x4.toNat true).length)), (10, AG r2 x5.length), (12, .ptr (some (h4.size, 0))), (69, .bool ((x8.CZ == 3) && p2))]) ?_ ?_
    ·cases hb : (x8.CZ == 3 : Bool) with
     | true =>
      replace H := H.kn 67 hb
      exact AE 2 [(69, .bool p2)] H fun fr H => Am H hb
     | false =>
      replace H := H.kn 67 hb
      exact AE 2 [(69, .bool false)] H fun fr H => Am H hb
    intro t fr h' hK
    obtain ⟨e, H⟩ := hK
    subst e
    refine AM 1 [(63, .bool ((x8.CZ == 3) && p2))] H fun fr H => AV 63 H hm (fun hb hm H => ?_) fun hb hm H => ?_
    ·exact By (.inl ⟨_, rfl, Ah hm, H.ls, A⟩)
    refine Bd 7 (Ad 1 [] 71 0 0 A H fun fr t H => ?_)
    refine AE 2 [(73, .bool (x8.CZ == 4))] H fun fr H => BD 2 (fun fr' h' => h6 = h' ∧ Has fr' 95 [(0, .Aq (AK p0)), (2, .bool p2), (3, .bool p3), (9, AG (some h.size) ((x2.set x4.toNat true).length)), (10, AG r2 x5.length), (12, .ptr (some (h4.size, 0))), (75, .bool ((x8.CZ == 4) && p3))]) ?_ ?_
    ·cases hb : (x8.CZ == 4 : Bool) with
     | true =>
      replace H := H.kn 73 hb
      exact AE 2 [(75, .bool p3)] H fun fr H => Am H hb
     | false =>
      replace H := H.kn 73 hb
      exact AE 2 [(75, .bool false)] H fun fr H => Am H hb
    intro t fr h' hK
    obtain ⟨e, H⟩ := hK
    subst e
    refine AE 1 [(63, .bool ((x8.CZ == 4) && p3))] H fun fr H => at_nil ?_
    exact .inl ⟨_, rfl, Ah hm, H.ls, A⟩
   clear ho
   clear A
   intro e fr h9 hQ
   rcases hQ with ⟨x9, rfl, rfl, H, A⟩ | hF
   ·show AW _ _ _ _ _ _ _
    refine AV 63 H hm (fun hb hm H => ?_) fun hb hm H => ?_
    ·refine Bd 6 (Ad 2 [(76, AG r2 x5.length)] 78 0 1 A H fun fr t H => ?_)
     obtain ⟨h10, e4, A⟩ := A.pL 3 [Ai x8.a_]
     refine Bo 79 (AG (some h9.size) (([x8.a_] : List Int).length)) e4 H fun fr t H => ?_
     obtain ⟨hb, hm⟩ := BQ hm
     obtain ⟨r4, tl4, h11, hx, A1⟩ := HH.U1 (encI .i64) (by decide) A 2 (xs := x5) (tl := tl2) (ys := ([x8.a_] : List Int)) rfl (B6 A 0 rfl (n := ([x8.a_] : List Int).length) (z := 1) rfl (by decide)) rfl rfl hb
     replace A : HH g h11 [.AO (some h9.size) 3 ([Ai x8.a_]), _, .AO r4 3 (AO (eI .i64) ((x5 ++ ([x8.a_] : List Int)) ++ tl4)), _] F := A1
     replace A := A.k3 1 2 3
     refine Ax 80 _ _ H (fun fr => .of (Er (s := Cf r2 x5.length) (by kernel_rfl) hx)) fun fr t H => ?_
     refine BG 1 [(0, .Aq (AK p0)), (2, .bool p2), (3, .bool p3), (9, AG (some h.size) ((x2.set x4.toNat true).length)), (10, AG r4 ((x5 ++ ([x8.a_] : List Int)).length))] H fun fr H => at_nil ?_
     replace A := A.k2 1 2
     exact nx hm ⟨_, _, rfl, _, tl4, hl3, H.ls, A⟩
    refine By ?_
    replace A := A.k2 1 2
    exact nx hm ⟨_, _, rfl, _, tl2, hl3, H.ls, A⟩
   exact hF.elim
  refine BO (i := 0) (by kernel_rfl) ?_
  replace A := A.k1 1
  exact nr hm fun e => .inl ⟨_, rfl, e, hl1, H.ls, A⟩
 clear ho
 clear A
 intro e fr h12 hQ
 rcases hQ with ⟨x3, rfl, rfl, hl2, H, A⟩ | hF
 ·show AW _ _ _ _ _ _ _
  refine AD 1 (AM 1 [(13, .slice none 0)] H fun fr H => AQ (AD 3 (AM 3 [(81, AG (some h.size) x3.length), (82, Ai (x3.length : Int)), (83, Ai 0)] H fun fr H => Ac (id := 3) (by kernel_rfl) ?_)))
  replace A : HH g h12 [.AO none 3 (AO (eI .i64) ([] : List Int)), _] F := A.IY 3
  obtain ⟨o3, ho, hm⟩ := bind_some hm
  refine As (Q' := fun e fr' h' => (∃ x12, e = .exit 3 ∧ x12 = o3 ∧ ∃ r6, Has fr' 95 [(13, AG r6 x12.length)] ∧ HH g h' [.AO r6 3 (AO (eI .i64) x12)] F) ∨ False) ?_ ?_
  ·refine B2 (by kernel_rfl) (fun (s : (List Int) × Int) fr' h' => ∃ x10 x11, (x10, x11) = s ∧ ∃ r5, Has fr' 95 [(13, AG r5 x10.length), (81, AG (some h.size) x3.length), (82, Ai (x3.length : Int)), (83, Ai x11)] ∧ HH g h' [.AO r5 3 (AO (eI .i64) x10), .AO (some h.size) 4 (AO eB x3)] F) ho ⟨_, _, rfl, none, H.ls, A⟩ ?_
   clear ho hm H A
   intro s q fr h13 hI hm
   obtain ⟨x10, x11, rfl, r5, H, A⟩ := hI
   unfold HK at hm
   refine AD 1 (AM 1 [(84, .bool (decide (x11 < (x3.length : Int))))] H fun fr H => AQ (AV 84 H hm (fun hb hm H => ?_) fun hb hm H => ?_))
   ·refine CE id (AQ ?_)
    obtain ⟨o4, ho, hm⟩ := bind_some hm
    refine As (Q' := fun e fr' h' => (∃ x13, e = .normal ∧ x13 = o4 ∧ ∃ r7, Has fr' 95 [(13, AG r7 x13.length), (81, AG (some h.size) x3.length), (82, Ai (x3.length : Int)), (83, Ai x11)] ∧ HH g h' [.AO r7 3 (AO (eI .i64) x13), .AO (some h.size) 4 (AO eB x3)] F) ∨ False) ?_ ?_
    ·replace hm := ho
     clear ho
     refine Ac (id := 4) (by kernel_rfl) ?_
     refine AD 5 ?_
     obtain ⟨x14, hx, hm⟩ := bind_some hm
     obtain ⟨i4, er4, _, hx, hq4⟩ := HH.ND Fx (by decide) A 1 (xs := x3) rfl hx
     refine BI 1 [(85, Ai x11)] 86 (.ptr (some (i4, x11.toNat * 1))) h13 H (fun fr => .of (FI (s := Cf (some h.size) x3.length) (by kernel_rfl) hx)) fun fr t H => ?_
     refine Ax 87 _ _ H (fun fr => .of (Dd (by kernel_rfl) (E7 Fx (HH.row A 1 rfl er4) hq4 (o := 0) rfl))) fun fr t H => ?_
     refine Bw 2 [(14, Ai x11), (15, .bool x14)] 1 H fun fr H => AM 1 [(88, .bool x14)] H fun fr H => AV 88 H hm (fun hb hm H => ?_) fun hb hm H => ?_
     ·refine Bd 5 (AE 2 [(89, AG r5 x10.length), (90, Ai x11)] H fun fr H => ?_)
      obtain ⟨h14, e5, A⟩ := A.pL 3 [Ai x11]
      refine Bo 91 (AG (some h13.size) (([x11] : List Int).length)) e5 H fun fr t H => ?_
      obtain ⟨hb, hm⟩ := BQ hm
      obtain ⟨r8, h15, hx, A1⟩ := HH.Hd (encI .i64) (by decide) A 1 (xs := x10) (ys := ([x11] : List Int)) rfl (B6 A 0 rfl (n := ([x11] : List Int).length) (z := 1) rfl (by decide)) rfl rfl hb
      replace A : HH g h15 [.AO (some h13.size) 3 ([Ai x11]), .AO r8 3 (AO (eI .i64) (x10 ++ ([x11] : List Int))), _] F := A1
      replace A := A.k2 1 2
      refine Ax 92 _ _ H (fun fr => .of (Er (s := Cf r5 x10.length) (by kernel_rfl) hx)) fun fr t H => ?_
      refine BG 1 [(13, AG r8 ((x10 ++ ([x11] : List Int)).length)), (81, AG (some h.size) x3.length), (82, Ai (x3.length : Int)), (83, Ai x11)] H fun fr H => at_nil ?_
      exact .inl ⟨_, rfl, Ah hm, _, H.ls, A⟩
     exact By (.inl ⟨_, rfl, Ah hm, _, H.ls, A⟩)
    clear ho
    clear A
    intro e fr h16 hQ
    rcases hQ with ⟨x13, rfl, rfl, r7, H, A⟩ | hF
    ·show AW _ _ _ _ _ _ _
     refine Bd 2 (BG 2 [(13, AG r7 x13.length), (81, AG (some h.size) x3.length), (82, Ai (x3.length : Int)), (83, Ai (IntKind.i64.wrap (x11 + 1)))] H fun fr H => at_nil ?_)
     exact nx hm ⟨_, _, rfl, _, H.ls, A⟩
    exact hF.elim
   refine BO (i := 3) (by kernel_rfl) ?_
   replace A := A.d1
   exact nr hm fun e => .inl ⟨_, rfl, e, _, H.ls, A⟩
  clear ho
  clear A
  intro e fr h17 hQ
  rcases hQ with ⟨x12, rfl, rfl, r6, H, A⟩ | hF
  ·show AW _ _ _ _ _ _ _
   refine AD 2 (AM 2 [(8, AG r6 x12.length)] H fun fr H => Ag ?_)
   obtain rfl := Ah hm
   refine ⟨.inl rfl, AG r6 x12.length, rH H, ?_⟩
   obtain ⟨h18, hz0, A1⟩ := (A.front 0 rfl).VN (n := x12.length) (z := 1) ((encI .i64).Hb _) (by decide)
   replace A : HH g h18 [] F := A1
   refine ⟨vs (eI .i64) x12, h18, by first | rfl | (simp only [SV, Sv, Sr, SY, S2, Sb, SP, SU, Ss, S3, S0, HI, HJ, HN, HG, HM, HQ, HX, Option.map_some, hz0] <;> rfl), ?_⟩
   exact ⟨rfl, A⟩
  exact hF.elim
 exact hF.elim
def EB (p0 : Ak) (p1 : List Int) (p2 : Bool) (p3 : Bool) : Option (Bool) :=
 (Et p0 p1 p2 p3).bind fun x1 => (Cy x1 (0 : Int)).bind fun x2 => some x2
theorem IQ {p0 p1 p2 p3 q0} (hm : EB p0 p1 p2 p3 = some q0) (A : HH g h [] F) (hc : BZ (cfg.still 44) av = [.Aq (AK p0), vs (eI .i64) p1, .bool p2, .bool p3] := by kernel_rfl) : ∃ v h', Bg cfg g h 44 av v h' ∧ v = .bool q0 ∧ HH g h' [] F := by
 refine E5 15 [.tmp 8] hc ?_
 clear hc
 unfold EB at hm
 refine bg 15 [(0, .Aq (AK p0)), (1, vs (eI .i64) p1), (2, .bool p2), (3, .bool p3)] fun fr H => ?_
 refine AD 1 (Bw 1 [] 7 H fun fr H => ?_)
 obtain ⟨x1, hx, hm⟩ := bind_some hm
 obtain ⟨v1, h1, hr, rfl, A1⟩ := LG (av := [.Aq (AK p0), vs (eI .i64) p1, .bool p2, .bool p3]) hx (A.cut 0)
 replace A := A.Ea A1
 refine Ap 4 [] 13 hr H fun fr t H => ?_
 obtain ⟨x2, hx, hm⟩ := bind_some hm
 obtain ⟨v1, h2, hr, rfl, A1⟩ := H9 (av := [vs (eI .i64) x1, Ai 0]) hx (A.cut 0)
 replace A := A.Ea A1
 refine Be 14 hr H fun fr t H => ?_
 refine AM 1 [(8, .bool x2)] H fun fr H => Ag ?_
 obtain rfl := Ah hm
 exact ⟨.inl rfl, _, rH H, rfl, A⟩
def D8 (p0 : Ak) (p1 : List Int) (p2 : Bool) : Option (Bool) :=
 (EB p0 p1 false p2).bind fun x1 => some x1
theorem H4 {p0 p1 p2 q0} (hm : D8 p0 p1 p2 = some q0) (A : HH g h [] F) (hc : BZ (cfg.still 49) av = [.Aq (AK p0), vs (eI .i64) p1, .bool p2] := by kernel_rfl) : ∃ v h', Bg cfg g h 49 av v h' ∧ v = .bool q0 ∧ HH g h' [] F := by
 refine E5 11 [.tmp 6] hc ?_
 clear hc
 unfold D8 at hm
 refine bg 11 [(0, .Aq (AK p0)), (1, vs (eI .i64) p1), (2, .bool p2)] fun fr H => ?_
 refine AD 1 (Bw 1 [] 5 H fun fr H => ?_)
 obtain ⟨x1, hx, hm⟩ := bind_some hm
 obtain ⟨v1, h1, hr, rfl, A1⟩ := IQ (av := [.Aq (AK p0), vs (eI .i64) p1, .bool false, .bool p2]) hx (A.cut 0)
 replace A := A.Ea A1
 refine Ap 3 [] 10 hr H fun fr t H => ?_
 refine AM 1 [(6, .bool x1)] H fun fr H => Ag ?_
 obtain rfl := Ah hm
 exact ⟨.inl rfl, _, rH H, rfl, A⟩
end
end Go.Av.L
