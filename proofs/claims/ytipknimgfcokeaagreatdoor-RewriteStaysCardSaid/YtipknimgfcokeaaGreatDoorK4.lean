/-
 Models of functions, and that the abstract run tells them. Written by lift2.py.
-/
import Derived.Test.YtipknimgfcokeaaGreatDoorKCfg
import Derived.Test.YtipknimgfcokeaaGreatDoorK0
import Derived.Test.YtipknimgfcokeaaGreatDoorK1
import Derived.Test.YtipknimgfcokeaaGreatDoorK3
namespace Go.Av.L
open Go.Av Go.Lib
set_option maxRecDepth 10000
set_option linter.unusedVariables false
set_option linter.unusedSimpArgs false
variable {g : Gd} {h : AH} {F : List Ck} {av : List AB}
noncomputable section
structure A9 where
 DU : AF → Option (Int × AF × (List AJ))
 CK : AF → Option (Int × AF × (List AJ))
 DE : AF → Option (Int × AF × (List AJ))
 Dk : AF → Option (Int × AF × (List AJ))
structure DT (S : A9) : Prop where
 FZ : ∀ {g : Gd} {h : AH} {F : List Ck} {p0 : AF} {bp0 : Nat} {rp0_3 : Option Nat} {q0 : Int} {u0 : AF} {u1 : List AJ} {av : List AB} (hm : S.DU p0 = some (q0, u0, u1)) (hc : BZ (cfg.still 84) av = [.ptr (some (bp0, 0))]) (A : HH g h [.obj bp0 (.cells none 2 (AZ p0 (AG rp0_3 p0.t_.AU.length))), .AO rp0_3 94 (AO AA p0.t_.AU)] F), ∃ v h', Bg cfg g h 84 av v h' ∧ ∃ (r'1 : Option Nat), v = Ai q0 ∧ HH g h' [.obj bp0 (.cells none 2 (AZ u0 (AG r'1 u1.length))), .AO r'1 94 (AO AA u1)] F
 DY : ∀ {g : Gd} {h : AH} {F : List Ck} {p0 : AF} {bp0 : Nat} {rp0_3 : Option Nat} {q0 : Int} {u0 : AF} {u1 : List AJ} {av : List AB} (hm : S.CK p0 = some (q0, u0, u1)) (hc : BZ (cfg.still 18) av = [.ptr (some (bp0, 0))]) (A : HH g h [.obj bp0 (.cells none 2 (AZ p0 (AG rp0_3 p0.t_.AU.length))), .AO rp0_3 94 (AO AA p0.t_.AU)] F), ∃ v h', Bg cfg g h 18 av v h' ∧ ∃ (r'1 : Option Nat), v = Ai q0 ∧ HH g h' [.obj bp0 (.cells none 2 (AZ u0 (AG r'1 u1.length))), .AO r'1 94 (AO AA u1)] F
 FM : ∀ {g : Gd} {h : AH} {F : List Ck} {p0 : AF} {bp0 : Nat} {rp0_3 : Option Nat} {q0 : Int} {u0 : AF} {u1 : List AJ} {av : List AB} (hm : S.DE p0 = some (q0, u0, u1)) (hc : BZ (cfg.still 39) av = [.ptr (some (bp0, 0))]) (A : HH g h [.obj bp0 (.cells none 2 (AZ p0 (AG rp0_3 p0.t_.AU.length))), .AO rp0_3 94 (AO AA p0.t_.AU)] F), ∃ v h', Bg cfg g h 39 av v h' ∧ ∃ (r'1 : Option Nat), v = Ai q0 ∧ HH g h' [.obj bp0 (.cells none 2 (AZ u0 (AG r'1 u1.length))), .AO r'1 94 (AO AA u1)] F
 Fl : ∀ {g : Gd} {h : AH} {F : List Ck} {p0 : AF} {bp0 : Nat} {rp0_3 : Option Nat} {q0 : Int} {u0 : AF} {u1 : List AJ} {av : List AB} (hm : S.Dk p0 = some (q0, u0, u1)) (hc : BZ (cfg.still 63) av = [.ptr (some (bp0, 0))]) (A : HH g h [.obj bp0 (.cells none 2 (AZ p0 (AG rp0_3 p0.t_.AU.length))), .AO rp0_3 94 (AO AA p0.t_.AU)] F), ∃ v h', Bg cfg g h 63 av v h' ∧ ∃ (r'1 : Option Nat), v = Ai q0 ∧ HH g h' [.obj bp0 (.cells none 2 (AZ u0 (AG r'1 u1.length))), .AO r'1 94 (AO AA u1)] F
def Dy (S : A9) (p0 : AF) : Option (Int × AF × (List AJ)) :=
 (Af (decide ((IntKind.i64.wrap (p0.An + 1)) > 1024)) (some true) (some p0.Ay) : Option ((Bool))).bind fun x1 => (S.CK (⟨p0.s_, p0.at_, p0.AX, p0.t_, IntKind.i64.wrap (p0.An + 1), IntKind.i64.wrap (p0.BC + 1), p0.BB, x1⟩ : AF)).bind fun (x2, x3, x4) => ((Ci (⟨x3.s_, x3.at_, x3.AX, (⟨x4, x3.t_.Bf⟩ : AI), x3.An, IntKind.i64.wrap (x3.BC - 1), x3.BB, x3.Ay⟩ : AF)).bind fun x13 => (Af x13 ((Bx (⟨x3.s_, x3.at_, x3.AX, (⟨x4, x3.t_.Bf⟩ : AI), x3.An, IntKind.i64.wrap (x3.BC - 1), x3.BB, x3.Ay⟩ : AF) ([41] : List UInt8)).bind fun (x23, x24) => some (x24.s_, x24.at_, x24.AX, x24.t_.Bf, x24.An, x24.BC, x24.BB, x24.Ay, !x23)) (some (x3.s_, x3.at_, x3.AX, x3.t_.Bf, x3.An, IntKind.i64.wrap (x3.BC - 1), x3.BB, x3.Ay, false)) : Option ((List UInt8) × Int × Bool × Int × Int × Int × Int × Bool × Bool)).bind fun (x14, x15, x16, x17, x18, x19, x20, x21, x22) => Af x22 ((CA (⟨x14, x15, x16, (⟨x4, x17⟩ : AI), x18, x19, x20, x21⟩ : AF) (x14.length : Int)).bind fun x25 => some (x25.s_, x25.at_, x25.AX, x25.t_.Bf, x25.An, x25.BC, x25.BB, x25.Ay)) (some (x14, x15, x16, x17, x18, x19, x20, x21)) : Option (((List UInt8) × Int × Bool × Int × Int × Int × Int × Bool))).bind fun (x5, x6, x7, x8, x9, x10, x11, x12) => (BY (⟨x5, x6, x7, (⟨x4, x8⟩ : AI), x9, x10, x11, x12⟩ : AF) (⟨(5 : Int), x2, (0 : Int), (0 : Int), (0 : Int), mn (IntKind.i64.wrap (p0.An + 1)) (1024 : Int), (⟨(0 : Int), (0 : Int), (0 : Int), (0 : Int)⟩ : Ar)⟩ : AJ)).bind fun (x26, x27, x28) => some (x26, (⟨x27.s_, x27.at_, x27.AX, (⟨x28, x27.t_.Bf⟩ : AI), x27.An, x27.BC, x27.BB, x27.Ay⟩ : AF), x28)
theorem Jk {S : A9} (hS : DT S) {p0 bp0 rp0_3 q0 u0 u1} (hm : Dy S p0 = some (q0, u0, u1)) (hc : BZ (cfg.still 84) av = [.ptr (some (bp0, 0))]) (A : HH g h [.obj bp0 (.cells none 2 (AZ p0 (AG rp0_3 p0.t_.AU.length))), .AO rp0_3 94 (AO AA p0.t_.AU)] F) : ∃ v h', Bg cfg g h 84 av v h' ∧ ∃ (r'1 : Option Nat), v = Ai q0 ∧ HH g h' [.obj bp0 (.cells none 2 (AZ u0 (AG r'1 u1.length))), .AO r'1 94 (AO AA u1)] F := by
 refine E5 57 [.tmp 2] hc ?_
 clear hc
 unfold Dy at hm
 refine bg 57 [(0, .ptr (some (bp0, 0)))] fun fr H => ?_
 refine AD 1 (Bw 1 [] 8 H fun fr H => Ad 3 [(5, .ptr (some (bp0, 0)))] 8 0 5 A H fun fr t H => ?_)
 obtain ⟨h1, hx, A⟩ := A.s0 5 [Ai (IntKind.i64.wrap (p0.An + 1))] [_, _, _, _, _, _, _, _, _]
 refine C1 3 [] hx H fun fr t H => ?_
 refine CG 5 id (Ad 3 [] 15 0 5 A H fun fr t H => ?_)
 refine AM 1 [(3, Ai (IntKind.i64.wrap (p0.An + 1)))] H fun fr H => AQ ?_
 obtain ⟨o1, ho, hm⟩ := bind_some hm
 refine As (Q' := fun e fr' h' => (∃ x1, e = .normal ∧ x1 = o1 ∧ Has fr' 57 [(0, .ptr (some (bp0, 0))), (3, Ai (IntKind.i64.wrap (p0.An + 1)))] ∧ HH g h' [.obj bp0 (.cells none 2 [.str p0.s_, Ai p0.at_, .bool p0.AX, AG rp0_3 p0.t_.AU.length, Ai p0.t_.Bf, Ai (IntKind.i64.wrap (p0.An + 1)), Ai p0.BC, Ai p0.BB, .bool x1]), .AO rp0_3 94 (AO AA p0.t_.AU)] F) ∨ False) ?_ ?_
 ·replace hm := ho
  clear ho
  refine AD 2 (AM 2 [(17, .bool (decide ((IntKind.i64.wrap (p0.An + 1)) > 1024)))] H fun fr H => AV 17 H hm (fun hb hm H => ?_) fun hb hm H => ?_)
  ·refine Bd 4 ?_
   obtain ⟨h2, hx, A⟩ := A.s0 8 [.bool true] [_, _, _, _, _, _, _, _, _]
   refine C1 3 [] hx H fun fr t H => ?_
   refine at_nil ?_
   exact .inl ⟨_, rfl, Ah hm, H.ls, A⟩
  exact By (.inl ⟨_, rfl, Ah hm, H.ls, A⟩)
 clear ho
 clear A
 intro e fr h3 hQ
 rcases hQ with ⟨x1, rfl, rfl, H, A⟩ | hF
 ·show AW _ _ _ _ _ _ _
  refine AD 8 (Ad 3 [(21, .ptr (some (bp0, 0)))] 24 0 6 A H fun fr t H => ?_)
  obtain ⟨h4, hx, A⟩ := A.s0 6 [Ai (IntKind.i64.wrap (p0.BC + 1))] [_, _, _, _, _, _, _, _, _]
  refine C1 3 [] hx H fun fr t H => ?_
  refine CG 3 id ?_
  have A1 := A.cut 2
  obtain ⟨⟨x2, x3, x4⟩, hx, hm⟩ := bind_some hm
  obtain ⟨v1, h5, hr, r1, rfl, A1⟩ := hS.DY (av := [.ptr (some (bp0, 0))]) hx (by kernel_rfl) A1
  replace A := A.g22 A1
  refine Ap 1 [] 29 hr H fun fr t H => ?_
  refine Bw 1 [(4, Ai x2)] 8 H fun fr H => Ad 3 [(30, .ptr (some (bp0, 0)))] 33 0 6 A H fun fr t H => ?_
  obtain ⟨h6, hx, A⟩ := A.s0 6 [Ai (IntKind.i64.wrap (x3.BC - 1))] [_, _, _, _, _, _, _, _, _]
  refine C1 3 [] hx H fun fr t H => ?_
  refine BK id (AQ ?_)
  obtain ⟨o2, ho, hm⟩ := bind_some hm
  refine As (Q' := fun e fr' h' => (∃ x5 x6 x7 x8 x9 x10 x11 x12, e = .normal ∧ (x5, x6, x7, x8, x9, x10, x11, x12) = o2 ∧ Has fr' 57 [(0, .ptr (some (bp0, 0))), (3, Ai (IntKind.i64.wrap (p0.An + 1))), (4, Ai x2)] ∧ HH g h' [.obj bp0 (.cells none 2 [.str x5, Ai x6, .bool x7, AG r1 x4.length, Ai x8, Ai x9, Ai x10, Ai x11, .bool x12]), .AO r1 94 (AO AA x4)] F) ∨ False) ?_ ?_
  ·replace hm := ho
   clear ho
   refine AD 7 ?_
   obtain ⟨x13, hx, hm⟩ := bind_some hm
   obtain ⟨v1, h7, hr, rfl, A1⟩ := DO (av := [.ptr (some (bp0, 0))]) hx (A.cut 2)
   replace A := A.g22 A1
   refine Ap 1 [] 38 hr H fun fr t H => ?_
   refine AE 1 [(39, .bool x13)] H fun fr H => ?_
   obtain ⟨⟨x14, x15, x16, x17, x18, x19, x20, x21, x22⟩, ho, hm⟩ := bind_some hm
   refine BD 4 (fun fr' h' => Has fr' 57 [(0, .ptr (some (bp0, 0))), (3, Ai (IntKind.i64.wrap (p0.An + 1))), (4, Ai x2), (43, .bool x22)] ∧ HH g h' [.obj bp0 (.cells none 2 [.str x14, Ai x15, .bool x16, AG r1 x4.length, Ai x17, Ai x18, Ai x19, Ai x20, .bool x21]), .AO r1 94 (AO AA x4)] F) ?_ ?_
   ·rcases BJ ho with ⟨hb, hm⟩ | ⟨hb, hm⟩
    ·replace H := H.kn 39 hb
     obtain ⟨⟨x23, x24⟩, hx, hm⟩ := bind_some hm
     obtain ⟨v1, h9, hr, rfl, A1⟩ := Cg (av := [.ptr (some (bp0, 0)), .str ([41] : List UInt8)]) hx (A.cut 2)
     replace A := A.g22 A1
     refine Ap 1 [] 41 hr H fun fr t H => ?_
     refine AE 2 [(43, .bool (!x23))] H fun fr H => ?_
     obtain ⟨rfl, rfl, rfl, rfl, rfl, rfl, rfl, rfl, rfl⟩ := VF hm
     exact at_nil ⟨H.ls, A⟩
    replace H := H.kn 39 hb
    refine AE 4 [(43, .bool false)] H fun fr H => ?_
    obtain ⟨rfl, rfl, rfl, rfl, rfl, rfl, rfl, rfl, rfl⟩ := VF hm
    exact at_nil ⟨H.ls, A⟩
   clear A
   intro t fr h8 hK
   obtain ⟨H, A⟩ := hK
   refine BK id (AV 43 H hm (fun hb hm H => ?_) fun hb hm H => ?_)
   ·refine Bd 7 (Ad 4 [(44, .ptr (some (bp0, 0)))] 48 0 0 A H fun fr t H => ?_)
    obtain ⟨x25, hx, hm⟩ := bind_some hm
    obtain ⟨v1, h10, hr, rfl, A1⟩ := C8 (av := [.ptr (some (bp0, 0)), Ai (x14.length : Int)]) hx (A.cut 2)
    replace A := A.g22 A1
    refine LS 1 [] hr H fun fr t H => ?_
    refine at_nil ?_
    exact .inl ⟨_, _, _, _, _, _, _, _, rfl, Ah hm, H.ls, A⟩
   exact By (.inl ⟨_, _, _, _, _, _, _, _, rfl, Ah hm, H.ls, A⟩)
  clear ho
  clear A
  intro e fr h11 hQ
  rcases hQ with ⟨x5, x6, x7, x8, x9, x10, x11, x12, rfl, rfl, H, A⟩ | hF
  ·show AW _ _ _ _ _ _ _
   refine AD 7 ?_
   obtain ⟨⟨x26, x27, x28⟩, hx, hm⟩ := bind_some hm
   obtain ⟨v1, h12, hr, r2, rfl, A1⟩ := B9 (av := [.ptr (some (bp0, 0)), .agg [Ai 5, Ai x2, Ai 0, Ai 0, Ai 0, Ai (mn (IntKind.i64.wrap (p0.An + 1)) (1024 : Int)), Au 0, Au 0, Au 0, Au 0]]) hx (A.cut 2)
   replace A := A.g22 A1
   refine Ap 5 [] 56 hr H fun fr t H => ?_
   refine AM 1 [(2, Ai x26)] H fun fr H => Ag ?_
   obtain ⟨rfl, rfl, rfl⟩ := DR hm
   exact ⟨.inl rfl, _, rH H, _, rfl, A⟩
  exact hF.elim
 exact hF.elim
def EE (S : A9) (s : (List Int) × (List UInt8) × Int × Bool × Int × Int × Int × Int × Bool × (List AJ)) : Option (((List Int) × (List UInt8) × Int × Bool × Int × Int × Int × Int × Bool × (List AJ)) ⊕ (((List Int) × (List UInt8) × Int × Bool × Int × Int × Int × Int × Bool × (List AJ)))) :=
 match s with
 | (x1, x2, x3, x4, x5, x6, x7, x8, x9, x10) => (S.DE (⟨x2, x3, x4, (⟨x10, x5⟩ : AI), x6, x7, x8, x9⟩ : AF)).bind fun (x21, x22, x23) => Cm (KI 8 (x1.length + ([x21] : List Int).length)) <| (Ci (⟨x22.s_, x22.at_, x22.AX, (⟨x23, x22.t_.Bf⟩ : AI), x22.An, x22.BC, x22.BB, x22.Ay⟩ : AF)).bind fun x24 => (Af (!x24) (some (x22.s_, x22.at_, x22.AX, x22.t_.Bf, x22.An, x22.BC, x22.BB, x22.Ay, true)) ((Bx (⟨x22.s_, x22.at_, x22.AX, (⟨x23, x22.t_.Bf⟩ : AI), x22.An, x22.BC, x22.BB, x22.Ay⟩ : AF) ([124] : List UInt8)).bind fun (x34, x35) => some (x35.s_, x35.at_, x35.AX, x35.t_.Bf, x35.An, x35.BC, x35.BB, x35.Ay, !x34)) : Option ((List UInt8) × Int × Bool × Int × Int × Int × Int × Bool × Bool)).bind fun (x25, x26, x27, x28, x29, x30, x31, x32, x33) => Af x33 (some (.inr ((x1 ++ ([x21] : List Int)), x25, x26, x27, x28, x29, x30, x31, x32, x23))) (some (.inl ((x1 ++ ([x21] : List Int)), x25, x26, x27, x28, x29, x30, x31, x32, x23)))
def C0 (S : A9) (p0 : AF) : Option (Int × AF × (List AJ)) :=
 (loop (EE S) (([] : List Int), p0.s_, p0.at_, p0.AX, p0.t_.Bf, p0.An, p0.BC, p0.BB, p0.Ay, p0.t_.AU)).bind fun (x11, x12, x13, x14, x15, x16, x17, x18, x19, x20) => (DF (⟨x12, x13, x14, (⟨x20, x15⟩ : AI), x16, x17, x18, x19⟩ : AF) (3 : Int) x11).bind fun (x36, x37, x38) => some (x36, (⟨x37.s_, x37.at_, x37.AX, (⟨x38, x37.t_.Bf⟩ : AI), x37.An, x37.BC, x37.BB, x37.Ay⟩ : AF), x38)
theorem Hq {S : A9} (hS : DT S) {p0 bp0 rp0_3 q0 u0 u1} (hm : C0 S p0 = some (q0, u0, u1)) (hc : BZ (cfg.still 18) av = [.ptr (some (bp0, 0))]) (A : HH g h [.obj bp0 (.cells none 2 (AZ p0 (AG rp0_3 p0.t_.AU.length))), .AO rp0_3 94 (AO AA p0.t_.AU)] F) : ∃ v h', Bg cfg g h 18 av v h' ∧ ∃ (r'1 : Option Nat), v = Ai q0 ∧ HH g h' [.obj bp0 (.cells none 2 (AZ u0 (AG r'1 u1.length))), .AO r'1 94 (AO AA u1)] F := by
 refine E5 20 [.tmp 2] hc ?_
 clear hc
 unfold C0 at hm
 refine bg 20 [(0, .ptr (some (bp0, 0)))] fun fr H => ?_
 refine AD 1 (Bw 1 [] 1 H fun fr H => AM 1 [(3, .slice none 0)] H fun fr H => AQ (Ac (id := 0) (by kernel_rfl) ?_))
 replace A : HH g h [.AO none 3 (AO (eI .i64) ([] : List Int)), _, _] F := A.IY 3
 obtain ⟨o1, ho, hm⟩ := bind_some hm
 refine As (Q' := fun e fr' h' => (∃ x11 x12 x13 x14 x15 x16 x17 x18 x19 x20, e = .exit 0 ∧ (x11, x12, x13, x14, x15, x16, x17, x18, x19, x20) = o1 ∧ ∃ r3 r4, Has fr' 20 [(0, .ptr (some (bp0, 0))), (3, AG r3 x11.length)] ∧ HH g h' [.AO r3 3 (AO (eI .i64) x11), .obj bp0 (.cells none 2 [.str x12, Ai x13, .bool x14, AG r4 x20.length, Ai x15, Ai x16, Ai x17, Ai x18, .bool x19]), .AO r4 94 (AO AA x20)] F) ∨ False) ?_ ?_
 ·refine B2 (by kernel_rfl) (fun (s : (List Int) × (List UInt8) × Int × Bool × Int × Int × Int × Int × Bool × (List AJ)) fr' h' => ∃ x1 x2 x3 x4 x5 x6 x7 x8 x9 x10, (x1, x2, x3, x4, x5, x6, x7, x8, x9, x10) = s ∧ ∃ r1 r2, Has fr' 20 [(0, .ptr (some (bp0, 0))), (3, AG r1 x1.length)] ∧ HH g h' [.AO r1 3 (AO (eI .i64) x1), .obj bp0 (.cells none 2 [.str x2, Ai x3, .bool x4, AG r2 x10.length, Ai x5, Ai x6, Ai x7, Ai x8, .bool x9]), .AO r2 94 (AO AA x10)] F) ho ⟨_, _, _, _, _, _, _, _, _, _, rfl, none, rp0_3, H.ls, A⟩ ?_
  clear ho hm H A
  intro s q fr h1 hI hm
  obtain ⟨x1, x2, x3, x4, x5, x6, x7, x8, x9, x10, rfl, r1, r2, H, A⟩ := hI
  unfold EE at hm
  refine Ac (id := 1) (by kernel_rfl) ?_
  refine AD 6 ?_
  replace A := A.k3 1 2 0
  have A1 := A.cut 2
  obtain ⟨⟨x21, x22, x23⟩, hx, hm⟩ := bind_some hm
  obtain ⟨v1, h2, hr, r5, rfl, A1⟩ := hS.FM (av := [.ptr (some (bp0, 0))]) hx (by kernel_rfl) A1
  replace A := A.g22 A1
  refine Ap 2 [(4, AG r1 x1.length)] 6 hr H fun fr t H => ?_
  obtain ⟨h3, e1, A⟩ := A.pL 3 [Ai x21]
  refine Bo 7 (AG (some h2.size) (([x21] : List Int).length)) e1 H fun fr t H => ?_
  obtain ⟨hb, hm⟩ := BQ hm
  obtain ⟨r6, h4, hx, A1⟩ := HH.Hd (encI .i64) (by decide) A 3 (xs := x1) (ys := ([x21] : List Int)) rfl (B6 A 0 rfl (n := ([x21] : List Int).length) (z := 1) rfl (by decide)) rfl rfl hb
  replace A : HH g h4 [.AO (some h2.size) 3 ([Ai x21]), _, _, .AO r6 3 (AO (eI .i64) (x1 ++ ([x21] : List Int)))] F := A1
  replace A := A.k3 1 2 3
  refine Ax 8 _ _ H (fun fr => .of (Er (s := Cf r1 x1.length) (by kernel_rfl) hx)) fun fr t H => ?_
  refine BG 1 [(0, .ptr (some (bp0, 0))), (3, AG r6 ((x1 ++ ([x21] : List Int)).length))] H fun fr H => CG 8 id ?_
  obtain ⟨x24, hx, hm⟩ := bind_some hm
  obtain ⟨v1, h5, hr, rfl, A1⟩ := DO (av := [.ptr (some (bp0, 0))]) hx (A.cut 2)
  replace A := A.g22 A1
  refine Ap 1 [] 10 hr H fun fr t H => ?_
  refine AE 2 [(12, .bool (!x24))] H fun fr H => ?_
  obtain ⟨⟨x25, x26, x27, x28, x29, x30, x31, x32, x33⟩, ho, hm⟩ := bind_some hm
  refine BD 4 (fun fr' h' => Has fr' 20 [(0, .ptr (some (bp0, 0))), (3, AG r6 ((x1 ++ ([x21] : List Int)).length)), (16, .bool x33)] ∧ HH g h' [.obj bp0 (.cells none 2 [.str x25, Ai x26, .bool x27, AG r5 x23.length, Ai x28, Ai x29, Ai x30, Ai x31, .bool x32]), .AO r5 94 (AO AA x23), .AO r6 3 (AO (eI .i64) (x1 ++ ([x21] : List Int)))] F) ?_ ?_
  ·rcases BJ ho with ⟨hb, hm⟩ | ⟨hb, hm⟩
   ·replace H := H.kn 12 hb
    refine AE 4 [(16, .bool true)] H fun fr H => ?_
    obtain ⟨rfl, rfl, rfl, rfl, rfl, rfl, rfl, rfl, rfl⟩ := VF hm
    exact at_nil ⟨H.ls, A⟩
   replace H := H.kn 12 hb
   obtain ⟨⟨x34, x35⟩, hx, hm⟩ := bind_some hm
   obtain ⟨v1, h7, hr, rfl, A1⟩ := Cg (av := [.ptr (some (bp0, 0)), .str ([124] : List UInt8)]) hx (A.cut 2)
   replace A := A.g22 A1
   refine Ap 1 [] 14 hr H fun fr t H => ?_
   refine AE 2 [(16, .bool (!x34))] H fun fr H => ?_
   obtain ⟨rfl, rfl, rfl, rfl, rfl, rfl, rfl, rfl, rfl⟩ := VF hm
   exact at_nil ⟨H.ls, A⟩
  clear A
  intro t fr h6 hK
  obtain ⟨H, A⟩ := hK
  refine BK id (AV 16 H hm (fun hb hm H => ?_) fun hb hm H => ?_)
  ·refine BO (i := 0) (by kernel_rfl) ?_
   replace A := A.k3 2 0 1
   exact nr hm fun e => .inl ⟨_, _, _, _, _, _, _, _, _, _, rfl, e, _, _, H.ls, A⟩
  refine By ?_
  replace A := A.k3 2 0 1
  exact nx hm ⟨_, _, _, _, _, _, _, _, _, _, rfl, _, _, H.ls, A⟩
 clear ho
 clear A
 intro e fr h8 hQ
 rcases hQ with ⟨x11, x12, x13, x14, x15, x16, x17, x18, x19, x20, rfl, rfl, r3, r4, H, A⟩ | hF
 ·show AW _ _ _ _ _ _ _
  refine AD 4 ?_
  replace A := A.k3 1 2 0
  obtain ⟨⟨x36, x37, x38⟩, hx, hm⟩ := bind_some hm
  obtain ⟨v1, h9, hr, r7, rfl, A1⟩ := Gb (av := [.ptr (some (bp0, 0)), Ai 3, AG r3 x11.length]) hx (A.cut 3)
  replace A := A.Rj A1
  refine Ap 2 [] 19 hr H fun fr t H => ?_
  refine AM 1 [(2, Ai x36)] H fun fr H => Ag ?_
  obtain ⟨rfl, rfl, rfl⟩ := DR hm
  refine ⟨.inl rfl, Ai x36, rH H, ?_⟩
  replace A := A.d2
  exact ⟨r7, rfl, A⟩
 exact hF.elim
def Ez (S : A9) (s : (List Int) × (List UInt8) × Int × Bool × Int × Int × Int × Int × Bool × (List AJ) × Bool) : Option (((List Int) × (List UInt8) × Int × Bool × Int × Int × Int × Int × Bool × (List AJ) × Bool) ⊕ (((List Int) × (List UInt8) × Int × Bool × Int × Int × Int × Int × Bool × (List AJ)))) :=
 match s with
 | (x1, x2, x3, x4, x5, x6, x7, x8, x9, x10, x11) => (Ci (⟨x2, x3, x4, (⟨x10, x5⟩ : AI), x6, x7, x8, x9⟩ : AF)).bind fun x22 => (Af x22 ((C9 (⟨x2, x3, x4, (⟨x10, x5⟩ : AI), x6, x7, x8, x9⟩ : AF)).bind fun x24 => some (!x24)) (some false) : Option (Bool)).bind fun x23 => Af x23 ((Af (!x4) ((Jf x2 x3).bind fun x26 => some (x26 == 42)) (some false) : Option (Bool)).bind fun x25 => Af (x25 && (((x1.length : Int) == 0) || x11)) ((C2 (⟨x2, IntKind.i64.wrap (x3 + 1), x4, (⟨x10, x5⟩ : AI), x6, x7, x8, x9⟩ : AF) (42 : Int)).bind fun (x27, x28, x29) => (Cl (⟨x28.s_, x28.at_, x28.AX, (⟨x29, x28.t_.Bf⟩ : AI), x28.An, x28.BC, x28.BB, x28.Ay⟩ : AF) x27).bind fun (x30, x31, x32) => Cm (KI 8 (x1.length + ([x30] : List Int).length)) <| some (.inl ((x1 ++ ([x30] : List Int)), x31.s_, x31.at_, x31.AX, x31.t_.Bf, x31.An, x31.BC, x31.BB, x31.Ay, x32, false))) ((Af (!x4) ((Jf x2 x3).bind fun x34 => some (x34 == 94)) (some false) : Option (Bool)).bind fun x33 => Af (x33 && ((x1.length : Int) == 0)) ((BY (⟨x2, IntKind.i64.wrap (x3 + 1), x4, (⟨x10, x5⟩ : AI), x6, x7, x8, x9⟩ : AF) (⟨(6 : Int), (0 : Int), (0 : Int), (0 : Int), (0 : Int), (0 : Int), (⟨(0 : Int), (0 : Int), (0 : Int), (0 : Int)⟩ : Ar)⟩ : AJ)).bind fun (x35, x36, x37) => Cm (KI 8 (x1.length + ([x35] : List Int).length)) <| some (.inl ((x1 ++ ([x35] : List Int)), x36.s_, x36.at_, x36.AX, x36.t_.Bf, x36.An, x36.BC, x36.BB, x36.Ay, x37, true))) ((S.Dk (⟨x2, x3, x4, (⟨x10, x5⟩ : AI), x6, x7, x8, x9⟩ : AF)).bind fun (x38, x39, x40) => (Ci (⟨x39.s_, x39.at_, x39.AX, (⟨x40, x39.t_.Bf⟩ : AI), x39.An, x39.BC, x39.BB, x39.Ay⟩ : AF)).bind fun x41 => Af (!x41) (some (.inr (x1, x39.s_, x39.at_, x39.AX, x39.t_.Bf, x39.An, x39.BC, x39.BB, x39.Ay, x40))) (Af (x39.at_ == x3) ((CA (⟨x39.s_, x39.at_, x39.AX, (⟨x40, x39.t_.Bf⟩ : AI), x39.An, x39.BC, x39.BB, x39.Ay⟩ : AF) x3).bind fun x42 => some (.inr (x1, x42.s_, x42.at_, x42.AX, x42.t_.Bf, x42.An, x42.BC, x42.BB, x42.Ay, x40))) ((Cl (⟨x39.s_, x39.at_, x39.AX, (⟨x40, x39.t_.Bf⟩ : AI), x39.An, x39.BC, x39.BB, x39.Ay⟩ : AF) x38).bind fun (x43, x44, x45) => Cm (KI 8 (x1.length + ([x43] : List Int).length)) <| some (.inl ((x1 ++ ([x43] : List Int)), x44.s_, x44.at_, x44.AX, x44.t_.Bf, x44.An, x44.BC, x44.BB, x44.Ay, x45, false))))))) (some (.inr (x1, x2, x3, x4, x5, x6, x7, x8, x9, x10)))
def Dq (S : A9) (p0 : AF) : Option (Int × AF × (List AJ)) :=
 (loop (Ez S) (([] : List Int), p0.s_, p0.at_, p0.AX, p0.t_.Bf, p0.An, p0.BC, p0.BB, p0.Ay, p0.t_.AU, false)).bind fun (x12, x13, x14, x15, x16, x17, x18, x19, x20, x21) => (DF (⟨x13, x14, x15, (⟨x21, x16⟩ : AI), x17, x18, x19, x20⟩ : AF) (2 : Int) x12).bind fun (x46, x47, x48) => some (x46, (⟨x47.s_, x47.at_, x47.AX, (⟨x48, x47.t_.Bf⟩ : AI), x47.An, x47.BC, x47.BB, x47.Ay⟩ : AF), x48)
theorem JV {S : A9} (hS : DT S) {p0 bp0 rp0_3 q0 u0 u1} (hm : Dq S p0 = some (q0, u0, u1)) (hc : BZ (cfg.still 39) av = [.ptr (some (bp0, 0))]) (A : HH g h [.obj bp0 (.cells none 2 (AZ p0 (AG rp0_3 p0.t_.AU.length))), .AO rp0_3 94 (AO AA p0.t_.AU)] F) : ∃ v h', Bg cfg g h 39 av v h' ∧ ∃ (r'1 : Option Nat), v = Ai q0 ∧ HH g h' [.obj bp0 (.cells none 2 (AZ u0 (AG r'1 u1.length))), .AO r'1 94 (AO AA u1)] F := by
 refine E5 115 [.tmp 2] hc ?_
 clear hc
 unfold Dq at hm
 refine bg 115 [(0, .ptr (some (bp0, 0)))] fun fr H => ?_
 refine AD 1 (Bw 1 [] 1 H fun fr H => Bw 1 [(3, .slice none 0)] 1 H fun fr H => AM 1 [(4, .bool false)] H fun fr H => AQ (Ac (id := 0) (by kernel_rfl) ?_))
 replace A : HH g h [.AO none 3 (AO (eI .i64) ([] : List Int)), _, _] F := A.IY 3
 obtain ⟨o1, ho, hm⟩ := bind_some hm
 refine As (Q' := fun e fr' h' => (∃ x12 x13 x14 x15 x16 x17 x18 x19 x20 x21, e = .exit 0 ∧ (x12, x13, x14, x15, x16, x17, x18, x19, x20, x21) = o1 ∧ ∃ r3 r4, Has fr' 115 [(0, .ptr (some (bp0, 0))), (3, AG r3 x12.length)] ∧ HH g h' [.AO r3 3 (AO (eI .i64) x12), .obj bp0 (.cells none 2 [.str x13, Ai x14, .bool x15, AG r4 x21.length, Ai x16, Ai x17, Ai x18, Ai x19, .bool x20]), .AO r4 94 (AO AA x21)] F) ∨ False) ?_ ?_
 ·refine B2 (by kernel_rfl) (fun (s : (List Int) × (List UInt8) × Int × Bool × Int × Int × Int × Int × Bool × (List AJ) × Bool) fr' h' => ∃ x1 x2 x3 x4 x5 x6 x7 x8 x9 x10 x11, (x1, x2, x3, x4, x5, x6, x7, x8, x9, x10, x11) = s ∧ ∃ r1 r2, Has fr' 115 [(0, .ptr (some (bp0, 0))), (3, AG r1 x1.length), (4, .bool x11)] ∧ HH g h' [.AO r1 3 (AO (eI .i64) x1), .obj bp0 (.cells none 2 [.str x2, Ai x3, .bool x4, AG r2 x10.length, Ai x5, Ai x6, Ai x7, Ai x8, .bool x9]), .AO r2 94 (AO AA x10)] F) ho ⟨_, _, _, _, _, _, _, _, _, _, _, rfl, none, rp0_3, H.ls, A⟩ ?_
  clear ho hm H A
  intro s q fr h1 hI hm
  obtain ⟨x1, x2, x3, x4, x5, x6, x7, x8, x9, x10, x11, rfl, r1, r2, H, A⟩ := hI
  unfold Ez at hm
  refine AQ (AD 7 ?_)
  replace A := A.k3 1 2 0
  obtain ⟨x22, hx, hm⟩ := bind_some hm
  obtain ⟨v1, h2, hr, rfl, A1⟩ := DO (av := [.ptr (some (bp0, 0))]) hx (A.cut 2)
  replace A := A.g22 A1
  refine Ap 1 [] 9 hr H fun fr t H => ?_
  refine AE 1 [(10, .bool x22)] H fun fr H => ?_
  obtain ⟨x23, ho, hm⟩ := bind_some hm
  refine BD 4 (fun fr' h' => Has fr' 115 [(0, .ptr (some (bp0, 0))), (3, AG r1 x1.length), (4, .bool x11), (14, .bool x23)] ∧ HH g h' [.obj bp0 (.cells none 2 [.str x2, Ai x3, .bool x4, AG r2 x10.length, Ai x5, Ai x6, Ai x7, Ai x8, .bool x9]), .AO r2 94 (AO AA x10), .AO r1 3 (AO (eI .i64) x1)] F) ?_ ?_
  ·rcases BJ ho with ⟨hb, hm⟩ | ⟨hb, hm⟩
   ·replace H := H.kn 10 hb
    obtain ⟨x24, hx, hm⟩ := bind_some hm
    obtain ⟨v1, h4, hr, rfl, A1⟩ := Gc (av := [.ptr (some (bp0, 0))]) hx (A.cut 2)
    replace A := A.g22 A1
    refine Ap 1 [] 12 hr H fun fr t H => ?_
    refine AE 2 [(14, .bool (!x24))] H fun fr H => ?_
    obtain rfl := Ah hm
    exact at_nil ⟨H.ls, A⟩
   replace H := H.kn 10 hb
   refine AE 4 [(14, .bool false)] H fun fr H => ?_
   obtain rfl := Ah hm
   exact at_nil ⟨H.ls, A⟩
  clear A
  intro t fr h3 hK
  obtain ⟨H, A⟩ := hK
  refine BK id (AV 14 H hm (fun hb hm H => ?_) fun hb hm H => ?_)
  ·refine CE id (Ac (id := 1) (by kernel_rfl) ?_)
   refine AD 5 (Ad 3 [] 18 0 1 A H fun fr t H => ?_)
   refine Bw 1 [(5, Ai x3)] 4 H fun fr H => AM 4 [(6, .bool ((x1.length : Int) == 0))] H fun fr H => AQ (AQ (EO 6 23 ?_))
   refine Ad 3 [] 25 0 2 A H fun fr t H => ?_
   refine AE 2 [(27, .bool (!x4))] H fun fr H => ?_
   obtain ⟨x25, ho, hm⟩ := bind_some hm
   refine BD 11 (fun fr' h' => Has fr' 115 [(0, .ptr (some (bp0, 0))), (3, AG r1 x1.length), (4, .bool x11), (5, Ai x3), (6, .bool ((x1.length : Int) == 0)), (38, .bool x25)] ∧ HH g h' [.obj bp0 (.cells none 2 [.str x2, Ai x3, .bool x4, AG r2 x10.length, Ai x5, Ai x6, Ai x7, Ai x8, .bool x9]), .AO r2 94 (AO AA x10), .AO r1 3 (AO (eI .i64) x1)] F) ?_ ?_
   ·rcases BJ ho with ⟨hb, hm⟩ | ⟨hb, hm⟩
    ·replace H := H.kn 27 hb
     refine Ad 3 [] 31 0 0 A H fun fr t H => ?_
     refine Ad 3 [] 35 0 1 A H fun fr t H => ?_
     obtain ⟨x26, hx, hm⟩ := bind_some hm
     refine Ax 36 (Ab x26) h3 H (fun fr => .of (EL (by kernel_rfl) hx)) fun fr t H => ?_
     refine AE 2 [(38, .bool (x26 == 42))] H fun fr H => ?_
     obtain rfl := Ah hm
     exact at_nil ⟨H.ls, A⟩
    replace H := H.kn 27 hb
    refine AE 11 [(38, .bool false)] H fun fr H => ?_
    obtain rfl := Ah hm
    exact at_nil ⟨H.ls, A⟩
   clear A
   intro t fr h5 hK
   obtain ⟨H, A⟩ := hK
   refine AE 1 [(39, .bool x25)] H fun fr H => BD 5 (fun fr' h' => h5 = h' ∧ Has fr' 115 [(0, .ptr (some (bp0, 0))), (3, AG r1 x1.length), (5, Ai x3), (6, .bool ((x1.length : Int) == 0)), (44, .bool (x25 && (((x1.length : Int) == 0) || x11)))]) ?_ ?_
   ·cases hb : (x25 : Bool) with
    | true =>
     replace H := H.kn 39 hb
     refine AE 2 [(41, .bool ((x1.length : Int) == 0))] H fun fr H => BD 2 (fun fr' h' => h5 = h' ∧ Has fr' 115 [(0, .ptr (some (bp0, 0))), (3, AG r1 x1.length), (5, Ai x3), (6, .bool ((x1.length : Int) == 0)), (39, .bool true), (43, .bool (((x1.length : Int) == 0) || x11))]) ?_ ?_
     ·cases hb : ((x1.length : Int) == 0 : Bool) with
      | true =>
       replace H := H.kn 41 hb
       exact AE 2 [(43, .bool true)] H fun fr H => Am H hb
      | false =>
       replace H := H.kn 41 hb
       exact AE 2 [(43, .bool x11)] H fun fr H => Am H hb
     intro t fr h' hK
     obtain ⟨e, H⟩ := hK
     subst e
     exact AE 1 [(44, .bool (((x1.length : Int) == 0) || x11))] H fun fr H => Am H hb
    | false =>
     replace H := H.kn 39 hb
     exact AE 5 [(44, .bool false)] H fun fr H => Am H hb
   intro t fr h' hK
   obtain ⟨e, H⟩ := hK
   subst e
   refine BK id (AV 44 H hm (fun hb hm H => ?_) fun hb hm H => ?_)
   ·refine AD 8 (Ad 3 [(45, .ptr (some (bp0, 0)))] 48 0 1 A H fun fr t H => ?_)
    obtain ⟨h6, hx, A⟩ := A.s0 1 [Ai (IntKind.i64.wrap (x3 + 1))] [_, _, _, _, _, _, _, _, _]
    refine C1 3 [] hx H fun fr t H => ?_
    refine CG 8 id ?_
    obtain ⟨⟨x27, x28, x29⟩, hx, hm⟩ := bind_some hm
    obtain ⟨v1, h7, hr, r5, rfl, A1⟩ := Fm (av := [.ptr (some (bp0, 0)), Ab 42]) hx (A.cut 2)
    replace A := A.g22 A1
    refine Ap 3 [(52, AG r1 x1.length), (53, .ptr (some (bp0, 0)))] 55 hr H fun fr t H => ?_
    obtain ⟨⟨x30, x31, x32⟩, hx, hm⟩ := bind_some hm
    obtain ⟨v1, h8, hr, r6, rfl, A1⟩ := F4 (av := [.ptr (some (bp0, 0)), Ai x27]) hx (A.cut 2)
    replace A := A.g22 A1
    refine Be 56 hr H fun fr t H => ?_
    obtain ⟨h9, e1, A⟩ := A.pL 3 [Ai x30]
    refine Bo 57 (AG (some h8.size) (([x30] : List Int).length)) e1 H fun fr t H => ?_
    obtain ⟨hb, hm⟩ := BQ hm
    obtain ⟨r7, h10, hx, A1⟩ := HH.Hd (encI .i64) (by decide) A 3 (xs := x1) (ys := ([x30] : List Int)) rfl (B6 A 0 rfl (n := ([x30] : List Int).length) (z := 1) rfl (by decide)) rfl rfl hb
    replace A : HH g h10 [.AO (some h8.size) 3 ([Ai x30]), _, _, .AO r7 3 (AO (eI .i64) (x1 ++ ([x30] : List Int)))] F := A1
    replace A := A.k3 1 2 3
    refine Ax 58 _ _ H (fun fr => .of (Er (s := Cf r1 x1.length) (by kernel_rfl) hx)) fun fr t H => ?_
    refine BG 1 [(0, .ptr (some (bp0, 0))), (3, AG r7 ((x1 ++ ([x30] : List Int)).length))] H fun fr H => CG 1 id (AM 1 [(4, .bool false)] H fun fr H => BO (i := 1) (by kernel_rfl) ?_)
    replace A := A.k3 2 0 1
    exact nx hm ⟨_, _, _, _, _, _, _, _, _, _, _, rfl, _, _, H.ls, A⟩
   refine CE id (AQ (AQ (EO 10 20 ?_)))
   refine Ad 3 [] 62 0 2 A H fun fr t H => ?_
   refine AE 2 [(64, .bool (!x4))] H fun fr H => ?_
   obtain ⟨x33, ho, hm⟩ := bind_some hm
   refine BD 11 (fun fr' h' => Has fr' 115 [(0, .ptr (some (bp0, 0))), (3, AG r1 x1.length), (5, Ai x3), (6, .bool ((x1.length : Int) == 0)), (75, .bool x33)] ∧ HH g h' [.obj bp0 (.cells none 2 [.str x2, Ai x3, .bool x4, AG r2 x10.length, Ai x5, Ai x6, Ai x7, Ai x8, .bool x9]), .AO r2 94 (AO AA x10), .AO r1 3 (AO (eI .i64) x1)] F) ?_ ?_
   ·rcases BJ ho with ⟨hb, hm⟩ | ⟨hb, hm⟩
    ·replace H := H.kn 64 hb
     refine Ad 3 [] 68 0 0 A H fun fr t H => ?_
     refine Ad 3 [] 72 0 1 A H fun fr t H => ?_
     obtain ⟨x34, hx, hm⟩ := bind_some hm
     refine Ax 73 (Ab x34) h5 H (fun fr => .of (EL (by kernel_rfl) hx)) fun fr t H => ?_
     refine AE 2 [(75, .bool (x34 == 94))] H fun fr H => ?_
     obtain rfl := Ah hm
     exact at_nil ⟨H.ls, A⟩
    replace H := H.kn 64 hb
    refine AE 11 [(75, .bool false)] H fun fr H => ?_
    obtain rfl := Ah hm
    exact at_nil ⟨H.ls, A⟩
   clear A
   intro t fr h11 hK
   obtain ⟨H, A⟩ := hK
   refine AE 1 [(76, .bool x33)] H fun fr H => BD 2 (fun fr' h' => h11 = h' ∧ Has fr' 115 [(0, .ptr (some (bp0, 0))), (3, AG r1 x1.length), (5, Ai x3), (78, .bool (x33 && ((x1.length : Int) == 0)))]) ?_ ?_
   ·cases hb : (x33 : Bool) with
    | true =>
     replace H := H.kn 76 hb
     exact AE 2 [(78, .bool ((x1.length : Int) == 0))] H fun fr H => Am H hb
    | false =>
     replace H := H.kn 76 hb
     exact AE 2 [(78, .bool false)] H fun fr H => Am H hb
   intro t fr h' hK
   obtain ⟨e, H⟩ := hK
   subst e
   refine BK id (AV 78 H hm (fun hb hm H => ?_) fun hb hm H => ?_)
   ·refine AD 8 (Ad 3 [(79, .ptr (some (bp0, 0)))] 82 0 1 A H fun fr t H => ?_)
    obtain ⟨h12, hx, A⟩ := A.s0 1 [Ai (IntKind.i64.wrap (x3 + 1))] [_, _, _, _, _, _, _, _, _]
    refine C1 3 [] hx H fun fr t H => ?_
    refine CG 7 id ?_
    obtain ⟨⟨x35, x36, x37⟩, hx, hm⟩ := bind_some hm
    obtain ⟨v1, h13, hr, r8, rfl, A1⟩ := B9 (av := [.ptr (some (bp0, 0)), .agg [Ai 6, Ai 0, Ai 0, Ai 0, Ai 0, Ai 0, Au 0, Au 0, Au 0, Au 0]]) hx (A.cut 2)
    replace A := A.g22 A1
    refine Ap 3 [(86, AG r1 x1.length)] 89 hr H fun fr t H => ?_
    obtain ⟨h14, e2, A⟩ := A.pL 3 [Ai x35]
    refine Bo 90 (AG (some h13.size) (([x35] : List Int).length)) e2 H fun fr t H => ?_
    obtain ⟨hb, hm⟩ := BQ hm
    obtain ⟨r9, h15, hx, A1⟩ := HH.Hd (encI .i64) (by decide) A 3 (xs := x1) (ys := ([x35] : List Int)) rfl (B6 A 0 rfl (n := ([x35] : List Int).length) (z := 1) rfl (by decide)) rfl rfl hb
    replace A : HH g h15 [.AO (some h13.size) 3 ([Ai x35]), _, _, .AO r9 3 (AO (eI .i64) (x1 ++ ([x35] : List Int)))] F := A1
    replace A := A.k3 1 2 3
    refine Ax 91 _ _ H (fun fr => .of (Er (s := Cf r1 x1.length) (by kernel_rfl) hx)) fun fr t H => ?_
    refine BG 1 [(0, .ptr (some (bp0, 0))), (3, AG r9 ((x1 ++ ([x35] : List Int)).length))] H fun fr H => CG 1 id (AM 1 [(4, .bool true)] H fun fr H => BO (i := 1) (by kernel_rfl) ?_)
    replace A := A.k3 2 0 1
    exact nx hm ⟨_, _, _, _, _, _, _, _, _, _, _, rfl, _, _, H.ls, A⟩
   refine Ca 3 id ?_
   have A1 := A.cut 2
   obtain ⟨⟨x38, x39, x40⟩, hx, hm⟩ := bind_some hm
   obtain ⟨v1, h16, hr, r10, rfl, A1⟩ := hS.Fl (av := [.ptr (some (bp0, 0))]) hx (by kernel_rfl) A1
   replace A := A.g22 A1
   refine Ap 1 [] 93 hr H fun fr t H => ?_
   refine AM 1 [(7, Ai x38)] H fun fr H => AQ (AD 3 ?_)
   obtain ⟨x41, hx, hm⟩ := bind_some hm
   obtain ⟨v1, h17, hr, rfl, A1⟩ := DO (av := [.ptr (some (bp0, 0))]) hx (A.cut 2)
   replace A := A.g22 A1
   refine Ap 1 [] 95 hr H fun fr t H => ?_
   refine AM 1 [(96, .bool (!x41))] H fun fr H => AV 96 H hm (fun hb hm H => ?_) fun hb hm H => ?_
   ·refine BO (i := 0) (by kernel_rfl) ?_
    replace A := A.k3 2 0 1
    exact nr hm fun e => .inl ⟨_, _, _, _, _, _, _, _, _, _, rfl, e, _, _, H.ls, A⟩
   refine CE id (AQ (AD 6 (Ad 3 [] 100 0 1 A H fun fr t H => ?_)))
   refine AM 2 [(102, .bool (x39.at_ == x3))] H fun fr H => AV 102 H hm (fun hb hm H => ?_) fun hb hm H => ?_
   ·refine AD 3 ?_
    obtain ⟨x42, hx, hm⟩ := bind_some hm
    obtain ⟨v1, h18, hr, rfl, A1⟩ := C8 (av := [.ptr (some (bp0, 0)), Ai x3]) hx (A.cut 2)
    replace A := A.g22 A1
    refine LS 2 [] hr H fun fr t H => ?_
    refine BK id (BO (i := 0) (by kernel_rfl) ?_)
    replace A := A.k3 2 0 1
    exact nr hm fun e => .inl ⟨_, _, _, _, _, _, _, _, _, _, rfl, e, _, _, H.ls, A⟩
   refine Ca 7 id ?_
   obtain ⟨⟨x43, x44, x45⟩, hx, hm⟩ := bind_some hm
   obtain ⟨v1, h19, hr, r11, rfl, A1⟩ := F4 (av := [.ptr (some (bp0, 0)), Ai x38]) hx (A.cut 2)
   replace A := A.g22 A1
   refine Ap 3 [(106, AG r1 x1.length)] 109 hr H fun fr t H => ?_
   obtain ⟨h20, e3, A⟩ := A.pL 3 [Ai x43]
   refine Bo 110 (AG (some h19.size) (([x43] : List Int).length)) e3 H fun fr t H => ?_
   obtain ⟨hb, hm⟩ := BQ hm
   obtain ⟨r12, h21, hx, A1⟩ := HH.Hd (encI .i64) (by decide) A 3 (xs := x1) (ys := ([x43] : List Int)) rfl (B6 A 0 rfl (n := ([x43] : List Int).length) (z := 1) rfl (by decide)) rfl rfl hb
   replace A : HH g h21 [.AO (some h19.size) 3 ([Ai x43]), _, _, .AO r12 3 (AO (eI .i64) (x1 ++ ([x43] : List Int)))] F := A1
   replace A := A.k3 1 2 3
   refine Ax 111 _ _ H (fun fr => .of (Er (s := Cf r1 x1.length) (by kernel_rfl) hx)) fun fr t H => ?_
   refine BG 1 [(0, .ptr (some (bp0, 0))), (3, AG r12 ((x1 ++ ([x43] : List Int)).length))] H fun fr H => Gq 1 id (AE 1 [(4, .bool false)] H fun fr H => at_nil ?_)
   replace A := A.k3 2 0 1
   exact nx hm ⟨_, _, _, _, _, _, _, _, _, _, _, rfl, _, _, H.ls, A⟩
  refine BO (i := 0) (by kernel_rfl) ?_
  replace A := A.k3 2 0 1
  exact nr hm fun e => .inl ⟨_, _, _, _, _, _, _, _, _, _, rfl, e, _, _, H.ls, A⟩
 clear ho
 clear A
 intro e fr h22 hQ
 rcases hQ with ⟨x12, x13, x14, x15, x16, x17, x18, x19, x20, x21, rfl, rfl, r3, r4, H, A⟩ | hF
 ·show AW _ _ _ _ _ _ _
  refine AD 4 ?_
  replace A := A.k3 1 2 0
  obtain ⟨⟨x46, x47, x48⟩, hx, hm⟩ := bind_some hm
  obtain ⟨v1, h23, hr, r13, rfl, A1⟩ := Gb (av := [.ptr (some (bp0, 0)), Ai 2, AG r3 x12.length]) hx (A.cut 3)
  replace A := A.Rj A1
  refine Ap 2 [] 114 hr H fun fr t H => ?_
  refine AM 1 [(2, Ai x46)] H fun fr H => Ag ?_
  obtain ⟨rfl, rfl, rfl⟩ := DR hm
  refine ⟨.inl rfl, Ai x46, rH H, ?_⟩
  replace A := A.d2
  exact ⟨r13, rfl, A⟩
 exact hF.elim
def EH (S : A9) (p0 : AF) : Option (Int × AF × (List AJ)) :=
 (Jf p0.s_ p0.at_).bind fun x1 => Af (x1 == 91) ((FO p0.s_ p0.at_ false).bind fun (x2, x3, x4) => Af (x4 != 0) ((CA p0 p0.at_).bind fun x5 => some ((0 : Int), (⟨x5.s_, x5.at_, x5.AX, (⟨p0.t_.AU, x5.t_.Bf⟩ : AI), x5.An, x5.BC, x5.BB, x5.Ay⟩ : AF), p0.t_.AU)) ((BY (⟨p0.s_, x3, p0.AX, p0.t_, p0.An, p0.BC, p0.BB, p0.Ay⟩ : AF) (⟨(1 : Int), (0 : Int), (0 : Int), (0 : Int), (0 : Int), (0 : Int), x2⟩ : AJ)).bind fun (x6, x7, x8) => some (x6, (⟨x7.s_, x7.at_, x7.AX, (⟨x8, x7.t_.Bf⟩ : AI), x7.An, x7.BC, x7.BB, x7.Ay⟩ : AF), x8))) (Af (x1 == 46) ((HV).bind fun x9 => (BY (⟨p0.s_, IntKind.i64.wrap (p0.at_ + 1), p0.AX, p0.t_, p0.An, p0.BC, p0.BB, p0.Ay⟩ : AF) (⟨(1 : Int), (0 : Int), (0 : Int), (0 : Int), (0 : Int), (0 : Int), x9⟩ : AJ)).bind fun (x10, x11, x12) => some (x10, (⟨x11.s_, x11.at_, x11.AX, (⟨x12, x11.t_.Bf⟩ : AI), x11.An, x11.BC, x11.BB, x11.Ay⟩ : AF), x12)) ((Af (x1 == 36) ((Af p0.AX (some true) ((EI p0).bind fun x15 => some x15) : Option (Bool)).bind fun x14 => some x14) (some false) : Option (Bool)).bind fun x13 => Af x13 ((BY (⟨p0.s_, IntKind.i64.wrap (p0.at_ + 1), p0.AX, p0.t_, p0.An, p0.BC, p0.BB, p0.Ay⟩ : AF) (⟨(7 : Int), (0 : Int), (0 : Int), (0 : Int), (0 : Int), (0 : Int), (⟨(0 : Int), (0 : Int), (0 : Int), (0 : Int)⟩ : Ar)⟩ : AJ)).bind fun (x16, x17, x18) => some (x16, (⟨x17.s_, x17.at_, x17.AX, (⟨x18, x17.t_.Bf⟩ : AI), x17.An, x17.BC, x17.BB, x17.Ay⟩ : AF), x18)) (Af ((x1 == 94) && p0.AX) ((BY (⟨p0.s_, IntKind.i64.wrap (p0.at_ + 1), p0.AX, p0.t_, p0.An, p0.BC, p0.BB, p0.Ay⟩ : AF) (⟨(6 : Int), (0 : Int), (0 : Int), (0 : Int), (0 : Int), (0 : Int), (⟨(0 : Int), (0 : Int), (0 : Int), (0 : Int)⟩ : Ar)⟩ : AJ)).bind fun (x19, x20, x21) => some (x19, (⟨x20.s_, x20.at_, x20.AX, (⟨x21, x20.t_.Bf⟩ : AI), x20.An, x20.BC, x20.BB, x20.Ay⟩ : AF), x21)) ((Bx p0 ([40] : List UInt8)).bind fun (x22, x23) => Af x22 ((S.DU (⟨x23.s_, x23.at_, x23.AX, (⟨p0.t_.AU, x23.t_.Bf⟩ : AI), x23.An, x23.BC, x23.BB, x23.Ay⟩ : AF)).bind fun (x24, x25, x26) => some (x24, (⟨x25.s_, x25.at_, x25.AX, (⟨x26, x25.t_.Bf⟩ : AI), x25.An, x25.BC, x25.BB, x25.Ay⟩ : AF), x26)) (Af (x1 == 92) ((DZ (⟨x23.s_, x23.at_, x23.AX, (⟨p0.t_.AU, x23.t_.Bf⟩ : AI), x23.An, x23.BC, x23.BB, x23.Ay⟩ : AF)).bind fun (x27, x28, x29) => some (x27, (⟨x28.s_, x28.at_, x28.AX, (⟨x29, x28.t_.Bf⟩ : AI), x28.An, x28.BC, x28.BB, x28.Ay⟩ : AF), x29)) ((Af x23.AX (((Af (x1 == 42) (some true) (some (x1 == 43)) : Option ((Bool))).bind fun x31 => Af x31 (some (.inl ())) ((Af (x1 == 63) (some true) (some (x1 == 123)) : Option ((Bool))).bind fun x32 => Af x32 (some (.inl ())) ((Af (x1 == 124) (some true) (some (x1 == 41)) : Option ((Bool))).bind fun x33 => Af x33 (some (.inl ())) (some (.inr ())))) : Option ((Unit) ⊕ (Unit))).bind fun o2 => (match o2 with | .inl _ => some (.inr (0 : Int)) | .inr _ => some (.inl ()))) (some (.inl ())) : Option ((Unit) ⊕ (Int))).bind fun o1 => (match o1 with | .inl _ => (C2 (⟨x23.s_, IntKind.i64.wrap (x23.at_ + 1), x23.AX, (⟨p0.t_.AU, x23.t_.Bf⟩ : AI), x23.An, x23.BC, x23.BB, x23.Ay⟩ : AF) x1).bind fun (x34, x35, x36) => some (x34, (⟨x35.s_, x35.at_, x35.AX, (⟨x36, x35.t_.Bf⟩ : AI), x35.An, x35.BC, x35.BB, x35.Ay⟩ : AF), x36) | .inr x30 => some (x30, (⟨x23.s_, x23.at_, x23.AX, (⟨p0.t_.AU, x23.t_.Bf⟩ : AI), x23.An, x23.BC, x23.BB, x23.Ay⟩ : AF), p0.t_.AU))))))))
theorem KC {S : A9} (hS : DT S) {p0 bp0 rp0_3 q0 u0 u1} (hm : EH S p0 = some (q0, u0, u1)) (hc : BZ (cfg.still 63) av = [.ptr (some (bp0, 0))]) (A : HH g h [.obj bp0 (.cells none 2 (AZ p0 (AG rp0_3 p0.t_.AU.length))), .AO rp0_3 94 (AO AA p0.t_.AU)] F) : ∃ v h', Bg cfg g h 63 av v h' ∧ ∃ (r'1 : Option Nat), v = Ai q0 ∧ HH g h' [.obj bp0 (.cells none 2 (AZ u0 (AG r'1 u1.length))), .AO r'1 94 (AO AA u1)] F := by
 refine E5 138 [.tmp 2] hc ?_
 clear hc
 unfold EH at hm
 refine bg 138 [(0, .ptr (some (bp0, 0)))] fun fr H => ?_
 refine AD 1 (AM 1 [] H fun fr H => AQ (EO 1 10 ?_))
 refine Ad 3 [] 10 0 0 A H fun fr t H => ?_
 refine Ad 3 [] 14 0 1 A H fun fr t H => ?_
 obtain ⟨x1, hx, hm⟩ := bind_some hm
 refine Ax 15 (Ab x1) h H (fun fr => .of (EL (by kernel_rfl) hx)) fun fr t H => ?_
 refine AM 1 [(3, Ab x1)] H fun fr H => AQ (Ac (id := 0) (by kernel_rfl) ?_)
 refine AD 3 (AM 3 [(16, .bool (x1 == 91))] H fun fr H => AV 16 H hm (fun hb hm H => ?_) fun hb hm H => ?_)
 ·refine AQ (Ft 3 17 [(0, []), (1, []), (2, []), (3, []), (4, []), (5, []), (6, []), (7, []), (13, []), (8, [13]), (9, []), (10, []), (11, []), (12, []), (14, []), (15, []), (16, [])] ?_)
  refine AE 3 [(22, .ptr (some (bp0, 0)))] H fun fr H => BT 23 (.str p0.s_) h [(3, bp0)] (g.BR) H (fun fr => .of (Dd (by kernel_rfl) (A.l1 0 0))) (fun fr H => ?_)
  refine AE 3 [(26, .ptr (some (bp0, 1)))] H fun fr H => BT 27 (Ai p0.at_) h [(7, bp0), (3, bp0)] (g.BR) H (fun fr => .of (Dd (by kernel_rfl) (A.l1 0 1))) (fun fr H => ?_)
  obtain ⟨h1, e1, A⟩ := A.pu (.cells none 2 [Au 0, Au 0, Au 0, Au 0])
  refine BT 4 (.ptr (some (h.size, 0))) h1 [(13, h.size), (7, bp0), (3, bp0)] (g.BR) H (fun fr => .of (OQ (by kernel_rfl) (congrArg some e1.symm))) (fun fr H => ?_)
  have A1 := A.Fe 0 (pr := [h.size]) (.cons 0 rfl (by simp [Ck.ids]) .nil)
  obtain ⟨⟨x2, x3, x4⟩, hx, hm⟩ := bind_some hm
  obtain ⟨v1, h2, hr, rfl, A1⟩ := MJ (av := [.str p0.s_, Ai p0.at_, .bool false]) hx A1
  replace A : HH g h2 [.obj h.size (.cells none 2 [Au (0 : Int), Au (0 : Int), Au (0 : Int), Au (0 : Int)]), _, _] F := A.QK (n := 0) A1
  refine BT 28 (.tuple [.agg (AL x2), Ai x3, Ai x4]) h2 [(13, h.size), (7, bp0), (3, bp0)] (h.size :: g.BR) H (fun fr => Steps.call (by kernel_rfl) hr) (fun fr H => ?_)
  refine AE 4 [(29, .agg (AL x2)), (30, Ai x3), (31, Ai x4)] H fun fr H => ?_
  obtain ⟨h3, hx, A⟩ := A.s0 0 (AL x2) [_, _, _, _]
  refine Gj (.tuple []) h3 [(13, h.size), (7, bp0), (3, bp0)] (g.BR) H (fun fr => .of (K4 (by kernel_rfl) (I3 hx rfl))) (fun fr H => ?_)
  refine AM 2 [(5, Ai x3), (6, Ai x4)] H fun fr H => AQ (AD 2 (AM 2 [(33, .bool (x4 != 0))] H fun fr H => AV 33 H hm (fun hb hm H => ?_) fun hb hm H => ?_))
  ·refine AD 6 (Ad 4 [(34, .ptr (some (bp0, 0)))] 38 1 1 A H fun fr t H => ?_)
   replace A := A.k3 1 2 0
   obtain ⟨x5, hx, hm⟩ := bind_some hm
   obtain ⟨v1, h4, hr, rfl, A1⟩ := C8 (av := [.ptr (some (bp0, 0)), Ai p0.at_]) hx (A.cut 2)
   replace A := A.g22 A1
   refine MF hr H fun fr t H => ?_
   refine CG 1 id (AM 1 [(2, Ai 0)] H fun fr H => Ag ?_)
   obtain ⟨rfl, rfl, rfl⟩ := DR hm
   refine ⟨.inl rfl, Ai 0, rH H, ?_⟩
   replace A := A.d2
   exact ⟨rp0_3, rfl, A⟩
  refine Ca 5 id ?_
  obtain ⟨h5, hx, A⟩ := A.s1 1 [Ai x3] [_, _, _, _, _, _, _, _, _]
  refine C1 4 [] hx H fun fr t H => ?_
  refine CG 5 id (BI 1 [(44, .ptr (some (bp0, 0)))] 45 _ _ H (fun fr => .of (CD (by kernel_rfl) (A.GX 0 rfl (o := 0) (n := 4) ⟨Nat.le_of_ble_eq_true rfl, rfl⟩))) fun fr t H => ?_)
  replace A := A.k3 1 2 0
  obtain ⟨⟨x6, x7, x8⟩, hx, hm⟩ := bind_some hm
  obtain ⟨v1, h6, hr, r1, rfl, A1⟩ := B9 (av := [.ptr (some (bp0, 0)), .agg [Ai 1, Ai 0, Ai 0, Ai 0, Ai 0, Ai 0, Au x2.w0, Au x2.w1, Au x2.w2, Au x2.w3]]) hx (A.cut 2)
  replace A := A.g22 A1
  refine Ap 1 [] 47 hr H fun fr t H => ?_
  refine AM 1 [(2, Ai x6)] H fun fr H => Ag ?_
  obtain ⟨rfl, rfl, rfl⟩ := DR hm
  refine ⟨.inl rfl, Ai x6, rH H, ?_⟩
  replace A := A.d2
  exact ⟨r1, rfl, A⟩
 refine AD 3 (AM 3 [(48, .bool (x1 == 46))] H fun fr H => AV 48 H hm (fun hb hm H => ?_) fun hb hm H => ?_)
 ·refine AD 8 (Ad 3 [(51, .ptr (some (bp0, 0)))] 54 0 1 A H fun fr t H => ?_)
  obtain ⟨h7, hx, A⟩ := A.s0 1 [Ai (IntKind.i64.wrap (p0.at_ + 1))] [_, _, _, _, _, _, _, _, _]
  refine C1 3 [] hx H fun fr t H => ?_
  refine CG 5 id ?_
  obtain ⟨x9, hx, hm⟩ := bind_some hm
  obtain ⟨v1, h8, hr, rfl, A1⟩ := PN (av := []) hx (A.cut 0)
  replace A := A.Ea A1
  refine Ap 1 [(58, .ptr (some (bp0, 0)))] 59 hr H fun fr t H => ?_
  obtain ⟨⟨x10, x11, x12⟩, hx, hm⟩ := bind_some hm
  obtain ⟨v1, h9, hr, r2, rfl, A1⟩ := B9 (av := [.ptr (some (bp0, 0)), .agg [Ai 1, Ai 0, Ai 0, Ai 0, Ai 0, Ai 0, Au x9.w0, Au x9.w1, Au x9.w2, Au x9.w3]]) hx (A.cut 2)
  replace A := A.g22 A1
  refine Ap 1 [] 61 hr H fun fr t H => ?_
  refine AM 1 [(2, Ai x10)] H fun fr H => Ag ?_
  obtain ⟨rfl, rfl, rfl⟩ := DR hm
  exact ⟨.inl rfl, _, rH H, _, rfl, A⟩
 refine AD 13 (AE 3 [(65, .bool (x1 == 36))] H fun fr H => ?_)
 obtain ⟨x13, ho, hm⟩ := bind_some hm
 refine BD 9 (fun fr' h' => Has fr' 138 [(0, .ptr (some (bp0, 0))), (3, Ab x1), (74, .bool x13)] ∧ HH g h' [.obj bp0 (.cells none 2 (AZ p0 (AG rp0_3 p0.t_.AU.length))), .AO rp0_3 94 (AO AA p0.t_.AU)] F) ?_ ?_
 ·rcases BJ ho with ⟨hb, hm⟩ | ⟨hb, hm⟩
  ·replace H := H.kn 65 hb
   refine Ad 3 [] 69 0 2 A H fun fr t H => ?_
   refine AE 1 [(70, .bool p0.AX)] H fun fr H => ?_
   obtain ⟨x14, ho, hm⟩ := bind_some hm
   refine BD 3 (fun fr' h' => Has fr' 138 [(0, .ptr (some (bp0, 0))), (3, Ab x1), (65, .bool true), (73, .bool x14)] ∧ HH g h' [.obj bp0 (.cells none 2 (AZ p0 (AG rp0_3 p0.t_.AU.length))), .AO rp0_3 94 (AO AA p0.t_.AU)] F) ?_ ?_
   ·rcases BJ ho with ⟨hb, hm⟩ | ⟨hb, hm⟩
    ·replace H := H.kn 70 hb
     refine AE 3 [(73, .bool true)] H fun fr H => ?_
     obtain rfl := Ah hm
     exact at_nil ⟨H.ls, A⟩
    replace H := H.kn 70 hb
    obtain ⟨x15, hx, hm⟩ := bind_some hm
    obtain ⟨v1, h12, hr, rfl, A1⟩ := Kp (av := [.ptr (some (bp0, 0))]) hx (A.cut 2)
    replace A := A.g22 A1
    refine Ap 1 [] 72 hr H fun fr t H => ?_
    refine AE 1 [(73, .bool x15)] H fun fr H => ?_
    obtain rfl := Ah hm
    exact at_nil ⟨H.ls, A⟩
   clear A
   intro t fr h11 hK
   obtain ⟨H, A⟩ := hK
   refine AE 1 [(74, .bool x14)] H fun fr H => ?_
   obtain rfl := Ah hm
   exact at_nil ⟨H.ls, A⟩
  replace H := H.kn 65 hb
  refine AE 9 [(74, .bool false)] H fun fr H => ?_
  obtain rfl := Ah hm
  exact at_nil ⟨H.ls, A⟩
 clear A
 intro t fr h10 hK
 obtain ⟨H, A⟩ := hK
 refine AM 1 [(62, .bool x13)] H fun fr H => AV 62 H hm (fun hb hm H => ?_) fun hb hm H => ?_
 ·refine AD 8 (Ad 3 [(75, .ptr (some (bp0, 0)))] 78 0 1 A H fun fr t H => ?_)
  obtain ⟨h13, hx, A⟩ := A.s0 1 [Ai (IntKind.i64.wrap (p0.at_ + 1))] [_, _, _, _, _, _, _, _, _]
  refine C1 3 [] hx H fun fr t H => ?_
  refine CG 4 id ?_
  obtain ⟨⟨x16, x17, x18⟩, hx, hm⟩ := bind_some hm
  obtain ⟨v1, h14, hr, r3, rfl, A1⟩ := B9 (av := [.ptr (some (bp0, 0)), .agg [Ai 7, Ai 0, Ai 0, Ai 0, Ai 0, Ai 0, Au 0, Au 0, Au 0, Au 0]]) hx (A.cut 2)
  replace A := A.g22 A1
  refine Ap 2 [] 84 hr H fun fr t H => ?_
  refine AM 1 [(2, Ai x16)] H fun fr H => Ag ?_
  obtain ⟨rfl, rfl, rfl⟩ := DR hm
  exact ⟨.inl rfl, _, rH H, _, rfl, A⟩
 refine AD 9 (AE 3 [(88, .bool (x1 == 94))] H fun fr H => BD 5 (fun fr' h' => h10 = h' ∧ Has fr' 138 [(0, .ptr (some (bp0, 0))), (3, Ab x1), (93, .bool ((x1 == 94) && p0.AX))]) ?_ ?_)
 ·cases hb : (x1 == 94 : Bool) with
  | true =>
   replace H := H.kn 88 hb
   refine Ad 3 [] 92 0 2 A H fun fr t H => ?_
   exact AE 1 [(93, .bool p0.AX)] H fun fr H => Am H hb
  | false =>
   replace H := H.kn 88 hb
   exact AE 5 [(93, .bool false)] H fun fr H => Am H hb
 intro t fr h' hK
 obtain ⟨e, H⟩ := hK
 subst e
 refine AM 1 [(85, .bool ((x1 == 94) && p0.AX))] H fun fr H => AV 85 H hm (fun hb hm H => ?_) fun hb hm H => ?_
 ·refine AD 8 (Ad 3 [(94, .ptr (some (bp0, 0)))] 97 0 1 A H fun fr t H => ?_)
  obtain ⟨h15, hx, A⟩ := A.s0 1 [Ai (IntKind.i64.wrap (p0.at_ + 1))] [_, _, _, _, _, _, _, _, _]
  refine C1 3 [] hx H fun fr t H => ?_
  refine CG 4 id ?_
  obtain ⟨⟨x19, x20, x21⟩, hx, hm⟩ := bind_some hm
  obtain ⟨v1, h16, hr, r4, rfl, A1⟩ := B9 (av := [.ptr (some (bp0, 0)), .agg [Ai 6, Ai 0, Ai 0, Ai 0, Ai 0, Ai 0, Au 0, Au 0, Au 0, Au 0]]) hx (A.cut 2)
  replace A := A.g22 A1
  refine Ap 2 [] 103 hr H fun fr t H => ?_
  refine AM 1 [(2, Ai x19)] H fun fr H => Ag ?_
  obtain ⟨rfl, rfl, rfl⟩ := DR hm
  exact ⟨.inl rfl, _, rH H, _, rfl, A⟩
 refine AD 3 ?_
 obtain ⟨⟨x22, x23⟩, hx, hm⟩ := bind_some hm
 obtain ⟨v1, h17, hr, rfl, A1⟩ := Cg (av := [.ptr (some (bp0, 0)), .str ([40] : List UInt8)]) hx (A.cut 2)
 replace A := A.g22 A1
 refine Ap 1 [] 106 hr H fun fr t H => ?_
 refine AM 1 [(104, .bool x22)] H fun fr H => AV 104 H hm (fun hb hm H => ?_) fun hb hm H => ?_
 ·refine AD 3 ?_
  have A1 := A.cut 2
  obtain ⟨⟨x24, x25, x26⟩, hx, hm⟩ := bind_some hm
  obtain ⟨v1, h18, hr, r5, rfl, A1⟩ := hS.FZ (av := [.ptr (some (bp0, 0))]) hx (by kernel_rfl) A1
  replace A := A.g22 A1
  refine Ap 1 [] 108 hr H fun fr t H => ?_
  refine AM 1 [(2, Ai x24)] H fun fr H => Ag ?_
  obtain ⟨rfl, rfl, rfl⟩ := DR hm
  exact ⟨.inl rfl, _, rH H, _, rfl, A⟩
 refine AD 3 (AM 3 [(109, .bool (x1 == 92))] H fun fr H => AV 109 H hm (fun hb hm H => ?_) fun hb hm H => ?_)
 ·refine AD 3 ?_
  obtain ⟨⟨x27, x28, x29⟩, hx, hm⟩ := bind_some hm
  obtain ⟨v1, h19, hr, r6, rfl, A1⟩ := JX (av := [.ptr (some (bp0, 0))]) hx (A.cut 2)
  replace A := A.g22 A1
  refine Ap 1 [] 113 hr H fun fr t H => ?_
  refine AM 1 [(2, Ai x27)] H fun fr H => Ag ?_
  obtain ⟨rfl, rfl, rfl⟩ := DR hm
  exact ⟨.inl rfl, _, rH H, _, rfl, A⟩
 refine CE id (AQ ?_)
 obtain ⟨o1, ho, hm⟩ := bind_some hm
 refine As (Q' := fun e fr' h' => (e = .normal ∧ .inl () = o1 ∧ Has fr' 138 [(0, .ptr (some (bp0, 0))), (3, Ab x1)] ∧ HH g h' [.obj bp0 (.cells none 2 (AZ x23 (AG rp0_3 p0.t_.AU.length))), .AO rp0_3 94 (AO AA p0.t_.AU)] F) ∨ (∃ x30, e = .ret ∧ .inr x30 = o1 ∧ Has fr' 138 [(2, Ai x30)] ∧ HH g h' [.obj bp0 (.cells none 2 (AZ x23 (AG rp0_3 p0.t_.AU.length))), .AO rp0_3 94 (AO AA p0.t_.AU)] F) ∨ False) ?_ ?_
 ·replace hm := ho
  clear ho
  refine AD 4 (Ad 3 [] 117 0 2 A H fun fr t H => ?_)
  refine BK id (AV 117 H hm (fun hb hm H => ?_) fun hb hm H => ?_)
  ·refine AD 1 (AM 1 [(118, Ab x1)] H fun fr H => Ac (id := 1) (by kernel_rfl) ?_)
   refine AQ ?_
   obtain ⟨o2, ho, hm⟩ := bind_some hm
   refine As (Q' := fun e fr' h' => (e = .normal ∧ .inl () = o2 ∧ Has fr' 138 [] ∧ HH g h' [.obj bp0 (.cells none 2 (AZ x23 (AG rp0_3 p0.t_.AU.length))), .AO rp0_3 94 (AO AA p0.t_.AU)] F) ∨ (e = .exit 1 ∧ .inr () = o2 ∧ Has fr' 138 [(0, .ptr (some (bp0, 0))), (3, Ab x1)] ∧ HH g h' [.obj bp0 (.cells none 2 (AZ x23 (AG rp0_3 p0.t_.AU.length))), .AO rp0_3 94 (AO AA p0.t_.AU)] F) ∨ False) ?_ ?_
   ·replace hm := ho
    clear ho
    refine Ac (id := 4) (by kernel_rfl) ?_
    refine Ac (id := 3) (by kernel_rfl) ?_
    refine Ac (id := 2) (by kernel_rfl) ?_
    refine AQ (AQ (AQ ?_))
    obtain ⟨o3, ho, hm⟩ := bind_some hm
    refine As (Q' := fun e fr' h' => (∃ x31, e = .normal ∧ x31 = o3 ∧ Has fr' 138 [(0, .ptr (some (bp0, 0))), (3, Ab x1), (118, Ab x1), (119, .bool x31)] ∧ HH g h' [.obj bp0 (.cells none 2 (AZ x23 (AG rp0_3 p0.t_.AU.length))), .AO rp0_3 94 (AO AA p0.t_.AU)] F) ∨ False) ?_ ?_
    ·replace hm := ho
     clear ho
     refine AD 2 (AM 2 [(119, .bool (x1 == 42))] H fun fr H => AV 119 H hm (fun hb hm H => ?_) fun hb hm H => ?_)
     ·exact By (.inl ⟨_, rfl, Ah hm, H.ls, A⟩)
     refine Bd 2 (BG 2 [(0, .ptr (some (bp0, 0))), (3, Ab x1), (118, Ab x1), (119, .bool (x1 == 43))] H fun fr H => at_nil ?_)
     exact .inl ⟨_, rfl, Ah hm, H.ls, A⟩
    clear ho
    clear A
    intro e fr h20 hQ
    rcases hQ with ⟨x31, rfl, rfl, H, A⟩ | hF
    ·show AW _ _ _ _ _ _ _
     refine AV 119 H hm (fun hb hm H => ?_) fun hb hm H => ?_
     ·refine BO (i := 2) (by kernel_rfl) ?_
      exact .inl ⟨rfl, Ah hm, H.ls, A⟩
     refine CE id (AQ (AQ ?_))
     obtain ⟨o4, ho, hm⟩ := bind_some hm
     refine As (Q' := fun e fr' h' => (∃ x32, e = .normal ∧ x32 = o4 ∧ Has fr' 138 [(0, .ptr (some (bp0, 0))), (3, Ab x1), (118, Ab x1), (122, .bool x32)] ∧ HH g h' [.obj bp0 (.cells none 2 (AZ x23 (AG rp0_3 p0.t_.AU.length))), .AO rp0_3 94 (AO AA p0.t_.AU)] F) ∨ False) ?_ ?_
     ·replace hm := ho
      clear ho
      refine AD 2 (AM 2 [(122, .bool (x1 == 63))] H fun fr H => AV 122 H hm (fun hb hm H => ?_) fun hb hm H => ?_)
      ·exact By (.inl ⟨_, rfl, Ah hm, H.ls, A⟩)
      refine Bd 2 (BG 2 [(0, .ptr (some (bp0, 0))), (3, Ab x1), (118, Ab x1), (122, .bool (x1 == 123))] H fun fr H => at_nil ?_)
      exact .inl ⟨_, rfl, Ah hm, H.ls, A⟩
     clear ho
     clear A
     intro e fr h21 hQ
     rcases hQ with ⟨x32, rfl, rfl, H, A⟩ | hF
     ·show AW _ _ _ _ _ _ _
      refine AV 122 H hm (fun hb hm H => ?_) fun hb hm H => ?_
      ·refine BO (i := 3) (by kernel_rfl) ?_
       exact .inl ⟨rfl, Ah hm, H.ls, A⟩
      refine CE id (AQ ?_)
      obtain ⟨o5, ho, hm⟩ := bind_some hm
      refine As (Q' := fun e fr' h' => (∃ x33, e = .normal ∧ x33 = o5 ∧ Has fr' 138 [(0, .ptr (some (bp0, 0))), (3, Ab x1), (125, .bool x33)] ∧ HH g h' [.obj bp0 (.cells none 2 (AZ x23 (AG rp0_3 p0.t_.AU.length))), .AO rp0_3 94 (AO AA p0.t_.AU)] F) ∨ False) ?_ ?_
      ·replace hm := ho
       clear ho
       refine AD 2 (AM 2 [(125, .bool (x1 == 124))] H fun fr H => AV 125 H hm (fun hb hm H => ?_) fun hb hm H => ?_)
       ·exact By (.inl ⟨_, rfl, Ah hm, H.ls, A⟩)
       refine Bd 2 (BG 2 [(0, .ptr (some (bp0, 0))), (3, Ab x1), (125, .bool (x1 == 41))] H fun fr H => at_nil ?_)
       exact .inl ⟨_, rfl, Ah hm, H.ls, A⟩
      clear ho
      clear A
      intro e fr h22 hQ
      rcases hQ with ⟨x33, rfl, rfl, H, A⟩ | hF
      ·show AW _ _ _ _ _ _ _
       refine AV 125 H hm (fun hb hm H => ?_) fun hb hm H => ?_
       ·refine BO (i := 4) (by kernel_rfl) ?_
        exact .inl ⟨rfl, Ah hm, H.ls, A⟩
       refine CE id (BO (i := 1) (by kernel_rfl) ?_)
       exact .inr (.inl ⟨rfl, Ah hm, H.ls, A⟩)
      exact hF.elim
     exact hF.elim
    exact hF.elim
   clear ho
   clear A
   intro e fr h23 hQ
   rcases hQ with ⟨rfl, rfl, H, A⟩ | ⟨rfl, rfl, H, A⟩ | hF
   ·show AW _ _ _ _ _ _ _
    refine AQ (AD 1 (AM 1 [(2, Ai 0)] H fun fr H => Ag ?_))
    exact .inr (.inl ⟨_, rfl, Ah hm, H.ls, A⟩)
   ·exact .inl ⟨rfl, Ah hm, H.ls, A⟩
   exact hF.elim
  exact By (.inl ⟨rfl, Ah hm, H.ls, A⟩)
 clear ho
 clear A
 intro e fr h24 hQ
 rcases hQ with ⟨rfl, rfl, H, A⟩ | ⟨x30, rfl, rfl, H, A⟩ | hF
 ·show AW _ _ _ _ _ _ _
  refine AD 8 (Ad 3 [(128, .ptr (some (bp0, 0)))] 131 0 1 A H fun fr t H => ?_)
  obtain ⟨h25, hx, A⟩ := A.s0 1 [Ai (IntKind.i64.wrap (x23.at_ + 1))] [_, _, _, _, _, _, _, _, _]
  refine C1 3 [] hx H fun fr t H => ?_
  refine CG 4 id ?_
  obtain ⟨⟨x34, x35, x36⟩, hx, hm⟩ := bind_some hm
  obtain ⟨v1, h26, hr, r7, rfl, A1⟩ := Fm (av := [.ptr (some (bp0, 0)), Ab x1]) hx (A.cut 2)
  replace A := A.g22 A1
  refine Ap 2 [] 137 hr H fun fr t H => ?_
  refine AM 1 [(2, Ai x34)] H fun fr H => Ag ?_
  obtain ⟨rfl, rfl, rfl⟩ := DR hm
  exact ⟨.inl rfl, _, rH H, _, rfl, A⟩
 ·obtain ⟨rfl, rfl, rfl⟩ := DR hm
  exact ⟨.inl rfl, _, rH H, _, rfl, A⟩
 exact hF.elim
def BP : Nat → A9
 | 0 => ⟨fun _ => none, fun _ => none, fun _ => none, fun _ => none⟩
 | n + 1 => ⟨Dy (BP n), C0 (BP n), Dq (BP n), EH (BP n)⟩
theorem B8  : ∀ n, DT (BP n)
 | 0 => ⟨fun hm => (by cases hm), fun hm => (by cases hm), fun hm => (by cases hm), fun hm => (by cases hm)⟩
 | n + 1 => ⟨fun hm hc A => Jk (B8 n) hm hc A, fun hm hc A => Hq (B8 n) hm hc A, fun hm hc A => JV (B8 n) hm hc A, fun hm hc A => KC (B8 n) hm hc A⟩
def DU : AF → Option (Int × AF × (List AJ)) := (BP J8).DU
theorem FZ {p0 bp0 rp0_3 q0 u0 u1} (hm : DU p0 = some (q0, u0, u1)) (A : HH g h [.obj bp0 (.cells none 2 (AZ p0 (AG rp0_3 p0.t_.AU.length))), .AO rp0_3 94 (AO AA p0.t_.AU)] F) (hc : BZ (cfg.still 84) av = [.ptr (some (bp0, 0))] := by kernel_rfl) : ∃ v h', Bg cfg g h 84 av v h' ∧ ∃ (r'1 : Option Nat), v = Ai q0 ∧ HH g h' [.obj bp0 (.cells none 2 (AZ u0 (AG r'1 u1.length))), .AO r'1 94 (AO AA u1)] F := (B8 J8).FZ hm hc A
def CK : AF → Option (Int × AF × (List AJ)) := (BP J8).CK
theorem DY {p0 bp0 rp0_3 q0 u0 u1} (hm : CK p0 = some (q0, u0, u1)) (A : HH g h [.obj bp0 (.cells none 2 (AZ p0 (AG rp0_3 p0.t_.AU.length))), .AO rp0_3 94 (AO AA p0.t_.AU)] F) (hc : BZ (cfg.still 18) av = [.ptr (some (bp0, 0))] := by kernel_rfl) : ∃ v h', Bg cfg g h 18 av v h' ∧ ∃ (r'1 : Option Nat), v = Ai q0 ∧ HH g h' [.obj bp0 (.cells none 2 (AZ u0 (AG r'1 u1.length))), .AO r'1 94 (AO AA u1)] F := (B8 J8).DY hm hc A
def DE : AF → Option (Int × AF × (List AJ)) := (BP J8).DE
theorem FM {p0 bp0 rp0_3 q0 u0 u1} (hm : DE p0 = some (q0, u0, u1)) (A : HH g h [.obj bp0 (.cells none 2 (AZ p0 (AG rp0_3 p0.t_.AU.length))), .AO rp0_3 94 (AO AA p0.t_.AU)] F) (hc : BZ (cfg.still 39) av = [.ptr (some (bp0, 0))] := by kernel_rfl) : ∃ v h', Bg cfg g h 39 av v h' ∧ ∃ (r'1 : Option Nat), v = Ai q0 ∧ HH g h' [.obj bp0 (.cells none 2 (AZ u0 (AG r'1 u1.length))), .AO r'1 94 (AO AA u1)] F := (B8 J8).FM hm hc A
def Dk : AF → Option (Int × AF × (List AJ)) := (BP J8).Dk
theorem Fl {p0 bp0 rp0_3 q0 u0 u1} (hm : Dk p0 = some (q0, u0, u1)) (A : HH g h [.obj bp0 (.cells none 2 (AZ p0 (AG rp0_3 p0.t_.AU.length))), .AO rp0_3 94 (AO AA p0.t_.AU)] F) (hc : BZ (cfg.still 63) av = [.ptr (some (bp0, 0))] := by kernel_rfl) : ∃ v h', Bg cfg g h 63 av v h' ∧ ∃ (r'1 : Option Nat), v = Ai q0 ∧ HH g h' [.obj bp0 (.cells none 2 (AZ u0 (AG r'1 u1.length))), .AO r'1 94 (AO AA u1)] F := (B8 J8).Fl hm hc A
def Dp (p0 : List Int) (p1 : Int) (s : Int) : Option ((Int) ⊕ ((Unit) ⊕ (Int))) :=
 match s with
 | x1 => Af (decide (x1 < (p0.length : Int))) ((Ff p0 x1).bind fun x3 => Af (p1 == x3) (some (.inr (.inr x1))) (some (.inl (IntKind.i64.wrap (x1 + 1))))) (some (.inr (.inl ())))
def Df (p0 : List Int) (p1 : Int) : Option (Int) :=
 (loop (Dp p0 p1) (0 : Int)).bind fun o1 => (match o1 with | .inl _ => some (-1 : Int) | .inr x2 => some x2)
theorem JB {p0 p1 q0} (hm : Df p0 p1 = some q0) (A : HH g h [] F) (hc : BZ (cfg.still 88) av = [vs (eI .i64) p0, Ai p1] := by kernel_rfl) : ∃ v h', Bg cfg g h 88 av v h' ∧ v = Ai q0 ∧ HH g h' [] F := by
 refine E5 19 [.tmp 4] hc ?_
 clear hc
 unfold Df at hm
 refine bg 19 [(0, vs (eI .i64) p0), (1, Ai p1)] fun fr H => ?_
 refine AD 1 (AM 1 [] H fun fr H => AQ (AD 3 (AM 3 [(7, Ai (p0.length : Int)), (8, Ai 0)] H fun fr H => Ac (id := 0) (by kernel_rfl) ?_)))
 obtain ⟨o1, ho, hm⟩ := bind_some hm
 refine As (Q' := fun e fr' h' => (e = .exit 0 ∧ .inl () = o1 ∧ Has fr' 19 [] ∧ HH g h' [] F) ∨ (∃ x2, e = .ret ∧ .inr x2 = o1 ∧ Has fr' 19 [(4, Ai x2)] ∧ HH g h' [] F) ∨ False) ?_ ?_
 ·refine B2 (by kernel_rfl) (fun (s : Int) fr' h' => ∃ x1, x1 = s ∧ Has fr' 19 [(0, vs (eI .i64) p0), (1, Ai p1), (7, Ai (p0.length : Int)), (8, Ai x1)] ∧ HH g h' [] F) ho ⟨_, rfl, H.ls, A⟩ ?_
  clear ho hm H A
  intro s q fr h1 hI hm
  obtain ⟨x1, rfl, H, A⟩ := hI
  unfold Dp at hm
  refine AD 1 (AM 1 [(9, .bool (decide (x1 < (p0.length : Int))))] H fun fr H => AQ (AV 9 H hm (fun hb hm H => ?_) fun hb hm H => ?_))
  ·refine CE id (AQ (Ac (id := 1) (by kernel_rfl) ?_))
   refine AD 2 (Bw 2 [(5, Ai x1)] 6 H fun fr H => ?_)
   obtain ⟨x3, hx, hm⟩ := bind_some hm
   refine BI 3 [(11, Ai p1)] 14 (.Aq [Ai x3]) h1 H (fun fr => .of (Hl (e := (eI .i64)) (x := x3) (encI .i64) (by decide) (by kernel_rfl) hx)) fun fr t H => ?_
   refine Ax 15 (Ai x3) h1 H (fun fr => .of (FK (by kernel_rfl))) fun fr t H => ?_
   refine AM 1 [(16, .bool (p1 == x3))] H fun fr H => AV 16 H hm (fun hb hm H => ?_) fun hb hm H => ?_
   ·refine AD 2 (AM 2 [(4, Ai x1)] H fun fr H => Ag ?_)
    exact nr hm fun e => Or.inr (.inl ⟨_, rfl, e, H.ls, A⟩)
   refine KX 2 id (BG 2 [(0, vs (eI .i64) p0), (1, Ai p1), (7, Ai (p0.length : Int)), (8, Ai (IntKind.i64.wrap (x1 + 1)))] H fun fr H => at_nil ?_)
   exact nx hm ⟨_, rfl, H.ls, A⟩
  refine BO (i := 0) (by kernel_rfl) ?_
  exact nr hm fun e => .inl ⟨rfl, e, H.ls, A⟩
 clear ho
 clear A
 intro e fr h2 hQ
 rcases hQ with ⟨rfl, rfl, H, A⟩ | ⟨x2, rfl, rfl, H, A⟩ | hF
 ·show AW _ _ _ _ _ _ _
  refine AD 1 (AM 1 [(4, Ai (-1))] H fun fr H => Ag ?_)
  obtain rfl := Ah hm
  exact ⟨.inl rfl, _, rH H, rfl, A⟩
 ·obtain rfl := Ah hm
  exact ⟨.inl rfl, _, rH H, rfl, A⟩
 exact hF.elim
def Cy (p0 : List Int) (p1 : Int) : Option (Bool) :=
 (Df p0 p1).bind fun x1 => some (decide (x1 ≥ 0))
theorem H9 {p0 p1 q0} (hm : Cy p0 p1 = some q0) (A : HH g h [] F) (hc : BZ (cfg.still 66) av = [vs (eI .i64) p0, Ai p1] := by kernel_rfl) : ∃ v h', Bg cfg g h 66 av v h' ∧ v = .bool q0 ∧ HH g h' [] F := by
 refine E5 9 [.tmp 4] hc ?_
 clear hc
 unfold Cy at hm
 refine bg 9 [(0, vs (eI .i64) p0), (1, Ai p1)] fun fr H => ?_
 refine AD 1 (Bw 1 [] 5 H fun fr H => ?_)
 obtain ⟨x1, hx, hm⟩ := bind_some hm
 obtain ⟨v1, h1, hr, rfl, A1⟩ := JB (av := [vs (eI .i64) p0, Ai p1]) hx (A.cut 0)
 replace A := A.Ea A1
 refine Ap 2 [] 7 hr H fun fr t H => ?_
 refine AM 2 [(4, .bool (decide (x1 ≥ 0)))] H fun fr H => Ag ?_
 obtain rfl := Ah hm
 exact ⟨.inl rfl, _, rH H, rfl, A⟩
def I6 (p0 : Int) : Option (Int) :=
 Af ((decide ((Hu .u8 p0 (32 : Int)) ≥ 97)) && (decide ((Hu .u8 p0 (32 : Int)) ≤ 122))) (some (Wr .u8 p0 (32 : Int))) (some p0)
theorem NU {p0 q0} (hm : I6 p0 = some q0) (A : HH g h [] F) (hc : BZ (cfg.still 94) av = [Ab p0] := by kernel_rfl) : ∃ v h', Bg cfg g h 94 av v h' ∧ v = Ab q0 ∧ HH g h' [] F := by
 refine E5 15 [.tmp 2] hc ?_
 clear hc
 unfold I6 at hm
 refine bg 15 [(0, Ab p0)] fun fr H => ?_
 refine AD 1 (AM 1 [] H fun fr H => AQ (AD 3 (Bw 3 [(3, Ab (Hu .u8 p0 (32 : Int)))] 6 H fun fr H => AE 3 [(8, .bool (decide ((Hu .u8 p0 (32 : Int)) ≥ 97)))] H fun fr H => BD 3 (fun fr' h' => h = h' ∧ Has fr' 15 [(0, Ab p0), (11, .bool ((decide ((Hu .u8 p0 (32 : Int)) ≥ 97)) && (decide ((Hu .u8 p0 (32 : Int)) ≤ 122))))]) ?_ ?_)))
 ·cases hb : (decide ((Hu .u8 p0 (32 : Int)) ≥ 97) : Bool) with
  | true =>
   replace H := H.kn 8 hb
   exact AE 3 [(11, .bool (decide ((Hu .u8 p0 (32 : Int)) ≤ 122)))] H fun fr H => Am H hb
  | false =>
   replace H := H.kn 8 hb
   exact AE 3 [(11, .bool false)] H fun fr H => Am H hb
 intro t fr h' hK
 obtain ⟨e, H⟩ := hK
 subst e
 refine BK id (AV 11 H hm (fun hb hm H => ?_) fun hb hm H => ?_)
 ·refine AD 3 (AM 3 [(2, Ab (Wr .u8 p0 (32 : Int)))] H fun fr H => Ag ?_)
  obtain rfl := Ah hm
  exact ⟨.inl rfl, _, rH H, rfl, A⟩
 refine Ca 2 id (AM 2 [(2, Ab p0)] H fun fr H => Ag ?_)
 obtain rfl := Ah hm
 exact ⟨.inl rfl, _, rH H, rfl, A⟩
end
end Go.Av.L
