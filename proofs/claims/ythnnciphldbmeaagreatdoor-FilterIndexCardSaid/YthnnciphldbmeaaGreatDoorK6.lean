/-
 Models of functions, and that the abstract run tells them. Written by lift2.py.
-/
import Derived.Test.YthnnciphldbmeaaGreatDoorKCfg
import Derived.Test.YthnnciphldbmeaaGreatDoorK4
import Derived.Test.YthnnciphldbmeaaGreatDoorK5
namespace Go.Av.L
open Go.Av Go.Lib
set_option maxRecDepth 10000
set_option maxHeartbeats 4000000
set_option linter.unusedVariables false
set_option linter.unusedSimpArgs false
variable {g : Gd} {h : AH} {F : List Ck} {av : List AA}
noncomputable section
def Ea (p0 : CQ) (p1 : AN) : Option (AN × Int) :=
 (FB p0 p1.Name).bind fun (x1, x2) => Aa (x2 != 0) (some ((⟨([] : List UInt8), ([] : List UInt8), (0 : Int), (0 : Int), (0 : Int), (0 : Int), ([] : List UInt8), ([] : List UInt8), (0 : Int), (0 : Int), (⟨(0 : Int), (0 : Int)⟩ : Ar), ([] : List Ao), ([] : List UInt8)⟩ : AN), x2)) (Aa (p1.Kind == 50) (((D9 p0 p1.FE).bind fun (x6, x7) => Aa (x7 != 0) (some (.inr (x6, x7))) (some (.inl x6)) : Option (((List UInt8)) ⊕ ((List UInt8) × Int))).bind fun o1 => (match o1 with | .inl x3 => (Aa (x1 == ([] : List UInt8)) (some true) ((Dg x1 p1.Name).bind fun x9 => some x9) : Option (Bool)).bind fun x8 => (Aa x8 (some true) ((Dg x3 p1.FE).bind fun x11 => some x11) : Option (Bool)).bind fun x10 => Aa x10 (some ((⟨([] : List UInt8), ([] : List UInt8), (0 : Int), (0 : Int), (0 : Int), (0 : Int), ([] : List UInt8), ([] : List UInt8), (0 : Int), (0 : Int), (⟨(0 : Int), (0 : Int)⟩ : Ar), ([] : List Ao), ([] : List UInt8)⟩ : AN), (2 : Int))) (Em (Nd 32 p1.Extra.length) <| some ((⟨x1, x3, p1.Kind, p1.Mode, p1.Tb, p1.TQ, p1.FF, p1.F3, p1.JJ, p1.JU, p1.Time, p1.Extra, p1.Data⟩ : AN), (0 : Int))) | .inr (x4, x5) => some ((⟨([] : List UInt8), ([] : List UInt8), (0 : Int), (0 : Int), (0 : Int), (0 : Int), ([] : List UInt8), ([] : List UInt8), (0 : Int), (0 : Int), (⟨(0 : Int), (0 : Int)⟩ : Ar), ([] : List Ao), ([] : List UInt8)⟩ : AN), x5))) (Aa (p1.Kind == 49) (((D6 p0 p1.FE).bind fun (x15, x16) => Aa (x16 != 0) (some (.inr (x15, x16))) (some (.inl x15)) : Option (((List UInt8)) ⊕ ((List UInt8) × Int))).bind fun o2 => (match o2 with | .inl x12 => (Aa (x1 == ([] : List UInt8)) (some true) ((Dg x1 p1.Name).bind fun x18 => some x18) : Option (Bool)).bind fun x17 => (Aa x17 (some true) ((Dg x12 p1.FE).bind fun x20 => some x20) : Option (Bool)).bind fun x19 => Aa x19 (some ((⟨([] : List UInt8), ([] : List UInt8), (0 : Int), (0 : Int), (0 : Int), (0 : Int), ([] : List UInt8), ([] : List UInt8), (0 : Int), (0 : Int), (⟨(0 : Int), (0 : Int)⟩ : Ar), ([] : List Ao), ([] : List UInt8)⟩ : AN), (2 : Int))) (Em (Nd 32 p1.Extra.length) <| some ((⟨x1, x12, p1.Kind, p1.Mode, p1.Tb, p1.TQ, p1.FF, p1.F3, p1.JJ, p1.JU, p1.Time, p1.Extra, p1.Data⟩ : AN), (0 : Int))) | .inr (x13, x14) => some ((⟨([] : List UInt8), ([] : List UInt8), (0 : Int), (0 : Int), (0 : Int), (0 : Int), ([] : List UInt8), ([] : List UInt8), (0 : Int), (0 : Int), (⟨(0 : Int), (0 : Int)⟩ : Ar), ([] : List Ao), ([] : List UInt8)⟩ : AN), x14))) ((some () : Option ((Unit))).bind fun _ => (Aa (x1 == ([] : List UInt8)) (some true) ((Dg x1 p1.Name).bind fun x22 => some x22) : Option (Bool)).bind fun x21 => (Aa x21 (some true) ((Dg p1.FE p1.FE).bind fun x24 => some x24) : Option (Bool)).bind fun x23 => Aa x23 (some ((⟨([] : List UInt8), ([] : List UInt8), (0 : Int), (0 : Int), (0 : Int), (0 : Int), ([] : List UInt8), ([] : List UInt8), (0 : Int), (0 : Int), (⟨(0 : Int), (0 : Int)⟩ : Ar), ([] : List Ao), ([] : List UInt8)⟩ : AN), (2 : Int))) (Em (Nd 32 p1.Extra.length) <| some ((⟨x1, p1.FE, p1.Kind, p1.Mode, p1.Tb, p1.TQ, p1.FF, p1.F3, p1.JJ, p1.JU, p1.Time, p1.Extra, p1.Data⟩ : AN), (0 : Int))))))
theorem Ic {p0 p1 bp0 rp0_0 q0 q1} (hm : Ea p0 p1 = some (q0, q1)) (A : HH g h [.obj bp0 (.cells none 2 [AF rp0_0 p0.l_.length, Ai p0.Bd]), .AI rp0_0 142 (AI (eP AL) p0.l_)] F) (hc : BF (cfg.still 45) av = [.ptr (some (bp0, 0)), .agg (AD p1)] := by kernel_rfl) : ∃ v h', BL cfg g h 45 av v h' ∧ v = .tuple [.agg (AD q0), Ai q1] ∧ HH g h' [.obj bp0 (.cells none 2 [AF rp0_0 p0.l_.length, Ai p0.Bd]), .AI rp0_0 142 (AI (eP AL) p0.l_)] F := by
 refine Xk 68 [.cell 4 44, .tmp 5] hc ?_
 clear hc
 unfold Ea at hm
 refine bg 68 [(0, .ptr (some (bp0, 0))), (1, .agg (AD p1))] fun fr H => ?_
 refine AG 3 ?_
 obtain ⟨h1, e1, A⟩ := A.pu (.cells none 2 (AD p1))
 refine BB 3 (.ptr (some (h.size, 0))) e1 H fun fr t H => ?_
 obtain ⟨h2, e2, A⟩ := A.pu (.cells none 2 [.str ([] : List UInt8), .str ([] : List UInt8), Ab 0, Ai 0, Ai 0, Ai 0, .str ([] : List UInt8), .str ([] : List UInt8), Ai 0, Ai 0, Ai 0, Ai 0, .slice none 0, .str ([] : List UInt8)])
 refine BB 4 (.ptr (some (h1.size, 0))) e2 H fun fr t H => ?_
 refine Bc 1 [] 3 H fun fr H => Aq 10 _ _ H (fun fr => .of (CG (by kernel_rfl) (A.HG 1 rfl (o := 0) (n := 14) ⟨Nat.le_of_ble_eq_true rfl, rfl⟩))) fun fr t H => ?_
 obtain ⟨h3, e3, A⟩ := A.pu (.cells none 2 [.str ([] : List UInt8), .str ([] : List UInt8), Ab 0, Ai 0, Ai 0, Ai 0, .str ([] : List UInt8), .str ([] : List UInt8), Ai 0, Ai 0, Ai 0, Ai 0, .slice none 0, .str ([] : List UInt8)])
 refine BB 6 (.ptr (some (h2.size, 0))) e3 H fun fr t H => ?_
 obtain ⟨h4, hx, A1⟩ := A.st 0 rfl (o := 0) (new := (AD p1)) (ds := (AD p1)) (Nat.le_of_ble_eq_true rfl) rfl rfl
 replace A : HH g h4 [.obj h2.size (.cells none 2 (AD p1)), .obj h1.size (.cells none 2 [.str ([] : List UInt8), .str ([] : List UInt8), Ab 0, Ai 0, Ai 0, Ai 0, .str ([] : List UInt8), .str ([] : List UInt8), Ai 0, Ai 0, Ai 0, Ai 0, .slice none 0, .str ([] : List UInt8)]), .obj h.size (.cells none 2 (AD p1)), _, _] F := A1
 refine F4 hx H fun fr t H => ?_
 refine CX 3 id (Bc 3 [(7, .func (.func 83) [.ptr (some (bp0, 0))] [])] 1 H fun fr H => AO 1 [] H fun fr H => AQ (AG 10 (Ag 2 [(14, .func (.func 83) [.ptr (some (bp0, 0))] [])] 16 2 0 A H fun fr t H => ?_)))
 replace A := A.k5 3 4 0 1 2
 obtain ⟨⟨x1, x2⟩, hx, hm⟩ := bind_some hm
 obtain ⟨v1, h5, hr, rfl, A1⟩ := Jq (av := [.ptr (some (bp0, 0)), .str p1.Name]) hx (A.cut 2)
 replace A := A.g22 A1
 refine BA 17 hr H fun fr t H => ?_
 obtain ⟨h6, hx, A⟩ := A.s2 0 [.str x1] [_, _, _, _, _, _, _, _, _, _, _, _, _, _]
 refine FJ 4 [(19, Ai x2)] hx H fun fr t H => ?_
 refine Bc 1 [(8, Ai x2)] 2 H fun fr H => AO 2 [(22, .bool (x2 != 0))] H fun fr H => Ad 22 H hm (fun hb hm H => ?_) fun hb hm H => ?_
 ·refine AG 4 ?_
  obtain ⟨h7, hx, A⟩ := A.s3 0 [.str ([] : List UInt8), .str ([] : List UInt8), Ab 0, Ai 0, Ai 0, Ai 0, .str ([] : List UInt8), .str ([] : List UInt8), Ai 0, Ai 0, Ai 0, Ai 0, .slice none 0, .str ([] : List UInt8)] [_, _, _, _, _, _, _, _, _, _, _, _, _, _]
  refine Fk 2 [(24, Ai x2)] hx H fun fr t H => ?_
  refine AO 1 [(5, Ai x2)] H fun fr H => AU ?_
  obtain ⟨rfl, rfl⟩ := Cw hm
  refine ⟨.inl rfl, .tuple [.agg [.str ([] : List UInt8), .str ([] : List UInt8), Ab 0, Ai 0, Ai 0, Ai 0, .str ([] : List UInt8), .str ([] : List UInt8), Ai 0, Ai 0, Ai 0, Ai 0, .slice none 0, .str ([] : List UInt8)], Ai x2], CK (.cell (rT H) (By (by kernel_rfl) (by kernel_rfl) (A.la 3 0 14)) (.tmp (rT H) .nil)), ?_⟩
  refine ⟨.tuple [.agg [.str ([] : List UInt8), .str ([] : List UInt8), Ab 0, Ai 0, Ai 0, Ai 0, .str ([] : List UInt8), .str ([] : List UInt8), Ai 0, Ai 0, Ai 0, Ai 0, vs As ([] : List Ao), .str ([] : List UInt8)], Ai x2], h7, by first | rfl | (simp only [I1, I4, JC, I5, JB, I2, I9, I7, I3, JA, I8, GY, GN, GQ, GW, GJ, GP, GL, Option.map_some] <;> rfl), ?_⟩
  replace A := A.d2
  exact ⟨rfl, A⟩
 refine Ce 8 id ?_
 obtain ⟨h8, e4⟩ : ∃ x, x = h6.push (.map 2 []) := ⟨_, rfl⟩
 replace A : HH g h8 [.obj h6.size (.map 2 []), _, _, _, _, _] F := (A.push _).to e4
 refine BB 25 (.map (some h6.size)) e4 H fun fr t H => ?_
 obtain ⟨h9, hx, A1⟩ := HH.Wf (P := cfg.P) A 0 rfl (t := 163) (kt := 5) (et := 162) (by kernel_rfl) (k := Ab 50) (v := .func (.func 84) [] []) (by kernel_rfl) (by kernel_rfl)
 replace A : HH g h9 [.obj h6.size (.map 2 [(Ab 50, .func (.func 84) [] [])]), _, _, _, _, _] F := A1
 refine Mg (.tuple []) h9 H (fun fr => .of (UG (by kernel_rfl) hx)) fun fr t H => ?_
 obtain ⟨h10, hx, A1⟩ := HH.Wf (P := cfg.P) A 0 rfl (t := 163) (kt := 5) (et := 162) (by kernel_rfl) (k := Ab 49) (v := .func (.func 85) [] []) (by kernel_rfl) (by kernel_rfl)
 replace A : HH g h10 [.obj h6.size (.map 2 [(Ab 50, .func (.func 84) [] []), (Ab 49, .func (.func 85) [] [])]), _, _, _, _, _] F := A1
 refine Mg (.tuple []) h10 H (fun fr => .of (UG (by kernel_rfl) hx)) fun fr t H => ?_
 refine Ag 2 [(26, .map (some h6.size))] 28 5 2 A H fun fr t H => ?_
 rcases AX hm with ⟨hb, hm⟩ | ⟨hk1, hm⟩
 ·refine Aq 29 (.func (.func 84) [] []) h10 H (fun fr => .of (SU (by kernel_rfl) (HH.U8 (P := cfg.P) A 0 rfl (t := 163) (kt := 5) (et := 162) (by kernel_rfl) (kd' := .u8) (by kernel_rfl) (x := p1.Kind) (.hit hb)))) fun fr t H => ?_
  refine AO 1 [(9, .func (.func 84) [] [])] H fun fr H => AQ ?_
  obtain ⟨o1, ho, hm⟩ := bind_some hm
  refine Ax (Q' := fun e fr' h' => (∃ x3, e = .normal ∧ .inl x3 = o1 ∧ Has fr' 68 [(3, .ptr (some (h.size, 0))), (4, .ptr (some (h1.size, 0))), (6, .ptr (some (h2.size, 0)))] ∧ HH g h' [.obj h6.size (.map 2 [(Ab 50, .func (.func 84) [] []), (Ab 49, .func (.func 85) [] [])]), .obj bp0 (.cells none 2 [AF rp0_0 p0.l_.length, Ai p0.Bd]), .AI rp0_0 142 (AI (eP AL) p0.l_), .obj h2.size (.cells none 2 (BN p1 (.str x1) (.str x3))), .obj h1.size (.cells none 2 [.str ([] : List UInt8), .str ([] : List UInt8), Ab 0, Ai 0, Ai 0, Ai 0, .str ([] : List UInt8), .str ([] : List UInt8), Ai 0, Ai 0, Ai 0, Ai 0, .slice none 0, .str ([] : List UInt8)]), .obj h.size (.cells none 2 (AD p1))] F) ∨ (∃ x4 x5, e = .ret ∧ .inr (x4, x5) = o1 ∧ Has fr' 68 [(4, .ptr (some (h1.size, 0))), (5, Ai x5)] ∧ HH g h' [.obj h6.size (.map 2 [(Ab 50, .func (.func 84) [] []), (Ab 49, .func (.func 85) [] [])]), .obj bp0 (.cells none 2 [AF rp0_0 p0.l_.length, Ai p0.Bd]), .AI rp0_0 142 (AI (eP AL) p0.l_), .obj h2.size (.cells none 2 (BN p1 (.str x1) (.str x4))), .obj h1.size (.cells none 2 [.str ([] : List UInt8), .str ([] : List UInt8), Ab 0, Ai 0, Ai 0, Ai 0, .str ([] : List UInt8), .str ([] : List UInt8), Ai 0, Ai 0, Ai 0, Ai 0, .slice none 0, .str ([] : List UInt8)]), .obj h.size (.cells none 2 (AD p1))] F) ∨ False) ?_ ?_
  ·replace hm := ho
   clear ho
   refine AG 2 (AO 2 [(31, .bool true)] H fun fr H => HB (x := .tmp 31) (by kernel_rfl) H (fun fr => by kernel_rfl) ?_)
   refine AG 11 (Ag 2 [(33, .ptr (some (bp0, 0)))] 35 5 1 A H fun fr t H => ?_)
   replace A := A.k6 1 2 0 3 4 5
   obtain ⟨⟨x6, x7⟩, hx, hm⟩ := bind_some hm
   obtain ⟨v1, h11, hr, rfl, A1⟩ := Hy (av := [.ptr (some (bp0, 0)), .str p1.FE, .func (.func 84) [] []]) hx (A.cut 2)
   replace A := A.g22 A1
   refine A0 1 [] 37 hr H fun fr t H => ?_
   obtain ⟨h12, hx, A⟩ := A.s3 1 [.str x6] [_, _, _, _, _, _, _, _, _, _, _, _, _, _]
   refine FJ 4 [(39, Ai x7)] hx H fun fr t H => ?_
   refine BV 1 [(3, .ptr (some (h.size, 0))), (4, .ptr (some (h1.size, 0))), (6, .ptr (some (h2.size, 0))), (8, Ai x7)] H fun fr H => CX 2 id (AO 2 [(42, .bool (x7 != 0))] H fun fr H => Ad 42 H hm (fun hb hm H => ?_) fun hb hm H => ?_)
   ·refine AG 4 ?_
    obtain ⟨h13, hx, A⟩ := A.s4 0 [.str ([] : List UInt8), .str ([] : List UInt8), Ab 0, Ai 0, Ai 0, Ai 0, .str ([] : List UInt8), .str ([] : List UInt8), Ai 0, Ai 0, Ai 0, Ai 0, .slice none 0, .str ([] : List UInt8)] [_, _, _, _, _, _, _, _, _, _, _, _, _, _]
    refine Fk 2 [(44, Ai x7)] hx H fun fr t H => ?_
    refine AO 1 [(5, Ai x7)] H fun fr H => AU ?_
    replace A := A.k6 2 0 1 3 4 5
    exact .inr (.inl ⟨_, _, rfl, AY hm, H.ls, A⟩)
   refine FL ?_
   replace A := A.k6 2 0 1 3 4 5
   exact .inl ⟨_, rfl, AY hm, H.ls, A⟩
  clear ho
  clear A
  intro e fr h14 hQ
  rcases hQ with ⟨x3, rfl, rfl, H, A⟩ | ⟨x4, x5, rfl, rfl, H, A⟩ | hF
  ·show AW _ _ _ _ _ _ _
   refine AQ (AG 17 (Ag 1 [] 46 3 0 A H fun fr t H => ?_))
   refine AK 2 [(48, .bool (x1 == ([] : List UInt8)))] H fun fr H => ?_
   obtain ⟨x8, ho, hm⟩ := bind_some hm
   refine A9 6 (fun fr' h' => Has fr' 68 [(3, .ptr (some (h.size, 0))), (4, .ptr (some (h1.size, 0))), (6, .ptr (some (h2.size, 0))), (54, .bool x8)] ∧ HH g h' [.obj h6.size (.map 2 [(Ab 50, .func (.func 84) [] []), (Ab 49, .func (.func 85) [] [])]), .obj bp0 (.cells none 2 [AF rp0_0 p0.l_.length, Ai p0.Bd]), .AI rp0_0 142 (AI (eP AL) p0.l_), .obj h2.size (.cells none 2 (BN p1 (.str x1) (.str x3))), .obj h1.size (.cells none 2 [.str ([] : List UInt8), .str ([] : List UInt8), Ab 0, Ai 0, Ai 0, Ai 0, .str ([] : List UInt8), .str ([] : List UInt8), Ai 0, Ai 0, Ai 0, Ai 0, .slice none 0, .str ([] : List UInt8)]), .obj h.size (.cells none 2 (AD p1))] F) ?_ ?_
   ·rcases AX ho with ⟨hb, hm⟩ | ⟨hb, hm⟩
    ·replace H := H.kn 48 hb
     refine AK 6 [(54, .bool true)] H fun fr H => ?_
     obtain rfl := AY hm
     exact at_nil ⟨H.ls, A⟩
    replace H := H.kn 48 hb
    refine Ag 1 [] 50 3 0 A H fun fr t H => ?_
    refine Ag 1 [] 52 5 0 A H fun fr t H => ?_
    obtain ⟨x9, hx, hm⟩ := bind_some hm
    obtain ⟨v1, h16, hr, rfl, A1⟩ := Ed (av := [.str x1, .str p1.Name]) hx (A.cut 0)
    replace A := A.EX A1
    refine BA 53 hr H fun fr t H => ?_
    refine AK 1 [(54, .bool x9)] H fun fr H => ?_
    obtain rfl := AY hm
    exact at_nil ⟨H.ls, A⟩
   clear A
   intro t fr h15 hK
   obtain ⟨H, A⟩ := hK
   refine AK 1 [(55, .bool x8)] H fun fr H => ?_
   obtain ⟨x10, ho, hm⟩ := bind_some hm
   refine A9 6 (fun fr' h' => Has fr' 68 [(3, .ptr (some (h.size, 0))), (4, .ptr (some (h1.size, 0))), (6, .ptr (some (h2.size, 0))), (61, .bool x10)] ∧ HH g h' [.obj h6.size (.map 2 [(Ab 50, .func (.func 84) [] []), (Ab 49, .func (.func 85) [] [])]), .obj bp0 (.cells none 2 [AF rp0_0 p0.l_.length, Ai p0.Bd]), .AI rp0_0 142 (AI (eP AL) p0.l_), .obj h2.size (.cells none 2 (BN p1 (.str x1) (.str x3))), .obj h1.size (.cells none 2 [.str ([] : List UInt8), .str ([] : List UInt8), Ab 0, Ai 0, Ai 0, Ai 0, .str ([] : List UInt8), .str ([] : List UInt8), Ai 0, Ai 0, Ai 0, Ai 0, .slice none 0, .str ([] : List UInt8)]), .obj h.size (.cells none 2 (AD p1))] F) ?_ ?_
   ·rcases AX ho with ⟨hb, hm⟩ | ⟨hb, hm⟩
    ·replace H := H.kn 55 hb
     refine AK 6 [(61, .bool true)] H fun fr H => ?_
     obtain rfl := AY hm
     exact at_nil ⟨H.ls, A⟩
    replace H := H.kn 55 hb
    refine Ag 1 [] 57 3 1 A H fun fr t H => ?_
    refine Ag 1 [] 59 5 1 A H fun fr t H => ?_
    obtain ⟨x11, hx, hm⟩ := bind_some hm
    obtain ⟨v1, h18, hr, rfl, A1⟩ := Ed (av := [.str x3, .str p1.FE]) hx (A.cut 0)
    replace A := A.EX A1
    refine BA 60 hr H fun fr t H => ?_
    refine AK 1 [(61, .bool x11)] H fun fr H => ?_
    obtain rfl := AY hm
    exact at_nil ⟨H.ls, A⟩
   clear A
   intro t fr h17 hK
   obtain ⟨H, A⟩ := hK
   refine BJ id (Ad 61 H hm (fun hb hm H => ?_) fun hb hm H => ?_)
   ·refine AG 3 ?_
    obtain ⟨h19, hx, A⟩ := A.s4 0 [.str ([] : List UInt8), .str ([] : List UInt8), Ab 0, Ai 0, Ai 0, Ai 0, .str ([] : List UInt8), .str ([] : List UInt8), Ai 0, Ai 0, Ai 0, Ai 0, .slice none 0, .str ([] : List UInt8)] [_, _, _, _, _, _, _, _, _, _, _, _, _, _]
    refine Fk 1 [] hx H fun fr t H => ?_
    refine AO 1 [(5, Ai 2)] H fun fr H => AU ?_
    obtain ⟨rfl, rfl⟩ := Cw hm
    refine ⟨.inl rfl, .tuple [.agg [.str ([] : List UInt8), .str ([] : List UInt8), Ab 0, Ai 0, Ai 0, Ai 0, .str ([] : List UInt8), .str ([] : List UInt8), Ai 0, Ai 0, Ai 0, Ai 0, .slice none 0, .str ([] : List UInt8)], Ai 2], CK (.cell (rT H) (By (by kernel_rfl) (by kernel_rfl) (A.la 4 0 14)) (.tmp (rT H) .nil)), ?_⟩
    refine ⟨.tuple [.agg [.str ([] : List UInt8), .str ([] : List UInt8), Ab 0, Ai 0, Ai 0, Ai 0, .str ([] : List UInt8), .str ([] : List UInt8), Ai 0, Ai 0, Ai 0, Ai 0, vs As ([] : List Ao), .str ([] : List UInt8)], Ai 2], h19, by first | rfl | (simp only [I1, I4, JC, I5, JB, I2, I9, I7, I3, JA, I8, GY, GN, GQ, GW, GJ, GP, GL, Option.map_some] <;> rfl), ?_⟩
    replace A := A.k2 1 2
    exact ⟨rfl, A⟩
   refine Ce 5 id (Ag 1 [] 64 5 12 A H fun fr t H => ?_)
   have A1 := A.cut 0
   obtain ⟨hb, hm⟩ := BE hm
   refine Aq 65 (vs As p1.Extra) h17 H (fun fr => Steps.call (by kernel_rfl) (Gj (C := cfg) (f := 88) (a := 0) (t := 90) (xs := p1.Extra) CN (by decide) (by kernel_rfl) (l := exts) rfl (by kernel_rfl) (by kernel_rfl) rfl (K3 CN _ p1.Extra) (CN.BF _) hb)) fun fr t H => ?_
   obtain ⟨h21, hx, A⟩ := A.s3 12 [vs As p1.Extra] [_, _, _, _, _, _, _, _, _, _, _, _, _, _]
   refine FJ 1 [] hx H fun fr t H => ?_
   refine CX 3 id (Aq 67 _ _ H (fun fr => .of (CG (by kernel_rfl) (A.HG 3 rfl (o := 0) (n := 14) ⟨Nat.le_of_ble_eq_true rfl, rfl⟩))) fun fr t H => ?_)
   obtain ⟨h22, hx, A⟩ := A.s4 0 (BN p1 (.str x1) (.str x3)) [_, _, _, _, _, _, _, _, _, _, _, _, _, _]
   refine F4 hx H fun fr t H => ?_
   refine AO 1 [(5, Ai 0)] H fun fr H => AU ?_
   obtain ⟨rfl, rfl⟩ := Cw hm
   refine ⟨.inl rfl, .tuple [.agg (BN p1 (.str x1) (.str x3)), Ai 0], CK (.cell (rT H) (By (by kernel_rfl) (by kernel_rfl) (A.la 4 0 14)) (.tmp (rT H) .nil)), ?_⟩
   refine ⟨.tuple [.agg (BN p1 (.str x1) (.str x3)), Ai 0], h22, by first | rfl | (simp only [I1, I4, JC, I5, JB, I2, I9, I7, I3, JA, I8, GY, GN, GQ, GW, GJ, GP, GL, Option.map_some] <;> rfl), ?_⟩
   replace A := A.k2 1 2
   exact ⟨rfl, A⟩
  ·obtain ⟨rfl, rfl⟩ := Cw hm
   refine ⟨.inl rfl, .tuple [.agg [.str ([] : List UInt8), .str ([] : List UInt8), Ab 0, Ai 0, Ai 0, Ai 0, .str ([] : List UInt8), .str ([] : List UInt8), Ai 0, Ai 0, Ai 0, Ai 0, .slice none 0, .str ([] : List UInt8)], Ai x5], CK (.cell (rT H) (By (by kernel_rfl) (by kernel_rfl) (A.la 4 0 14)) (.tmp (rT H) .nil)), ?_⟩
   refine ⟨.tuple [.agg [.str ([] : List UInt8), .str ([] : List UInt8), Ab 0, Ai 0, Ai 0, Ai 0, .str ([] : List UInt8), .str ([] : List UInt8), Ai 0, Ai 0, Ai 0, Ai 0, vs As ([] : List Ao), .str ([] : List UInt8)], Ai x5], h14, by first | rfl | (simp only [I1, I4, JC, I5, JB, I2, I9, I7, I3, JA, I8, GY, GN, GQ, GW, GJ, GP, GL, Option.map_some] <;> rfl), ?_⟩
   replace A := A.k2 1 2
   exact ⟨rfl, A⟩
  exact hF.elim
 rcases AX hm with ⟨hb, hm⟩ | ⟨hk2, hm⟩
 ·refine Aq 29 (.func (.func 85) [] []) h10 H (fun fr => .of (SU (by kernel_rfl) (HH.U8 (P := cfg.P) A 0 rfl (t := 163) (kt := 5) (et := 162) (by kernel_rfl) (kd' := .u8) (by kernel_rfl) (x := p1.Kind) (.F8 hk1 (.hit hb))))) fun fr t H => ?_
  refine AO 1 [(9, .func (.func 85) [] [])] H fun fr H => AQ ?_
  obtain ⟨o2, ho, hm⟩ := bind_some hm
  refine Ax (Q' := fun e fr' h' => (∃ x12, e = .normal ∧ .inl x12 = o2 ∧ Has fr' 68 [(3, .ptr (some (h.size, 0))), (4, .ptr (some (h1.size, 0))), (6, .ptr (some (h2.size, 0)))] ∧ HH g h' [.obj h6.size (.map 2 [(Ab 50, .func (.func 84) [] []), (Ab 49, .func (.func 85) [] [])]), .obj bp0 (.cells none 2 [AF rp0_0 p0.l_.length, Ai p0.Bd]), .AI rp0_0 142 (AI (eP AL) p0.l_), .obj h2.size (.cells none 2 (BN p1 (.str x1) (.str x12))), .obj h1.size (.cells none 2 [.str ([] : List UInt8), .str ([] : List UInt8), Ab 0, Ai 0, Ai 0, Ai 0, .str ([] : List UInt8), .str ([] : List UInt8), Ai 0, Ai 0, Ai 0, Ai 0, .slice none 0, .str ([] : List UInt8)]), .obj h.size (.cells none 2 (AD p1))] F) ∨ (∃ x13 x14, e = .ret ∧ .inr (x13, x14) = o2 ∧ Has fr' 68 [(4, .ptr (some (h1.size, 0))), (5, Ai x14)] ∧ HH g h' [.obj h6.size (.map 2 [(Ab 50, .func (.func 84) [] []), (Ab 49, .func (.func 85) [] [])]), .obj bp0 (.cells none 2 [AF rp0_0 p0.l_.length, Ai p0.Bd]), .AI rp0_0 142 (AI (eP AL) p0.l_), .obj h2.size (.cells none 2 (BN p1 (.str x1) (.str x13))), .obj h1.size (.cells none 2 [.str ([] : List UInt8), .str ([] : List UInt8), Ab 0, Ai 0, Ai 0, Ai 0, .str ([] : List UInt8), .str ([] : List UInt8), Ai 0, Ai 0, Ai 0, Ai 0, .slice none 0, .str ([] : List UInt8)]), .obj h.size (.cells none 2 (AD p1))] F) ∨ False) ?_ ?_
  ·replace hm := ho
   clear ho
   refine AG 2 (AO 2 [(31, .bool true)] H fun fr H => HB (x := .tmp 31) (by kernel_rfl) H (fun fr => by kernel_rfl) ?_)
   refine AG 11 (Ag 2 [(33, .ptr (some (bp0, 0)))] 35 5 1 A H fun fr t H => ?_)
   replace A := A.k6 1 2 0 3 4 5
   obtain ⟨⟨x15, x16⟩, hx, hm⟩ := bind_some hm
   obtain ⟨v1, h23, hr, rfl, A1⟩ := H3 (av := [.ptr (some (bp0, 0)), .str p1.FE, .func (.func 85) [] []]) hx (A.cut 2)
   replace A := A.g22 A1
   refine A0 1 [] 37 hr H fun fr t H => ?_
   obtain ⟨h24, hx, A⟩ := A.s3 1 [.str x15] [_, _, _, _, _, _, _, _, _, _, _, _, _, _]
   refine FJ 4 [(39, Ai x16)] hx H fun fr t H => ?_
   refine BV 1 [(3, .ptr (some (h.size, 0))), (4, .ptr (some (h1.size, 0))), (6, .ptr (some (h2.size, 0))), (8, Ai x16)] H fun fr H => CX 2 id (AO 2 [(42, .bool (x16 != 0))] H fun fr H => Ad 42 H hm (fun hb hm H => ?_) fun hb hm H => ?_)
   ·refine AG 4 ?_
    obtain ⟨h25, hx, A⟩ := A.s4 0 [.str ([] : List UInt8), .str ([] : List UInt8), Ab 0, Ai 0, Ai 0, Ai 0, .str ([] : List UInt8), .str ([] : List UInt8), Ai 0, Ai 0, Ai 0, Ai 0, .slice none 0, .str ([] : List UInt8)] [_, _, _, _, _, _, _, _, _, _, _, _, _, _]
    refine Fk 2 [(44, Ai x16)] hx H fun fr t H => ?_
    refine AO 1 [(5, Ai x16)] H fun fr H => AU ?_
    replace A := A.k6 2 0 1 3 4 5
    exact .inr (.inl ⟨_, _, rfl, AY hm, H.ls, A⟩)
   refine FL ?_
   replace A := A.k6 2 0 1 3 4 5
   exact .inl ⟨_, rfl, AY hm, H.ls, A⟩
  clear ho
  clear A
  intro e fr h26 hQ
  rcases hQ with ⟨x12, rfl, rfl, H, A⟩ | ⟨x13, x14, rfl, rfl, H, A⟩ | hF
  ·show AW _ _ _ _ _ _ _
   refine AQ (AG 17 (Ag 1 [] 46 3 0 A H fun fr t H => ?_))
   refine AK 2 [(48, .bool (x1 == ([] : List UInt8)))] H fun fr H => ?_
   obtain ⟨x17, ho, hm⟩ := bind_some hm
   refine A9 6 (fun fr' h' => Has fr' 68 [(3, .ptr (some (h.size, 0))), (4, .ptr (some (h1.size, 0))), (6, .ptr (some (h2.size, 0))), (54, .bool x17)] ∧ HH g h' [.obj h6.size (.map 2 [(Ab 50, .func (.func 84) [] []), (Ab 49, .func (.func 85) [] [])]), .obj bp0 (.cells none 2 [AF rp0_0 p0.l_.length, Ai p0.Bd]), .AI rp0_0 142 (AI (eP AL) p0.l_), .obj h2.size (.cells none 2 (BN p1 (.str x1) (.str x12))), .obj h1.size (.cells none 2 [.str ([] : List UInt8), .str ([] : List UInt8), Ab 0, Ai 0, Ai 0, Ai 0, .str ([] : List UInt8), .str ([] : List UInt8), Ai 0, Ai 0, Ai 0, Ai 0, .slice none 0, .str ([] : List UInt8)]), .obj h.size (.cells none 2 (AD p1))] F) ?_ ?_
   ·rcases AX ho with ⟨hb, hm⟩ | ⟨hb, hm⟩
    ·replace H := H.kn 48 hb
     refine AK 6 [(54, .bool true)] H fun fr H => ?_
     obtain rfl := AY hm
     exact at_nil ⟨H.ls, A⟩
    replace H := H.kn 48 hb
    refine Ag 1 [] 50 3 0 A H fun fr t H => ?_
    refine Ag 1 [] 52 5 0 A H fun fr t H => ?_
    obtain ⟨x18, hx, hm⟩ := bind_some hm
    obtain ⟨v1, h28, hr, rfl, A1⟩ := Ed (av := [.str x1, .str p1.Name]) hx (A.cut 0)
    replace A := A.EX A1
    refine BA 53 hr H fun fr t H => ?_
    refine AK 1 [(54, .bool x18)] H fun fr H => ?_
    obtain rfl := AY hm
    exact at_nil ⟨H.ls, A⟩
   clear A
   intro t fr h27 hK
   obtain ⟨H, A⟩ := hK
   refine AK 1 [(55, .bool x17)] H fun fr H => ?_
   obtain ⟨x19, ho, hm⟩ := bind_some hm
   refine A9 6 (fun fr' h' => Has fr' 68 [(3, .ptr (some (h.size, 0))), (4, .ptr (some (h1.size, 0))), (6, .ptr (some (h2.size, 0))), (61, .bool x19)] ∧ HH g h' [.obj h6.size (.map 2 [(Ab 50, .func (.func 84) [] []), (Ab 49, .func (.func 85) [] [])]), .obj bp0 (.cells none 2 [AF rp0_0 p0.l_.length, Ai p0.Bd]), .AI rp0_0 142 (AI (eP AL) p0.l_), .obj h2.size (.cells none 2 (BN p1 (.str x1) (.str x12))), .obj h1.size (.cells none 2 [.str ([] : List UInt8), .str ([] : List UInt8), Ab 0, Ai 0, Ai 0, Ai 0, .str ([] : List UInt8), .str ([] : List UInt8), Ai 0, Ai 0, Ai 0, Ai 0, .slice none 0, .str ([] : List UInt8)]), .obj h.size (.cells none 2 (AD p1))] F) ?_ ?_
   ·rcases AX ho with ⟨hb, hm⟩ | ⟨hb, hm⟩
    ·replace H := H.kn 55 hb
     refine AK 6 [(61, .bool true)] H fun fr H => ?_
     obtain rfl := AY hm
     exact at_nil ⟨H.ls, A⟩
    replace H := H.kn 55 hb
    refine Ag 1 [] 57 3 1 A H fun fr t H => ?_
    refine Ag 1 [] 59 5 1 A H fun fr t H => ?_
    obtain ⟨x20, hx, hm⟩ := bind_some hm
    obtain ⟨v1, h30, hr, rfl, A1⟩ := Ed (av := [.str x12, .str p1.FE]) hx (A.cut 0)
    replace A := A.EX A1
    refine BA 60 hr H fun fr t H => ?_
    refine AK 1 [(61, .bool x20)] H fun fr H => ?_
    obtain rfl := AY hm
    exact at_nil ⟨H.ls, A⟩
   clear A
   intro t fr h29 hK
   obtain ⟨H, A⟩ := hK
   refine BJ id (Ad 61 H hm (fun hb hm H => ?_) fun hb hm H => ?_)
   ·refine AG 3 ?_
    obtain ⟨h31, hx, A⟩ := A.s4 0 [.str ([] : List UInt8), .str ([] : List UInt8), Ab 0, Ai 0, Ai 0, Ai 0, .str ([] : List UInt8), .str ([] : List UInt8), Ai 0, Ai 0, Ai 0, Ai 0, .slice none 0, .str ([] : List UInt8)] [_, _, _, _, _, _, _, _, _, _, _, _, _, _]
    refine Fk 1 [] hx H fun fr t H => ?_
    refine AO 1 [(5, Ai 2)] H fun fr H => AU ?_
    obtain ⟨rfl, rfl⟩ := Cw hm
    refine ⟨.inl rfl, .tuple [.agg [.str ([] : List UInt8), .str ([] : List UInt8), Ab 0, Ai 0, Ai 0, Ai 0, .str ([] : List UInt8), .str ([] : List UInt8), Ai 0, Ai 0, Ai 0, Ai 0, .slice none 0, .str ([] : List UInt8)], Ai 2], CK (.cell (rT H) (By (by kernel_rfl) (by kernel_rfl) (A.la 4 0 14)) (.tmp (rT H) .nil)), ?_⟩
    refine ⟨.tuple [.agg [.str ([] : List UInt8), .str ([] : List UInt8), Ab 0, Ai 0, Ai 0, Ai 0, .str ([] : List UInt8), .str ([] : List UInt8), Ai 0, Ai 0, Ai 0, Ai 0, vs As ([] : List Ao), .str ([] : List UInt8)], Ai 2], h31, by first | rfl | (simp only [I1, I4, JC, I5, JB, I2, I9, I7, I3, JA, I8, GY, GN, GQ, GW, GJ, GP, GL, Option.map_some] <;> rfl), ?_⟩
    replace A := A.k2 1 2
    exact ⟨rfl, A⟩
   refine Ce 5 id (Ag 1 [] 64 5 12 A H fun fr t H => ?_)
   have A1 := A.cut 0
   obtain ⟨hb, hm⟩ := BE hm
   refine Aq 65 (vs As p1.Extra) h29 H (fun fr => Steps.call (by kernel_rfl) (Gj (C := cfg) (f := 88) (a := 0) (t := 90) (xs := p1.Extra) CN (by decide) (by kernel_rfl) (l := exts) rfl (by kernel_rfl) (by kernel_rfl) rfl (K3 CN _ p1.Extra) (CN.BF _) hb)) fun fr t H => ?_
   obtain ⟨h33, hx, A⟩ := A.s3 12 [vs As p1.Extra] [_, _, _, _, _, _, _, _, _, _, _, _, _, _]
   refine FJ 1 [] hx H fun fr t H => ?_
   refine CX 3 id (Aq 67 _ _ H (fun fr => .of (CG (by kernel_rfl) (A.HG 3 rfl (o := 0) (n := 14) ⟨Nat.le_of_ble_eq_true rfl, rfl⟩))) fun fr t H => ?_)
   obtain ⟨h34, hx, A⟩ := A.s4 0 (BN p1 (.str x1) (.str x12)) [_, _, _, _, _, _, _, _, _, _, _, _, _, _]
   refine F4 hx H fun fr t H => ?_
   refine AO 1 [(5, Ai 0)] H fun fr H => AU ?_
   obtain ⟨rfl, rfl⟩ := Cw hm
   refine ⟨.inl rfl, .tuple [.agg (BN p1 (.str x1) (.str x12)), Ai 0], CK (.cell (rT H) (By (by kernel_rfl) (by kernel_rfl) (A.la 4 0 14)) (.tmp (rT H) .nil)), ?_⟩
   refine ⟨.tuple [.agg (BN p1 (.str x1) (.str x12)), Ai 0], h34, by first | rfl | (simp only [I1, I4, JC, I5, JB, I2, I9, I7, I3, JA, I8, GY, GN, GQ, GW, GJ, GP, GL, Option.map_some] <;> rfl), ?_⟩
   replace A := A.k2 1 2
   exact ⟨rfl, A⟩
  ·obtain ⟨rfl, rfl⟩ := Cw hm
   refine ⟨.inl rfl, .tuple [.agg [.str ([] : List UInt8), .str ([] : List UInt8), Ab 0, Ai 0, Ai 0, Ai 0, .str ([] : List UInt8), .str ([] : List UInt8), Ai 0, Ai 0, Ai 0, Ai 0, .slice none 0, .str ([] : List UInt8)], Ai x14], CK (.cell (rT H) (By (by kernel_rfl) (by kernel_rfl) (A.la 4 0 14)) (.tmp (rT H) .nil)), ?_⟩
   refine ⟨.tuple [.agg [.str ([] : List UInt8), .str ([] : List UInt8), Ab 0, Ai 0, Ai 0, Ai 0, .str ([] : List UInt8), .str ([] : List UInt8), Ai 0, Ai 0, Ai 0, Ai 0, vs As ([] : List Ao), .str ([] : List UInt8)], Ai x14], h26, by first | rfl | (simp only [I1, I4, JC, I5, JB, I2, I9, I7, I3, JA, I8, GY, GN, GQ, GW, GJ, GP, GL, Option.map_some] <;> rfl), ?_⟩
   replace A := A.k2 1 2
   exact ⟨rfl, A⟩
  exact hF.elim
 refine Aq 29 (.nilFunc) h10 H (fun fr => .of (SU (by kernel_rfl) (HH.Vv (P := cfg.P) A 0 rfl (t := 163) (kt := 5) (et := 162) (by kernel_rfl) (kd' := .u8) (by kernel_rfl) (z := .nilFunc) (by kernel_rfl) (x := p1.Kind) (.F8 hk1 (.F8 hk2 (.nil)))))) fun fr t H => ?_
 refine AO 1 [(9, .nilFunc)] H fun fr H => AQ ?_
 obtain ⟨o3, ho, hm⟩ := bind_some hm
 refine Ax (Q' := fun e fr' h' => (e = .normal ∧ () = o3 ∧ Has fr' 68 [(3, .ptr (some (h.size, 0))), (4, .ptr (some (h1.size, 0))), (6, .ptr (some (h2.size, 0)))] ∧ HH g h' [.obj h6.size (.map 2 [(Ab 50, .func (.func 84) [] []), (Ab 49, .func (.func 85) [] [])]), .obj bp0 (.cells none 2 [AF rp0_0 p0.l_.length, Ai p0.Bd]), .AI rp0_0 142 (AI (eP AL) p0.l_), .obj h2.size (.cells none 2 (Dl p1 (.str x1))), .obj h1.size (.cells none 2 [.str ([] : List UInt8), .str ([] : List UInt8), Ab 0, Ai 0, Ai 0, Ai 0, .str ([] : List UInt8), .str ([] : List UInt8), Ai 0, Ai 0, Ai 0, Ai 0, .slice none 0, .str ([] : List UInt8)]), .obj h.size (.cells none 2 (AD p1))] F) ∨ False) ?_ ?_
 ·replace hm := ho
  clear ho
  refine AG 2 (AO 2 [(31, .bool false)] H fun fr H => O4 (x := .tmp 31) (by kernel_rfl) H (fun fr => by kernel_rfl) ?_)
  exact FL (.inl ⟨rfl, AY hm, H.ls, A⟩)
 clear ho
 clear A
 intro e fr h35 hQ
 rcases hQ with ⟨rfl, rfl, H, A⟩ | hF
 ·show AW _ _ _ _ _ _ _
  refine AQ (AG 17 (Ag 1 [] 46 3 0 A H fun fr t H => ?_))
  refine AK 2 [(48, .bool (x1 == ([] : List UInt8)))] H fun fr H => ?_
  obtain ⟨x21, ho, hm⟩ := bind_some hm
  refine A9 6 (fun fr' h' => Has fr' 68 [(3, .ptr (some (h.size, 0))), (4, .ptr (some (h1.size, 0))), (6, .ptr (some (h2.size, 0))), (54, .bool x21)] ∧ HH g h' [.obj h6.size (.map 2 [(Ab 50, .func (.func 84) [] []), (Ab 49, .func (.func 85) [] [])]), .obj bp0 (.cells none 2 [AF rp0_0 p0.l_.length, Ai p0.Bd]), .AI rp0_0 142 (AI (eP AL) p0.l_), .obj h2.size (.cells none 2 (Dl p1 (.str x1))), .obj h1.size (.cells none 2 [.str ([] : List UInt8), .str ([] : List UInt8), Ab 0, Ai 0, Ai 0, Ai 0, .str ([] : List UInt8), .str ([] : List UInt8), Ai 0, Ai 0, Ai 0, Ai 0, .slice none 0, .str ([] : List UInt8)]), .obj h.size (.cells none 2 (AD p1))] F) ?_ ?_
  ·rcases AX ho with ⟨hb, hm⟩ | ⟨hb, hm⟩
   ·replace H := H.kn 48 hb
    refine AK 6 [(54, .bool true)] H fun fr H => ?_
    obtain rfl := AY hm
    exact at_nil ⟨H.ls, A⟩
   replace H := H.kn 48 hb
   refine Ag 1 [] 50 3 0 A H fun fr t H => ?_
   refine Ag 1 [] 52 5 0 A H fun fr t H => ?_
   obtain ⟨x22, hx, hm⟩ := bind_some hm
   obtain ⟨v1, h37, hr, rfl, A1⟩ := Ed (av := [.str x1, .str p1.Name]) hx (A.cut 0)
   replace A := A.EX A1
   refine BA 53 hr H fun fr t H => ?_
   refine AK 1 [(54, .bool x22)] H fun fr H => ?_
   obtain rfl := AY hm
   exact at_nil ⟨H.ls, A⟩
  clear A
  intro t fr h36 hK
  obtain ⟨H, A⟩ := hK
  refine AK 1 [(55, .bool x21)] H fun fr H => ?_
  obtain ⟨x23, ho, hm⟩ := bind_some hm
  refine A9 6 (fun fr' h' => Has fr' 68 [(3, .ptr (some (h.size, 0))), (4, .ptr (some (h1.size, 0))), (6, .ptr (some (h2.size, 0))), (61, .bool x23)] ∧ HH g h' [.obj h6.size (.map 2 [(Ab 50, .func (.func 84) [] []), (Ab 49, .func (.func 85) [] [])]), .obj bp0 (.cells none 2 [AF rp0_0 p0.l_.length, Ai p0.Bd]), .AI rp0_0 142 (AI (eP AL) p0.l_), .obj h2.size (.cells none 2 (Dl p1 (.str x1))), .obj h1.size (.cells none 2 [.str ([] : List UInt8), .str ([] : List UInt8), Ab 0, Ai 0, Ai 0, Ai 0, .str ([] : List UInt8), .str ([] : List UInt8), Ai 0, Ai 0, Ai 0, Ai 0, .slice none 0, .str ([] : List UInt8)]), .obj h.size (.cells none 2 (AD p1))] F) ?_ ?_
  ·rcases AX ho with ⟨hb, hm⟩ | ⟨hb, hm⟩
   ·replace H := H.kn 55 hb
    refine AK 6 [(61, .bool true)] H fun fr H => ?_
    obtain rfl := AY hm
    exact at_nil ⟨H.ls, A⟩
   replace H := H.kn 55 hb
   refine Ag 1 [] 57 3 1 A H fun fr t H => ?_
   refine Ag 1 [] 59 5 1 A H fun fr t H => ?_
   obtain ⟨x24, hx, hm⟩ := bind_some hm
   obtain ⟨v1, h39, hr, rfl, A1⟩ := Ed (av := [.str p1.FE, .str p1.FE]) hx (A.cut 0)
   replace A := A.EX A1
   refine BA 60 hr H fun fr t H => ?_
   refine AK 1 [(61, .bool x24)] H fun fr H => ?_
   obtain rfl := AY hm
   exact at_nil ⟨H.ls, A⟩
  clear A
  intro t fr h38 hK
  obtain ⟨H, A⟩ := hK
  refine BJ id (Ad 61 H hm (fun hb hm H => ?_) fun hb hm H => ?_)
  ·refine AG 3 ?_
   obtain ⟨h40, hx, A⟩ := A.s4 0 [.str ([] : List UInt8), .str ([] : List UInt8), Ab 0, Ai 0, Ai 0, Ai 0, .str ([] : List UInt8), .str ([] : List UInt8), Ai 0, Ai 0, Ai 0, Ai 0, .slice none 0, .str ([] : List UInt8)] [_, _, _, _, _, _, _, _, _, _, _, _, _, _]
   refine Fk 1 [] hx H fun fr t H => ?_
   refine AO 1 [(5, Ai 2)] H fun fr H => AU ?_
   obtain ⟨rfl, rfl⟩ := Cw hm
   refine ⟨.inl rfl, .tuple [.agg [.str ([] : List UInt8), .str ([] : List UInt8), Ab 0, Ai 0, Ai 0, Ai 0, .str ([] : List UInt8), .str ([] : List UInt8), Ai 0, Ai 0, Ai 0, Ai 0, .slice none 0, .str ([] : List UInt8)], Ai 2], CK (.cell (rT H) (By (by kernel_rfl) (by kernel_rfl) (A.la 4 0 14)) (.tmp (rT H) .nil)), ?_⟩
   refine ⟨.tuple [.agg [.str ([] : List UInt8), .str ([] : List UInt8), Ab 0, Ai 0, Ai 0, Ai 0, .str ([] : List UInt8), .str ([] : List UInt8), Ai 0, Ai 0, Ai 0, Ai 0, vs As ([] : List Ao), .str ([] : List UInt8)], Ai 2], h40, by first | rfl | (simp only [I1, I4, JC, I5, JB, I2, I9, I7, I3, JA, I8, GY, GN, GQ, GW, GJ, GP, GL, Option.map_some] <;> rfl), ?_⟩
   replace A := A.k2 1 2
   exact ⟨rfl, A⟩
  refine Ce 5 id (Ag 1 [] 64 5 12 A H fun fr t H => ?_)
  have A1 := A.cut 0
  obtain ⟨hb, hm⟩ := BE hm
  refine Aq 65 (vs As p1.Extra) h38 H (fun fr => Steps.call (by kernel_rfl) (Gj (C := cfg) (f := 88) (a := 0) (t := 90) (xs := p1.Extra) CN (by decide) (by kernel_rfl) (l := exts) rfl (by kernel_rfl) (by kernel_rfl) rfl (K3 CN _ p1.Extra) (CN.BF _) hb)) fun fr t H => ?_
  obtain ⟨h42, hx, A⟩ := A.s3 12 [vs As p1.Extra] [_, _, _, _, _, _, _, _, _, _, _, _, _, _]
  refine FJ 1 [] hx H fun fr t H => ?_
  refine CX 3 id (Aq 67 _ _ H (fun fr => .of (CG (by kernel_rfl) (A.HG 3 rfl (o := 0) (n := 14) ⟨Nat.le_of_ble_eq_true rfl, rfl⟩))) fun fr t H => ?_)
  obtain ⟨h43, hx, A⟩ := A.s4 0 (Dl p1 (.str x1)) [_, _, _, _, _, _, _, _, _, _, _, _, _, _]
  refine F4 hx H fun fr t H => ?_
  refine AO 1 [(5, Ai 0)] H fun fr H => AU ?_
  obtain ⟨rfl, rfl⟩ := Cw hm
  refine ⟨.inl rfl, .tuple [.agg (Dl p1 (.str x1)), Ai 0], CK (.cell (rT H) (By (by kernel_rfl) (by kernel_rfl) (A.la 4 0 14)) (.tmp (rT H) .nil)), ?_⟩
  refine ⟨.tuple [.agg (Dl p1 (.str x1)), Ai 0], h43, by first | rfl | (simp only [I1, I4, JC, I5, JB, I2, I9, I7, I3, JA, I8, GY, GN, GQ, GW, GJ, GP, GL, Option.map_some] <;> rfl), ?_⟩
  replace A := A.k2 1 2
  exact ⟨rfl, A⟩
 exact hF.elim
def Du (p0 : Bw) (p1 : AN) (p2 : Ay) : Option (AN × Int × Int × Bt) :=
 (Dv p0 p1).bind fun x1 => Aa (x1 != 0) (some ((⟨([] : List UInt8), ([] : List UInt8), (0 : Int), (0 : Int), (0 : Int), (0 : Int), ([] : List UInt8), ([] : List UInt8), (0 : Int), (0 : Int), (⟨(0 : Int), (0 : Int)⟩ : Ar), ([] : List Ao), ([] : List UInt8)⟩ : AN), x1, (0 : Int), p0.Am)) ((DM p1 p2 p0).bind fun x2 => Aa (x2 != 0) (some ((⟨([] : List UInt8), ([] : List UInt8), (0 : Int), (0 : Int), (0 : Int), (0 : Int), ([] : List UInt8), ([] : List UInt8), (0 : Int), (0 : Int), (⟨(0 : Int), (0 : Int)⟩ : Ar), ([] : List Ao), ([] : List UInt8)⟩ : AN), x2, (0 : Int), p0.Am)) ((D7 p0 p1).bind fun x3 => Aa (x3 != 0) (some ((⟨([] : List UInt8), ([] : List UInt8), (0 : Int), (0 : Int), (0 : Int), (0 : Int), ([] : List UInt8), ([] : List UInt8), (0 : Int), (0 : Int), (⟨(0 : Int), (0 : Int)⟩ : Ar), ([] : List Ao), ([] : List UInt8)⟩ : AN), x3, (0 : Int), p0.Am)) ((DV p0 p1).bind fun (x4, x5) => Aa (x4 != 0) (some ((⟨([] : List UInt8), ([] : List UInt8), (0 : Int), (0 : Int), (0 : Int), (0 : Int), ([] : List UInt8), ([] : List UInt8), (0 : Int), (0 : Int), (⟨(0 : Int), (0 : Int)⟩ : Ar), ([] : List Ao), ([] : List UInt8)⟩ : AN), x4, (0 : Int), x5)) ((Dk (⟨p0.c_, p0.AZ, p0.Ac, p0.Af, x5⟩ : Bw) p1).bind fun x6 => Aa (x6 != 0) (some ((⟨([] : List UInt8), ([] : List UInt8), (0 : Int), (0 : Int), (0 : Int), (0 : Int), ([] : List UInt8), ([] : List UInt8), (0 : Int), (0 : Int), (⟨(0 : Int), (0 : Int)⟩ : Ar), ([] : List Ao), ([] : List UInt8)⟩ : AN), x6, (0 : Int), x5)) ((GZ p1.Name p0.c_.CO).bind fun (x7, x8) => ((GZ p1.FE p0.c_.CO).bind fun (x10, x11) => Aa (x11 && (p1.Kind == 49)) (some x10) (some p1.FE) : Option (((List UInt8)))).bind fun x9 => (Ea p0.Af (⟨x7, x9, p1.Kind, p1.Mode, p1.Tb, p1.TQ, p1.FF, p1.F3, p1.JJ, p1.JU, p1.Time, p1.Extra, p1.Data⟩ : AN)).bind fun (x12, x13) => some (x12, (0 : Int), x13, x5))))))
theorem Ht {p0 p1 p2 bp0 rp0_14 rp0_15 bp0_16 rp0_16_0 bp0_17 bp2 bp2_0 q0 q1 q2 u5} (hm : Du p0 p1 p2 = some (q0, q1, q2, u5)) (A : HH g h [.obj bp0 (.cells none 2 [vs AE p0.c_.Ak, vs AE p0.c_.Al, vs AJ p0.c_.Br, .bool p0.c_.I0, .bool p0.c_.Be, Ai p0.c_.Bv, .bool p0.c_.CR, Ai p0.c_.BK.DF, Ai p0.c_.BK.Bn, Ai p0.c_.IH, Ai p0.c_.CO, Ai p0.c_.Name, Ai p0.c_.Head, Ai p0.c_.Bl, AF rp0_14 p0.AZ.length, AF rp0_15 p0.Ac.length, .ptr (some (bp0_16, 0)), .ptr (some (bp0_17, 0))]), .AI rp0_14 136 (AI (eP AB) p0.AZ), .AI rp0_15 136 (AI (eP AB) p0.Ac), .obj bp0_16 (.cells none 2 [AF rp0_16_0 p0.Af.l_.length, Ai p0.Af.Bd]), .AI rp0_16_0 142 (AI (eP AL) p0.Af.l_), .obj bp0_17 (.cells none 2 ([Ai p0.Am.n_, Ai p0.Am.An] ++ (Cj 257 (AA.int .i64) p0.Am.BI ++ []))), .obj bp2 (.cells none 2 [.map (some bp2_0)]), .obj bp2_0 (.map 2 (BS (fun k : List UInt8 => .str k) (fun v : Bool => .bool v) p2.Cf))] F) (hc : BF (cfg.still 15) av = [.ptr (some (bp0, 0)), .agg (AD p1), .ptr (some (bp2, 0))] := by kernel_rfl) : ∃ v h', BL cfg g h 15 av v h' ∧ v = .tuple [.agg (AD q0), Ai q1, Ai q2] ∧ HH g h' [.obj bp0 (.cells none 2 [vs AE p0.c_.Ak, vs AE p0.c_.Al, vs AJ p0.c_.Br, .bool p0.c_.I0, .bool p0.c_.Be, Ai p0.c_.Bv, .bool p0.c_.CR, Ai p0.c_.BK.DF, Ai p0.c_.BK.Bn, Ai p0.c_.IH, Ai p0.c_.CO, Ai p0.c_.Name, Ai p0.c_.Head, Ai p0.c_.Bl, AF rp0_14 p0.AZ.length, AF rp0_15 p0.Ac.length, .ptr (some (bp0_16, 0)), .ptr (some (bp0_17, 0))]), .AI rp0_14 136 (AI (eP AB) p0.AZ), .AI rp0_15 136 (AI (eP AB) p0.Ac), .obj bp0_16 (.cells none 2 [AF rp0_16_0 p0.Af.l_.length, Ai p0.Af.Bd]), .AI rp0_16_0 142 (AI (eP AL) p0.Af.l_), .obj bp0_17 (.cells none 2 ([Ai u5.n_, Ai u5.An] ++ (Cj 257 (AA.int .i64) u5.BI ++ []))), .obj bp2 (.cells none 2 [.map (some bp2_0)]), .obj bp2_0 (.map 2 (BS (fun k : List UInt8 => .str k) (fun v : Bool => .bool v) p2.Cf))] F := by
 refine Xk 83 [.cell 6 44, .tmp 7, .tmp 8] hc ?_
 clear hc
 unfold Du at hm
 refine bg 83 [(0, .ptr (some (bp0, 0))), (1, .agg (AD p1)), (2, .ptr (some (bp2, 0)))] fun fr H => ?_
 refine AG 6 ?_
 obtain ⟨h1, e1, A⟩ := A.pu (.cells none 2 [.ptr (some (bp0, 0))])
 refine BB 3 (.ptr (some (h.size, 0))) e1 H fun fr t H => ?_
 obtain ⟨h2, e2, A⟩ := A.pu (.cells none 2 (AD p1))
 refine BB 4 (.ptr (some (h1.size, 0))) e2 H fun fr t H => ?_
 obtain ⟨h3, e3, A⟩ := A.pu (.cells none 2 [.ptr (some (bp2, 0))])
 refine BB 5 (.ptr (some (h2.size, 0))) e3 H fun fr t H => ?_
 obtain ⟨h4, e4, A⟩ := A.pu (.cells none 2 [.str ([] : List UInt8), .str ([] : List UInt8), Ab 0, Ai 0, Ai 0, Ai 0, .str ([] : List UInt8), .str ([] : List UInt8), Ai 0, Ai 0, Ai 0, Ai 0, .slice none 0, .str ([] : List UInt8)])
 refine BB 6 (.ptr (some (h3.size, 0))) e4 H fun fr t H => ?_
 refine Bc 2 [] 2 H fun fr H => AO 2 [(9, .func (.func 39) [] [.ptr (some (h2.size, 0)), .ptr (some (h.size, 0))])] H fun fr H => AQ (AG 12 (FK 18 3 0 A H fun fr t H => ?_))
 refine Ag 2 [(19, .func (.func 40) [.ptr (some (bp0, 0))] []), (20, .func (.func 39) [] [.ptr (some (h2.size, 0)), .ptr (some (h.size, 0))])] 21 3 0 A H fun fr t H => ?_
 refine Ag 1 [(22, .func (.func 41) [.ptr (some (bp0, 0))] [])] 23 3 0 A H fun fr t H => ?_
 refine Ag 1 [(24, .func (.func 42) [.ptr (some (bp0, 0))] [])] 25 3 0 A H fun fr t H => ?_
 refine AK 1 [(26, .func (.func 43) [.ptr (some (bp0, 0))] [])] H fun fr H => ?_
 obtain ⟨h5, e5⟩ : ∃ x, x = h4.push (.cells (some 48) 2 [.func (.func 40) [.ptr (some (bp0, 0))] [], .func (.func 39) [] [.ptr (some (h2.size, 0)), .ptr (some (h.size, 0))], .func (.func 41) [.ptr (some (bp0, 0))] [], .func (.func 42) [.ptr (some (bp0, 0))] [], .func (.func 43) [.ptr (some (bp0, 0))] []]) := ⟨_, rfl⟩
 replace A : HH g h5 [.obj h4.size (.cells (some 48) 2 [.func (.func 40) [.ptr (some (bp0, 0))] [], .func (.func 39) [] [.ptr (some (h2.size, 0)), .ptr (some (h.size, 0))], .func (.func 41) [.ptr (some (bp0, 0))] [], .func (.func 42) [.ptr (some (bp0, 0))] [], .func (.func 43) [.ptr (some (bp0, 0))] []]), .obj h3.size (.cells none 2 [.str ([] : List UInt8), .str ([] : List UInt8), Ab 0, Ai 0, Ai 0, Ai 0, .str ([] : List UInt8), .str ([] : List UInt8), Ai 0, Ai 0, Ai 0, Ai 0, .slice none 0, .str ([] : List UInt8)]), .obj h2.size (.cells none 2 [.ptr (some (bp2, 0))]), .obj h1.size (.cells none 2 (AD p1)), .obj h.size (.cells none 2 [.ptr (some (bp0, 0))]), _, _, _, _, _, _, _, _] F := (A.push _).to e5
 refine BB 27 (.slice (some (h4.size, 0)) 5) e5 H fun fr t H => ?_
 refine AO 2 [(28, Ai 5), (29, Ai 0)] H fun fr H => AV (id := 0) (by kernel_rfl) ?_
 refine IT (by kernel_rfl) ?_
 refine AG 1 (AO 1 [(30, .bool true)] H fun fr H => AQ (HB (x := .tmp 30) (by kernel_rfl) H (fun fr => by kernel_rfl) ?_))
 refine Bf id (AQ (AV (id := 1) (by kernel_rfl) ?_))
 refine AG 3 (Ag 1 [] 32 0 0 A H fun fr t H => ?_)
 refine Bc 1 [(11, .func (.func 40) [.ptr (some (bp0, 0))] [])] 4 H fun fr H => Ap 1 [(33, .func (.func 40) [.ptr (some (bp0, 0))] [])] 34 _ _ H (fun fr => .of (CG (by kernel_rfl) (A.HG 3 rfl (o := 0) (n := 14) ⟨Nat.le_of_ble_eq_true rfl, rfl⟩))) fun fr t H => ?_
 replace A : HH g h5 [_, _, _, _, _, _, _, _, _, _, _, _, _] F := ((((((A.front 10 rfl).front 10 rfl).front 10 rfl).front 10 rfl).front 10 rfl).front 10 rfl)
 obtain ⟨x1, hx, hm⟩ := bind_some hm
 obtain ⟨v1, h6, hr, rfl, A1⟩ := Hv (av := [.ptr (some (bp0, 0)), .agg (AD p1)]) hx (A.cut 6)
 replace A : HH g h6 [.obj bp0 (.cells none 2 [_, _, _, _, _, _, _, _, _, _, _, _, _, _, _, _, _, _]), .AI rp0_14 136 (AI (eP AB) p0.AZ), .AI rp0_15 136 (AI (eP AB) p0.Ac), .obj bp0_16 (.cells none 2 [AF rp0_16_0 p0.Af.l_.length, Ai p0.Af.Bd]), .AI rp0_16_0 142 (AI (eP AL) p0.Af.l_), .obj bp0_17 (.cells none 2 ([Ai p0.Am.n_, Ai p0.Am.An] ++ (Cj 257 (AA.int .i64) p0.Am.BI ++ []))), _, _, _, _, _, _, _] F := A.CY (n := 6) A1
 refine BA 35 hr H fun fr t H => ?_
 refine Bc 1 [(12, Ai x1)] 2 H fun fr H => AO 2 [(37, .bool (x1 != 0))] H fun fr H => Ad 37 H hm (fun hb hm H => ?_) fun hb hm H => ?_
 ·refine AG 5 ?_
  obtain ⟨h7, hx, A⟩ := A.s7 0 [.str ([] : List UInt8), .str ([] : List UInt8), Ab 0, Ai 0, Ai 0, Ai 0, .str ([] : List UInt8), .str ([] : List UInt8), Ai 0, Ai 0, Ai 0, Ai 0, .slice none 0, .str ([] : List UInt8)] [_, _, _, _, _, _, _, _, _, _, _, _, _, _]
  refine Fk 2 [(39, Ai x1)] hx H fun fr t H => ?_
  refine AO 2 [(7, Ai x1), (8, Ai 0)] H fun fr H => AU ?_
  obtain ⟨rfl, rfl, rfl, rfl⟩ := Sz hm
  refine ⟨.inl rfl, .tuple [.agg [.str ([] : List UInt8), .str ([] : List UInt8), Ab 0, Ai 0, Ai 0, Ai 0, .str ([] : List UInt8), .str ([] : List UInt8), Ai 0, Ai 0, Ai 0, Ai 0, .slice none 0, .str ([] : List UInt8)], Ai x1, Ai 0], CK (.cell (rT H) (By (by kernel_rfl) (by kernel_rfl) (A.la 7 0 14)) (.tmp (rT H) (.tmp (rT H) .nil))), ?_⟩
  refine ⟨.tuple [.agg [.str ([] : List UInt8), .str ([] : List UInt8), Ab 0, Ai 0, Ai 0, Ai 0, .str ([] : List UInt8), .str ([] : List UInt8), Ai 0, Ai 0, Ai 0, Ai 0, vs As ([] : List Ao), .str ([] : List UInt8)], Ai x1, Ai 0], h7, by first | rfl | (simp only [I1, I4, JC, I5, JB, I2, I9, I7, I3, JA, I8, GY, GN, GQ, GW, GJ, GP, GL, Option.map_some] <;> rfl), ?_⟩
  replace A := A.k8 0 1 2 3 4 5 11 12
  exact ⟨rfl, A⟩
 refine Fh 2 id (BV 2 [(3, .ptr (some (h.size, 0))), (4, .ptr (some (h1.size, 0))), (6, .ptr (some (h3.size, 0))), (27, .slice (some (h4.size, 0)) 5), (28, Ai 5), (29, Ai 1)] H fun fr H => BJ id (IT (by kernel_rfl) ?_))
 refine AG 1 (AO 1 [(30, .bool true)] H fun fr H => AQ (HB (x := .tmp 30) (by kernel_rfl) H (fun fr => by kernel_rfl) ?_))
 refine Bf id (AQ (AV (id := 1) (by kernel_rfl) ?_))
 refine AG 3 (Ag 1 [] 32 6 1 A H fun fr t H => ?_)
 refine Bc 1 [(11, .func (.func 39) [] [.ptr (some (h2.size, 0)), .ptr (some (h.size, 0))])] 4 H fun fr H => Ap 1 [(33, .func (.func 39) [] [.ptr (some (h2.size, 0)), .ptr (some (h.size, 0))])] 34 _ _ H (fun fr => .of (CG (by kernel_rfl) (A.HG 9 rfl (o := 0) (n := 14) ⟨Nat.le_of_ble_eq_true rfl, rfl⟩))) fun fr t H => ?_
 replace A : HH g h6 [_, _, _, _, _, _, _, _, _, _, _, _, _] F := ((((((((((A.front 5 rfl).front 5 rfl).front 5 rfl).front 5 rfl).front 5 rfl).front 5 rfl).front 10 rfl).front 12 rfl).front 12 rfl).front 11 rfl)
 obtain ⟨x2, hx, hm⟩ := bind_some hm
 obtain ⟨v1, h8, hr, rfl, A1⟩ := Gw (av := [.agg (AD p1), .ptr (some (h2.size, 0)), .ptr (some (h.size, 0))]) hx (A.cut 10)
 replace A : HH g h8 [.obj h2.size (.cells none 2 [.ptr (some (bp2, 0))]), .obj bp2 (.cells none 2 [.map (some bp2_0)]), .obj bp2_0 (.map 2 (BS (fun k : List UInt8 => .str k) (fun v : Bool => .bool v) p2.Cf)), .obj h.size (.cells none 2 [.ptr (some (bp0, 0))]), .obj bp0 (.cells none 2 [_, _, _, _, _, _, _, _, _, _, _, _, _, _, _, _, _, _]), .AI rp0_14 136 (AI (eP AB) p0.AZ), .AI rp0_15 136 (AI (eP AB) p0.Ac), .obj bp0_16 (.cells none 2 [AF rp0_16_0 p0.Af.l_.length, Ai p0.Af.Bd]), .AI rp0_16_0 142 (AI (eP AL) p0.Af.l_), .obj bp0_17 (.cells none 2 ([Ai p0.Am.n_, Ai p0.Am.An] ++ (Cj 257 (AA.int .i64) p0.Am.BI ++ []))), _, _, _] F := A.CY (n := 10) A1
 refine BA 35 hr H fun fr t H => ?_
 refine Bc 1 [(12, Ai x2)] 2 H fun fr H => AO 2 [(37, .bool (x2 != 0))] H fun fr H => Ad 37 H hm (fun hb hm H => ?_) fun hb hm H => ?_
 ·refine AG 5 ?_
  obtain ⟨h9, hx, A1⟩ := A.st 11 rfl (o := 0) (new := [.str ([] : List UInt8), .str ([] : List UInt8), Ab 0, Ai 0, Ai 0, Ai 0, .str ([] : List UInt8), .str ([] : List UInt8), Ai 0, Ai 0, Ai 0, Ai 0, .slice none 0, .str ([] : List UInt8)]) (ds := [.str ([] : List UInt8), .str ([] : List UInt8), Ab 0, Ai 0, Ai 0, Ai 0, .str ([] : List UInt8), .str ([] : List UInt8), Ai 0, Ai 0, Ai 0, Ai 0, .slice none 0, .str ([] : List UInt8)]) (Nat.le_of_ble_eq_true rfl) rfl rfl
  replace A : HH g h9 [_, _, _, _, _, _, _, _, _, _, _, _, _] F := A1
  refine Fk 2 [(39, Ai x2)] hx H fun fr t H => ?_
  refine AO 2 [(7, Ai x2), (8, Ai 0)] H fun fr H => AU ?_
  obtain ⟨rfl, rfl, rfl, rfl⟩ := Sz hm
  refine ⟨.inl rfl, .tuple [.agg [.str ([] : List UInt8), .str ([] : List UInt8), Ab 0, Ai 0, Ai 0, Ai 0, .str ([] : List UInt8), .str ([] : List UInt8), Ai 0, Ai 0, Ai 0, Ai 0, .slice none 0, .str ([] : List UInt8)], Ai x2, Ai 0], CK (.cell (rT H) (By (by kernel_rfl) (by kernel_rfl) (A.la 11 0 14)) (.tmp (rT H) (.tmp (rT H) .nil))), ?_⟩
  refine ⟨.tuple [.agg [.str ([] : List UInt8), .str ([] : List UInt8), Ab 0, Ai 0, Ai 0, Ai 0, .str ([] : List UInt8), .str ([] : List UInt8), Ai 0, Ai 0, Ai 0, Ai 0, vs As ([] : List Ao), .str ([] : List UInt8)], Ai x2, Ai 0], h9, by first | rfl | (simp only [I1, I4, JC, I5, JB, I2, I9, I7, I3, JA, I8, GY, GN, GQ, GW, GJ, GP, GL, Option.map_some] <;> rfl), ?_⟩
  replace A := A.k8 4 5 6 7 8 9 1 2
  exact ⟨rfl, A⟩
 refine Fh 2 id (BV 2 [(3, .ptr (some (h.size, 0))), (4, .ptr (some (h1.size, 0))), (6, .ptr (some (h3.size, 0))), (27, .slice (some (h4.size, 0)) 5), (28, Ai 5), (29, Ai 2)] H fun fr H => BJ id (IT (by kernel_rfl) ?_))
 refine AG 1 (AO 1 [(30, .bool true)] H fun fr H => AQ (HB (x := .tmp 30) (by kernel_rfl) H (fun fr => by kernel_rfl) ?_))
 refine Bf id (AQ (AV (id := 1) (by kernel_rfl) ?_))
 refine AG 3 (Ag 1 [] 32 10 2 A H fun fr t H => ?_)
 refine Bc 1 [(11, .func (.func 41) [.ptr (some (bp0, 0))] [])] 4 H fun fr H => Ap 1 [(33, .func (.func 41) [.ptr (some (bp0, 0))] [])] 34 _ _ H (fun fr => .of (CG (by kernel_rfl) (A.HG 12 rfl (o := 0) (n := 14) ⟨Nat.le_of_ble_eq_true rfl, rfl⟩))) fun fr t H => ?_
 replace A : HH g h8 [_, _, _, _, _, _, _, _, _, _, _, _, _] F := ((((((A.front 9 rfl).front 9 rfl).front 9 rfl).front 9 rfl).front 9 rfl).front 9 rfl)
 obtain ⟨x3, hx, hm⟩ := bind_some hm
 obtain ⟨v1, h10, hr, rfl, A1⟩ := H5 (av := [.ptr (some (bp0, 0)), .agg (AD p1)]) hx (A.cut 6)
 replace A : HH g h10 [.obj bp0 (.cells none 2 [_, _, _, _, _, _, _, _, _, _, _, _, _, _, _, _, _, _]), .AI rp0_14 136 (AI (eP AB) p0.AZ), .AI rp0_15 136 (AI (eP AB) p0.Ac), .obj bp0_16 (.cells none 2 [AF rp0_16_0 p0.Af.l_.length, Ai p0.Af.Bd]), .AI rp0_16_0 142 (AI (eP AL) p0.Af.l_), .obj bp0_17 (.cells none 2 ([Ai p0.Am.n_, Ai p0.Am.An] ++ (Cj 257 (AA.int .i64) p0.Am.BI ++ []))), _, _, _, _, _, _, _] F := A.CY (n := 6) A1
 refine BA 35 hr H fun fr t H => ?_
 refine Bc 1 [(12, Ai x3)] 2 H fun fr H => AO 2 [(37, .bool (x3 != 0))] H fun fr H => Ad 37 H hm (fun hb hm H => ?_) fun hb hm H => ?_
 ·refine AG 5 ?_
  obtain ⟨h11, hx, A1⟩ := A.st 11 rfl (o := 0) (new := [.str ([] : List UInt8), .str ([] : List UInt8), Ab 0, Ai 0, Ai 0, Ai 0, .str ([] : List UInt8), .str ([] : List UInt8), Ai 0, Ai 0, Ai 0, Ai 0, .slice none 0, .str ([] : List UInt8)]) (ds := [.str ([] : List UInt8), .str ([] : List UInt8), Ab 0, Ai 0, Ai 0, Ai 0, .str ([] : List UInt8), .str ([] : List UInt8), Ai 0, Ai 0, Ai 0, Ai 0, .slice none 0, .str ([] : List UInt8)]) (Nat.le_of_ble_eq_true rfl) rfl rfl
  replace A : HH g h11 [_, _, _, _, _, _, _, _, _, _, _, _, _] F := A1
  refine Fk 2 [(39, Ai x3)] hx H fun fr t H => ?_
  refine AO 2 [(7, Ai x3), (8, Ai 0)] H fun fr H => AU ?_
  obtain ⟨rfl, rfl, rfl, rfl⟩ := Sz hm
  refine ⟨.inl rfl, .tuple [.agg [.str ([] : List UInt8), .str ([] : List UInt8), Ab 0, Ai 0, Ai 0, Ai 0, .str ([] : List UInt8), .str ([] : List UInt8), Ai 0, Ai 0, Ai 0, Ai 0, .slice none 0, .str ([] : List UInt8)], Ai x3, Ai 0], CK (.cell (rT H) (By (by kernel_rfl) (by kernel_rfl) (A.la 11 0 14)) (.tmp (rT H) (.tmp (rT H) .nil))), ?_⟩
  refine ⟨.tuple [.agg [.str ([] : List UInt8), .str ([] : List UInt8), Ab 0, Ai 0, Ai 0, Ai 0, .str ([] : List UInt8), .str ([] : List UInt8), Ai 0, Ai 0, Ai 0, Ai 0, vs As ([] : List Ao), .str ([] : List UInt8)], Ai x3, Ai 0], h11, by first | rfl | (simp only [I1, I4, JC, I5, JB, I2, I9, I7, I3, JA, I8, GY, GN, GQ, GW, GJ, GP, GL, Option.map_some] <;> rfl), ?_⟩
  replace A := A.k8 0 1 2 3 4 5 7 8
  exact ⟨rfl, A⟩
 refine Fh 2 id (BV 2 [(3, .ptr (some (h.size, 0))), (4, .ptr (some (h1.size, 0))), (6, .ptr (some (h3.size, 0))), (27, .slice (some (h4.size, 0)) 5), (28, Ai 5), (29, Ai 3)] H fun fr H => BJ id (IT (by kernel_rfl) ?_))
 refine AG 1 (AO 1 [(30, .bool true)] H fun fr H => AQ (HB (x := .tmp 30) (by kernel_rfl) H (fun fr => by kernel_rfl) ?_))
 refine Bf id (AQ (AV (id := 1) (by kernel_rfl) ?_))
 refine AG 3 (Ag 1 [] 32 10 3 A H fun fr t H => ?_)
 refine Bc 1 [(11, .func (.func 42) [.ptr (some (bp0, 0))] [])] 4 H fun fr H => Ap 1 [(33, .func (.func 42) [.ptr (some (bp0, 0))] [])] 34 _ _ H (fun fr => .of (CG (by kernel_rfl) (A.HG 12 rfl (o := 0) (n := 14) ⟨Nat.le_of_ble_eq_true rfl, rfl⟩))) fun fr t H => ?_
 obtain ⟨⟨x4, x5⟩, hx, hm⟩ := bind_some hm
 obtain ⟨v1, h12, hr, rfl, A1⟩ := HL (av := [.ptr (some (bp0, 0)), .agg (AD p1)]) hx (A.cut 6)
 replace A : HH g h12 [.obj bp0 (.cells none 2 [_, _, _, _, _, _, _, _, _, _, _, _, _, _, _, _, _, _]), .AI rp0_14 136 (AI (eP AB) p0.AZ), .AI rp0_15 136 (AI (eP AB) p0.Ac), .obj bp0_16 (.cells none 2 [AF rp0_16_0 p0.Af.l_.length, Ai p0.Af.Bd]), .AI rp0_16_0 142 (AI (eP AL) p0.Af.l_), .obj bp0_17 (.cells none 2 ([Ai x5.n_, Ai x5.An] ++ (Cj 257 (AA.int .i64) x5.BI ++ []))), _, _, _, _, _, _, _] F := A.CY (n := 6) A1
 refine BA 35 hr H fun fr t H => ?_
 refine Bc 1 [(12, Ai x4)] 2 H fun fr H => AO 2 [(37, .bool (x4 != 0))] H fun fr H => Ad 37 H hm (fun hb hm H => ?_) fun hb hm H => ?_
 ·refine AG 5 ?_
  obtain ⟨h13, hx, A1⟩ := A.st 11 rfl (o := 0) (new := [.str ([] : List UInt8), .str ([] : List UInt8), Ab 0, Ai 0, Ai 0, Ai 0, .str ([] : List UInt8), .str ([] : List UInt8), Ai 0, Ai 0, Ai 0, Ai 0, .slice none 0, .str ([] : List UInt8)]) (ds := [.str ([] : List UInt8), .str ([] : List UInt8), Ab 0, Ai 0, Ai 0, Ai 0, .str ([] : List UInt8), .str ([] : List UInt8), Ai 0, Ai 0, Ai 0, Ai 0, .slice none 0, .str ([] : List UInt8)]) (Nat.le_of_ble_eq_true rfl) rfl rfl
  replace A : HH g h13 [_, _, _, _, _, _, _, _, _, _, _, _, _] F := A1
  refine Fk 2 [(39, Ai x4)] hx H fun fr t H => ?_
  refine AO 2 [(7, Ai x4), (8, Ai 0)] H fun fr H => AU ?_
  obtain ⟨rfl, rfl, rfl, rfl⟩ := Sz hm
  refine ⟨.inl rfl, .tuple [.agg [.str ([] : List UInt8), .str ([] : List UInt8), Ab 0, Ai 0, Ai 0, Ai 0, .str ([] : List UInt8), .str ([] : List UInt8), Ai 0, Ai 0, Ai 0, Ai 0, .slice none 0, .str ([] : List UInt8)], Ai x4, Ai 0], CK (.cell (rT H) (By (by kernel_rfl) (by kernel_rfl) (A.la 11 0 14)) (.tmp (rT H) (.tmp (rT H) .nil))), ?_⟩
  refine ⟨.tuple [.agg [.str ([] : List UInt8), .str ([] : List UInt8), Ab 0, Ai 0, Ai 0, Ai 0, .str ([] : List UInt8), .str ([] : List UInt8), Ai 0, Ai 0, Ai 0, Ai 0, vs As ([] : List Ao), .str ([] : List UInt8)], Ai x4, Ai 0], h13, by first | rfl | (simp only [I1, I4, JC, I5, JB, I2, I9, I7, I3, JA, I8, GY, GN, GQ, GW, GJ, GP, GL, Option.map_some] <;> rfl), ?_⟩
  replace A := A.k8 0 1 2 3 4 5 7 8
  exact ⟨rfl, A⟩
 refine Fh 2 id (BV 2 [(3, .ptr (some (h.size, 0))), (4, .ptr (some (h1.size, 0))), (6, .ptr (some (h3.size, 0))), (27, .slice (some (h4.size, 0)) 5), (28, Ai 5), (29, Ai 4)] H fun fr H => BJ id (IT (by kernel_rfl) ?_))
 refine AG 1 (AO 1 [(30, .bool true)] H fun fr H => AQ (HB (x := .tmp 30) (by kernel_rfl) H (fun fr => by kernel_rfl) ?_))
 refine Bf id (AQ (AV (id := 1) (by kernel_rfl) ?_))
 refine AG 3 (Ag 1 [] 32 10 4 A H fun fr t H => ?_)
 refine Bc 1 [(11, .func (.func 43) [.ptr (some (bp0, 0))] [])] 4 H fun fr H => Ap 1 [(33, .func (.func 43) [.ptr (some (bp0, 0))] [])] 34 _ _ H (fun fr => .of (CG (by kernel_rfl) (A.HG 12 rfl (o := 0) (n := 14) ⟨Nat.le_of_ble_eq_true rfl, rfl⟩))) fun fr t H => ?_
 obtain ⟨x6, hx, hm⟩ := bind_some hm
 obtain ⟨v1, h14, hr, rfl, A1⟩ := HW (av := [.ptr (some (bp0, 0)), .agg (AD p1)]) hx (A.cut 6)
 replace A : HH g h14 [.obj bp0 (.cells none 2 [_, _, _, _, _, _, _, _, _, _, _, _, _, _, _, _, _, _]), .AI rp0_14 136 (AI (eP AB) p0.AZ), .AI rp0_15 136 (AI (eP AB) p0.Ac), .obj bp0_16 (.cells none 2 [AF rp0_16_0 p0.Af.l_.length, Ai p0.Af.Bd]), .AI rp0_16_0 142 (AI (eP AL) p0.Af.l_), .obj bp0_17 (.cells none 2 ([Ai x5.n_, Ai x5.An] ++ (Cj 257 (AA.int .i64) x5.BI ++ []))), _, _, _, _, _, _, _] F := A.CY (n := 6) A1
 refine BA 35 hr H fun fr t H => ?_
 refine Bc 1 [(12, Ai x6)] 2 H fun fr H => AO 2 [(37, .bool (x6 != 0))] H fun fr H => Ad 37 H hm (fun hb hm H => ?_) fun hb hm H => ?_
 ·refine AG 5 ?_
  obtain ⟨h15, hx, A1⟩ := A.st 11 rfl (o := 0) (new := [.str ([] : List UInt8), .str ([] : List UInt8), Ab 0, Ai 0, Ai 0, Ai 0, .str ([] : List UInt8), .str ([] : List UInt8), Ai 0, Ai 0, Ai 0, Ai 0, .slice none 0, .str ([] : List UInt8)]) (ds := [.str ([] : List UInt8), .str ([] : List UInt8), Ab 0, Ai 0, Ai 0, Ai 0, .str ([] : List UInt8), .str ([] : List UInt8), Ai 0, Ai 0, Ai 0, Ai 0, .slice none 0, .str ([] : List UInt8)]) (Nat.le_of_ble_eq_true rfl) rfl rfl
  replace A : HH g h15 [_, _, _, _, _, _, _, _, _, _, _, _, _] F := A1
  refine Fk 2 [(39, Ai x6)] hx H fun fr t H => ?_
  refine AO 2 [(7, Ai x6), (8, Ai 0)] H fun fr H => AU ?_
  obtain ⟨rfl, rfl, rfl, rfl⟩ := Sz hm
  refine ⟨.inl rfl, .tuple [.agg [.str ([] : List UInt8), .str ([] : List UInt8), Ab 0, Ai 0, Ai 0, Ai 0, .str ([] : List UInt8), .str ([] : List UInt8), Ai 0, Ai 0, Ai 0, Ai 0, .slice none 0, .str ([] : List UInt8)], Ai x6, Ai 0], CK (.cell (rT H) (By (by kernel_rfl) (by kernel_rfl) (A.la 11 0 14)) (.tmp (rT H) (.tmp (rT H) .nil))), ?_⟩
  refine ⟨.tuple [.agg [.str ([] : List UInt8), .str ([] : List UInt8), Ab 0, Ai 0, Ai 0, Ai 0, .str ([] : List UInt8), .str ([] : List UInt8), Ai 0, Ai 0, Ai 0, Ai 0, vs As ([] : List Ao), .str ([] : List UInt8)], Ai x6, Ai 0], h15, by first | rfl | (simp only [I1, I4, JC, I5, JB, I2, I9, I7, I3, JA, I8, GY, GN, GQ, GW, GJ, GP, GL, Option.map_some] <;> rfl), ?_⟩
  replace A := A.k8 0 1 2 3 4 5 7 8
  exact ⟨rfl, A⟩
 refine Fh 2 id (BV 2 [(3, .ptr (some (h.size, 0))), (4, .ptr (some (h1.size, 0))), (6, .ptr (some (h3.size, 0))), (27, .slice (some (h4.size, 0)) 5), (28, Ai 5), (29, Ai 5)] H fun fr H => BJ id (IT (by kernel_rfl) ?_))
 refine AG 1 (AO 1 [(30, .bool false)] H fun fr H => AQ (O4 (x := .tmp 30) (by kernel_rfl) H (fun fr => by kernel_rfl) ?_))
 refine BU (i := 0) (by kernel_rfl) ?_
 show AW _ _ _ _ _ _ _
 refine AQ (Ep 9 13 ?_)
 refine Ag 1 [] 43 12 0 A H fun fr t H => ?_
 refine FK 44 9 0 A H fun fr t H => ?_
 refine Ag 3 [] 48 0 10 A H fun fr t H => ?_
 obtain ⟨⟨x7, x8⟩, hx, hm⟩ := bind_some hm
 obtain ⟨v1, h16, hr, rfl, A1⟩ := Ii (av := [.str p1.Name, Ai p0.c_.CO]) hx (A.cut 0)
 replace A := A.EX A1
 refine BA 49 hr H fun fr t H => ?_
 obtain ⟨h17, hx, A1⟩ := A.st 12 rfl (o := 0) (new := [.str x7]) (ds := (Dl p1 (.str x7))) (Nat.le_of_ble_eq_true rfl) rfl rfl
 replace A : HH g h17 [_, _, _, _, _, _, _, _, _, _, _, _, .obj h1.size (.cells none 2 (Dl p1 (.str x7)))] F := A1
 refine FJ 4 [] hx H fun fr t H => ?_
 refine BJ id (AQ ?_)
 obtain ⟨o1, ho, hm⟩ := bind_some hm
 refine Ax (Q' := fun e fr' h' => (∃ x9, e = .normal ∧ x9 = o1 ∧ Has fr' 83 [(3, .ptr (some (h.size, 0))), (4, .ptr (some (h1.size, 0))), (6, .ptr (some (h3.size, 0)))] ∧ HH g h' [.obj bp0 (.cells none 2 [vs AE p0.c_.Ak, vs AE p0.c_.Al, vs AJ p0.c_.Br, .bool p0.c_.I0, .bool p0.c_.Be, Ai p0.c_.Bv, .bool p0.c_.CR, Ai p0.c_.BK.DF, Ai p0.c_.BK.Bn, Ai p0.c_.IH, Ai p0.c_.CO, Ai p0.c_.Name, Ai p0.c_.Head, Ai p0.c_.Bl, AF rp0_14 p0.AZ.length, AF rp0_15 p0.Ac.length, .ptr (some (bp0_16, 0)), .ptr (some (bp0_17, 0))]), .AI rp0_14 136 (AI (eP AB) p0.AZ), .AI rp0_15 136 (AI (eP AB) p0.Ac), .obj bp0_16 (.cells none 2 [AF rp0_16_0 p0.Af.l_.length, Ai p0.Af.Bd]), .AI rp0_16_0 142 (AI (eP AL) p0.Af.l_), .obj bp0_17 (.cells none 2 ([Ai x5.n_, Ai x5.An] ++ (Cj 257 (AA.int .i64) x5.BI ++ []))), .obj h2.size (.cells none 2 [.ptr (some (bp2, 0))]), .obj bp2 (.cells none 2 [.map (some bp2_0)]), .obj bp2_0 (.map 2 (BS (fun k : List UInt8 => .str k) (fun v : Bool => .bool v) p2.Cf)), .obj h.size (.cells none 2 [.ptr (some (bp0, 0))]), .obj h4.size (.cells (some 48) 2 [.func (.func 40) [.ptr (some (bp0, 0))] [], .func (.func 39) [] [.ptr (some (h2.size, 0)), .ptr (some (h.size, 0))], .func (.func 41) [.ptr (some (bp0, 0))] [], .func (.func 42) [.ptr (some (bp0, 0))] [], .func (.func 43) [.ptr (some (bp0, 0))] []]), .obj h3.size (.cells none 2 [.str ([] : List UInt8), .str ([] : List UInt8), Ab 0, Ai 0, Ai 0, Ai 0, .str ([] : List UInt8), .str ([] : List UInt8), Ai 0, Ai 0, Ai 0, Ai 0, .slice none 0, .str ([] : List UInt8)]), .obj h1.size (.cells none 2 (BN p1 (.str x7) (.str x9)))] F) ∨ False) ?_ ?_
 ·replace hm := ho
  clear ho
  refine AQ (Ep 10 13 ?_)
  refine Ag 1 [] 55 12 1 A H fun fr t H => ?_
  refine FK 56 9 0 A H fun fr t H => ?_
  refine Ag 3 [] 60 0 10 A H fun fr t H => ?_
  obtain ⟨⟨x10, x11⟩, hx, hm⟩ := bind_some hm
  obtain ⟨v1, h18, hr, rfl, A1⟩ := Ii (av := [.str p1.FE, Ai p0.c_.CO]) hx (A.cut 0)
  replace A := A.EX A1
  refine BA 61 hr H fun fr t H => ?_
  refine Bc 5 [(13, .str x10), (14, .bool x11)] 6 H fun fr H => AK 2 [(65, .bool x11)] H fun fr H => A9 4 (fun fr' h' => h18 = h' ∧ Has fr' 83 [(3, .ptr (some (h.size, 0))), (4, .ptr (some (h1.size, 0))), (6, .ptr (some (h3.size, 0))), (13, .str x10), (69, .bool (x11 && (p1.Kind == 49)))]) ?_ ?_
  ·cases hb : (x11 : Bool) with
   | true =>
    replace H := H.kn 65 hb
    refine Ag 1 [] 67 12 2 A H fun fr t H => ?_
    exact AK 2 [(69, .bool (p1.Kind == 49))] H fun fr H => BH H hb
   | false =>
    replace H := H.kn 65 hb
    exact AK 4 [(69, .bool false)] H fun fr H => BH H hb
  intro t fr h' hK
  obtain ⟨e, H⟩ := hK
  subst e
  refine BJ id (Ad 69 H hm (fun hb hm H => ?_) fun hb hm H => ?_)
  ·refine Cy 3 ?_
   obtain ⟨h19, hx, A1⟩ := A.st 12 rfl (o := 1) (new := [.str x10]) (ds := (BN p1 (.str x7) (.str x10))) (Nat.le_of_ble_eq_true rfl) rfl rfl
   replace A : HH g h19 [_, _, _, _, _, _, _, _, _, _, _, _, .obj h1.size (.cells none 2 [_, .str x10, _, _, _, _, _, _, _, _, _, _, _, _])] F := A1
   refine FJ 2 [] hx H fun fr t H => ?_
   refine at_nil ?_
   exact .inl ⟨_, rfl, AY hm, H.ls, A⟩
  exact FL (.inl ⟨_, rfl, AY hm, H.ls, A⟩)
 clear ho
 clear A
 intro e fr h20 hQ
 rcases hQ with ⟨x9, rfl, rfl, H, A⟩ | hF
 ·show AW _ _ _ _ _ _ _
  refine AQ (L0 13 12 [(0, []), (1, []), (2, []), (3, []), (4, []), (9, []), (5, [9]), (6, []), (7, []), (8, []), (10, []), (11, [])] ?_)
  refine DE 73 (.ptr (some (bp0, 0))) h20 [(0, h.size)] (g.Bq) H (fun fr => .of (Da (by kernel_rfl) (A.l1 9 0))) (fun fr H => ?_)
  refine AK 2 [(75, .ptr (some (bp0, 16)))] H fun fr H => DE 76 (.ptr (some (bp0_16, 0))) h20 [(3, bp0), (0, h.size)] (g.Bq) H (fun fr => .of (Da (by kernel_rfl) (A.l1 0 16))) (fun fr H => ?_)
  refine DE 77 (.agg (BN p1 (.str x7) (.str x9))) h20 [(4, h1.size), (3, bp0), (0, h.size)] (g.Bq) H (fun fr => .of (CG (by kernel_rfl) (A.la 12 0 14))) (fun fr H => ?_)
  obtain ⟨h21, e6, A⟩ := A.pu (.cells none 2 [.str ([] : List UInt8), .str ([] : List UInt8), Ab 0, Ai 0, Ai 0, Ai 0, .str ([] : List UInt8), .str ([] : List UInt8), Ai 0, Ai 0, Ai 0, Ai 0, .slice none 0, .str ([] : List UInt8)])
  refine DE 15 (.ptr (some (h20.size, 0))) h21 [(9, h20.size), (4, h1.size), (3, bp0), (0, h.size)] (g.Bq) H (fun fr => .of (VT (by kernel_rfl) (congrArg some e6.symm))) (fun fr H => ?_)
  replace A : HH g h21 [_, _, .obj h20.size (.cells none 2 [.str ([] : List UInt8), .str ([] : List UInt8), Ab 0, Ai 0, Ai 0, Ai 0, .str ([] : List UInt8), .str ([] : List UInt8), Ai 0, Ai 0, Ai 0, Ai 0, .slice none 0, .str ([] : List UInt8)]), _, _, _, _, _, _, _, _, _, _, _] F := ((A.front 5 rfl).front 5 rfl)
  have A1 := A.J1 2 (pr := [h20.size]) (.cons 0 rfl (by simp [Ck.ids]) .nil)
  obtain ⟨⟨x12, x13⟩, hx, hm⟩ := bind_some hm
  obtain ⟨v1, h22, hr, rfl, A1⟩ := Ic (av := [.ptr (some (bp0_16, 0)), .agg (BN p1 (.str x7) (.str x9))]) hx A1
  replace A := A.ZL A1
  refine DE 78 (.tuple [.agg (AD x12), Ai x13]) h22 [(9, h20.size), (4, h1.size), (3, bp0), (0, h.size)] (h20.size :: g.Bq) H (fun fr => Steps.call (by kernel_rfl) hr) (fun fr H => ?_)
  refine AK 3 [(79, .agg (AD x12)), (80, Ai x13)] H fun fr H => ?_
  obtain ⟨h23, hx, A⟩ := A.s2 0 (AD x12) [_, _, _, _, _, _, _, _, _, _, _, _, _, _]
  refine Kv (.tuple []) h23 [(9, h20.size), (4, h1.size), (3, bp0), (0, h.size)] (g.Bq) H (fun fr => .of (Tv (by kernel_rfl) (RG hx rfl))) (fun fr H => ?_)
  refine Bc 1 [(16, Ai x13)] 5 H fun fr H => Aq 81 _ _ H (fun fr => .of (CG (by kernel_rfl) (A.HG 2 rfl (o := 0) (n := 14) ⟨Nat.le_of_ble_eq_true rfl, rfl⟩))) fun fr t H => ?_
  obtain ⟨h24, hx, A1⟩ := A.st 12 rfl (o := 0) (new := (AD x12)) (ds := (AD x12)) (Nat.le_of_ble_eq_true rfl) rfl rfl
  replace A : HH g h24 [_, _, _, _, _, _, _, _, _, _, _, _, .obj h3.size (.cells none 2 (AD x12)), _] F := A1
  refine Fk 1 [(82, Ai x13)] hx H fun fr t H => ?_
  refine AO 2 [(7, Ai 0), (8, Ai x13)] H fun fr H => AU ?_
  obtain ⟨rfl, rfl, rfl, rfl⟩ := Sz hm
  refine ⟨.inl rfl, .tuple [.agg (AD x12), Ai 0, Ai x13], CK (.cell (rT H) (By (by kernel_rfl) (by kernel_rfl) (A.la 12 0 14)) (.tmp (rT H) (.tmp (rT H) .nil))), ?_⟩
  refine ⟨.tuple [.agg (AD x12), Ai 0, Ai x13], h24, by first | rfl | (simp only [I1, I4, JC, I5, JB, I2, I9, I7, I3, JA, I8, GY, GN, GQ, GW, GJ, GP, GL, Option.map_some] <;> rfl), ?_⟩
  replace A := A.k8 3 4 5 0 1 6 8 9
  exact ⟨rfl, A⟩
 exact hF.elim
end
end Go.Av.L
