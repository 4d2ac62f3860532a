/-
 Models of functions, and that the abstract run tells them. Written by lift2.py.
-/
import Derived.Test.YthnnciphldbmeaaGreatDoorKCfg
import Derived.Test.YthnnciphldbmeaaGreatDoorK4
import Derived.Test.YthnnciphldbmeaaGreatDoorK5
namespace Go.Av.L
open Go.Av Go.Lib
set_option maxRecDepth 10000
set_option maxHeartbeats 4000000
set_option linter.unusedVariables false
set_option linter.unusedSimpArgs false
variable {g : Gd} {h : AH} {F : List Ck} {av : List AA}
noncomputable section
def CJ (p0 : CQ) (p1 : AV) : Option (AV × Int) :=
 (Dq p0 p1.Name).bind fun (x1, x2) => Ae (x2 != 0) (some ((⟨([] : List UInt8), ([] : List UInt8), (0 : Int), (0 : Int), (0 : Int), (0 : Int), ([] : List UInt8), ([] : List UInt8), (0 : Int), (0 : Int), (⟨(0 : Int), (0 : Int)⟩ : Aw), ([] : List Am), ([] : List UInt8)⟩ : AV), x2)) (Ae (p1.Kind == 50) (((CX p0 p1.Bf).bind fun (x6, x7) => Ae (x7 != 0) (some (.inr (x6, x7))) (some (.inl x6)) : Option (((List UInt8)) ⊕ ((List UInt8) × Int))).bind fun o1 => (match o1 with | .inl x3 => (Ae (x1 == ([] : List UInt8)) (some true) ((Cx x1 p1.Name).bind fun x9 => some x9) : Option (Bool)).bind fun x8 => (Ae x8 (some true) ((Cx x3 p1.Bf).bind fun x11 => some x11) : Option (Bool)).bind fun x10 => Ae x10 (some ((⟨([] : List UInt8), ([] : List UInt8), (0 : Int), (0 : Int), (0 : Int), (0 : Int), ([] : List UInt8), ([] : List UInt8), (0 : Int), (0 : Int), (⟨(0 : Int), (0 : Int)⟩ : Aw), ([] : List Am), ([] : List UInt8)⟩ : AV), (2 : Int))) (Fl (OU 32 p1.Extra.length) <| some ((⟨x1, x3, p1.Kind, p1.Mode, p1.Dm, p1.Eb, p1.CB, p1.Ca, p1.CY, p1.EX, p1.Time, p1.Extra, p1.Data⟩ : AV), (0 : Int))) | .inr (x4, x5) => some ((⟨([] : List UInt8), ([] : List UInt8), (0 : Int), (0 : Int), (0 : Int), (0 : Int), ([] : List UInt8), ([] : List UInt8), (0 : Int), (0 : Int), (⟨(0 : Int), (0 : Int)⟩ : Aw), ([] : List Am), ([] : List UInt8)⟩ : AV), x5))) (Ae (p1.Kind == 49) (((CV p0 p1.Bf).bind fun (x15, x16) => Ae (x16 != 0) (some (.inr (x15, x16))) (some (.inl x15)) : Option (((List UInt8)) ⊕ ((List UInt8) × Int))).bind fun o2 => (match o2 with | .inl x12 => (Ae (x1 == ([] : List UInt8)) (some true) ((Cx x1 p1.Name).bind fun x18 => some x18) : Option (Bool)).bind fun x17 => (Ae x17 (some true) ((Cx x12 p1.Bf).bind fun x20 => some x20) : Option (Bool)).bind fun x19 => Ae x19 (some ((⟨([] : List UInt8), ([] : List UInt8), (0 : Int), (0 : Int), (0 : Int), (0 : Int), ([] : List UInt8), ([] : List UInt8), (0 : Int), (0 : Int), (⟨(0 : Int), (0 : Int)⟩ : Aw), ([] : List Am), ([] : List UInt8)⟩ : AV), (2 : Int))) (Fl (OU 32 p1.Extra.length) <| some ((⟨x1, x12, p1.Kind, p1.Mode, p1.Dm, p1.Eb, p1.CB, p1.Ca, p1.CY, p1.EX, p1.Time, p1.Extra, p1.Data⟩ : AV), (0 : Int))) | .inr (x13, x14) => some ((⟨([] : List UInt8), ([] : List UInt8), (0 : Int), (0 : Int), (0 : Int), (0 : Int), ([] : List UInt8), ([] : List UInt8), (0 : Int), (0 : Int), (⟨(0 : Int), (0 : Int)⟩ : Aw), ([] : List Am), ([] : List UInt8)⟩ : AV), x14))) ((some () : Option ((Unit))).bind fun _ => (Ae (x1 == ([] : List UInt8)) (some true) ((Cx x1 p1.Name).bind fun x22 => some x22) : Option (Bool)).bind fun x21 => (Ae x21 (some true) ((Cx p1.Bf p1.Bf).bind fun x24 => some x24) : Option (Bool)).bind fun x23 => Ae x23 (some ((⟨([] : List UInt8), ([] : List UInt8), (0 : Int), (0 : Int), (0 : Int), (0 : Int), ([] : List UInt8), ([] : List UInt8), (0 : Int), (0 : Int), (⟨(0 : Int), (0 : Int)⟩ : Aw), ([] : List Am), ([] : List UInt8)⟩ : AV), (2 : Int))) (Fl (OU 32 p1.Extra.length) <| some ((⟨x1, p1.Bf, p1.Kind, p1.Mode, p1.Dm, p1.Eb, p1.CB, p1.Ca, p1.CY, p1.EX, p1.Time, p1.Extra, p1.Data⟩ : AV), (0 : Int))))))
theorem Fo {p0 p1 bp0 rp0_0 q0 q1} (hm : CJ p0 p1 = some (q0, q1)) (A : HH g h [.obj bp0 (.cells none 2 [AI rp0_0 p0.l_.length, Ai p0.Ba]), .AL rp0_0 142 (AL (eP AK) p0.l_)] F) (hc : BI (cfg.still 45) av = [.ptr (some (bp0, 0)), .agg (AD p1)] := by kernel_rfl) : ∃ v h', BL cfg g h 45 av v h' ∧ v = .tuple [.agg (AD q0), Ai q1] ∧ HH g h' [.obj bp0 (.cells none 2 [AI rp0_0 p0.l_.length, Ai p0.Ba]), .AL rp0_0 142 (AL (eP AK) p0.l_)] F := by
 refine Vz 68 [.cell 4 44, .tmp 5] hc ?_
 clear hc
 unfold CJ at hm
 refine bg 68 [(0, .ptr (some (bp0, 0))), (1, .agg (AD p1))] fun fr H => ?_
 refine AG 3 ?_
 obtain ⟨h1, e1, A⟩ := A.pu (.cells none 2 (AD p1))
 refine BC 3 (.ptr (some (h.size, 0))) e1 H fun fr t H => ?_
 obtain ⟨h2, e2, A⟩ := A.pu (.cells none 2 [.str ([] : List UInt8), .str ([] : List UInt8), Ab 0, Ai 0, Ai 0, Ai 0, .str ([] : List UInt8), .str ([] : List UInt8), Ai 0, Ai 0, Ai 0, Ai 0, .slice none 0, .str ([] : List UInt8)])
 refine BC 4 (.ptr (some (h1.size, 0))) e2 H fun fr t H => ?_
 refine BT 1 [] 3 H fun fr H => Az 10 _ _ H (fun fr => .of (Bs (by kernel_rfl) (A.GA 1 rfl (o := 0) (n := 14) ⟨Nat.le_of_ble_eq_true rfl, rfl⟩))) fun fr t H => ?_
 obtain ⟨h3, e3, A⟩ := A.pu (.cells none 2 [.str ([] : List UInt8), .str ([] : List UInt8), Ab 0, Ai 0, Ai 0, Ai 0, .str ([] : List UInt8), .str ([] : List UInt8), Ai 0, Ai 0, Ai 0, Ai 0, .slice none 0, .str ([] : List UInt8)])
 refine BC 6 (.ptr (some (h2.size, 0))) e3 H fun fr t H => ?_
 obtain ⟨h4, hx, A1⟩ := A.st 0 rfl (o := 0) (new := (AD p1)) (ds := (AD p1)) (Nat.le_of_ble_eq_true rfl) rfl rfl
 replace A : HH g h4 [.obj h2.size (.cells none 2 (AD p1)), .obj h1.size (.cells none 2 [.str ([] : List UInt8), .str ([] : List UInt8), Ab 0, Ai 0, Ai 0, Ai 0, .str ([] : List UInt8), .str ([] : List UInt8), Ai 0, Ai 0, Ai 0, Ai 0, .slice none 0, .str ([] : List UInt8)]), .obj h.size (.cells none 2 (AD p1)), _, _] F := A1
 refine Ev hx H fun fr t H => ?_
 refine Cj 3 id (BT 3 [(7, .func (.func 83) [.ptr (some (bp0, 0))] [])] 1 H fun fr H => AN 1 [] H fun fr H => AQ (AG 10 (AR 2 [(14, .func (.func 83) [.ptr (some (bp0, 0))] [])] 16 2 0 A H fun fr t H => ?_)))
 replace A := A.k5 3 4 0 1 2
 obtain ⟨⟨x1, x2⟩, hx, hm⟩ := bind_some hm
 obtain ⟨v1, h5, hr, rfl, A1⟩ := Jb (av := [.ptr (some (bp0, 0)), .str p1.Name]) hx (A.cut 2)
 replace A := A.g22 A1
 refine Ay 17 hr H fun fr t H => ?_
 obtain ⟨h6, hx, A⟩ := A.s2 0 [.str x1] [_, _, _, _, _, _, _, _, _, _, _, _, _, _]
 refine E8 4 [(19, Ai x2)] hx H fun fr t H => ?_
 refine BT 1 [(8, Ai x2)] 2 H fun fr H => AN 2 [(22, .bool (x2 != 0))] H fun fr H => Ak 22 H hm (fun hb hm H => ?_) fun hb hm H => ?_
 ·refine AG 4 ?_
  obtain ⟨h7, hx, A⟩ := A.s3 0 [.str ([] : List UInt8), .str ([] : List UInt8), Ab 0, Ai 0, Ai 0, Ai 0, .str ([] : List UInt8), .str ([] : List UInt8), Ai 0, Ai 0, Ai 0, Ai 0, .slice none 0, .str ([] : List UInt8)] [_, _, _, _, _, _, _, _, _, _, _, _, _, _]
  refine EL 2 [(24, Ai x2)] hx H fun fr t H => ?_
  refine AN 1 [(5, Ai x2)] H fun fr H => AS ?_
  obtain ⟨rfl, rfl⟩ := DG hm
  refine ⟨.inl rfl, .tuple [.agg [.str ([] : List UInt8), .str ([] : List UInt8), Ab 0, Ai 0, Ai 0, Ai 0, .str ([] : List UInt8), .str ([] : List UInt8), Ai 0, Ai 0, Ai 0, Ai 0, .slice none 0, .str ([] : List UInt8)], Ai x2], CA (.cell (rT H) (BS (by kernel_rfl) (by kernel_rfl) (A.la 3 0 14)) (.tmp (rT H) .nil)), ?_⟩
  refine ⟨.tuple [.agg [.str ([] : List UInt8), .str ([] : List UInt8), Ab 0, Ai 0, Ai 0, Ai 0, .str ([] : List UInt8), .str ([] : List UInt8), Ai 0, Ai 0, Ai 0, Ai 0, vs Af ([] : List Am), .str ([] : List UInt8)], Ai x2], h7, by first | rfl | (simp only [Hw, H6, Hs, Hv, Hz, H2, Hu, Hx, Ht, H4, Hr, F9, Fs, Fz, Fw, Fu, F7, F5, Option.map_some] <;> rfl), ?_⟩
  replace A := A.d2
  exact ⟨rfl, A⟩
 refine Cm 8 id ?_
 obtain ⟨h8, e4⟩ : ∃ x, x = h6.push (.map 2 []) := ⟨_, rfl⟩
 replace A : HH g h8 [.obj h6.size (.map 2 []), _, _, _, _, _] F := (A.push _).to e4
 refine BC 25 (.map (some h6.size)) e4 H fun fr t H => ?_
 obtain ⟨h9, hx, A1⟩ := HH.Vh (P := cfg.P) A 0 rfl (t := 163) (kt := 5) (et := 162) (by kernel_rfl) (k := Ab 50) (v := .func (.func 84) [] []) (by kernel_rfl) (by kernel_rfl)
 replace A : HH g h9 [.obj h6.size (.map 2 [(Ab 50, .func (.func 84) [] [])]), _, _, _, _, _] F := A1
 refine LR (.tuple []) h9 H (fun fr => .of (SD (by kernel_rfl) hx)) fun fr t H => ?_
 obtain ⟨h10, hx, A1⟩ := HH.Vh (P := cfg.P) A 0 rfl (t := 163) (kt := 5) (et := 162) (by kernel_rfl) (k := Ab 49) (v := .func (.func 85) [] []) (by kernel_rfl) (by kernel_rfl)
 replace A : HH g h10 [.obj h6.size (.map 2 [(Ab 50, .func (.func 84) [] []), (Ab 49, .func (.func 85) [] [])]), _, _, _, _, _] F := A1
 refine LR (.tuple []) h10 H (fun fr => .of (SD (by kernel_rfl) hx)) fun fr t H => ?_
 refine AR 2 [(26, .map (some h6.size))] 28 5 2 A H fun fr t H => ?_
 rcases AU hm with ⟨hb, hm⟩ | ⟨hk1, hm⟩
 ·refine Az 29 (.func (.func 84) [] []) h10 H (fun fr => .of (PE (by kernel_rfl) (HH.UY (P := cfg.P) A 0 rfl (t := 163) (kt := 5) (et := 162) (by kernel_rfl) (kd' := .u8) (by kernel_rfl) (x := p1.Kind) (.hit hb)))) fun fr t H => ?_
  refine AN 1 [(9, .func (.func 84) [] [])] H fun fr H => AQ ?_
  obtain ⟨o1, ho, hm⟩ := bind_some hm
  refine BM (Q' := fun e fr' h' => (∃ x3, e = .normal ∧ .inl x3 = o1 ∧ Has fr' 68 [(3, .ptr (some (h.size, 0))), (4, .ptr (some (h1.size, 0))), (6, .ptr (some (h2.size, 0)))] ∧ HH g h' [.obj h6.size (.map 2 [(Ab 50, .func (.func 84) [] []), (Ab 49, .func (.func 85) [] [])]), .obj bp0 (.cells none 2 [AI rp0_0 p0.l_.length, Ai p0.Ba]), .AL rp0_0 142 (AL (eP AK) p0.l_), .obj h2.size (.cells none 2 (A9 p1 (.str x1) (.str x3))), .obj h1.size (.cells none 2 [.str ([] : List UInt8), .str ([] : List UInt8), Ab 0, Ai 0, Ai 0, Ai 0, .str ([] : List UInt8), .str ([] : List UInt8), Ai 0, Ai 0, Ai 0, Ai 0, .slice none 0, .str ([] : List UInt8)]), .obj h.size (.cells none 2 (AD p1))] F) ∨ (∃ x4 x5, e = .ret ∧ .inr (x4, x5) = o1 ∧ Has fr' 68 [(4, .ptr (some (h1.size, 0))), (5, Ai x5)] ∧ HH g h' [.obj h6.size (.map 2 [(Ab 50, .func (.func 84) [] []), (Ab 49, .func (.func 85) [] [])]), .obj bp0 (.cells none 2 [AI rp0_0 p0.l_.length, Ai p0.Ba]), .AL rp0_0 142 (AL (eP AK) p0.l_), .obj h2.size (.cells none 2 (A9 p1 (.str x1) (.str x4))), .obj h1.size (.cells none 2 [.str ([] : List UInt8), .str ([] : List UInt8), Ab 0, Ai 0, Ai 0, Ai 0, .str ([] : List UInt8), .str ([] : List UInt8), Ai 0, Ai 0, Ai 0, Ai 0, .slice none 0, .str ([] : List UInt8)]), .obj h.size (.cells none 2 (AD p1))] F) ∨ False) ?_ ?_
  ·replace hm := ho
   clear ho
   refine AG 2 (AN 2 [(31, .bool true)] H fun fr H => Dd (x := .tmp 31) (by kernel_rfl) H (fun fr => by kernel_rfl) ?_)
   refine AG 11 (AR 2 [(33, .ptr (some (bp0, 0)))] 35 5 1 A H fun fr t H => ?_)
   replace A := A.k6 1 2 0 3 4 5
   obtain ⟨⟨x6, x7⟩, hx, hm⟩ := bind_some hm
   obtain ⟨v1, h11, hr, rfl, A1⟩ := Hq (av := [.ptr (some (bp0, 0)), .str p1.Bf, .func (.func 84) [] []]) hx (A.cut 2)
   replace A := A.g22 A1
   refine BH 1 [] 37 hr H fun fr t H => ?_
   obtain ⟨h12, hx, A⟩ := A.s3 1 [.str x6] [_, _, _, _, _, _, _, _, _, _, _, _, _, _]
   refine E8 4 [(39, Ai x7)] hx H fun fr t H => ?_
   refine Bi 1 [(3, .ptr (some (h.size, 0))), (4, .ptr (some (h1.size, 0))), (6, .ptr (some (h2.size, 0))), (8, Ai x7)] H fun fr H => Cj 2 id (AN 2 [(42, .bool (x7 != 0))] H fun fr H => Ak 42 H hm (fun hb hm H => ?_) fun hb hm H => ?_)
   ·refine AG 4 ?_
    obtain ⟨h13, hx, A⟩ := A.s4 0 [.str ([] : List UInt8), .str ([] : List UInt8), Ab 0, Ai 0, Ai 0, Ai 0, .str ([] : List UInt8), .str ([] : List UInt8), Ai 0, Ai 0, Ai 0, Ai 0, .slice none 0, .str ([] : List UInt8)] [_, _, _, _, _, _, _, _, _, _, _, _, _, _]
    refine EL 2 [(44, Ai x7)] hx H fun fr t H => ?_
    refine AN 1 [(5, Ai x7)] H fun fr H => AS ?_
    replace A := A.k6 2 0 1 3 4 5
    exact .inr (.inl ⟨_, _, rfl, Aa hm, H.ls, A⟩)
   refine IG ?_
   replace A := A.k6 2 0 1 3 4 5
   exact .inl ⟨_, rfl, Aa hm, H.ls, A⟩
  clear ho
  clear A
  intro e fr h14 hQ
  rcases hQ with ⟨x3, rfl, rfl, H, A⟩ | ⟨x4, x5, rfl, rfl, H, A⟩ | hF
  ·show AW _ _ _ _ _ _ _
   refine AQ (AG 17 (AR 1 [] 46 3 0 A H fun fr t H => ?_))
   refine AF 2 [(48, .bool (x1 == ([] : List UInt8)))] H fun fr H => ?_
   obtain ⟨x8, ho, hm⟩ := bind_some hm
   refine An 6 (fun fr' h' => Has fr' 68 [(3, .ptr (some (h.size, 0))), (4, .ptr (some (h1.size, 0))), (6, .ptr (some (h2.size, 0))), (54, .bool x8)] ∧ HH g h' [.obj h6.size (.map 2 [(Ab 50, .func (.func 84) [] []), (Ab 49, .func (.func 85) [] [])]), .obj bp0 (.cells none 2 [AI rp0_0 p0.l_.length, Ai p0.Ba]), .AL rp0_0 142 (AL (eP AK) p0.l_), .obj h2.size (.cells none 2 (A9 p1 (.str x1) (.str x3))), .obj h1.size (.cells none 2 [.str ([] : List UInt8), .str ([] : List UInt8), Ab 0, Ai 0, Ai 0, Ai 0, .str ([] : List UInt8), .str ([] : List UInt8), Ai 0, Ai 0, Ai 0, Ai 0, .slice none 0, .str ([] : List UInt8)]), .obj h.size (.cells none 2 (AD p1))] F) ?_ ?_
   ·rcases AU ho with ⟨hb, hm⟩ | ⟨hb, hm⟩
    ·replace H := H.kn 48 hb
     refine AF 6 [(54, .bool true)] H fun fr H => ?_
     obtain rfl := Aa hm
     exact at_nil ⟨H.ls, A⟩
    replace H := H.kn 48 hb
    refine AR 1 [] 50 3 0 A H fun fr t H => ?_
    refine AR 1 [] 52 5 0 A H fun fr t H => ?_
    obtain ⟨x9, hx, hm⟩ := bind_some hm
    obtain ⟨v1, h16, hr, rfl, A1⟩ := Ec (av := [.str x1, .str p1.Name]) hx (A.cut 0)
    replace A := A.EV A1
    refine Ay 53 hr H fun fr t H => ?_
    refine AF 1 [(54, .bool x9)] H fun fr H => ?_
    obtain rfl := Aa hm
    exact at_nil ⟨H.ls, A⟩
   clear A
   intro t fr h15 hK
   obtain ⟨H, A⟩ := hK
   refine AF 1 [(55, .bool x8)] H fun fr H => ?_
   obtain ⟨x10, ho, hm⟩ := bind_some hm
   refine An 6 (fun fr' h' => Has fr' 68 [(3, .ptr (some (h.size, 0))), (4, .ptr (some (h1.size, 0))), (6, .ptr (some (h2.size, 0))), (61, .bool x10)] ∧ HH g h' [.obj h6.size (.map 2 [(Ab 50, .func (.func 84) [] []), (Ab 49, .func (.func 85) [] [])]), .obj bp0 (.cells none 2 [AI rp0_0 p0.l_.length, Ai p0.Ba]), .AL rp0_0 142 (AL (eP AK) p0.l_), .obj h2.size (.cells none 2 (A9 p1 (.str x1) (.str x3))), .obj h1.size (.cells none 2 [.str ([] : List UInt8), .str ([] : List UInt8), Ab 0, Ai 0, Ai 0, Ai 0, .str ([] : List UInt8), .str ([] : List UInt8), Ai 0, Ai 0, Ai 0, Ai 0, .slice none 0, .str ([] : List UInt8)]), .obj h.size (.cells none 2 (AD p1))] F) ?_ ?_
   ·rcases AU ho with ⟨hb, hm⟩ | ⟨hb, hm⟩
    ·replace H := H.kn 55 hb
     refine AF 6 [(61, .bool true)] H fun fr H => ?_
     obtain rfl := Aa hm
     exact at_nil ⟨H.ls, A⟩
    replace H := H.kn 55 hb
    refine AR 1 [] 57 3 1 A H fun fr t H => ?_
    refine AR 1 [] 59 5 1 A H fun fr t H => ?_
    obtain ⟨x11, hx, hm⟩ := bind_some hm
    obtain ⟨v1, h18, hr, rfl, A1⟩ := Ec (av := [.str x3, .str p1.Bf]) hx (A.cut 0)
    replace A := A.EV A1
    refine Ay 60 hr H fun fr t H => ?_
    refine AF 1 [(61, .bool x11)] H fun fr H => ?_
    obtain rfl := Aa hm
    exact at_nil ⟨H.ls, A⟩
   clear A
   intro t fr h17 hK
   obtain ⟨H, A⟩ := hK
   refine BB id (Ak 61 H hm (fun hb hm H => ?_) fun hb hm H => ?_)
   ·refine AG 3 ?_
    obtain ⟨h19, hx, A⟩ := A.s4 0 [.str ([] : List UInt8), .str ([] : List UInt8), Ab 0, Ai 0, Ai 0, Ai 0, .str ([] : List UInt8), .str ([] : List UInt8), Ai 0, Ai 0, Ai 0, Ai 0, .slice none 0, .str ([] : List UInt8)] [_, _, _, _, _, _, _, _, _, _, _, _, _, _]
    refine EL 1 [] hx H fun fr t H => ?_
    refine AN 1 [(5, Ai 2)] H fun fr H => AS ?_
    obtain ⟨rfl, rfl⟩ := DG hm
    refine ⟨.inl rfl, .tuple [.agg [.str ([] : List UInt8), .str ([] : List UInt8), Ab 0, Ai 0, Ai 0, Ai 0, .str ([] : List UInt8), .str ([] : List UInt8), Ai 0, Ai 0, Ai 0, Ai 0, .slice none 0, .str ([] : List UInt8)], Ai 2], CA (.cell (rT H) (BS (by kernel_rfl) (by kernel_rfl) (A.la 4 0 14)) (.tmp (rT H) .nil)), ?_⟩
    refine ⟨.tuple [.agg [.str ([] : List UInt8), .str ([] : List UInt8), Ab 0, Ai 0, Ai 0, Ai 0, .str ([] : List UInt8), .str ([] : List UInt8), Ai 0, Ai 0, Ai 0, Ai 0, vs Af ([] : List Am), .str ([] : List UInt8)], Ai 2], h19, by first | rfl | (simp only [Hw, H6, Hs, Hv, Hz, H2, Hu, Hx, Ht, H4, Hr, F9, Fs, Fz, Fw, Fu, F7, F5, Option.map_some] <;> rfl), ?_⟩
    replace A := A.k2 1 2
    exact ⟨rfl, A⟩
   refine Cm 5 id (AR 1 [] 64 5 12 A H fun fr t H => ?_)
   have A1 := A.cut 0
   obtain ⟨hb, hm⟩ := BZ hm
   refine Az 65 (vs Af p1.Extra) h17 H (fun fr => Steps.call (by kernel_rfl) (GX (C := cfg) (f := 88) (a := 0) (t := 90) (xs := p1.Extra) Bt (by decide) (by kernel_rfl) (l := exts) rfl (by kernel_rfl) (by kernel_rfl) rfl (Kx Bt _ p1.Extra) (Bt.BI _) hb)) fun fr t H => ?_
   obtain ⟨h21, hx, A⟩ := A.s3 12 [vs Af p1.Extra] [_, _, _, _, _, _, _, _, _, _, _, _, _, _]
   refine E8 1 [] hx H fun fr t H => ?_
   refine Cj 3 id (Az 67 _ _ H (fun fr => .of (Bs (by kernel_rfl) (A.GA 3 rfl (o := 0) (n := 14) ⟨Nat.le_of_ble_eq_true rfl, rfl⟩))) fun fr t H => ?_)
   obtain ⟨h22, hx, A⟩ := A.s4 0 (A9 p1 (.str x1) (.str x3)) [_, _, _, _, _, _, _, _, _, _, _, _, _, _]
   refine Ev hx H fun fr t H => ?_
   refine AN 1 [(5, Ai 0)] H fun fr H => AS ?_
   obtain ⟨rfl, rfl⟩ := DG hm
   refine ⟨.inl rfl, .tuple [.agg (A9 p1 (.str x1) (.str x3)), Ai 0], CA (.cell (rT H) (BS (by kernel_rfl) (by kernel_rfl) (A.la 4 0 14)) (.tmp (rT H) .nil)), ?_⟩
   refine ⟨.tuple [.agg (A9 p1 (.str x1) (.str x3)), Ai 0], h22, by first | rfl | (simp only [Hw, H6, Hs, Hv, Hz, H2, Hu, Hx, Ht, H4, Hr, F9, Fs, Fz, Fw, Fu, F7, F5, Option.map_some] <;> rfl), ?_⟩
   replace A := A.k2 1 2
   exact ⟨rfl, A⟩
  ·obtain ⟨rfl, rfl⟩ := DG hm
   refine ⟨.inl rfl, .tuple [.agg [.str ([] : List UInt8), .str ([] : List UInt8), Ab 0, Ai 0, Ai 0, Ai 0, .str ([] : List UInt8), .str ([] : List UInt8), Ai 0, Ai 0, Ai 0, Ai 0, .slice none 0, .str ([] : List UInt8)], Ai x5], CA (.cell (rT H) (BS (by kernel_rfl) (by kernel_rfl) (A.la 4 0 14)) (.tmp (rT H) .nil)), ?_⟩
   refine ⟨.tuple [.agg [.str ([] : List UInt8), .str ([] : List UInt8), Ab 0, Ai 0, Ai 0, Ai 0, .str ([] : List UInt8), .str ([] : List UInt8), Ai 0, Ai 0, Ai 0, Ai 0, vs Af ([] : List Am), .str ([] : List UInt8)], Ai x5], h14, by first | rfl | (simp only [Hw, H6, Hs, Hv, Hz, H2, Hu, Hx, Ht, H4, Hr, F9, Fs, Fz, Fw, Fu, F7, F5, Option.map_some] <;> rfl), ?_⟩
   replace A := A.k2 1 2
   exact ⟨rfl, A⟩
  exact hF.elim
 rcases AU hm with ⟨hb, hm⟩ | ⟨hk2, hm⟩
 ·refine Az 29 (.func (.func 85) [] []) h10 H (fun fr => .of (PE (by kernel_rfl) (HH.UY (P := cfg.P) A 0 rfl (t := 163) (kt := 5) (et := 162) (by kernel_rfl) (kd' := .u8) (by kernel_rfl) (x := p1.Kind) (.EH hk1 (.hit hb))))) fun fr t H => ?_
  refine AN 1 [(9, .func (.func 85) [] [])] H fun fr H => AQ ?_
  obtain ⟨o2, ho, hm⟩ := bind_some hm
  refine BM (Q' := fun e fr' h' => (∃ x12, e = .normal ∧ .inl x12 = o2 ∧ Has fr' 68 [(3, .ptr (some (h.size, 0))), (4, .ptr (some (h1.size, 0))), (6, .ptr (some (h2.size, 0)))] ∧ HH g h' [.obj h6.size (.map 2 [(Ab 50, .func (.func 84) [] []), (Ab 49, .func (.func 85) [] [])]), .obj bp0 (.cells none 2 [AI rp0_0 p0.l_.length, Ai p0.Ba]), .AL rp0_0 142 (AL (eP AK) p0.l_), .obj h2.size (.cells none 2 (A9 p1 (.str x1) (.str x12))), .obj h1.size (.cells none 2 [.str ([] : List UInt8), .str ([] : List UInt8), Ab 0, Ai 0, Ai 0, Ai 0, .str ([] : List UInt8), .str ([] : List UInt8), Ai 0, Ai 0, Ai 0, Ai 0, .slice none 0, .str ([] : List UInt8)]), .obj h.size (.cells none 2 (AD p1))] F) ∨ (∃ x13 x14, e = .ret ∧ .inr (x13, x14) = o2 ∧ Has fr' 68 [(4, .ptr (some (h1.size, 0))), (5, Ai x14)] ∧ HH g h' [.obj h6.size (.map 2 [(Ab 50, .func (.func 84) [] []), (Ab 49, .func (.func 85) [] [])]), .obj bp0 (.cells none 2 [AI rp0_0 p0.l_.length, Ai p0.Ba]), .AL rp0_0 142 (AL (eP AK) p0.l_), .obj h2.size (.cells none 2 (A9 p1 (.str x1) (.str x13))), .obj h1.size (.cells none 2 [.str ([] : List UInt8), .str ([] : List UInt8), Ab 0, Ai 0, Ai 0, Ai 0, .str ([] : List UInt8), .str ([] : List UInt8), Ai 0, Ai 0, Ai 0, Ai 0, .slice none 0, .str ([] : List UInt8)]), .obj h.size (.cells none 2 (AD p1))] F) ∨ False) ?_ ?_
  ·replace hm := ho
   clear ho
   refine AG 2 (AN 2 [(31, .bool true)] H fun fr H => Dd (x := .tmp 31) (by kernel_rfl) H (fun fr => by kernel_rfl) ?_)
   refine AG 11 (AR 2 [(33, .ptr (some (bp0, 0)))] 35 5 1 A H fun fr t H => ?_)
   replace A := A.k6 1 2 0 3 4 5
   obtain ⟨⟨x15, x16⟩, hx, hm⟩ := bind_some hm
   obtain ⟨v1, h23, hr, rfl, A1⟩ := Hp (av := [.ptr (some (bp0, 0)), .str p1.Bf, .func (.func 85) [] []]) hx (A.cut 2)
   replace A := A.g22 A1
   refine BH 1 [] 37 hr H fun fr t H => ?_
   obtain ⟨h24, hx, A⟩ := A.s3 1 [.str x15] [_, _, _, _, _, _, _, _, _, _, _, _, _, _]
   refine E8 4 [(39, Ai x16)] hx H fun fr t H => ?_
   refine Bi 1 [(3, .ptr (some (h.size, 0))), (4, .ptr (some (h1.size, 0))), (6, .ptr (some (h2.size, 0))), (8, Ai x16)] H fun fr H => Cj 2 id (AN 2 [(42, .bool (x16 != 0))] H fun fr H => Ak 42 H hm (fun hb hm H => ?_) fun hb hm H => ?_)
   ·refine AG 4 ?_
    obtain ⟨h25, hx, A⟩ := A.s4 0 [.str ([] : List UInt8), .str ([] : List UInt8), Ab 0, Ai 0, Ai 0, Ai 0, .str ([] : List UInt8), .str ([] : List UInt8), Ai 0, Ai 0, Ai 0, Ai 0, .slice none 0, .str ([] : List UInt8)] [_, _, _, _, _, _, _, _, _, _, _, _, _, _]
    refine EL 2 [(44, Ai x16)] hx H fun fr t H => ?_
    refine AN 1 [(5, Ai x16)] H fun fr H => AS ?_
    replace A := A.k6 2 0 1 3 4 5
    exact .inr (.inl ⟨_, _, rfl, Aa hm, H.ls, A⟩)
   refine IG ?_
   replace A := A.k6 2 0 1 3 4 5
   exact .inl ⟨_, rfl, Aa hm, H.ls, A⟩
  clear ho
  clear A
  intro e fr h26 hQ
  rcases hQ with ⟨x12, rfl, rfl, H, A⟩ | ⟨x13, x14, rfl, rfl, H, A⟩ | hF
  ·show AW _ _ _ _ _ _ _
   refine AQ (AG 17 (AR 1 [] 46 3 0 A H fun fr t H => ?_))
   refine AF 2 [(48, .bool (x1 == ([] : List UInt8)))] H fun fr H => ?_
   obtain ⟨x17, ho, hm⟩ := bind_some hm
   refine An 6 (fun fr' h' => Has fr' 68 [(3, .ptr (some (h.size, 0))), (4, .ptr (some (h1.size, 0))), (6, .ptr (some (h2.size, 0))), (54, .bool x17)] ∧ HH g h' [.obj h6.size (.map 2 [(Ab 50, .func (.func 84) [] []), (Ab 49, .func (.func 85) [] [])]), .obj bp0 (.cells none 2 [AI rp0_0 p0.l_.length, Ai p0.Ba]), .AL rp0_0 142 (AL (eP AK) p0.l_), .obj h2.size (.cells none 2 (A9 p1 (.str x1) (.str x12))), .obj h1.size (.cells none 2 [.str ([] : List UInt8), .str ([] : List UInt8), Ab 0, Ai 0, Ai 0, Ai 0, .str ([] : List UInt8), .str ([] : List UInt8), Ai 0, Ai 0, Ai 0, Ai 0, .slice none 0, .str ([] : List UInt8)]), .obj h.size (.cells none 2 (AD p1))] F) ?_ ?_
   ·rcases AU ho with ⟨hb, hm⟩ | ⟨hb, hm⟩
    ·replace H := H.kn 48 hb
     refine AF 6 [(54, .bool true)] H fun fr H => ?_
     obtain rfl := Aa hm
     exact at_nil ⟨H.ls, A⟩
    replace H := H.kn 48 hb
    refine AR 1 [] 50 3 0 A H fun fr t H => ?_
    refine AR 1 [] 52 5 0 A H fun fr t H => ?_
    obtain ⟨x18, hx, hm⟩ := bind_some hm
    obtain ⟨v1, h28, hr, rfl, A1⟩ := Ec (av := [.str x1, .str p1.Name]) hx (A.cut 0)
    replace A := A.EV A1
    refine Ay 53 hr H fun fr t H => ?_
    refine AF 1 [(54, .bool x18)] H fun fr H => ?_
    obtain rfl := Aa hm
    exact at_nil ⟨H.ls, A⟩
   clear A
   intro t fr h27 hK
   obtain ⟨H, A⟩ := hK
   refine AF 1 [(55, .bool x17)] H fun fr H => ?_
   obtain ⟨x19, ho, hm⟩ := bind_some hm
   refine An 6 (fun fr' h' => Has fr' 68 [(3, .ptr (some (h.size, 0))), (4, .ptr (some (h1.size, 0))), (6, .ptr (some (h2.size, 0))), (61, .bool x19)] ∧ HH g h' [.obj h6.size (.map 2 [(Ab 50, .func (.func 84) [] []), (Ab 49, .func (.func 85) [] [])]), .obj bp0 (.cells none 2 [AI rp0_0 p0.l_.length, Ai p0.Ba]), .AL rp0_0 142 (AL (eP AK) p0.l_), .obj h2.size (.cells none 2 (A9 p1 (.str x1) (.str x12))), .obj h1.size (.cells none 2 [.str ([] : List UInt8), .str ([] : List UInt8), Ab 0, Ai 0, Ai 0, Ai 0, .str ([] : List UInt8), .str ([] : List UInt8), Ai 0, Ai 0, Ai 0, Ai 0, .slice none 0, .str ([] : List UInt8)]), .obj h.size (.cells none 2 (AD p1))] F) ?_ ?_
   ·rcases AU ho with ⟨hb, hm⟩ | ⟨hb, hm⟩
    ·replace H := H.kn 55 hb
     refine AF 6 [(61, .bool true)] H fun fr H => ?_
     obtain rfl := Aa hm
     exact at_nil ⟨H.ls, A⟩
    replace H := H.kn 55 hb
    refine AR 1 [] 57 3 1 A H fun fr t H => ?_
    refine AR 1 [] 59 5 1 A H fun fr t H => ?_
    obtain ⟨x20, hx, hm⟩ := bind_some hm
    obtain ⟨v1, h30, hr, rfl, A1⟩ := Ec (av := [.str x12, .str p1.Bf]) hx (A.cut 0)
    replace A := A.EV A1
    refine Ay 60 hr H fun fr t H => ?_
    refine AF 1 [(61, .bool x20)] H fun fr H => ?_
    obtain rfl := Aa hm
    exact at_nil ⟨H.ls, A⟩
   clear A
   intro t fr h29 hK
   obtain ⟨H, A⟩ := hK
   refine BB id (Ak 61 H hm (fun hb hm H => ?_) fun hb hm H => ?_)
   ·refine AG 3 ?_
    obtain ⟨h31, hx, A⟩ := A.s4 0 [.str ([] : List UInt8), .str ([] : List UInt8), Ab 0, Ai 0, Ai 0, Ai 0, .str ([] : List UInt8), .str ([] : List UInt8), Ai 0, Ai 0, Ai 0, Ai 0, .slice none 0, .str ([] : List UInt8)] [_, _, _, _, _, _, _, _, _, _, _, _, _, _]
    refine EL 1 [] hx H fun fr t H => ?_
    refine AN 1 [(5, Ai 2)] H fun fr H => AS ?_
    obtain ⟨rfl, rfl⟩ := DG hm
    refine ⟨.inl rfl, .tuple [.agg [.str ([] : List UInt8), .str ([] : List UInt8), Ab 0, Ai 0, Ai 0, Ai 0, .str ([] : List UInt8), .str ([] : List UInt8), Ai 0, Ai 0, Ai 0, Ai 0, .slice none 0, .str ([] : List UInt8)], Ai 2], CA (.cell (rT H) (BS (by kernel_rfl) (by kernel_rfl) (A.la 4 0 14)) (.tmp (rT H) .nil)), ?_⟩
    refine ⟨.tuple [.agg [.str ([] : List UInt8), .str ([] : List UInt8), Ab 0, Ai 0, Ai 0, Ai 0, .str ([] : List UInt8), .str ([] : List UInt8), Ai 0, Ai 0, Ai 0, Ai 0, vs Af ([] : List Am), .str ([] : List UInt8)], Ai 2], h31, by first | rfl | (simp only [Hw, H6, Hs, Hv, Hz, H2, Hu, Hx, Ht, H4, Hr, F9, Fs, Fz, Fw, Fu, F7, F5, Option.map_some] <;> rfl), ?_⟩
    replace A := A.k2 1 2
    exact ⟨rfl, A⟩
   refine Cm 5 id (AR 1 [] 64 5 12 A H fun fr t H => ?_)
   have A1 := A.cut 0
   obtain ⟨hb, hm⟩ := BZ hm
   refine Az 65 (vs Af p1.Extra) h29 H (fun fr => Steps.call (by kernel_rfl) (GX (C := cfg) (f := 88) (a := 0) (t := 90) (xs := p1.Extra) Bt (by decide) (by kernel_rfl) (l := exts) rfl (by kernel_rfl) (by kernel_rfl) rfl (Kx Bt _ p1.Extra) (Bt.BI _) hb)) fun fr t H => ?_
   obtain ⟨h33, hx, A⟩ := A.s3 12 [vs Af p1.Extra] [_, _, _, _, _, _, _, _, _, _, _, _, _, _]
   refine E8 1 [] hx H fun fr t H => ?_
   refine Cj 3 id (Az 67 _ _ H (fun fr => .of (Bs (by kernel_rfl) (A.GA 3 rfl (o := 0) (n := 14) ⟨Nat.le_of_ble_eq_true rfl, rfl⟩))) fun fr t H => ?_)
   obtain ⟨h34, hx, A⟩ := A.s4 0 (A9 p1 (.str x1) (.str x12)) [_, _, _, _, _, _, _, _, _, _, _, _, _, _]
   refine Ev hx H fun fr t H => ?_
   refine AN 1 [(5, Ai 0)] H fun fr H => AS ?_
   obtain ⟨rfl, rfl⟩ := DG hm
   refine ⟨.inl rfl, .tuple [.agg (A9 p1 (.str x1) (.str x12)), Ai 0], CA (.cell (rT H) (BS (by kernel_rfl) (by kernel_rfl) (A.la 4 0 14)) (.tmp (rT H) .nil)), ?_⟩
   refine ⟨.tuple [.agg (A9 p1 (.str x1) (.str x12)), Ai 0], h34, by first | rfl | (simp only [Hw, H6, Hs, Hv, Hz, H2, Hu, Hx, Ht, H4, Hr, F9, Fs, Fz, Fw, Fu, F7, F5, Option.map_some] <;> rfl), ?_⟩
   replace A := A.k2 1 2
   exact ⟨rfl, A⟩
  ·obtain ⟨rfl, rfl⟩ := DG hm
   refine ⟨.inl rfl, .tuple [.agg [.str ([] : List UInt8), .str ([] : List UInt8), Ab 0, Ai 0, Ai 0, Ai 0, .str ([] : List UInt8), .str ([] : List UInt8), Ai 0, Ai 0, Ai 0, Ai 0, .slice none 0, .str ([] : List UInt8)], Ai x14], CA (.cell (rT H) (BS (by kernel_rfl) (by kernel_rfl) (A.la 4 0 14)) (.tmp (rT H) .nil)), ?_⟩
   refine ⟨.tuple [.agg [.str ([] : List UInt8), .str ([] : List UInt8), Ab 0, Ai 0, Ai 0, Ai 0, .str ([] : List UInt8), .str ([] : List UInt8), Ai 0, Ai 0, Ai 0, Ai 0, vs Af ([] : List Am), .str ([] : List UInt8)], Ai x14], h26, by first | rfl | (simp only [Hw, H6, Hs, Hv, Hz, H2, Hu, Hx, Ht, H4, Hr, F9, Fs, Fz, Fw, Fu, F7, F5, Option.map_some] <;> rfl), ?_⟩
   replace A := A.k2 1 2
   exact ⟨rfl, A⟩
  exact hF.elim
 refine Az 29 (.nilFunc) h10 H (fun fr => .of (PE (by kernel_rfl) (HH.VB (P := cfg.P) A 0 rfl (t := 163) (kt := 5) (et := 162) (by kernel_rfl) (kd' := .u8) (by kernel_rfl) (z := .nilFunc) (by kernel_rfl) (x := p1.Kind) (.EH hk1 (.EH hk2 (.nil)))))) fun fr t H => ?_
 refine AN 1 [(9, .nilFunc)] H fun fr H => AQ ?_
 obtain ⟨o3, ho, hm⟩ := bind_some hm
 refine BM (Q' := fun e fr' h' => (e = .normal ∧ () = o3 ∧ Has fr' 68 [(3, .ptr (some (h.size, 0))), (4, .ptr (some (h1.size, 0))), (6, .ptr (some (h2.size, 0)))] ∧ HH g h' [.obj h6.size (.map 2 [(Ab 50, .func (.func 84) [] []), (Ab 49, .func (.func 85) [] [])]), .obj bp0 (.cells none 2 [AI rp0_0 p0.l_.length, Ai p0.Ba]), .AL rp0_0 142 (AL (eP AK) p0.l_), .obj h2.size (.cells none 2 (Cw p1 (.str x1))), .obj h1.size (.cells none 2 [.str ([] : List UInt8), .str ([] : List UInt8), Ab 0, Ai 0, Ai 0, Ai 0, .str ([] : List UInt8), .str ([] : List UInt8), Ai 0, Ai 0, Ai 0, Ai 0, .slice none 0, .str ([] : List UInt8)]), .obj h.size (.cells none 2 (AD p1))] F) ∨ False) ?_ ?_
 ·replace hm := ho
  clear ho
  refine AG 2 (AN 2 [(31, .bool false)] H fun fr H => Kw (x := .tmp 31) (by kernel_rfl) H (fun fr => by kernel_rfl) ?_)
  exact IG (.inl ⟨rfl, Aa hm, H.ls, A⟩)
 clear ho
 clear A
 intro e fr h35 hQ
 rcases hQ with ⟨rfl, rfl, H, A⟩ | hF
 ·show AW _ _ _ _ _ _ _
  refine AQ (AG 17 (AR 1 [] 46 3 0 A H fun fr t H => ?_))
  refine AF 2 [(48, .bool (x1 == ([] : List UInt8)))] H fun fr H => ?_
  obtain ⟨x21, ho, hm⟩ := bind_some hm
  refine An 6 (fun fr' h' => Has fr' 68 [(3, .ptr (some (h.size, 0))), (4, .ptr (some (h1.size, 0))), (6, .ptr (some (h2.size, 0))), (54, .bool x21)] ∧ HH g h' [.obj h6.size (.map 2 [(Ab 50, .func (.func 84) [] []), (Ab 49, .func (.func 85) [] [])]), .obj bp0 (.cells none 2 [AI rp0_0 p0.l_.length, Ai p0.Ba]), .AL rp0_0 142 (AL (eP AK) p0.l_), .obj h2.size (.cells none 2 (Cw p1 (.str x1))), .obj h1.size (.cells none 2 [.str ([] : List UInt8), .str ([] : List UInt8), Ab 0, Ai 0, Ai 0, Ai 0, .str ([] : List UInt8), .str ([] : List UInt8), Ai 0, Ai 0, Ai 0, Ai 0, .slice none 0, .str ([] : List UInt8)]), .obj h.size (.cells none 2 (AD p1))] F) ?_ ?_
  ·rcases AU ho with ⟨hb, hm⟩ | ⟨hb, hm⟩
   ·replace H := H.kn 48 hb
    refine AF 6 [(54, .bool true)] H fun fr H => ?_
    obtain rfl := Aa hm
    exact at_nil ⟨H.ls, A⟩
   replace H := H.kn 48 hb
   refine AR 1 [] 50 3 0 A H fun fr t H => ?_
   refine AR 1 [] 52 5 0 A H fun fr t H => ?_
   obtain ⟨x22, hx, hm⟩ := bind_some hm
   obtain ⟨v1, h37, hr, rfl, A1⟩ := Ec (av := [.str x1, .str p1.Name]) hx (A.cut 0)
   replace A := A.EV A1
   refine Ay 53 hr H fun fr t H => ?_
   refine AF 1 [(54, .bool x22)] H fun fr H => ?_
   obtain rfl := Aa hm
   exact at_nil ⟨H.ls, A⟩
  clear A
  intro t fr h36 hK
  obtain ⟨H, A⟩ := hK
  refine AF 1 [(55, .bool x21)] H fun fr H => ?_
  obtain ⟨x23, ho, hm⟩ := bind_some hm
  refine An 6 (fun fr' h' => Has fr' 68 [(3, .ptr (some (h.size, 0))), (4, .ptr (some (h1.size, 0))), (6, .ptr (some (h2.size, 0))), (61, .bool x23)] ∧ HH g h' [.obj h6.size (.map 2 [(Ab 50, .func (.func 84) [] []), (Ab 49, .func (.func 85) [] [])]), .obj bp0 (.cells none 2 [AI rp0_0 p0.l_.length, Ai p0.Ba]), .AL rp0_0 142 (AL (eP AK) p0.l_), .obj h2.size (.cells none 2 (Cw p1 (.str x1))), .obj h1.size (.cells none 2 [.str ([] : List UInt8), .str ([] : List UInt8), Ab 0, Ai 0, Ai 0, Ai 0, .str ([] : List UInt8), .str ([] : List UInt8), Ai 0, Ai 0, Ai 0, Ai 0, .slice none 0, .str ([] : List UInt8)]), .obj h.size (.cells none 2 (AD p1))] F) ?_ ?_
  ·rcases AU ho with ⟨hb, hm⟩ | ⟨hb, hm⟩
   ·replace H := H.kn 55 hb
    refine AF 6 [(61, .bool true)] H fun fr H => ?_
    obtain rfl := Aa hm
    exact at_nil ⟨H.ls, A⟩
   replace H := H.kn 55 hb
   refine AR 1 [] 57 3 1 A H fun fr t H => ?_
   refine AR 1 [] 59 5 1 A H fun fr t H => ?_
   obtain ⟨x24, hx, hm⟩ := bind_some hm
   obtain ⟨v1, h39, hr, rfl, A1⟩ := Ec (av := [.str p1.Bf, .str p1.Bf]) hx (A.cut 0)
   replace A := A.EV A1
   refine Ay 60 hr H fun fr t H => ?_
   refine AF 1 [(61, .bool x24)] H fun fr H => ?_
   obtain rfl := Aa hm
   exact at_nil ⟨H.ls, A⟩
  clear A
  intro t fr h38 hK
  obtain ⟨H, A⟩ := hK
  refine BB id (Ak 61 H hm (fun hb hm H => ?_) fun hb hm H => ?_)
  ·refine AG 3 ?_
   obtain ⟨h40, hx, A⟩ := A.s4 0 [.str ([] : List UInt8), .str ([] : List UInt8), Ab 0, Ai 0, Ai 0, Ai 0, .str ([] : List UInt8), .str ([] : List UInt8), Ai 0, Ai 0, Ai 0, Ai 0, .slice none 0, .str ([] : List UInt8)] [_, _, _, _, _, _, _, _, _, _, _, _, _, _]
   refine EL 1 [] hx H fun fr t H => ?_
   refine AN 1 [(5, Ai 2)] H fun fr H => AS ?_
   obtain ⟨rfl, rfl⟩ := DG hm
   refine ⟨.inl rfl, .tuple [.agg [.str ([] : List UInt8), .str ([] : List UInt8), Ab 0, Ai 0, Ai 0, Ai 0, .str ([] : List UInt8), .str ([] : List UInt8), Ai 0, Ai 0, Ai 0, Ai 0, .slice none 0, .str ([] : List UInt8)], Ai 2], CA (.cell (rT H) (BS (by kernel_rfl) (by kernel_rfl) (A.la 4 0 14)) (.tmp (rT H) .nil)), ?_⟩
   refine ⟨.tuple [.agg [.str ([] : List UInt8), .str ([] : List UInt8), Ab 0, Ai 0, Ai 0, Ai 0, .str ([] : List UInt8), .str ([] : List UInt8), Ai 0, Ai 0, Ai 0, Ai 0, vs Af ([] : List Am), .str ([] : List UInt8)], Ai 2], h40, by first | rfl | (simp only [Hw, H6, Hs, Hv, Hz, H2, Hu, Hx, Ht, H4, Hr, F9, Fs, Fz, Fw, Fu, F7, F5, Option.map_some] <;> rfl), ?_⟩
   replace A := A.k2 1 2
   exact ⟨rfl, A⟩
  refine Cm 5 id (AR 1 [] 64 5 12 A H fun fr t H => ?_)
  have A1 := A.cut 0
  obtain ⟨hb, hm⟩ := BZ hm
  refine Az 65 (vs Af p1.Extra) h38 H (fun fr => Steps.call (by kernel_rfl) (GX (C := cfg) (f := 88) (a := 0) (t := 90) (xs := p1.Extra) Bt (by decide) (by kernel_rfl) (l := exts) rfl (by kernel_rfl) (by kernel_rfl) rfl (Kx Bt _ p1.Extra) (Bt.BI _) hb)) fun fr t H => ?_
  obtain ⟨h42, hx, A⟩ := A.s3 12 [vs Af p1.Extra] [_, _, _, _, _, _, _, _, _, _, _, _, _, _]
  refine E8 1 [] hx H fun fr t H => ?_
  refine Cj 3 id (Az 67 _ _ H (fun fr => .of (Bs (by kernel_rfl) (A.GA 3 rfl (o := 0) (n := 14) ⟨Nat.le_of_ble_eq_true rfl, rfl⟩))) fun fr t H => ?_)
  obtain ⟨h43, hx, A⟩ := A.s4 0 (Cw p1 (.str x1)) [_, _, _, _, _, _, _, _, _, _, _, _, _, _]
  refine Ev hx H fun fr t H => ?_
  refine AN 1 [(5, Ai 0)] H fun fr H => AS ?_
  obtain ⟨rfl, rfl⟩ := DG hm
  refine ⟨.inl rfl, .tuple [.agg (Cw p1 (.str x1)), Ai 0], CA (.cell (rT H) (BS (by kernel_rfl) (by kernel_rfl) (A.la 4 0 14)) (.tmp (rT H) .nil)), ?_⟩
  refine ⟨.tuple [.agg (Cw p1 (.str x1)), Ai 0], h43, by first | rfl | (simp only [Hw, H6, Hs, Hv, Hz, H2, Hu, Hx, Ht, H4, Hr, F9, Fs, Fz, Fw, Fu, F7, F5, Option.map_some] <;> rfl), ?_⟩
  replace A := A.k2 1 2
  exact ⟨rfl, A⟩
 exact hF.elim
def CN (p0 : Bg) (p1 : AV) : Option (AV × Int × Int × CF) :=
 (B5 p0 p1).bind fun x1 => Ae (x1 != 0) (some ((⟨([] : List UInt8), ([] : List UInt8), (0 : Int), (0 : Int), (0 : Int), (0 : Int), ([] : List UInt8), ([] : List UInt8), (0 : Int), (0 : Int), (⟨(0 : Int), (0 : Int)⟩ : Aw), ([] : List Am), ([] : List UInt8)⟩ : AV), x1, (0 : Int), p0.Ap)) ((DI p1 p0).bind fun x2 => Ae (x2 != 0) (some ((⟨([] : List UInt8), ([] : List UInt8), (0 : Int), (0 : Int), (0 : Int), (0 : Int), ([] : List UInt8), ([] : List UInt8), (0 : Int), (0 : Int), (⟨(0 : Int), (0 : Int)⟩ : Aw), ([] : List Am), ([] : List UInt8)⟩ : AV), x2, (0 : Int), p0.Ap)) ((CW p0 p1).bind fun x3 => Ae (x3 != 0) (some ((⟨([] : List UInt8), ([] : List UInt8), (0 : Int), (0 : Int), (0 : Int), (0 : Int), ([] : List UInt8), ([] : List UInt8), (0 : Int), (0 : Int), (⟨(0 : Int), (0 : Int)⟩ : Aw), ([] : List Am), ([] : List UInt8)⟩ : AV), x3, (0 : Int), p0.Ap)) ((Bv p0 p1).bind fun (x4, x5) => Ae (x4 != 0) (some ((⟨([] : List UInt8), ([] : List UInt8), (0 : Int), (0 : Int), (0 : Int), (0 : Int), ([] : List UInt8), ([] : List UInt8), (0 : Int), (0 : Int), (⟨(0 : Int), (0 : Int)⟩ : Aw), ([] : List Am), ([] : List UInt8)⟩ : AV), x4, (0 : Int), x5)) ((B1 (⟨p0.c_, p0.AZ, p0.Ac, p0.Ad, x5⟩ : Bg) p1).bind fun x6 => Ae (x6 != 0) (some ((⟨([] : List UInt8), ([] : List UInt8), (0 : Int), (0 : Int), (0 : Int), (0 : Int), ([] : List UInt8), ([] : List UInt8), (0 : Int), (0 : Int), (⟨(0 : Int), (0 : Int)⟩ : Aw), ([] : List Am), ([] : List UInt8)⟩ : AV), x6, (0 : Int), x5)) ((DH p1.Name p0.c_.B3).bind fun (x7, x8) => ((DH p1.Bf p0.c_.B3).bind fun (x10, x11) => Ae (x11 && (p1.Kind == 49)) (some x10) (some p1.Bf) : Option (((List UInt8)))).bind fun x9 => (CJ p0.Ad (⟨x7, x9, p1.Kind, p1.Mode, p1.Dm, p1.Eb, p1.CB, p1.Ca, p1.CY, p1.EX, p1.Time, p1.Extra, p1.Data⟩ : AV)).bind fun (x12, x13) => some (x12, (0 : Int), x13, x5))))))
theorem Dk {p0 p1 bp0 rp0_14 rp0_15 bp0_16 rp0_16_0 bp0_17 q0 q1 q2 u5} (hm : CN p0 p1 = some (q0, q1, q2, u5)) (A : HH g h [.obj bp0 (.cells none 2 [vs AE p0.c_.Ah, vs AE p0.c_.Aj, vs AJ p0.c_.Bl, .bool p0.c_.Ho, .bool p0.c_.BP, Ai p0.c_.Bm, .bool p0.c_.CC, Ai p0.c_.BD.DF, Ai p0.c_.BD.Bp, Ai p0.c_.HG, Ai p0.c_.B3, Ai p0.c_.Name, Ai p0.c_.Head, Ai p0.c_.Bd, AI rp0_14 p0.AZ.length, AI rp0_15 p0.Ac.length, .ptr (some (bp0_16, 0)), .ptr (some (bp0_17, 0))]), .AL rp0_14 136 (AL (eP AB) p0.AZ), .AL rp0_15 136 (AL (eP AB) p0.Ac), .obj bp0_16 (.cells none 2 [AI rp0_16_0 p0.Ad.l_.length, Ai p0.Ad.Ba]), .AL rp0_16_0 142 (AL (eP AK) p0.Ad.l_), .obj bp0_17 (.cells none 2 ([Ai p0.Ap.n_, Ai p0.Ap.Aq] ++ (Cl 257 (AA.int .i64) p0.Ap.BJ ++ [])))] F) (hc : BI (cfg.still 15) av = [.ptr (some (bp0, 0)), .agg (AD p1), .ptr none] := by kernel_rfl) : ∃ v h', BL cfg g h 15 av v h' ∧ v = .tuple [.agg (AD q0), Ai q1, Ai q2] ∧ HH g h' [.obj bp0 (.cells none 2 [vs AE p0.c_.Ah, vs AE p0.c_.Aj, vs AJ p0.c_.Bl, .bool p0.c_.Ho, .bool p0.c_.BP, Ai p0.c_.Bm, .bool p0.c_.CC, Ai p0.c_.BD.DF, Ai p0.c_.BD.Bp, Ai p0.c_.HG, Ai p0.c_.B3, Ai p0.c_.Name, Ai p0.c_.Head, Ai p0.c_.Bd, AI rp0_14 p0.AZ.length, AI rp0_15 p0.Ac.length, .ptr (some (bp0_16, 0)), .ptr (some (bp0_17, 0))]), .AL rp0_14 136 (AL (eP AB) p0.AZ), .AL rp0_15 136 (AL (eP AB) p0.Ac), .obj bp0_16 (.cells none 2 [AI rp0_16_0 p0.Ad.l_.length, Ai p0.Ad.Ba]), .AL rp0_16_0 142 (AL (eP AK) p0.Ad.l_), .obj bp0_17 (.cells none 2 ([Ai u5.n_, Ai u5.Aq] ++ (Cl 257 (AA.int .i64) u5.BJ ++ [])))] F := by
 refine Vz 83 [.cell 6 44, .tmp 7, .tmp 8] hc ?_
 clear hc
 unfold CN at hm
 refine bg 83 [(0, .ptr (some (bp0, 0))), (1, .agg (AD p1)), (2, .ptr none)] fun fr H => ?_
 refine AG 6 ?_
 obtain ⟨h1, e1, A⟩ := A.pu (.cells none 2 [.ptr (some (bp0, 0))])
 refine BC 3 (.ptr (some (h.size, 0))) e1 H fun fr t H => ?_
 obtain ⟨h2, e2, A⟩ := A.pu (.cells none 2 (AD p1))
 refine BC 4 (.ptr (some (h1.size, 0))) e2 H fun fr t H => ?_
 obtain ⟨h3, e3, A⟩ := A.pu (.cells none 2 [.ptr none])
 refine BC 5 (.ptr (some (h2.size, 0))) e3 H fun fr t H => ?_
 obtain ⟨h4, e4, A⟩ := A.pu (.cells none 2 [.str ([] : List UInt8), .str ([] : List UInt8), Ab 0, Ai 0, Ai 0, Ai 0, .str ([] : List UInt8), .str ([] : List UInt8), Ai 0, Ai 0, Ai 0, Ai 0, .slice none 0, .str ([] : List UInt8)])
 refine BC 6 (.ptr (some (h3.size, 0))) e4 H fun fr t H => ?_
 refine BT 2 [] 2 H fun fr H => AN 2 [(9, .func (.func 39) [] [.ptr (some (h2.size, 0)), .ptr (some (h.size, 0))])] H fun fr H => AQ (AG 12 (Eu 18 3 0 A H fun fr t H => ?_))
 refine AR 2 [(19, .func (.func 40) [.ptr (some (bp0, 0))] []), (20, .func (.func 39) [] [.ptr (some (h2.size, 0)), .ptr (some (h.size, 0))])] 21 3 0 A H fun fr t H => ?_
 refine AR 1 [(22, .func (.func 41) [.ptr (some (bp0, 0))] [])] 23 3 0 A H fun fr t H => ?_
 refine AR 1 [(24, .func (.func 42) [.ptr (some (bp0, 0))] [])] 25 3 0 A H fun fr t H => ?_
 refine AF 1 [(26, .func (.func 43) [.ptr (some (bp0, 0))] [])] H fun fr H => ?_
 obtain ⟨h5, e5⟩ : ∃ x, x = h4.push (.cells (some 48) 2 [.func (.func 40) [.ptr (some (bp0, 0))] [], .func (.func 39) [] [.ptr (some (h2.size, 0)), .ptr (some (h.size, 0))], .func (.func 41) [.ptr (some (bp0, 0))] [], .func (.func 42) [.ptr (some (bp0, 0))] [], .func (.func 43) [.ptr (some (bp0, 0))] []]) := ⟨_, rfl⟩
 replace A : HH g h5 [.obj h4.size (.cells (some 48) 2 [.func (.func 40) [.ptr (some (bp0, 0))] [], .func (.func 39) [] [.ptr (some (h2.size, 0)), .ptr (some (h.size, 0))], .func (.func 41) [.ptr (some (bp0, 0))] [], .func (.func 42) [.ptr (some (bp0, 0))] [], .func (.func 43) [.ptr (some (bp0, 0))] []]), .obj h3.size (.cells none 2 [.str ([] : List UInt8), .str ([] : List UInt8), Ab 0, Ai 0, Ai 0, Ai 0, .str ([] : List UInt8), .str ([] : List UInt8), Ai 0, Ai 0, Ai 0, Ai 0, .slice none 0, .str ([] : List UInt8)]), .obj h2.size (.cells none 2 [.ptr none]), .obj h1.size (.cells none 2 (AD p1)), .obj h.size (.cells none 2 [.ptr (some (bp0, 0))]), _, _, _, _, _, _] F := (A.push _).to e5
 refine BC 27 (.slice (some (h4.size, 0)) 5) e5 H fun fr t H => ?_
 refine AN 2 [(28, Ai 5), (29, Ai 0)] H fun fr H => AX (id := 0) (by kernel_rfl) ?_
 refine Dn (by kernel_rfl) ?_
 refine AG 1 (AN 1 [(30, .bool true)] H fun fr H => AQ (Dd (x := .tmp 30) (by kernel_rfl) H (fun fr => by kernel_rfl) ?_))
 refine Be id (AQ (AX (id := 1) (by kernel_rfl) ?_))
 refine AG 3 (AR 1 [] 32 0 0 A H fun fr t H => ?_)
 refine BT 1 [(11, .func (.func 40) [.ptr (some (bp0, 0))] [])] 4 H fun fr H => As 1 [(33, .func (.func 40) [.ptr (some (bp0, 0))] [])] 34 _ _ H (fun fr => .of (Bs (by kernel_rfl) (A.GA 3 rfl (o := 0) (n := 14) ⟨Nat.le_of_ble_eq_true rfl, rfl⟩))) fun fr t H => ?_
 replace A : HH g h5 [_, _, _, _, _, _, _, _, _, _, _] F := ((((((A.front 10 rfl).front 10 rfl).front 10 rfl).front 10 rfl).front 10 rfl).front 10 rfl)
 obtain ⟨x1, hx, hm⟩ := bind_some hm
 obtain ⟨v1, h6, hr, rfl, A1⟩ := FL (av := [.ptr (some (bp0, 0)), .agg (AD p1)]) hx (A.cut 6)
 replace A : HH g h6 [.obj bp0 (.cells none 2 [_, _, _, _, _, _, _, _, _, _, _, _, _, _, _, _, _, _]), .AL rp0_14 136 (AL (eP AB) p0.AZ), .AL rp0_15 136 (AL (eP AB) p0.Ac), .obj bp0_16 (.cells none 2 [AI rp0_16_0 p0.Ad.l_.length, Ai p0.Ad.Ba]), .AL rp0_16_0 142 (AL (eP AK) p0.Ad.l_), .obj bp0_17 (.cells none 2 ([Ai p0.Ap.n_, Ai p0.Ap.Aq] ++ (Cl 257 (AA.int .i64) p0.Ap.BJ ++ []))), _, _, _, _, _] F := A.CL (n := 6) A1
 refine Ay 35 hr H fun fr t H => ?_
 refine BT 1 [(12, Ai x1)] 2 H fun fr H => AN 2 [(37, .bool (x1 != 0))] H fun fr H => Ak 37 H hm (fun hb hm H => ?_) fun hb hm H => ?_
 ·refine AG 5 ?_
  obtain ⟨h7, hx, A⟩ := A.s7 0 [.str ([] : List UInt8), .str ([] : List UInt8), Ab 0, Ai 0, Ai 0, Ai 0, .str ([] : List UInt8), .str ([] : List UInt8), Ai 0, Ai 0, Ai 0, Ai 0, .slice none 0, .str ([] : List UInt8)] [_, _, _, _, _, _, _, _, _, _, _, _, _, _]
  refine EL 2 [(39, Ai x1)] hx H fun fr t H => ?_
  refine AN 2 [(7, Ai x1), (8, Ai 0)] H fun fr H => AS ?_
  obtain ⟨rfl, rfl, rfl, rfl⟩ := J9 hm
  refine ⟨.inl rfl, .tuple [.agg [.str ([] : List UInt8), .str ([] : List UInt8), Ab 0, Ai 0, Ai 0, Ai 0, .str ([] : List UInt8), .str ([] : List UInt8), Ai 0, Ai 0, Ai 0, Ai 0, .slice none 0, .str ([] : List UInt8)], Ai x1, Ai 0], CA (.cell (rT H) (BS (by kernel_rfl) (by kernel_rfl) (A.la 7 0 14)) (.tmp (rT H) (.tmp (rT H) .nil))), ?_⟩
  refine ⟨.tuple [.agg [.str ([] : List UInt8), .str ([] : List UInt8), Ab 0, Ai 0, Ai 0, Ai 0, .str ([] : List UInt8), .str ([] : List UInt8), Ai 0, Ai 0, Ai 0, Ai 0, vs Af ([] : List Am), .str ([] : List UInt8)], Ai x1, Ai 0], h7, by first | rfl | (simp only [Hw, H6, Hs, Hv, Hz, H2, Hu, Hx, Ht, H4, Hr, F9, Fs, Fz, Fw, Fu, F7, F5, Option.map_some] <;> rfl), ?_⟩
  replace A := A.d6
  exact ⟨rfl, A⟩
 refine FH 2 id (Bi 2 [(3, .ptr (some (h.size, 0))), (4, .ptr (some (h1.size, 0))), (6, .ptr (some (h3.size, 0))), (27, .slice (some (h4.size, 0)) 5), (28, Ai 5), (29, Ai 1)] H fun fr H => BB id (Dn (by kernel_rfl) ?_))
 refine AG 1 (AN 1 [(30, .bool true)] H fun fr H => AQ (Dd (x := .tmp 30) (by kernel_rfl) H (fun fr => by kernel_rfl) ?_))
 refine Be id (AQ (AX (id := 1) (by kernel_rfl) ?_))
 refine AG 3 (AR 1 [] 32 6 1 A H fun fr t H => ?_)
 refine BT 1 [(11, .func (.func 39) [] [.ptr (some (h2.size, 0)), .ptr (some (h.size, 0))])] 4 H fun fr H => As 1 [(33, .func (.func 39) [] [.ptr (some (h2.size, 0)), .ptr (some (h.size, 0))])] 34 _ _ H (fun fr => .of (Bs (by kernel_rfl) (A.GA 9 rfl (o := 0) (n := 14) ⟨Nat.le_of_ble_eq_true rfl, rfl⟩))) fun fr t H => ?_
 replace A : HH g h6 [_, _, _, _, _, _, _, _, _, _, _] F := ((((((((A.front 5 rfl).front 5 rfl).front 5 rfl).front 5 rfl).front 5 rfl).front 5 rfl).front 10 rfl).front 9 rfl)
 obtain ⟨x2, hx, hm⟩ := bind_some hm
 obtain ⟨v1, h8, hr, rfl, A1⟩ := Gp (av := [.agg (AD p1), .ptr (some (h2.size, 0)), .ptr (some (h.size, 0))]) hx (A.cut 8)
 replace A : HH g h8 [.obj h2.size (.cells none 2 [.ptr none]), .obj h.size (.cells none 2 [.ptr (some (bp0, 0))]), .obj bp0 (.cells none 2 [_, _, _, _, _, _, _, _, _, _, _, _, _, _, _, _, _, _]), .AL rp0_14 136 (AL (eP AB) p0.AZ), .AL rp0_15 136 (AL (eP AB) p0.Ac), .obj bp0_16 (.cells none 2 [AI rp0_16_0 p0.Ad.l_.length, Ai p0.Ad.Ba]), .AL rp0_16_0 142 (AL (eP AK) p0.Ad.l_), .obj bp0_17 (.cells none 2 ([Ai p0.Ap.n_, Ai p0.Ap.Aq] ++ (Cl 257 (AA.int .i64) p0.Ap.BJ ++ []))), _, _, _] F := A.CL (n := 8) A1
 refine Ay 35 hr H fun fr t H => ?_
 refine BT 1 [(12, Ai x2)] 2 H fun fr H => AN 2 [(37, .bool (x2 != 0))] H fun fr H => Ak 37 H hm (fun hb hm H => ?_) fun hb hm H => ?_
 ·refine AG 5 ?_
  obtain ⟨h9, hx, A⟩ := A.s9 0 [.str ([] : List UInt8), .str ([] : List UInt8), Ab 0, Ai 0, Ai 0, Ai 0, .str ([] : List UInt8), .str ([] : List UInt8), Ai 0, Ai 0, Ai 0, Ai 0, .slice none 0, .str ([] : List UInt8)] [_, _, _, _, _, _, _, _, _, _, _, _, _, _]
  refine EL 2 [(39, Ai x2)] hx H fun fr t H => ?_
  refine AN 2 [(7, Ai x2), (8, Ai 0)] H fun fr H => AS ?_
  obtain ⟨rfl, rfl, rfl, rfl⟩ := J9 hm
  refine ⟨.inl rfl, .tuple [.agg [.str ([] : List UInt8), .str ([] : List UInt8), Ab 0, Ai 0, Ai 0, Ai 0, .str ([] : List UInt8), .str ([] : List UInt8), Ai 0, Ai 0, Ai 0, Ai 0, .slice none 0, .str ([] : List UInt8)], Ai x2, Ai 0], CA (.cell (rT H) (BS (by kernel_rfl) (by kernel_rfl) (A.la 9 0 14)) (.tmp (rT H) (.tmp (rT H) .nil))), ?_⟩
  refine ⟨.tuple [.agg [.str ([] : List UInt8), .str ([] : List UInt8), Ab 0, Ai 0, Ai 0, Ai 0, .str ([] : List UInt8), .str ([] : List UInt8), Ai 0, Ai 0, Ai 0, Ai 0, vs Af ([] : List Am), .str ([] : List UInt8)], Ai x2, Ai 0], h9, by first | rfl | (simp only [Hw, H6, Hs, Hv, Hz, H2, Hu, Hx, Ht, H4, Hr, F9, Fs, Fz, Fw, Fu, F7, F5, Option.map_some] <;> rfl), ?_⟩
  replace A := A.k6 2 3 4 5 6 7
  exact ⟨rfl, A⟩
 refine FH 2 id (Bi 2 [(3, .ptr (some (h.size, 0))), (4, .ptr (some (h1.size, 0))), (6, .ptr (some (h3.size, 0))), (27, .slice (some (h4.size, 0)) 5), (28, Ai 5), (29, Ai 2)] H fun fr H => BB id (Dn (by kernel_rfl) ?_))
 refine AG 1 (AN 1 [(30, .bool true)] H fun fr H => AQ (Dd (x := .tmp 30) (by kernel_rfl) H (fun fr => by kernel_rfl) ?_))
 refine Be id (AQ (AX (id := 1) (by kernel_rfl) ?_))
 refine AG 3 (AR 1 [] 32 8 2 A H fun fr t H => ?_)
 refine BT 1 [(11, .func (.func 41) [.ptr (some (bp0, 0))] [])] 4 H fun fr H => As 1 [(33, .func (.func 41) [.ptr (some (bp0, 0))] [])] 34 _ _ H (fun fr => .of (Bs (by kernel_rfl) (A.GA 10 rfl (o := 0) (n := 14) ⟨Nat.le_of_ble_eq_true rfl, rfl⟩))) fun fr t H => ?_
 replace A : HH g h8 [_, _, _, _, _, _, _, _, _, _, _] F := ((((((A.front 7 rfl).front 7 rfl).front 7 rfl).front 7 rfl).front 7 rfl).front 7 rfl)
 obtain ⟨x3, hx, hm⟩ := bind_some hm
 obtain ⟨v1, h10, hr, rfl, A1⟩ := FZ (av := [.ptr (some (bp0, 0)), .agg (AD p1)]) hx (A.cut 6)
 replace A : HH g h10 [.obj bp0 (.cells none 2 [_, _, _, _, _, _, _, _, _, _, _, _, _, _, _, _, _, _]), .AL rp0_14 136 (AL (eP AB) p0.AZ), .AL rp0_15 136 (AL (eP AB) p0.Ac), .obj bp0_16 (.cells none 2 [AI rp0_16_0 p0.Ad.l_.length, Ai p0.Ad.Ba]), .AL rp0_16_0 142 (AL (eP AK) p0.Ad.l_), .obj bp0_17 (.cells none 2 ([Ai p0.Ap.n_, Ai p0.Ap.Aq] ++ (Cl 257 (AA.int .i64) p0.Ap.BJ ++ []))), _, _, _, _, _] F := A.CL (n := 6) A1
 refine Ay 35 hr H fun fr t H => ?_
 refine BT 1 [(12, Ai x3)] 2 H fun fr H => AN 2 [(37, .bool (x3 != 0))] H fun fr H => Ak 37 H hm (fun hb hm H => ?_) fun hb hm H => ?_
 ·refine AG 5 ?_
  obtain ⟨h11, hx, A⟩ := A.s9 0 [.str ([] : List UInt8), .str ([] : List UInt8), Ab 0, Ai 0, Ai 0, Ai 0, .str ([] : List UInt8), .str ([] : List UInt8), Ai 0, Ai 0, Ai 0, Ai 0, .slice none 0, .str ([] : List UInt8)] [_, _, _, _, _, _, _, _, _, _, _, _, _, _]
  refine EL 2 [(39, Ai x3)] hx H fun fr t H => ?_
  refine AN 2 [(7, Ai x3), (8, Ai 0)] H fun fr H => AS ?_
  obtain ⟨rfl, rfl, rfl, rfl⟩ := J9 hm
  refine ⟨.inl rfl, .tuple [.agg [.str ([] : List UInt8), .str ([] : List UInt8), Ab 0, Ai 0, Ai 0, Ai 0, .str ([] : List UInt8), .str ([] : List UInt8), Ai 0, Ai 0, Ai 0, Ai 0, .slice none 0, .str ([] : List UInt8)], Ai x3, Ai 0], CA (.cell (rT H) (BS (by kernel_rfl) (by kernel_rfl) (A.la 9 0 14)) (.tmp (rT H) (.tmp (rT H) .nil))), ?_⟩
  refine ⟨.tuple [.agg [.str ([] : List UInt8), .str ([] : List UInt8), Ab 0, Ai 0, Ai 0, Ai 0, .str ([] : List UInt8), .str ([] : List UInt8), Ai 0, Ai 0, Ai 0, Ai 0, vs Af ([] : List Am), .str ([] : List UInt8)], Ai x3, Ai 0], h11, by first | rfl | (simp only [Hw, H6, Hs, Hv, Hz, H2, Hu, Hx, Ht, H4, Hr, F9, Fs, Fz, Fw, Fu, F7, F5, Option.map_some] <;> rfl), ?_⟩
  replace A := A.d6
  exact ⟨rfl, A⟩
 refine FH 2 id (Bi 2 [(3, .ptr (some (h.size, 0))), (4, .ptr (some (h1.size, 0))), (6, .ptr (some (h3.size, 0))), (27, .slice (some (h4.size, 0)) 5), (28, Ai 5), (29, Ai 3)] H fun fr H => BB id (Dn (by kernel_rfl) ?_))
 refine AG 1 (AN 1 [(30, .bool true)] H fun fr H => AQ (Dd (x := .tmp 30) (by kernel_rfl) H (fun fr => by kernel_rfl) ?_))
 refine Be id (AQ (AX (id := 1) (by kernel_rfl) ?_))
 refine AG 3 (AR 1 [] 32 8 3 A H fun fr t H => ?_)
 refine BT 1 [(11, .func (.func 42) [.ptr (some (bp0, 0))] [])] 4 H fun fr H => As 1 [(33, .func (.func 42) [.ptr (some (bp0, 0))] [])] 34 _ _ H (fun fr => .of (Bs (by kernel_rfl) (A.GA 10 rfl (o := 0) (n := 14) ⟨Nat.le_of_ble_eq_true rfl, rfl⟩))) fun fr t H => ?_
 obtain ⟨⟨x4, x5⟩, hx, hm⟩ := bind_some hm
 obtain ⟨v1, h12, hr, rfl, A1⟩ := Ex (av := [.ptr (some (bp0, 0)), .agg (AD p1)]) hx (A.cut 6)
 replace A : HH g h12 [.obj bp0 (.cells none 2 [_, _, _, _, _, _, _, _, _, _, _, _, _, _, _, _, _, _]), .AL rp0_14 136 (AL (eP AB) p0.AZ), .AL rp0_15 136 (AL (eP AB) p0.Ac), .obj bp0_16 (.cells none 2 [AI rp0_16_0 p0.Ad.l_.length, Ai p0.Ad.Ba]), .AL rp0_16_0 142 (AL (eP AK) p0.Ad.l_), .obj bp0_17 (.cells none 2 ([Ai x5.n_, Ai x5.Aq] ++ (Cl 257 (AA.int .i64) x5.BJ ++ []))), _, _, _, _, _] F := A.CL (n := 6) A1
 refine Ay 35 hr H fun fr t H => ?_
 refine BT 1 [(12, Ai x4)] 2 H fun fr H => AN 2 [(37, .bool (x4 != 0))] H fun fr H => Ak 37 H hm (fun hb hm H => ?_) fun hb hm H => ?_
 ·refine AG 5 ?_
  obtain ⟨h13, hx, A⟩ := A.s9 0 [.str ([] : List UInt8), .str ([] : List UInt8), Ab 0, Ai 0, Ai 0, Ai 0, .str ([] : List UInt8), .str ([] : List UInt8), Ai 0, Ai 0, Ai 0, Ai 0, .slice none 0, .str ([] : List UInt8)] [_, _, _, _, _, _, _, _, _, _, _, _, _, _]
  refine EL 2 [(39, Ai x4)] hx H fun fr t H => ?_
  refine AN 2 [(7, Ai x4), (8, Ai 0)] H fun fr H => AS ?_
  obtain ⟨rfl, rfl, rfl, rfl⟩ := J9 hm
  refine ⟨.inl rfl, .tuple [.agg [.str ([] : List UInt8), .str ([] : List UInt8), Ab 0, Ai 0, Ai 0, Ai 0, .str ([] : List UInt8), .str ([] : List UInt8), Ai 0, Ai 0, Ai 0, Ai 0, .slice none 0, .str ([] : List UInt8)], Ai x4, Ai 0], CA (.cell (rT H) (BS (by kernel_rfl) (by kernel_rfl) (A.la 9 0 14)) (.tmp (rT H) (.tmp (rT H) .nil))), ?_⟩
  refine ⟨.tuple [.agg [.str ([] : List UInt8), .str ([] : List UInt8), Ab 0, Ai 0, Ai 0, Ai 0, .str ([] : List UInt8), .str ([] : List UInt8), Ai 0, Ai 0, Ai 0, Ai 0, vs Af ([] : List Am), .str ([] : List UInt8)], Ai x4, Ai 0], h13, by first | rfl | (simp only [Hw, H6, Hs, Hv, Hz, H2, Hu, Hx, Ht, H4, Hr, F9, Fs, Fz, Fw, Fu, F7, F5, Option.map_some] <;> rfl), ?_⟩
  replace A := A.d6
  exact ⟨rfl, A⟩
 refine FH 2 id (Bi 2 [(3, .ptr (some (h.size, 0))), (4, .ptr (some (h1.size, 0))), (6, .ptr (some (h3.size, 0))), (27, .slice (some (h4.size, 0)) 5), (28, Ai 5), (29, Ai 4)] H fun fr H => BB id (Dn (by kernel_rfl) ?_))
 refine AG 1 (AN 1 [(30, .bool true)] H fun fr H => AQ (Dd (x := .tmp 30) (by kernel_rfl) H (fun fr => by kernel_rfl) ?_))
 refine Be id (AQ (AX (id := 1) (by kernel_rfl) ?_))
 refine AG 3 (AR 1 [] 32 8 4 A H fun fr t H => ?_)
 refine BT 1 [(11, .func (.func 43) [.ptr (some (bp0, 0))] [])] 4 H fun fr H => As 1 [(33, .func (.func 43) [.ptr (some (bp0, 0))] [])] 34 _ _ H (fun fr => .of (Bs (by kernel_rfl) (A.GA 10 rfl (o := 0) (n := 14) ⟨Nat.le_of_ble_eq_true rfl, rfl⟩))) fun fr t H => ?_
 obtain ⟨x6, hx, hm⟩ := bind_some hm
 obtain ⟨v1, h14, hr, rfl, A1⟩ := FB (av := [.ptr (some (bp0, 0)), .agg (AD p1)]) hx (A.cut 6)
 replace A : HH g h14 [.obj bp0 (.cells none 2 [_, _, _, _, _, _, _, _, _, _, _, _, _, _, _, _, _, _]), .AL rp0_14 136 (AL (eP AB) p0.AZ), .AL rp0_15 136 (AL (eP AB) p0.Ac), .obj bp0_16 (.cells none 2 [AI rp0_16_0 p0.Ad.l_.length, Ai p0.Ad.Ba]), .AL rp0_16_0 142 (AL (eP AK) p0.Ad.l_), .obj bp0_17 (.cells none 2 ([Ai x5.n_, Ai x5.Aq] ++ (Cl 257 (AA.int .i64) x5.BJ ++ []))), _, _, _, _, _] F := A.CL (n := 6) A1
 refine Ay 35 hr H fun fr t H => ?_
 refine BT 1 [(12, Ai x6)] 2 H fun fr H => AN 2 [(37, .bool (x6 != 0))] H fun fr H => Ak 37 H hm (fun hb hm H => ?_) fun hb hm H => ?_
 ·refine AG 5 ?_
  obtain ⟨h15, hx, A⟩ := A.s9 0 [.str ([] : List UInt8), .str ([] : List UInt8), Ab 0, Ai 0, Ai 0, Ai 0, .str ([] : List UInt8), .str ([] : List UInt8), Ai 0, Ai 0, Ai 0, Ai 0, .slice none 0, .str ([] : List UInt8)] [_, _, _, _, _, _, _, _, _, _, _, _, _, _]
  refine EL 2 [(39, Ai x6)] hx H fun fr t H => ?_
  refine AN 2 [(7, Ai x6), (8, Ai 0)] H fun fr H => AS ?_
  obtain ⟨rfl, rfl, rfl, rfl⟩ := J9 hm
  refine ⟨.inl rfl, .tuple [.agg [.str ([] : List UInt8), .str ([] : List UInt8), Ab 0, Ai 0, Ai 0, Ai 0, .str ([] : List UInt8), .str ([] : List UInt8), Ai 0, Ai 0, Ai 0, Ai 0, .slice none 0, .str ([] : List UInt8)], Ai x6, Ai 0], CA (.cell (rT H) (BS (by kernel_rfl) (by kernel_rfl) (A.la 9 0 14)) (.tmp (rT H) (.tmp (rT H) .nil))), ?_⟩
  refine ⟨.tuple [.agg [.str ([] : List UInt8), .str ([] : List UInt8), Ab 0, Ai 0, Ai 0, Ai 0, .str ([] : List UInt8), .str ([] : List UInt8), Ai 0, Ai 0, Ai 0, Ai 0, vs Af ([] : List Am), .str ([] : List UInt8)], Ai x6, Ai 0], h15, by first | rfl | (simp only [Hw, H6, Hs, Hv, Hz, H2, Hu, Hx, Ht, H4, Hr, F9, Fs, Fz, Fw, Fu, F7, F5, Option.map_some] <;> rfl), ?_⟩
  replace A := A.d6
  exact ⟨rfl, A⟩
 refine FH 2 id (Bi 2 [(3, .ptr (some (h.size, 0))), (4, .ptr (some (h1.size, 0))), (6, .ptr (some (h3.size, 0))), (27, .slice (some (h4.size, 0)) 5), (28, Ai 5), (29, Ai 5)] H fun fr H => BB id (Dn (by kernel_rfl) ?_))
 refine AG 1 (AN 1 [(30, .bool false)] H fun fr H => AQ (Kw (x := .tmp 30) (by kernel_rfl) H (fun fr => by kernel_rfl) ?_))
 refine Bn (i := 0) (by kernel_rfl) ?_
 show AW _ _ _ _ _ _ _
 refine AQ (EZ 9 13 ?_)
 refine AR 1 [] 43 10 0 A H fun fr t H => ?_
 refine Eu 44 7 0 A H fun fr t H => ?_
 refine AR 3 [] 48 0 10 A H fun fr t H => ?_
 obtain ⟨⟨x7, x8⟩, hx, hm⟩ := bind_some hm
 obtain ⟨v1, h16, hr, rfl, A1⟩ := Fp (av := [.str p1.Name, Ai p0.c_.B3]) hx (A.cut 0)
 replace A := A.EV A1
 refine Ay 49 hr H fun fr t H => ?_
 obtain ⟨h17, hx, A1⟩ := A.st 10 rfl (o := 0) (new := [.str x7]) (ds := (Cw p1 (.str x7))) (Nat.le_of_ble_eq_true rfl) rfl rfl
 replace A : HH g h17 [_, _, _, _, _, _, _, _, _, _, .obj h1.size (.cells none 2 (Cw p1 (.str x7)))] F := A1
 refine E8 4 [] hx H fun fr t H => ?_
 refine BB id (AQ ?_)
 obtain ⟨o1, ho, hm⟩ := bind_some hm
 refine BM (Q' := fun e fr' h' => (∃ x9, e = .normal ∧ x9 = o1 ∧ Has fr' 83 [(3, .ptr (some (h.size, 0))), (4, .ptr (some (h1.size, 0))), (6, .ptr (some (h3.size, 0)))] ∧ HH g h' [.obj bp0 (.cells none 2 [vs AE p0.c_.Ah, vs AE p0.c_.Aj, vs AJ p0.c_.Bl, .bool p0.c_.Ho, .bool p0.c_.BP, Ai p0.c_.Bm, .bool p0.c_.CC, Ai p0.c_.BD.DF, Ai p0.c_.BD.Bp, Ai p0.c_.HG, Ai p0.c_.B3, Ai p0.c_.Name, Ai p0.c_.Head, Ai p0.c_.Bd, AI rp0_14 p0.AZ.length, AI rp0_15 p0.Ac.length, .ptr (some (bp0_16, 0)), .ptr (some (bp0_17, 0))]), .AL rp0_14 136 (AL (eP AB) p0.AZ), .AL rp0_15 136 (AL (eP AB) p0.Ac), .obj bp0_16 (.cells none 2 [AI rp0_16_0 p0.Ad.l_.length, Ai p0.Ad.Ba]), .AL rp0_16_0 142 (AL (eP AK) p0.Ad.l_), .obj bp0_17 (.cells none 2 ([Ai x5.n_, Ai x5.Aq] ++ (Cl 257 (AA.int .i64) x5.BJ ++ []))), .obj h2.size (.cells none 2 [.ptr none]), .obj h.size (.cells none 2 [.ptr (some (bp0, 0))]), .obj h4.size (.cells (some 48) 2 [.func (.func 40) [.ptr (some (bp0, 0))] [], .func (.func 39) [] [.ptr (some (h2.size, 0)), .ptr (some (h.size, 0))], .func (.func 41) [.ptr (some (bp0, 0))] [], .func (.func 42) [.ptr (some (bp0, 0))] [], .func (.func 43) [.ptr (some (bp0, 0))] []]), .obj h3.size (.cells none 2 [.str ([] : List UInt8), .str ([] : List UInt8), Ab 0, Ai 0, Ai 0, Ai 0, .str ([] : List UInt8), .str ([] : List UInt8), Ai 0, Ai 0, Ai 0, Ai 0, .slice none 0, .str ([] : List UInt8)]), .obj h1.size (.cells none 2 (A9 p1 (.str x7) (.str x9)))] F) ∨ False) ?_ ?_
 ·replace hm := ho
  clear ho
  refine AQ (EZ 10 13 ?_)
  refine AR 1 [] 55 10 1 A H fun fr t H => ?_
  refine Eu 56 7 0 A H fun fr t H => ?_
  refine AR 3 [] 60 0 10 A H fun fr t H => ?_
  obtain ⟨⟨x10, x11⟩, hx, hm⟩ := bind_some hm
  obtain ⟨v1, h18, hr, rfl, A1⟩ := Fp (av := [.str p1.Bf, Ai p0.c_.B3]) hx (A.cut 0)
  replace A := A.EV A1
  refine Ay 61 hr H fun fr t H => ?_
  refine BT 5 [(13, .str x10), (14, .bool x11)] 6 H fun fr H => AF 2 [(65, .bool x11)] H fun fr H => An 4 (fun fr' h' => h18 = h' ∧ Has fr' 83 [(3, .ptr (some (h.size, 0))), (4, .ptr (some (h1.size, 0))), (6, .ptr (some (h3.size, 0))), (13, .str x10), (69, .bool (x11 && (p1.Kind == 49)))]) ?_ ?_
  ·cases hb : (x11 : Bool) with
   | true =>
    replace H := H.kn 65 hb
    refine AR 1 [] 67 10 2 A H fun fr t H => ?_
    exact AF 2 [(69, .bool (p1.Kind == 49))] H fun fr H => AY H hb
   | false =>
    replace H := H.kn 65 hb
    exact AF 4 [(69, .bool false)] H fun fr H => AY H hb
  intro t fr h' hK
  obtain ⟨e, H⟩ := hK
  subst e
  refine BB id (Ak 69 H hm (fun hb hm H => ?_) fun hb hm H => ?_)
  ·refine EW 3 ?_
   obtain ⟨h19, hx, A1⟩ := A.st 10 rfl (o := 1) (new := [.str x10]) (ds := (A9 p1 (.str x7) (.str x10))) (Nat.le_of_ble_eq_true rfl) rfl rfl
   replace A : HH g h19 [_, _, _, _, _, _, _, _, _, _, .obj h1.size (.cells none 2 [_, .str x10, _, _, _, _, _, _, _, _, _, _, _, _])] F := A1
   refine E8 2 [] hx H fun fr t H => ?_
   refine at_nil ?_
   exact .inl ⟨_, rfl, Aa hm, H.ls, A⟩
  exact IG (.inl ⟨_, rfl, Aa hm, H.ls, A⟩)
 clear ho
 clear A
 intro e fr h20 hQ
 rcases hQ with ⟨x9, rfl, rfl, H, A⟩ | hF
 ·show AW _ _ _ _ _ _ _
  refine AQ (Jk 13 12 [(0, []), (1, []), (2, []), (3, []), (4, []), (9, []), (5, [9]), (6, []), (7, []), (8, []), (10, []), (11, [])] ?_)
  refine B0 73 (.ptr (some (bp0, 0))) h20 [(0, h.size)] (g.BU) H (fun fr => .of (Dj (by kernel_rfl) (A.l1 7 0))) (fun fr H => ?_)
  refine AF 2 [(75, .ptr (some (bp0, 16)))] H fun fr H => B0 76 (.ptr (some (bp0_16, 0))) h20 [(3, bp0), (0, h.size)] (g.BU) H (fun fr => .of (Dj (by kernel_rfl) (A.l1 0 16))) (fun fr H => ?_)
  refine B0 77 (.agg (A9 p1 (.str x7) (.str x9))) h20 [(4, h1.size), (3, bp0), (0, h.size)] (g.BU) H (fun fr => .of (Bs (by kernel_rfl) (A.la 10 0 14))) (fun fr H => ?_)
  obtain ⟨h21, e6, A⟩ := A.pu (.cells none 2 [.str ([] : List UInt8), .str ([] : List UInt8), Ab 0, Ai 0, Ai 0, Ai 0, .str ([] : List UInt8), .str ([] : List UInt8), Ai 0, Ai 0, Ai 0, Ai 0, .slice none 0, .str ([] : List UInt8)])
  refine B0 15 (.ptr (some (h20.size, 0))) h21 [(9, h20.size), (4, h1.size), (3, bp0), (0, h.size)] (g.BU) H (fun fr => .of (Qk (by kernel_rfl) (congrArg some e6.symm))) (fun fr H => ?_)
  replace A : HH g h21 [_, _, .obj h20.size (.cells none 2 [.str ([] : List UInt8), .str ([] : List UInt8), Ab 0, Ai 0, Ai 0, Ai 0, .str ([] : List UInt8), .str ([] : List UInt8), Ai 0, Ai 0, Ai 0, Ai 0, .slice none 0, .str ([] : List UInt8)]), _, _, _, _, _, _, _, _, _] F := ((A.front 5 rfl).front 5 rfl)
  have A1 := A.Gm 2 (pr := [h20.size]) (.cons 0 rfl (by simp [Ck.ids]) .nil)
  obtain ⟨⟨x12, x13⟩, hx, hm⟩ := bind_some hm
  obtain ⟨v1, h22, hr, rfl, A1⟩ := Fo (av := [.ptr (some (bp0_16, 0)), .agg (A9 p1 (.str x7) (.str x9))]) hx A1
  replace A := A.Xc A1
  refine B0 78 (.tuple [.agg (AD x12), Ai x13]) h22 [(9, h20.size), (4, h1.size), (3, bp0), (0, h.size)] (h20.size :: g.BU) H (fun fr => Steps.call (by kernel_rfl) hr) (fun fr H => ?_)
  refine AF 3 [(79, .agg (AD x12)), (80, Ai x13)] H fun fr H => ?_
  obtain ⟨h23, hx, A⟩ := A.s2 0 (AD x12) [_, _, _, _, _, _, _, _, _, _, _, _, _, _]
  refine K2 (.tuple []) h23 [(9, h20.size), (4, h1.size), (3, bp0), (0, h.size)] (g.BU) H (fun fr => .of (Nr (by kernel_rfl) (Lj hx rfl))) (fun fr H => ?_)
  refine BT 1 [(16, Ai x13)] 5 H fun fr H => Az 81 _ _ H (fun fr => .of (Bs (by kernel_rfl) (A.GA 2 rfl (o := 0) (n := 14) ⟨Nat.le_of_ble_eq_true rfl, rfl⟩))) fun fr t H => ?_
  obtain ⟨h24, hx, A1⟩ := A.st 10 rfl (o := 0) (new := (AD x12)) (ds := (AD x12)) (Nat.le_of_ble_eq_true rfl) rfl rfl
  replace A : HH g h24 [_, _, _, _, _, _, _, _, _, _, .obj h3.size (.cells none 2 (AD x12)), _] F := A1
  refine EL 1 [(82, Ai x13)] hx H fun fr t H => ?_
  refine AN 2 [(7, Ai 0), (8, Ai x13)] H fun fr H => AS ?_
  obtain ⟨rfl, rfl, rfl, rfl⟩ := J9 hm
  refine ⟨.inl rfl, .tuple [.agg (AD x12), Ai 0, Ai x13], CA (.cell (rT H) (BS (by kernel_rfl) (by kernel_rfl) (A.la 10 0 14)) (.tmp (rT H) (.tmp (rT H) .nil))), ?_⟩
  refine ⟨.tuple [.agg (AD x12), Ai 0, Ai x13], h24, by first | rfl | (simp only [Hw, H6, Hs, Hv, Hz, H2, Hu, Hx, Ht, H4, Hr, F9, Fs, Fz, Fw, Fu, F7, F5, Option.map_some] <;> rfl), ?_⟩
  replace A := A.k6 3 4 5 0 1 6
  exact ⟨rfl, A⟩
 exact hF.elim
end
end Go.Av.L
