/-
 Models of functions, and that the abstract run tells them. Written by lift2.py.
-/
import Derived.Test.YthnnciphldbmeaaGreatDoorKCfg
import Derived.Test.YthnnciphldbmeaaGreatDoorK4
import Derived.Test.YthnnciphldbmeaaGreatDoorK5
namespace Go.Av.L
open Go.Av Go.Lib
set_option maxRecDepth 10000
set_option maxHeartbeats 4000000
set_option linter.unusedVariables false
set_option linter.unusedSimpArgs false
variable {g : Gd} {h : AM} {F : List Ck} {av : List AD}
noncomputable section
def Cs (p0 : CT) (p1 : AK) : Option (AK × Int) :=
 (D3 p0 p1.Name).bind fun (x1, x2) => Af (x2 != 0) (some ((⟨([] : List UInt8), ([] : List UInt8), (0 : Int), (0 : Int), (0 : Int), (0 : Int), ([] : List UInt8), ([] : List UInt8), (0 : Int), (0 : Int), (⟨(0 : Int), (0 : Int)⟩ : Ar), ([] : List Am), ([] : List UInt8)⟩ : AK), x2)) (Af (p1.Kind == 50) (((CZ p0 p1.Be).bind fun (x6, x7) => Af (x7 != 0) (some (.inr (x6, x7))) (some (.inl x6)) : Option (((List UInt8)) ⊕ ((List UInt8) × Int))).bind fun o1 => (match o1 with | .inl x3 => (Af (x1 == ([] : List UInt8)) (some true) ((C6 x1 p1.Name).bind fun x9 => some x9) : Option (Bool)).bind fun x8 => (Af x8 (some true) ((C6 x3 p1.Be).bind fun x11 => some x11) : Option (Bool)).bind fun x10 => Af x10 (some ((⟨([] : List UInt8), ([] : List UInt8), (0 : Int), (0 : Int), (0 : Int), (0 : Int), ([] : List UInt8), ([] : List UInt8), (0 : Int), (0 : Int), (⟨(0 : Int), (0 : Int)⟩ : Ar), ([] : List Am), ([] : List UInt8)⟩ : AK), (2 : Int))) (Fh (Np 32 p1.Extra.length) <| some ((⟨x1, x3, p1.Kind, p1.Mode, p1.De, p1.ET, p1.B1, p1.CI, p1.CG, p1.Da, p1.Time, p1.Extra, p1.Data⟩ : AK), (0 : Int))) | .inr (x4, x5) => some ((⟨([] : List UInt8), ([] : List UInt8), (0 : Int), (0 : Int), (0 : Int), (0 : Int), ([] : List UInt8), ([] : List UInt8), (0 : Int), (0 : Int), (⟨(0 : Int), (0 : Int)⟩ : Ar), ([] : List Am), ([] : List UInt8)⟩ : AK), x5))) (Af (p1.Kind == 49) (((Ca p0 p1.Be).bind fun (x15, x16) => Af (x16 != 0) (some (.inr (x15, x16))) (some (.inl x15)) : Option (((List UInt8)) ⊕ ((List UInt8) × Int))).bind fun o2 => (match o2 with | .inl x12 => (Af (x1 == ([] : List UInt8)) (some true) ((C6 x1 p1.Name).bind fun x18 => some x18) : Option (Bool)).bind fun x17 => (Af x17 (some true) ((C6 x12 p1.Be).bind fun x20 => some x20) : Option (Bool)).bind fun x19 => Af x19 (some ((⟨([] : List UInt8), ([] : List UInt8), (0 : Int), (0 : Int), (0 : Int), (0 : Int), ([] : List UInt8), ([] : List UInt8), (0 : Int), (0 : Int), (⟨(0 : Int), (0 : Int)⟩ : Ar), ([] : List Am), ([] : List UInt8)⟩ : AK), (2 : Int))) (Fh (Np 32 p1.Extra.length) <| some ((⟨x1, x12, p1.Kind, p1.Mode, p1.De, p1.ET, p1.B1, p1.CI, p1.CG, p1.Da, p1.Time, p1.Extra, p1.Data⟩ : AK), (0 : Int))) | .inr (x13, x14) => some ((⟨([] : List UInt8), ([] : List UInt8), (0 : Int), (0 : Int), (0 : Int), (0 : Int), ([] : List UInt8), ([] : List UInt8), (0 : Int), (0 : Int), (⟨(0 : Int), (0 : Int)⟩ : Ar), ([] : List Am), ([] : List UInt8)⟩ : AK), x14))) ((some () : Option ((Unit))).bind fun _ => (Af (x1 == ([] : List UInt8)) (some true) ((C6 x1 p1.Name).bind fun x22 => some x22) : Option (Bool)).bind fun x21 => (Af x21 (some true) ((C6 p1.Be p1.Be).bind fun x24 => some x24) : Option (Bool)).bind fun x23 => Af x23 (some ((⟨([] : List UInt8), ([] : List UInt8), (0 : Int), (0 : Int), (0 : Int), (0 : Int), ([] : List UInt8), ([] : List UInt8), (0 : Int), (0 : Int), (⟨(0 : Int), (0 : Int)⟩ : Ar), ([] : List Am), ([] : List UInt8)⟩ : AK), (2 : Int))) (Fh (Np 32 p1.Extra.length) <| some ((⟨x1, p1.Be, p1.Kind, p1.Mode, p1.De, p1.ET, p1.B1, p1.CI, p1.CG, p1.Da, p1.Time, p1.Extra, p1.Data⟩ : AK), (0 : Int))))))
theorem Iw {p0 p1 bp0 rp0_0 q0 q1} (hm : Cs p0 p1 = some (q0, q1)) (A : HH g h [.obj bp0 (.cells none 2 [AF rp0_0 p0.l_.length, Ai p0.BM]), .AL rp0_0 142 (AL (eP AJ) p0.l_)] F) (hc : BH (cfg.still 45) av = [.ptr (some (bp0, 0)), .agg (AA p1)] := by kernel_rfl) : ∃ v h', BN cfg g h 45 av v h' ∧ v = .tuple [.agg (AA q0), Ai q1] ∧ HH g h' [.obj bp0 (.cells none 2 [AF rp0_0 p0.l_.length, Ai p0.BM]), .AL rp0_0 142 (AL (eP AJ) p0.l_)] F := by
 refine Xz 68 [.cell 4 44, .tmp 5] hc ?_
 clear hc
 unfold Cs at hm
 refine bg 68 [(0, .ptr (some (bp0, 0))), (1, .agg (AA p1))] fun fr H => ?_
 refine AH 3 ?_
 obtain ⟨h1, e1, A⟩ := A.pu (.cells none 2 (AA p1))
 refine A7 3 (.ptr (some (h.size, 0))) e1 H fun fr t H => ?_
 obtain ⟨h2, e2, A⟩ := A.pu (.cells none 2 [.str ([] : List UInt8), .str ([] : List UInt8), Ab 0, Ai 0, Ai 0, Ai 0, .str ([] : List UInt8), .str ([] : List UInt8), Ai 0, Ai 0, Ai 0, Ai 0, .slice none 0, .str ([] : List UInt8)])
 refine A7 4 (.ptr (some (h1.size, 0))) e2 H fun fr t H => ?_
 refine Bn 1 [] 3 H fun fr H => As 10 _ _ H (fun fr => .of (B5 (by kernel_rfl) (A.GQ 1 rfl (o := 0) (n := 14) ⟨Nat.le_of_ble_eq_true rfl, rfl⟩))) fun fr t H => ?_
 obtain ⟨h3, e3, A⟩ := A.pu (.cells none 2 [.str ([] : List UInt8), .str ([] : List UInt8), Ab 0, Ai 0, Ai 0, Ai 0, .str ([] : List UInt8), .str ([] : List UInt8), Ai 0, Ai 0, Ai 0, Ai 0, .slice none 0, .str ([] : List UInt8)])
 refine A7 6 (.ptr (some (h2.size, 0))) e3 H fun fr t H => ?_
 obtain ⟨h4, hx, A1⟩ := A.st 0 rfl (o := 0) (new := (AA p1)) (ds := (AA p1)) (Nat.le_of_ble_eq_true rfl) rfl rfl
 replace A : HH g h4 [.obj h2.size (.cells none 2 (AA p1)), .obj h1.size (.cells none 2 [.str ([] : List UInt8), .str ([] : List UInt8), Ab 0, Ai 0, Ai 0, Ai 0, .str ([] : List UInt8), .str ([] : List UInt8), Ai 0, Ai 0, Ai 0, Ai 0, .slice none 0, .str ([] : List UInt8)]), .obj h.size (.cells none 2 (AA p1)), _, _] F := A1
 refine FX hx H fun fr t H => ?_
 refine Cb 3 id (Bn 3 [(7, .func (.func 83) [.ptr (some (bp0, 0))] [])] 1 H fun fr H => AP 1 [] H fun fr H => AV (AH 10 (AZ 2 [(14, .func (.func 83) [.ptr (some (bp0, 0))] [])] 16 2 0 A H fun fr t H => ?_)))
 replace A := A.k5 3 4 0 1 2
 obtain ⟨⟨x1, x2⟩, hx, hm⟩ := bind_some hm
 obtain ⟨v1, h5, hr, rfl, A1⟩ := Jd (av := [.ptr (some (bp0, 0)), .str p1.Name]) hx (A.cut 2)
 replace A := A.g22 A1
 refine A8 17 hr H fun fr t H => ?_
 obtain ⟨h6, hx, A⟩ := A.s2 0 [.str x1] [_, _, _, _, _, _, _, _, _, _, _, _, _, _]
 refine FH 4 [(19, Ai x2)] hx H fun fr t H => ?_
 refine Bn 1 [(8, Ai x2)] 2 H fun fr H => AP 2 [(22, .bool (x2 != 0))] H fun fr H => Ak 22 H hm (fun hb hm H => ?_) fun hb hm H => ?_
 ·refine AH 4 ?_
  obtain ⟨h7, hx, A⟩ := A.s3 0 [.str ([] : List UInt8), .str ([] : List UInt8), Ab 0, Ai 0, Ai 0, Ai 0, .str ([] : List UInt8), .str ([] : List UInt8), Ai 0, Ai 0, Ai 0, Ai 0, .slice none 0, .str ([] : List UInt8)] [_, _, _, _, _, _, _, _, _, _, _, _, _, _]
  refine Fs 2 [(24, Ai x2)] hx H fun fr t H => ?_
  refine AP 1 [(5, Ai x2)] H fun fr H => AY ?_
  obtain ⟨rfl, rfl⟩ := C9 hm
  refine ⟨.inl rfl, .tuple [.agg [.str ([] : List UInt8), .str ([] : List UInt8), Ab 0, Ai 0, Ai 0, Ai 0, .str ([] : List UInt8), .str ([] : List UInt8), Ai 0, Ai 0, Ai 0, Ai 0, .slice none 0, .str ([] : List UInt8)], Ai x2], B8 (.cell (rT H) (B6 (by kernel_rfl) (by kernel_rfl) (A.la 3 0 14)) (.tmp (rT H) .nil)), ?_⟩
  refine ⟨.tuple [.agg [.str ([] : List UInt8), .str ([] : List UInt8), Ab 0, Ai 0, Ai 0, Ai 0, .str ([] : List UInt8), .str ([] : List UInt8), Ai 0, Ai 0, Ai 0, Ai 0, vs Ad ([] : List Am), .str ([] : List UInt8)], Ai x2], h7, by first | rfl | (simp only [KL, KH, KN, J5, KP, KZ, KF, KV, KW, J3, KM, HM, G3, HL, HK, G2, HB, HF, Option.map_some] <;> rfl), ?_⟩
  replace A := A.d2
  exact ⟨rfl, A⟩
 refine Cc 8 id ?_
 obtain ⟨h8, e4⟩ : ∃ x, x = h6.push (.map 2 []) := ⟨_, rfl⟩
 replace A : HH g h8 [.obj h6.size (.map 2 []), _, _, _, _, _] F := (A.push _).to e4
 refine A7 25 (.map (some h6.size)) e4 H fun fr t H => ?_
 obtain ⟨h9, hx, A1⟩ := HH.WL (P := cfg.P) A 0 rfl (t := 163) (kt := 5) (et := 162) (by kernel_rfl) (k := Ab 50) (v := .func (.func 84) [] []) (by kernel_rfl) (by kernel_rfl)
 replace A : HH g h9 [.obj h6.size (.map 2 [(Ab 50, .func (.func 84) [] [])]), _, _, _, _, _] F := A1
 refine Mv (.tuple []) h9 H (fun fr => .of (Ty (by kernel_rfl) hx)) fun fr t H => ?_
 obtain ⟨h10, hx, A1⟩ := HH.WL (P := cfg.P) A 0 rfl (t := 163) (kt := 5) (et := 162) (by kernel_rfl) (k := Ab 49) (v := .func (.func 85) [] []) (by kernel_rfl) (by kernel_rfl)
 replace A : HH g h10 [.obj h6.size (.map 2 [(Ab 50, .func (.func 84) [] []), (Ab 49, .func (.func 85) [] [])]), _, _, _, _, _] F := A1
 refine Mv (.tuple []) h10 H (fun fr => .of (Ty (by kernel_rfl) hx)) fun fr t H => ?_
 refine AZ 2 [(26, .map (some h6.size))] 28 5 2 A H fun fr t H => ?_
 rcases Ac hm with ⟨hb, hm⟩ | ⟨hk1, hm⟩
 ·refine As 29 (.func (.func 84) [] []) h10 H (fun fr => .of (Rq (by kernel_rfl) (HH.Ug (P := cfg.P) A 0 rfl (t := 163) (kt := 5) (et := 162) (by kernel_rfl) (kd' := .u8) (by kernel_rfl) (x := p1.Kind) (.hit hb)))) fun fr t H => ?_
  refine AP 1 [(9, .func (.func 84) [] [])] H fun fr H => AV ?_
  obtain ⟨o1, ho, hm⟩ := bind_some hm
  refine BG (Q' := fun e fr' h' => (∃ x3, e = .normal ∧ .inl x3 = o1 ∧ Has fr' 68 [(3, .ptr (some (h.size, 0))), (4, .ptr (some (h1.size, 0))), (6, .ptr (some (h2.size, 0)))] ∧ HH g h' [.obj h6.size (.map 2 [(Ab 50, .func (.func 84) [] []), (Ab 49, .func (.func 85) [] [])]), .obj bp0 (.cells none 2 [AF rp0_0 p0.l_.length, Ai p0.BM]), .AL rp0_0 142 (AL (eP AJ) p0.l_), .obj h2.size (.cells none 2 (BR p1 (.str x1) (.str x3))), .obj h1.size (.cells none 2 [.str ([] : List UInt8), .str ([] : List UInt8), Ab 0, Ai 0, Ai 0, Ai 0, .str ([] : List UInt8), .str ([] : List UInt8), Ai 0, Ai 0, Ai 0, Ai 0, .slice none 0, .str ([] : List UInt8)]), .obj h.size (.cells none 2 (AA p1))] F) ∨ (∃ x4 x5, e = .ret ∧ .inr (x4, x5) = o1 ∧ Has fr' 68 [(4, .ptr (some (h1.size, 0))), (5, Ai x5)] ∧ HH g h' [.obj h6.size (.map 2 [(Ab 50, .func (.func 84) [] []), (Ab 49, .func (.func 85) [] [])]), .obj bp0 (.cells none 2 [AF rp0_0 p0.l_.length, Ai p0.BM]), .AL rp0_0 142 (AL (eP AJ) p0.l_), .obj h2.size (.cells none 2 (BR p1 (.str x1) (.str x4))), .obj h1.size (.cells none 2 [.str ([] : List UInt8), .str ([] : List UInt8), Ab 0, Ai 0, Ai 0, Ai 0, .str ([] : List UInt8), .str ([] : List UInt8), Ai 0, Ai 0, Ai 0, Ai 0, .slice none 0, .str ([] : List UInt8)]), .obj h.size (.cells none 2 (AA p1))] F) ∨ False) ?_ ?_
  ·replace hm := ho
   clear ho
   refine AH 2 (AP 2 [(31, .bool true)] H fun fr H => GI (x := .tmp 31) (by kernel_rfl) H (fun fr => by kernel_rfl) ?_)
   refine AH 11 (AZ 2 [(33, .ptr (some (bp0, 0)))] 35 5 1 A H fun fr t H => ?_)
   replace A := A.k6 1 2 0 3 4 5
   obtain ⟨⟨x6, x7⟩, hx, hm⟩ := bind_some hm
   obtain ⟨v1, h11, hr, rfl, A1⟩ := H9 (av := [.ptr (some (bp0, 0)), .str p1.Be, .func (.func 84) [] []]) hx (A.cut 2)
   replace A := A.g22 A1
   refine BD 1 [] 37 hr H fun fr t H => ?_
   obtain ⟨h12, hx, A⟩ := A.s3 1 [.str x6] [_, _, _, _, _, _, _, _, _, _, _, _, _, _]
   refine FH 4 [(39, Ai x7)] hx H fun fr t H => ?_
   refine Bk 1 [(3, .ptr (some (h.size, 0))), (4, .ptr (some (h1.size, 0))), (6, .ptr (some (h2.size, 0))), (8, Ai x7)] H fun fr H => Cb 2 id (AP 2 [(42, .bool (x7 != 0))] H fun fr H => Ak 42 H hm (fun hb hm H => ?_) fun hb hm H => ?_)
   ·refine AH 4 ?_
    obtain ⟨h13, hx, A⟩ := A.s4 0 [.str ([] : List UInt8), .str ([] : List UInt8), Ab 0, Ai 0, Ai 0, Ai 0, .str ([] : List UInt8), .str ([] : List UInt8), Ai 0, Ai 0, Ai 0, Ai 0, .slice none 0, .str ([] : List UInt8)] [_, _, _, _, _, _, _, _, _, _, _, _, _, _]
    refine Fs 2 [(44, Ai x7)] hx H fun fr t H => ?_
    refine AP 1 [(5, Ai x7)] H fun fr H => AY ?_
    replace A := A.k6 2 0 1 3 4 5
    exact .inr (.inl ⟨_, _, rfl, Ag hm, H.ls, A⟩)
   refine HG ?_
   replace A := A.k6 2 0 1 3 4 5
   exact .inl ⟨_, rfl, Ag hm, H.ls, A⟩
  clear ho
  clear A
  intro e fr h14 hQ
  rcases hQ with ⟨x3, rfl, rfl, H, A⟩ | ⟨x4, x5, rfl, rfl, H, A⟩ | hF
  ·show AW _ _ _ _ _ _ _
   refine AV (AH 17 (AZ 1 [] 46 3 0 A H fun fr t H => ?_))
   refine AG 2 [(48, .bool (x1 == ([] : List UInt8)))] H fun fr H => ?_
   obtain ⟨x8, ho, hm⟩ := bind_some hm
   refine Aq 6 (fun fr' h' => Has fr' 68 [(3, .ptr (some (h.size, 0))), (4, .ptr (some (h1.size, 0))), (6, .ptr (some (h2.size, 0))), (54, .bool x8)] ∧ HH g h' [.obj h6.size (.map 2 [(Ab 50, .func (.func 84) [] []), (Ab 49, .func (.func 85) [] [])]), .obj bp0 (.cells none 2 [AF rp0_0 p0.l_.length, Ai p0.BM]), .AL rp0_0 142 (AL (eP AJ) p0.l_), .obj h2.size (.cells none 2 (BR p1 (.str x1) (.str x3))), .obj h1.size (.cells none 2 [.str ([] : List UInt8), .str ([] : List UInt8), Ab 0, Ai 0, Ai 0, Ai 0, .str ([] : List UInt8), .str ([] : List UInt8), Ai 0, Ai 0, Ai 0, Ai 0, .slice none 0, .str ([] : List UInt8)]), .obj h.size (.cells none 2 (AA p1))] F) ?_ ?_
   ·rcases Ac ho with ⟨hb, hm⟩ | ⟨hb, hm⟩
    ·replace H := H.kn 48 hb
     refine AG 6 [(54, .bool true)] H fun fr H => ?_
     obtain rfl := Ag hm
     exact at_nil ⟨H.ls, A⟩
    replace H := H.kn 48 hb
    refine AZ 1 [] 50 3 0 A H fun fr t H => ?_
    refine AZ 1 [] 52 5 0 A H fun fr t H => ?_
    obtain ⟨x9, hx, hm⟩ := bind_some hm
    obtain ⟨v1, h16, hr, rfl, A1⟩ := Eo (av := [.str x1, .str p1.Name]) hx (A.cut 0)
    replace A := A.E8 A1
    refine A8 53 hr H fun fr t H => ?_
    refine AG 1 [(54, .bool x9)] H fun fr H => ?_
    obtain rfl := Ag hm
    exact at_nil ⟨H.ls, A⟩
   clear A
   intro t fr h15 hK
   obtain ⟨H, A⟩ := hK
   refine AG 1 [(55, .bool x8)] H fun fr H => ?_
   obtain ⟨x10, ho, hm⟩ := bind_some hm
   refine Aq 6 (fun fr' h' => Has fr' 68 [(3, .ptr (some (h.size, 0))), (4, .ptr (some (h1.size, 0))), (6, .ptr (some (h2.size, 0))), (61, .bool x10)] ∧ HH g h' [.obj h6.size (.map 2 [(Ab 50, .func (.func 84) [] []), (Ab 49, .func (.func 85) [] [])]), .obj bp0 (.cells none 2 [AF rp0_0 p0.l_.length, Ai p0.BM]), .AL rp0_0 142 (AL (eP AJ) p0.l_), .obj h2.size (.cells none 2 (BR p1 (.str x1) (.str x3))), .obj h1.size (.cells none 2 [.str ([] : List UInt8), .str ([] : List UInt8), Ab 0, Ai 0, Ai 0, Ai 0, .str ([] : List UInt8), .str ([] : List UInt8), Ai 0, Ai 0, Ai 0, Ai 0, .slice none 0, .str ([] : List UInt8)]), .obj h.size (.cells none 2 (AA p1))] F) ?_ ?_
   ·rcases Ac ho with ⟨hb, hm⟩ | ⟨hb, hm⟩
    ·replace H := H.kn 55 hb
     refine AG 6 [(61, .bool true)] H fun fr H => ?_
     obtain rfl := Ag hm
     exact at_nil ⟨H.ls, A⟩
    replace H := H.kn 55 hb
    refine AZ 1 [] 57 3 1 A H fun fr t H => ?_
    refine AZ 1 [] 59 5 1 A H fun fr t H => ?_
    obtain ⟨x11, hx, hm⟩ := bind_some hm
    obtain ⟨v1, h18, hr, rfl, A1⟩ := Eo (av := [.str x3, .str p1.Be]) hx (A.cut 0)
    replace A := A.E8 A1
    refine A8 60 hr H fun fr t H => ?_
    refine AG 1 [(61, .bool x11)] H fun fr H => ?_
    obtain rfl := Ag hm
    exact at_nil ⟨H.ls, A⟩
   clear A
   intro t fr h17 hK
   obtain ⟨H, A⟩ := hK
   refine BF id (Ak 61 H hm (fun hb hm H => ?_) fun hb hm H => ?_)
   ·refine AH 3 ?_
    obtain ⟨h19, hx, A⟩ := A.s4 0 [.str ([] : List UInt8), .str ([] : List UInt8), Ab 0, Ai 0, Ai 0, Ai 0, .str ([] : List UInt8), .str ([] : List UInt8), Ai 0, Ai 0, Ai 0, Ai 0, .slice none 0, .str ([] : List UInt8)] [_, _, _, _, _, _, _, _, _, _, _, _, _, _]
    refine Fs 1 [] hx H fun fr t H => ?_
    refine AP 1 [(5, Ai 2)] H fun fr H => AY ?_
    obtain ⟨rfl, rfl⟩ := C9 hm
    refine ⟨.inl rfl, .tuple [.agg [.str ([] : List UInt8), .str ([] : List UInt8), Ab 0, Ai 0, Ai 0, Ai 0, .str ([] : List UInt8), .str ([] : List UInt8), Ai 0, Ai 0, Ai 0, Ai 0, .slice none 0, .str ([] : List UInt8)], Ai 2], B8 (.cell (rT H) (B6 (by kernel_rfl) (by kernel_rfl) (A.la 4 0 14)) (.tmp (rT H) .nil)), ?_⟩
    refine ⟨.tuple [.agg [.str ([] : List UInt8), .str ([] : List UInt8), Ab 0, Ai 0, Ai 0, Ai 0, .str ([] : List UInt8), .str ([] : List UInt8), Ai 0, Ai 0, Ai 0, Ai 0, vs Ad ([] : List Am), .str ([] : List UInt8)], Ai 2], h19, by first | rfl | (simp only [KL, KH, KN, J5, KP, KZ, KF, KV, KW, J3, KM, HM, G3, HL, HK, G2, HB, HF, Option.map_some] <;> rfl), ?_⟩
    replace A := A.k2 1 2
    exact ⟨rfl, A⟩
   refine Cc 5 id (AZ 1 [] 64 5 12 A H fun fr t H => ?_)
   have A1 := A.cut 0
   obtain ⟨hb, hm⟩ := BQ hm
   refine As 65 (vs Ad p1.Extra) h17 H (fun fr => Steps.call (by kernel_rfl) (Gh (C := cfg) (f := 88) (a := 0) (t := 90) (xs := p1.Extra) Bx (by decide) (by kernel_rfl) (l := exts) rfl (by kernel_rfl) (by kernel_rfl) rfl (Kx Bx _ p1.Extra) (Bx.BH _) hb)) fun fr t H => ?_
   obtain ⟨h21, hx, A⟩ := A.s3 12 [vs Ad p1.Extra] [_, _, _, _, _, _, _, _, _, _, _, _, _, _]
   refine FH 1 [] hx H fun fr t H => ?_
   refine Cb 3 id (As 67 _ _ H (fun fr => .of (B5 (by kernel_rfl) (A.GQ 3 rfl (o := 0) (n := 14) ⟨Nat.le_of_ble_eq_true rfl, rfl⟩))) fun fr t H => ?_)
   obtain ⟨h22, hx, A⟩ := A.s4 0 (BR p1 (.str x1) (.str x3)) [_, _, _, _, _, _, _, _, _, _, _, _, _, _]
   refine FX hx H fun fr t H => ?_
   refine AP 1 [(5, Ai 0)] H fun fr H => AY ?_
   obtain ⟨rfl, rfl⟩ := C9 hm
   refine ⟨.inl rfl, .tuple [.agg (BR p1 (.str x1) (.str x3)), Ai 0], B8 (.cell (rT H) (B6 (by kernel_rfl) (by kernel_rfl) (A.la 4 0 14)) (.tmp (rT H) .nil)), ?_⟩
   refine ⟨.tuple [.agg (BR p1 (.str x1) (.str x3)), Ai 0], h22, by first | rfl | (simp only [KL, KH, KN, J5, KP, KZ, KF, KV, KW, J3, KM, HM, G3, HL, HK, G2, HB, HF, Option.map_some] <;> rfl), ?_⟩
   replace A := A.k2 1 2
   exact ⟨rfl, A⟩
  ·obtain ⟨rfl, rfl⟩ := C9 hm
   refine ⟨.inl rfl, .tuple [.agg [.str ([] : List UInt8), .str ([] : List UInt8), Ab 0, Ai 0, Ai 0, Ai 0, .str ([] : List UInt8), .str ([] : List UInt8), Ai 0, Ai 0, Ai 0, Ai 0, .slice none 0, .str ([] : List UInt8)], Ai x5], B8 (.cell (rT H) (B6 (by kernel_rfl) (by kernel_rfl) (A.la 4 0 14)) (.tmp (rT H) .nil)), ?_⟩
   refine ⟨.tuple [.agg [.str ([] : List UInt8), .str ([] : List UInt8), Ab 0, Ai 0, Ai 0, Ai 0, .str ([] : List UInt8), .str ([] : List UInt8), Ai 0, Ai 0, Ai 0, Ai 0, vs Ad ([] : List Am), .str ([] : List UInt8)], Ai x5], h14, by first | rfl | (simp only [KL, KH, KN, J5, KP, KZ, KF, KV, KW, J3, KM, HM, G3, HL, HK, G2, HB, HF, Option.map_some] <;> rfl), ?_⟩
   replace A := A.k2 1 2
   exact ⟨rfl, A⟩
  exact hF.elim
 rcases Ac hm with ⟨hb, hm⟩ | ⟨hk2, hm⟩
 ·refine As 29 (.func (.func 85) [] []) h10 H (fun fr => .of (Rq (by kernel_rfl) (HH.Ug (P := cfg.P) A 0 rfl (t := 163) (kt := 5) (et := 162) (by kernel_rfl) (kd' := .u8) (by kernel_rfl) (x := p1.Kind) (.GL hk1 (.hit hb))))) fun fr t H => ?_
  refine AP 1 [(9, .func (.func 85) [] [])] H fun fr H => AV ?_
  obtain ⟨o2, ho, hm⟩ := bind_some hm
  refine BG (Q' := fun e fr' h' => (∃ x12, e = .normal ∧ .inl x12 = o2 ∧ Has fr' 68 [(3, .ptr (some (h.size, 0))), (4, .ptr (some (h1.size, 0))), (6, .ptr (some (h2.size, 0)))] ∧ HH g h' [.obj h6.size (.map 2 [(Ab 50, .func (.func 84) [] []), (Ab 49, .func (.func 85) [] [])]), .obj bp0 (.cells none 2 [AF rp0_0 p0.l_.length, Ai p0.BM]), .AL rp0_0 142 (AL (eP AJ) p0.l_), .obj h2.size (.cells none 2 (BR p1 (.str x1) (.str x12))), .obj h1.size (.cells none 2 [.str ([] : List UInt8), .str ([] : List UInt8), Ab 0, Ai 0, Ai 0, Ai 0, .str ([] : List UInt8), .str ([] : List UInt8), Ai 0, Ai 0, Ai 0, Ai 0, .slice none 0, .str ([] : List UInt8)]), .obj h.size (.cells none 2 (AA p1))] F) ∨ (∃ x13 x14, e = .ret ∧ .inr (x13, x14) = o2 ∧ Has fr' 68 [(4, .ptr (some (h1.size, 0))), (5, Ai x14)] ∧ HH g h' [.obj h6.size (.map 2 [(Ab 50, .func (.func 84) [] []), (Ab 49, .func (.func 85) [] [])]), .obj bp0 (.cells none 2 [AF rp0_0 p0.l_.length, Ai p0.BM]), .AL rp0_0 142 (AL (eP AJ) p0.l_), .obj h2.size (.cells none 2 (BR p1 (.str x1) (.str x13))), .obj h1.size (.cells none 2 [.str ([] : List UInt8), .str ([] : List UInt8), Ab 0, Ai 0, Ai 0, Ai 0, .str ([] : List UInt8), .str ([] : List UInt8), Ai 0, Ai 0, Ai 0, Ai 0, .slice none 0, .str ([] : List UInt8)]), .obj h.size (.cells none 2 (AA p1))] F) ∨ False) ?_ ?_
  ·replace hm := ho
   clear ho
   refine AH 2 (AP 2 [(31, .bool true)] H fun fr H => GI (x := .tmp 31) (by kernel_rfl) H (fun fr => by kernel_rfl) ?_)
   refine AH 11 (AZ 2 [(33, .ptr (some (bp0, 0)))] 35 5 1 A H fun fr t H => ?_)
   replace A := A.k6 1 2 0 3 4 5
   obtain ⟨⟨x15, x16⟩, hx, hm⟩ := bind_some hm
   obtain ⟨v1, h23, hr, rfl, A1⟩ := IA (av := [.ptr (some (bp0, 0)), .str p1.Be, .func (.func 85) [] []]) hx (A.cut 2)
   replace A := A.g22 A1
   refine BD 1 [] 37 hr H fun fr t H => ?_
   obtain ⟨h24, hx, A⟩ := A.s3 1 [.str x15] [_, _, _, _, _, _, _, _, _, _, _, _, _, _]
   refine FH 4 [(39, Ai x16)] hx H fun fr t H => ?_
   refine Bk 1 [(3, .ptr (some (h.size, 0))), (4, .ptr (some (h1.size, 0))), (6, .ptr (some (h2.size, 0))), (8, Ai x16)] H fun fr H => Cb 2 id (AP 2 [(42, .bool (x16 != 0))] H fun fr H => Ak 42 H hm (fun hb hm H => ?_) fun hb hm H => ?_)
   ·refine AH 4 ?_
    obtain ⟨h25, hx, A⟩ := A.s4 0 [.str ([] : List UInt8), .str ([] : List UInt8), Ab 0, Ai 0, Ai 0, Ai 0, .str ([] : List UInt8), .str ([] : List UInt8), Ai 0, Ai 0, Ai 0, Ai 0, .slice none 0, .str ([] : List UInt8)] [_, _, _, _, _, _, _, _, _, _, _, _, _, _]
    refine Fs 2 [(44, Ai x16)] hx H fun fr t H => ?_
    refine AP 1 [(5, Ai x16)] H fun fr H => AY ?_
    replace A := A.k6 2 0 1 3 4 5
    exact .inr (.inl ⟨_, _, rfl, Ag hm, H.ls, A⟩)
   refine HG ?_
   replace A := A.k6 2 0 1 3 4 5
   exact .inl ⟨_, rfl, Ag hm, H.ls, A⟩
  clear ho
  clear A
  intro e fr h26 hQ
  rcases hQ with ⟨x12, rfl, rfl, H, A⟩ | ⟨x13, x14, rfl, rfl, H, A⟩ | hF
  ·show AW _ _ _ _ _ _ _
   refine AV (AH 17 (AZ 1 [] 46 3 0 A H fun fr t H => ?_))
   refine AG 2 [(48, .bool (x1 == ([] : List UInt8)))] H fun fr H => ?_
   obtain ⟨x17, ho, hm⟩ := bind_some hm
   refine Aq 6 (fun fr' h' => Has fr' 68 [(3, .ptr (some (h.size, 0))), (4, .ptr (some (h1.size, 0))), (6, .ptr (some (h2.size, 0))), (54, .bool x17)] ∧ HH g h' [.obj h6.size (.map 2 [(Ab 50, .func (.func 84) [] []), (Ab 49, .func (.func 85) [] [])]), .obj bp0 (.cells none 2 [AF rp0_0 p0.l_.length, Ai p0.BM]), .AL rp0_0 142 (AL (eP AJ) p0.l_), .obj h2.size (.cells none 2 (BR p1 (.str x1) (.str x12))), .obj h1.size (.cells none 2 [.str ([] : List UInt8), .str ([] : List UInt8), Ab 0, Ai 0, Ai 0, Ai 0, .str ([] : List UInt8), .str ([] : List UInt8), Ai 0, Ai 0, Ai 0, Ai 0, .slice none 0, .str ([] : List UInt8)]), .obj h.size (.cells none 2 (AA p1))] F) ?_ ?_
   ·rcases Ac ho with ⟨hb, hm⟩ | ⟨hb, hm⟩
    ·replace H := H.kn 48 hb
     refine AG 6 [(54, .bool true)] H fun fr H => ?_
     obtain rfl := Ag hm
     exact at_nil ⟨H.ls, A⟩
    replace H := H.kn 48 hb
    refine AZ 1 [] 50 3 0 A H fun fr t H => ?_
    refine AZ 1 [] 52 5 0 A H fun fr t H => ?_
    obtain ⟨x18, hx, hm⟩ := bind_some hm
    obtain ⟨v1, h28, hr, rfl, A1⟩ := Eo (av := [.str x1, .str p1.Name]) hx (A.cut 0)
    replace A := A.E8 A1
    refine A8 53 hr H fun fr t H => ?_
    refine AG 1 [(54, .bool x18)] H fun fr H => ?_
    obtain rfl := Ag hm
    exact at_nil ⟨H.ls, A⟩
   clear A
   intro t fr h27 hK
   obtain ⟨H, A⟩ := hK
   refine AG 1 [(55, .bool x17)] H fun fr H => ?_
   obtain ⟨x19, ho, hm⟩ := bind_some hm
   refine Aq 6 (fun fr' h' => Has fr' 68 [(3, .ptr (some (h.size, 0))), (4, .ptr (some (h1.size, 0))), (6, .ptr (some (h2.size, 0))), (61, .bool x19)] ∧ HH g h' [.obj h6.size (.map 2 [(Ab 50, .func (.func 84) [] []), (Ab 49, .func (.func 85) [] [])]), .obj bp0 (.cells none 2 [AF rp0_0 p0.l_.length, Ai p0.BM]), .AL rp0_0 142 (AL (eP AJ) p0.l_), .obj h2.size (.cells none 2 (BR p1 (.str x1) (.str x12))), .obj h1.size (.cells none 2 [.str ([] : List UInt8), .str ([] : List UInt8), Ab 0, Ai 0, Ai 0, Ai 0, .str ([] : List UInt8), .str ([] : List UInt8), Ai 0, Ai 0, Ai 0, Ai 0, .slice none 0, .str ([] : List UInt8)]), .obj h.size (.cells none 2 (AA p1))] F) ?_ ?_
   ·rcases Ac ho with ⟨hb, hm⟩ | ⟨hb, hm⟩
    ·replace H := H.kn 55 hb
     refine AG 6 [(61, .bool true)] H fun fr H => ?_
     obtain rfl := Ag hm
     exact at_nil ⟨H.ls, A⟩
    replace H := H.kn 55 hb
    refine AZ 1 [] 57 3 1 A H fun fr t H => ?_
    refine AZ 1 [] 59 5 1 A H fun fr t H => ?_
    obtain ⟨x20, hx, hm⟩ := bind_some hm
    obtain ⟨v1, h30, hr, rfl, A1⟩ := Eo (av := [.str x12, .str p1.Be]) hx (A.cut 0)
    replace A := A.E8 A1
    refine A8 60 hr H fun fr t H => ?_
    refine AG 1 [(61, .bool x20)] H fun fr H => ?_
    obtain rfl := Ag hm
    exact at_nil ⟨H.ls, A⟩
   clear A
   intro t fr h29 hK
   obtain ⟨H, A⟩ := hK
   refine BF id (Ak 61 H hm (fun hb hm H => ?_) fun hb hm H => ?_)
   ·refine AH 3 ?_
    obtain ⟨h31, hx, A⟩ := A.s4 0 [.str ([] : List UInt8), .str ([] : List UInt8), Ab 0, Ai 0, Ai 0, Ai 0, .str ([] : List UInt8), .str ([] : List UInt8), Ai 0, Ai 0, Ai 0, Ai 0, .slice none 0, .str ([] : List UInt8)] [_, _, _, _, _, _, _, _, _, _, _, _, _, _]
    refine Fs 1 [] hx H fun fr t H => ?_
    refine AP 1 [(5, Ai 2)] H fun fr H => AY ?_
    obtain ⟨rfl, rfl⟩ := C9 hm
    refine ⟨.inl rfl, .tuple [.agg [.str ([] : List UInt8), .str ([] : List UInt8), Ab 0, Ai 0, Ai 0, Ai 0, .str ([] : List UInt8), .str ([] : List UInt8), Ai 0, Ai 0, Ai 0, Ai 0, .slice none 0, .str ([] : List UInt8)], Ai 2], B8 (.cell (rT H) (B6 (by kernel_rfl) (by kernel_rfl) (A.la 4 0 14)) (.tmp (rT H) .nil)), ?_⟩
    refine ⟨.tuple [.agg [.str ([] : List UInt8), .str ([] : List UInt8), Ab 0, Ai 0, Ai 0, Ai 0, .str ([] : List UInt8), .str ([] : List UInt8), Ai 0, Ai 0, Ai 0, Ai 0, vs Ad ([] : List Am), .str ([] : List UInt8)], Ai 2], h31, by first | rfl | (simp only [KL, KH, KN, J5, KP, KZ, KF, KV, KW, J3, KM, HM, G3, HL, HK, G2, HB, HF, Option.map_some] <;> rfl), ?_⟩
    replace A := A.k2 1 2
    exact ⟨rfl, A⟩
   refine Cc 5 id (AZ 1 [] 64 5 12 A H fun fr t H => ?_)
   have A1 := A.cut 0
   obtain ⟨hb, hm⟩ := BQ hm
   refine As 65 (vs Ad p1.Extra) h29 H (fun fr => Steps.call (by kernel_rfl) (Gh (C := cfg) (f := 88) (a := 0) (t := 90) (xs := p1.Extra) Bx (by decide) (by kernel_rfl) (l := exts) rfl (by kernel_rfl) (by kernel_rfl) rfl (Kx Bx _ p1.Extra) (Bx.BH _) hb)) fun fr t H => ?_
   obtain ⟨h33, hx, A⟩ := A.s3 12 [vs Ad p1.Extra] [_, _, _, _, _, _, _, _, _, _, _, _, _, _]
   refine FH 1 [] hx H fun fr t H => ?_
   refine Cb 3 id (As 67 _ _ H (fun fr => .of (B5 (by kernel_rfl) (A.GQ 3 rfl (o := 0) (n := 14) ⟨Nat.le_of_ble_eq_true rfl, rfl⟩))) fun fr t H => ?_)
   obtain ⟨h34, hx, A⟩ := A.s4 0 (BR p1 (.str x1) (.str x12)) [_, _, _, _, _, _, _, _, _, _, _, _, _, _]
   refine FX hx H fun fr t H => ?_
   refine AP 1 [(5, Ai 0)] H fun fr H => AY ?_
   obtain ⟨rfl, rfl⟩ := C9 hm
   refine ⟨.inl rfl, .tuple [.agg (BR p1 (.str x1) (.str x12)), Ai 0], B8 (.cell (rT H) (B6 (by kernel_rfl) (by kernel_rfl) (A.la 4 0 14)) (.tmp (rT H) .nil)), ?_⟩
   refine ⟨.tuple [.agg (BR p1 (.str x1) (.str x12)), Ai 0], h34, by first | rfl | (simp only [KL, KH, KN, J5, KP, KZ, KF, KV, KW, J3, KM, HM, G3, HL, HK, G2, HB, HF, Option.map_some] <;> rfl), ?_⟩
   replace A := A.k2 1 2
   exact ⟨rfl, A⟩
  ·obtain ⟨rfl, rfl⟩ := C9 hm
   refine ⟨.inl rfl, .tuple [.agg [.str ([] : List UInt8), .str ([] : List UInt8), Ab 0, Ai 0, Ai 0, Ai 0, .str ([] : List UInt8), .str ([] : List UInt8), Ai 0, Ai 0, Ai 0, Ai 0, .slice none 0, .str ([] : List UInt8)], Ai x14], B8 (.cell (rT H) (B6 (by kernel_rfl) (by kernel_rfl) (A.la 4 0 14)) (.tmp (rT H) .nil)), ?_⟩
   refine ⟨.tuple [.agg [.str ([] : List UInt8), .str ([] : List UInt8), Ab 0, Ai 0, Ai 0, Ai 0, .str ([] : List UInt8), .str ([] : List UInt8), Ai 0, Ai 0, Ai 0, Ai 0, vs Ad ([] : List Am), .str ([] : List UInt8)], Ai x14], h26, by first | rfl | (simp only [KL, KH, KN, J5, KP, KZ, KF, KV, KW, J3, KM, HM, G3, HL, HK, G2, HB, HF, Option.map_some] <;> rfl), ?_⟩
   replace A := A.k2 1 2
   exact ⟨rfl, A⟩
  exact hF.elim
 refine As 29 (.nilFunc) h10 H (fun fr => .of (Rq (by kernel_rfl) (HH.VZ (P := cfg.P) A 0 rfl (t := 163) (kt := 5) (et := 162) (by kernel_rfl) (kd' := .u8) (by kernel_rfl) (z := .nilFunc) (by kernel_rfl) (x := p1.Kind) (.GL hk1 (.GL hk2 (.nil)))))) fun fr t H => ?_
 refine AP 1 [(9, .nilFunc)] H fun fr H => AV ?_
 obtain ⟨o3, ho, hm⟩ := bind_some hm
 refine BG (Q' := fun e fr' h' => (e = .normal ∧ () = o3 ∧ Has fr' 68 [(3, .ptr (some (h.size, 0))), (4, .ptr (some (h1.size, 0))), (6, .ptr (some (h2.size, 0)))] ∧ HH g h' [.obj h6.size (.map 2 [(Ab 50, .func (.func 84) [] []), (Ab 49, .func (.func 85) [] [])]), .obj bp0 (.cells none 2 [AF rp0_0 p0.l_.length, Ai p0.BM]), .AL rp0_0 142 (AL (eP AJ) p0.l_), .obj h2.size (.cells none 2 (Dv p1 (.str x1))), .obj h1.size (.cells none 2 [.str ([] : List UInt8), .str ([] : List UInt8), Ab 0, Ai 0, Ai 0, Ai 0, .str ([] : List UInt8), .str ([] : List UInt8), Ai 0, Ai 0, Ai 0, Ai 0, .slice none 0, .str ([] : List UInt8)]), .obj h.size (.cells none 2 (AA p1))] F) ∨ False) ?_ ?_
 ·replace hm := ho
  clear ho
  refine AH 2 (AP 2 [(31, .bool false)] H fun fr H => OY (x := .tmp 31) (by kernel_rfl) H (fun fr => by kernel_rfl) ?_)
  exact HG (.inl ⟨rfl, Ag hm, H.ls, A⟩)
 clear ho
 clear A
 intro e fr h35 hQ
 rcases hQ with ⟨rfl, rfl, H, A⟩ | hF
 ·show AW _ _ _ _ _ _ _
  refine AV (AH 17 (AZ 1 [] 46 3 0 A H fun fr t H => ?_))
  refine AG 2 [(48, .bool (x1 == ([] : List UInt8)))] H fun fr H => ?_
  obtain ⟨x21, ho, hm⟩ := bind_some hm
  refine Aq 6 (fun fr' h' => Has fr' 68 [(3, .ptr (some (h.size, 0))), (4, .ptr (some (h1.size, 0))), (6, .ptr (some (h2.size, 0))), (54, .bool x21)] ∧ HH g h' [.obj h6.size (.map 2 [(Ab 50, .func (.func 84) [] []), (Ab 49, .func (.func 85) [] [])]), .obj bp0 (.cells none 2 [AF rp0_0 p0.l_.length, Ai p0.BM]), .AL rp0_0 142 (AL (eP AJ) p0.l_), .obj h2.size (.cells none 2 (Dv p1 (.str x1))), .obj h1.size (.cells none 2 [.str ([] : List UInt8), .str ([] : List UInt8), Ab 0, Ai 0, Ai 0, Ai 0, .str ([] : List UInt8), .str ([] : List UInt8), Ai 0, Ai 0, Ai 0, Ai 0, .slice none 0, .str ([] : List UInt8)]), .obj h.size (.cells none 2 (AA p1))] F) ?_ ?_
  ·rcases Ac ho with ⟨hb, hm⟩ | ⟨hb, hm⟩
   ·replace H := H.kn 48 hb
    refine AG 6 [(54, .bool true)] H fun fr H => ?_
    obtain rfl := Ag hm
    exact at_nil ⟨H.ls, A⟩
   replace H := H.kn 48 hb
   refine AZ 1 [] 50 3 0 A H fun fr t H => ?_
   refine AZ 1 [] 52 5 0 A H fun fr t H => ?_
   obtain ⟨x22, hx, hm⟩ := bind_some hm
   obtain ⟨v1, h37, hr, rfl, A1⟩ := Eo (av := [.str x1, .str p1.Name]) hx (A.cut 0)
   replace A := A.E8 A1
   refine A8 53 hr H fun fr t H => ?_
   refine AG 1 [(54, .bool x22)] H fun fr H => ?_
   obtain rfl := Ag hm
   exact at_nil ⟨H.ls, A⟩
  clear A
  intro t fr h36 hK
  obtain ⟨H, A⟩ := hK
  refine AG 1 [(55, .bool x21)] H fun fr H => ?_
  obtain ⟨x23, ho, hm⟩ := bind_some hm
  refine Aq 6 (fun fr' h' => Has fr' 68 [(3, .ptr (some (h.size, 0))), (4, .ptr (some (h1.size, 0))), (6, .ptr (some (h2.size, 0))), (61, .bool x23)] ∧ HH g h' [.obj h6.size (.map 2 [(Ab 50, .func (.func 84) [] []), (Ab 49, .func (.func 85) [] [])]), .obj bp0 (.cells none 2 [AF rp0_0 p0.l_.length, Ai p0.BM]), .AL rp0_0 142 (AL (eP AJ) p0.l_), .obj h2.size (.cells none 2 (Dv p1 (.str x1))), .obj h1.size (.cells none 2 [.str ([] : List UInt8), .str ([] : List UInt8), Ab 0, Ai 0, Ai 0, Ai 0, .str ([] : List UInt8), .str ([] : List UInt8), Ai 0, Ai 0, Ai 0, Ai 0, .slice none 0, .str ([] : List UInt8)]), .obj h.size (.cells none 2 (AA p1))] F) ?_ ?_
  ·rcases Ac ho with ⟨hb, hm⟩ | ⟨hb, hm⟩
   ·replace H := H.kn 55 hb
    refine AG 6 [(61, .bool true)] H fun fr H => ?_
    obtain rfl := Ag hm
    exact at_nil ⟨H.ls, A⟩
   replace H := H.kn 55 hb
   refine AZ 1 [] 57 3 1 A H fun fr t H => ?_
   refine AZ 1 [] 59 5 1 A H fun fr t H => ?_
   obtain ⟨x24, hx, hm⟩ := bind_some hm
   obtain ⟨v1, h39, hr, rfl, A1⟩ := Eo (av := [.str p1.Be, .str p1.Be]) hx (A.cut 0)
   replace A := A.E8 A1
   refine A8 60 hr H fun fr t H => ?_
   refine AG 1 [(61, .bool x24)] H fun fr H => ?_
   obtain rfl := Ag hm
   exact at_nil ⟨H.ls, A⟩
  clear A
  intro t fr h38 hK
  obtain ⟨H, A⟩ := hK
  refine BF id (Ak 61 H hm (fun hb hm H => ?_) fun hb hm H => ?_)
  ·refine AH 3 ?_
   obtain ⟨h40, hx, A⟩ := A.s4 0 [.str ([] : List UInt8), .str ([] : List UInt8), Ab 0, Ai 0, Ai 0, Ai 0, .str ([] : List UInt8), .str ([] : List UInt8), Ai 0, Ai 0, Ai 0, Ai 0, .slice none 0, .str ([] : List UInt8)] [_, _, _, _, _, _, _, _, _, _, _, _, _, _]
   refine Fs 1 [] hx H fun fr t H => ?_
   refine AP 1 [(5, Ai 2)] H fun fr H => AY ?_
   obtain ⟨rfl, rfl⟩ := C9 hm
   refine ⟨.inl rfl, .tuple [.agg [.str ([] : List UInt8), .str ([] : List UInt8), Ab 0, Ai 0, Ai 0, Ai 0, .str ([] : List UInt8), .str ([] : List UInt8), Ai 0, Ai 0, Ai 0, Ai 0, .slice none 0, .str ([] : List UInt8)], Ai 2], B8 (.cell (rT H) (B6 (by kernel_rfl) (by kernel_rfl) (A.la 4 0 14)) (.tmp (rT H) .nil)), ?_⟩
   refine ⟨.tuple [.agg [.str ([] : List UInt8), .str ([] : List UInt8), Ab 0, Ai 0, Ai 0, Ai 0, .str ([] : List UInt8), .str ([] : List UInt8), Ai 0, Ai 0, Ai 0, Ai 0, vs Ad ([] : List Am), .str ([] : List UInt8)], Ai 2], h40, by first | rfl | (simp only [KL, KH, KN, J5, KP, KZ, KF, KV, KW, J3, KM, HM, G3, HL, HK, G2, HB, HF, Option.map_some] <;> rfl), ?_⟩
   replace A := A.k2 1 2
   exact ⟨rfl, A⟩
  refine Cc 5 id (AZ 1 [] 64 5 12 A H fun fr t H => ?_)
  have A1 := A.cut 0
  obtain ⟨hb, hm⟩ := BQ hm
  refine As 65 (vs Ad p1.Extra) h38 H (fun fr => Steps.call (by kernel_rfl) (Gh (C := cfg) (f := 88) (a := 0) (t := 90) (xs := p1.Extra) Bx (by decide) (by kernel_rfl) (l := exts) rfl (by kernel_rfl) (by kernel_rfl) rfl (Kx Bx _ p1.Extra) (Bx.BH _) hb)) fun fr t H => ?_
  obtain ⟨h42, hx, A⟩ := A.s3 12 [vs Ad p1.Extra] [_, _, _, _, _, _, _, _, _, _, _, _, _, _]
  refine FH 1 [] hx H fun fr t H => ?_
  refine Cb 3 id (As 67 _ _ H (fun fr => .of (B5 (by kernel_rfl) (A.GQ 3 rfl (o := 0) (n := 14) ⟨Nat.le_of_ble_eq_true rfl, rfl⟩))) fun fr t H => ?_)
  obtain ⟨h43, hx, A⟩ := A.s4 0 (Dv p1 (.str x1)) [_, _, _, _, _, _, _, _, _, _, _, _, _, _]
  refine FX hx H fun fr t H => ?_
  refine AP 1 [(5, Ai 0)] H fun fr H => AY ?_
  obtain ⟨rfl, rfl⟩ := C9 hm
  refine ⟨.inl rfl, .tuple [.agg (Dv p1 (.str x1)), Ai 0], B8 (.cell (rT H) (B6 (by kernel_rfl) (by kernel_rfl) (A.la 4 0 14)) (.tmp (rT H) .nil)), ?_⟩
  refine ⟨.tuple [.agg (Dv p1 (.str x1)), Ai 0], h43, by first | rfl | (simp only [KL, KH, KN, J5, KP, KZ, KF, KV, KW, J3, KM, HM, G3, HL, HK, G2, HB, HF, Option.map_some] <;> rfl), ?_⟩
  replace A := A.k2 1 2
  exact ⟨rfl, A⟩
 exact hF.elim
def Bw (p0 : BO) (p1 : AK) (p2 : BA) : Option (AK × Int × Int × BS) :=
 (CS p0 p1).bind fun x1 => Af (x1 != 0) (some ((⟨([] : List UInt8), ([] : List UInt8), (0 : Int), (0 : Int), (0 : Int), (0 : Int), ([] : List UInt8), ([] : List UInt8), (0 : Int), (0 : Int), (⟨(0 : Int), (0 : Int)⟩ : Ar), ([] : List Am), ([] : List UInt8)⟩ : AK), x1, (0 : Int), p0.Ae)) ((CC p1 p2 p0).bind fun x2 => Af (x2 != 0) (some ((⟨([] : List UInt8), ([] : List UInt8), (0 : Int), (0 : Int), (0 : Int), (0 : Int), ([] : List UInt8), ([] : List UInt8), (0 : Int), (0 : Int), (⟨(0 : Int), (0 : Int)⟩ : Ar), ([] : List Am), ([] : List UInt8)⟩ : AK), x2, (0 : Int), p0.Ae)) ((DS p0 p1).bind fun x3 => Af (x3 != 0) (some ((⟨([] : List UInt8), ([] : List UInt8), (0 : Int), (0 : Int), (0 : Int), (0 : Int), ([] : List UInt8), ([] : List UInt8), (0 : Int), (0 : Int), (⟨(0 : Int), (0 : Int)⟩ : Ar), ([] : List Am), ([] : List UInt8)⟩ : AK), x3, (0 : Int), p0.Ae)) ((CK p0 p1).bind fun (x4, x5) => Af (x4 != 0) (some ((⟨([] : List UInt8), ([] : List UInt8), (0 : Int), (0 : Int), (0 : Int), (0 : Int), ([] : List UInt8), ([] : List UInt8), (0 : Int), (0 : Int), (⟨(0 : Int), (0 : Int)⟩ : Ar), ([] : List Am), ([] : List UInt8)⟩ : AK), x4, (0 : Int), x5)) ((CQ (⟨p0.c_, p0.AR, p0.AU, p0.AX, x5⟩ : BO) p1).bind fun x6 => Af (x6 != 0) (some ((⟨([] : List UInt8), ([] : List UInt8), (0 : Int), (0 : Int), (0 : Int), (0 : Int), ([] : List UInt8), ([] : List UInt8), (0 : Int), (0 : Int), (⟨(0 : Int), (0 : Int)⟩ : Ar), ([] : List Am), ([] : List UInt8)⟩ : AK), x6, (0 : Int), x5)) ((EW p1.Name p0.c_.Bz).bind fun (x7, x8) => ((EW p1.Be p0.c_.Bz).bind fun (x10, x11) => Af (x11 && (p1.Kind == 49)) (some x10) (some p1.Be) : Option (((List UInt8)))).bind fun x9 => (Cs p0.AX (⟨x7, x9, p1.Kind, p1.Mode, p1.De, p1.ET, p1.B1, p1.CI, p1.CG, p1.Da, p1.Time, p1.Extra, p1.Data⟩ : AK)).bind fun (x12, x13) => some (x12, (0 : Int), x13, x5))))))
theorem Fe {p0 p1 p2 bp0 rp0_14 rp0_15 bp0_16 rp0_16_0 bp0_17 bp2 bp2_0 q0 q1 q2 u5} (hm : Bw p0 p1 p2 = some (q0, q1, q2, u5)) (A : HH g h [.obj bp0 (.cells none 2 [vs AE p0.c_.Ah, vs AE p0.c_.Aj, vs AI p0.c_.Bj, .bool p0.c_.G1, .bool p0.c_.BE, Ai p0.c_.Bc, .bool p0.c_.B4, Ai p0.c_.Ay.Cf, Ai p0.c_.Ay.Bb, Ai p0.c_.Ge, Ai p0.c_.Bz, Ai p0.c_.Name, Ai p0.c_.Head, Ai p0.c_.BU, AF rp0_14 p0.AR.length, AF rp0_15 p0.AU.length, .ptr (some (bp0_16, 0)), .ptr (some (bp0_17, 0))]), .AL rp0_14 136 (AL (eP AB) p0.AR), .AL rp0_15 136 (AL (eP AB) p0.AU), .obj bp0_16 (.cells none 2 [AF rp0_16_0 p0.AX.l_.length, Ai p0.AX.BM]), .AL rp0_16_0 142 (AL (eP AJ) p0.AX.l_), .obj bp0_17 (.cells none 2 ([Ai p0.Ae.n_, Ai p0.Ae.An] ++ (CW 257 (AD.int .i64) p0.Ae.Aw ++ []))), .obj bp2 (.cells none 2 [.map (some bp2_0)]), .obj bp2_0 (.map 2 (BZ (fun k : List UInt8 => .str k) (fun v : Bool => .bool v) p2.DD))] F) (hc : BH (cfg.still 15) av = [.ptr (some (bp0, 0)), .agg (AA p1), .ptr (some (bp2, 0))] := by kernel_rfl) : ∃ v h', BN cfg g h 15 av v h' ∧ v = .tuple [.agg (AA q0), Ai q1, Ai q2] ∧ HH g h' [.obj bp0 (.cells none 2 [vs AE p0.c_.Ah, vs AE p0.c_.Aj, vs AI p0.c_.Bj, .bool p0.c_.G1, .bool p0.c_.BE, Ai p0.c_.Bc, .bool p0.c_.B4, Ai p0.c_.Ay.Cf, Ai p0.c_.Ay.Bb, Ai p0.c_.Ge, Ai p0.c_.Bz, Ai p0.c_.Name, Ai p0.c_.Head, Ai p0.c_.BU, AF rp0_14 p0.AR.length, AF rp0_15 p0.AU.length, .ptr (some (bp0_16, 0)), .ptr (some (bp0_17, 0))]), .AL rp0_14 136 (AL (eP AB) p0.AR), .AL rp0_15 136 (AL (eP AB) p0.AU), .obj bp0_16 (.cells none 2 [AF rp0_16_0 p0.AX.l_.length, Ai p0.AX.BM]), .AL rp0_16_0 142 (AL (eP AJ) p0.AX.l_), .obj bp0_17 (.cells none 2 ([Ai u5.n_, Ai u5.An] ++ (CW 257 (AD.int .i64) u5.Aw ++ []))), .obj bp2 (.cells none 2 [.map (some bp2_0)]), .obj bp2_0 (.map 2 (BZ (fun k : List UInt8 => .str k) (fun v : Bool => .bool v) p2.DD))] F := by
 refine Xz 83 [.cell 6 44, .tmp 7, .tmp 8] hc ?_
 clear hc
 unfold Bw at hm
 refine bg 83 [(0, .ptr (some (bp0, 0))), (1, .agg (AA p1)), (2, .ptr (some (bp2, 0)))] fun fr H => ?_
 refine AH 6 ?_
 obtain ⟨h1, e1, A⟩ := A.pu (.cells none 2 [.ptr (some (bp0, 0))])
 refine A7 3 (.ptr (some (h.size, 0))) e1 H fun fr t H => ?_
 obtain ⟨h2, e2, A⟩ := A.pu (.cells none 2 (AA p1))
 refine A7 4 (.ptr (some (h1.size, 0))) e2 H fun fr t H => ?_
 obtain ⟨h3, e3, A⟩ := A.pu (.cells none 2 [.ptr (some (bp2, 0))])
 refine A7 5 (.ptr (some (h2.size, 0))) e3 H fun fr t H => ?_
 obtain ⟨h4, e4, A⟩ := A.pu (.cells none 2 [.str ([] : List UInt8), .str ([] : List UInt8), Ab 0, Ai 0, Ai 0, Ai 0, .str ([] : List UInt8), .str ([] : List UInt8), Ai 0, Ai 0, Ai 0, Ai 0, .slice none 0, .str ([] : List UInt8)])
 refine A7 6 (.ptr (some (h3.size, 0))) e4 H fun fr t H => ?_
 refine Bn 2 [] 2 H fun fr H => AP 2 [(9, .func (.func 39) [] [.ptr (some (h2.size, 0)), .ptr (some (h.size, 0))])] H fun fr H => AV (AH 12 (Ek 18 3 0 A H fun fr t H => ?_))
 refine AZ 2 [(19, .func (.func 40) [.ptr (some (bp0, 0))] []), (20, .func (.func 39) [] [.ptr (some (h2.size, 0)), .ptr (some (h.size, 0))])] 21 3 0 A H fun fr t H => ?_
 refine AZ 1 [(22, .func (.func 41) [.ptr (some (bp0, 0))] [])] 23 3 0 A H fun fr t H => ?_
 refine AZ 1 [(24, .func (.func 42) [.ptr (some (bp0, 0))] [])] 25 3 0 A H fun fr t H => ?_
 refine AG 1 [(26, .func (.func 43) [.ptr (some (bp0, 0))] [])] H fun fr H => ?_
 obtain ⟨h5, e5⟩ : ∃ x, x = h4.push (.cells (some 48) 2 [.func (.func 40) [.ptr (some (bp0, 0))] [], .func (.func 39) [] [.ptr (some (h2.size, 0)), .ptr (some (h.size, 0))], .func (.func 41) [.ptr (some (bp0, 0))] [], .func (.func 42) [.ptr (some (bp0, 0))] [], .func (.func 43) [.ptr (some (bp0, 0))] []]) := ⟨_, rfl⟩
 replace A : HH g h5 [.obj h4.size (.cells (some 48) 2 [.func (.func 40) [.ptr (some (bp0, 0))] [], .func (.func 39) [] [.ptr (some (h2.size, 0)), .ptr (some (h.size, 0))], .func (.func 41) [.ptr (some (bp0, 0))] [], .func (.func 42) [.ptr (some (bp0, 0))] [], .func (.func 43) [.ptr (some (bp0, 0))] []]), .obj h3.size (.cells none 2 [.str ([] : List UInt8), .str ([] : List UInt8), Ab 0, Ai 0, Ai 0, Ai 0, .str ([] : List UInt8), .str ([] : List UInt8), Ai 0, Ai 0, Ai 0, Ai 0, .slice none 0, .str ([] : List UInt8)]), .obj h2.size (.cells none 2 [.ptr (some (bp2, 0))]), .obj h1.size (.cells none 2 (AA p1)), .obj h.size (.cells none 2 [.ptr (some (bp0, 0))]), _, _, _, _, _, _, _, _] F := (A.push _).to e5
 refine A7 27 (.slice (some (h4.size, 0)) 5) e5 H fun fr t H => ?_
 refine AP 2 [(28, Ai 5), (29, Ai 0)] H fun fr H => Aa (id := 0) (by kernel_rfl) ?_
 refine Ia (by kernel_rfl) ?_
 refine AH 1 (AP 1 [(30, .bool true)] H fun fr H => AV (GI (x := .tmp 30) (by kernel_rfl) H (fun fr => by kernel_rfl) ?_))
 refine Br id (AV (Aa (id := 1) (by kernel_rfl) ?_))
 refine AH 3 (AZ 1 [] 32 0 0 A H fun fr t H => ?_)
 refine Bn 1 [(11, .func (.func 40) [.ptr (some (bp0, 0))] [])] 4 H fun fr H => Ax 1 [(33, .func (.func 40) [.ptr (some (bp0, 0))] [])] 34 _ _ H (fun fr => .of (B5 (by kernel_rfl) (A.GQ 3 rfl (o := 0) (n := 14) ⟨Nat.le_of_ble_eq_true rfl, rfl⟩))) fun fr t H => ?_
 replace A : HH g h5 [_, _, _, _, _, _, _, _, _, _, _, _, _] F := ((((((A.front 10 rfl).front 10 rfl).front 10 rfl).front 10 rfl).front 10 rfl).front 10 rfl)
 obtain ⟨x1, hx, hm⟩ := bind_some hm
 obtain ⟨v1, h6, hr, rfl, A1⟩ := Hq (av := [.ptr (some (bp0, 0)), .agg (AA p1)]) hx (A.cut 6)
 replace A : HH g h6 [.obj bp0 (.cells none 2 [_, _, _, _, _, _, _, _, _, _, _, _, _, _, _, _, _, _]), .AL rp0_14 136 (AL (eP AB) p0.AR), .AL rp0_15 136 (AL (eP AB) p0.AU), .obj bp0_16 (.cells none 2 [AF rp0_16_0 p0.AX.l_.length, Ai p0.AX.BM]), .AL rp0_16_0 142 (AL (eP AJ) p0.AX.l_), .obj bp0_17 (.cells none 2 ([Ai p0.Ae.n_, Ai p0.Ae.An] ++ (CW 257 (AD.int .i64) p0.Ae.Aw ++ []))), _, _, _, _, _, _, _] F := A.CY (n := 6) A1
 refine A8 35 hr H fun fr t H => ?_
 refine Bn 1 [(12, Ai x1)] 2 H fun fr H => AP 2 [(37, .bool (x1 != 0))] H fun fr H => Ak 37 H hm (fun hb hm H => ?_) fun hb hm H => ?_
 ·refine AH 5 ?_
  obtain ⟨h7, hx, A⟩ := A.s7 0 [.str ([] : List UInt8), .str ([] : List UInt8), Ab 0, Ai 0, Ai 0, Ai 0, .str ([] : List UInt8), .str ([] : List UInt8), Ai 0, Ai 0, Ai 0, Ai 0, .slice none 0, .str ([] : List UInt8)] [_, _, _, _, _, _, _, _, _, _, _, _, _, _]
  refine Fs 2 [(39, Ai x1)] hx H fun fr t H => ?_
  refine AP 2 [(7, Ai x1), (8, Ai 0)] H fun fr H => AY ?_
  obtain ⟨rfl, rfl, rfl, rfl⟩ := SJ hm
  refine ⟨.inl rfl, .tuple [.agg [.str ([] : List UInt8), .str ([] : List UInt8), Ab 0, Ai 0, Ai 0, Ai 0, .str ([] : List UInt8), .str ([] : List UInt8), Ai 0, Ai 0, Ai 0, Ai 0, .slice none 0, .str ([] : List UInt8)], Ai x1, Ai 0], B8 (.cell (rT H) (B6 (by kernel_rfl) (by kernel_rfl) (A.la 7 0 14)) (.tmp (rT H) (.tmp (rT H) .nil))), ?_⟩
  refine ⟨.tuple [.agg [.str ([] : List UInt8), .str ([] : List UInt8), Ab 0, Ai 0, Ai 0, Ai 0, .str ([] : List UInt8), .str ([] : List UInt8), Ai 0, Ai 0, Ai 0, Ai 0, vs Ad ([] : List Am), .str ([] : List UInt8)], Ai x1, Ai 0], h7, by first | rfl | (simp only [KL, KH, KN, J5, KP, KZ, KF, KV, KW, J3, KM, HM, G3, HL, HK, G2, HB, HF, Option.map_some] <;> rfl), ?_⟩
  replace A := A.k8 0 1 2 3 4 5 11 12
  exact ⟨rfl, A⟩
 refine Fg 2 id (Bk 2 [(3, .ptr (some (h.size, 0))), (4, .ptr (some (h1.size, 0))), (6, .ptr (some (h3.size, 0))), (27, .slice (some (h4.size, 0)) 5), (28, Ai 5), (29, Ai 1)] H fun fr H => BF id (Ia (by kernel_rfl) ?_))
 refine AH 1 (AP 1 [(30, .bool true)] H fun fr H => AV (GI (x := .tmp 30) (by kernel_rfl) H (fun fr => by kernel_rfl) ?_))
 refine Br id (AV (Aa (id := 1) (by kernel_rfl) ?_))
 refine AH 3 (AZ 1 [] 32 6 1 A H fun fr t H => ?_)
 refine Bn 1 [(11, .func (.func 39) [] [.ptr (some (h2.size, 0)), .ptr (some (h.size, 0))])] 4 H fun fr H => Ax 1 [(33, .func (.func 39) [] [.ptr (some (h2.size, 0)), .ptr (some (h.size, 0))])] 34 _ _ H (fun fr => .of (B5 (by kernel_rfl) (A.GQ 9 rfl (o := 0) (n := 14) ⟨Nat.le_of_ble_eq_true rfl, rfl⟩))) fun fr t H => ?_
 replace A : HH g h6 [_, _, _, _, _, _, _, _, _, _, _, _, _] F := ((((((((((A.front 5 rfl).front 5 rfl).front 5 rfl).front 5 rfl).front 5 rfl).front 5 rfl).front 10 rfl).front 12 rfl).front 12 rfl).front 11 rfl)
 obtain ⟨x2, hx, hm⟩ := bind_some hm
 obtain ⟨v1, h8, hr, rfl, A1⟩ := Gz (av := [.agg (AA p1), .ptr (some (h2.size, 0)), .ptr (some (h.size, 0))]) hx (A.cut 10)
 replace A : HH g h8 [.obj h2.size (.cells none 2 [.ptr (some (bp2, 0))]), .obj bp2 (.cells none 2 [.map (some bp2_0)]), .obj bp2_0 (.map 2 (BZ (fun k : List UInt8 => .str k) (fun v : Bool => .bool v) p2.DD)), .obj h.size (.cells none 2 [.ptr (some (bp0, 0))]), .obj bp0 (.cells none 2 [_, _, _, _, _, _, _, _, _, _, _, _, _, _, _, _, _, _]), .AL rp0_14 136 (AL (eP AB) p0.AR), .AL rp0_15 136 (AL (eP AB) p0.AU), .obj bp0_16 (.cells none 2 [AF rp0_16_0 p0.AX.l_.length, Ai p0.AX.BM]), .AL rp0_16_0 142 (AL (eP AJ) p0.AX.l_), .obj bp0_17 (.cells none 2 ([Ai p0.Ae.n_, Ai p0.Ae.An] ++ (CW 257 (AD.int .i64) p0.Ae.Aw ++ []))), _, _, _] F := A.CY (n := 10) A1
 refine A8 35 hr H fun fr t H => ?_
 refine Bn 1 [(12, Ai x2)] 2 H fun fr H => AP 2 [(37, .bool (x2 != 0))] H fun fr H => Ak 37 H hm (fun hb hm H => ?_) fun hb hm H => ?_
 ·refine AH 5 ?_
  obtain ⟨h9, hx, A1⟩ := A.st 11 rfl (o := 0) (new := [.str ([] : List UInt8), .str ([] : List UInt8), Ab 0, Ai 0, Ai 0, Ai 0, .str ([] : List UInt8), .str ([] : List UInt8), Ai 0, Ai 0, Ai 0, Ai 0, .slice none 0, .str ([] : List UInt8)]) (ds := [.str ([] : List UInt8), .str ([] : List UInt8), Ab 0, Ai 0, Ai 0, Ai 0, .str ([] : List UInt8), .str ([] : List UInt8), Ai 0, Ai 0, Ai 0, Ai 0, .slice none 0, .str ([] : List UInt8)]) (Nat.le_of_ble_eq_true rfl) rfl rfl
  replace A : HH g h9 [_, _, _, _, _, _, _, _, _, _, _, _, _] F := A1
  refine Fs 2 [(39, Ai x2)] hx H fun fr t H => ?_
  refine AP 2 [(7, Ai x2), (8, Ai 0)] H fun fr H => AY ?_
  obtain ⟨rfl, rfl, rfl, rfl⟩ := SJ hm
  refine ⟨.inl rfl, .tuple [.agg [.str ([] : List UInt8), .str ([] : List UInt8), Ab 0, Ai 0, Ai 0, Ai 0, .str ([] : List UInt8), .str ([] : List UInt8), Ai 0, Ai 0, Ai 0, Ai 0, .slice none 0, .str ([] : List UInt8)], Ai x2, Ai 0], B8 (.cell (rT H) (B6 (by kernel_rfl) (by kernel_rfl) (A.la 11 0 14)) (.tmp (rT H) (.tmp (rT H) .nil))), ?_⟩
  refine ⟨.tuple [.agg [.str ([] : List UInt8), .str ([] : List UInt8), Ab 0, Ai 0, Ai 0, Ai 0, .str ([] : List UInt8), .str ([] : List UInt8), Ai 0, Ai 0, Ai 0, Ai 0, vs Ad ([] : List Am), .str ([] : List UInt8)], Ai x2, Ai 0], h9, by first | rfl | (simp only [KL, KH, KN, J5, KP, KZ, KF, KV, KW, J3, KM, HM, G3, HL, HK, G2, HB, HF, Option.map_some] <;> rfl), ?_⟩
  replace A := A.k8 4 5 6 7 8 9 1 2
  exact ⟨rfl, A⟩
 refine Fg 2 id (Bk 2 [(3, .ptr (some (h.size, 0))), (4, .ptr (some (h1.size, 0))), (6, .ptr (some (h3.size, 0))), (27, .slice (some (h4.size, 0)) 5), (28, Ai 5), (29, Ai 2)] H fun fr H => BF id (Ia (by kernel_rfl) ?_))
 refine AH 1 (AP 1 [(30, .bool true)] H fun fr H => AV (GI (x := .tmp 30) (by kernel_rfl) H (fun fr => by kernel_rfl) ?_))
 refine Br id (AV (Aa (id := 1) (by kernel_rfl) ?_))
 refine AH 3 (AZ 1 [] 32 10 2 A H fun fr t H => ?_)
 refine Bn 1 [(11, .func (.func 41) [.ptr (some (bp0, 0))] [])] 4 H fun fr H => Ax 1 [(33, .func (.func 41) [.ptr (some (bp0, 0))] [])] 34 _ _ H (fun fr => .of (B5 (by kernel_rfl) (A.GQ 12 rfl (o := 0) (n := 14) ⟨Nat.le_of_ble_eq_true rfl, rfl⟩))) fun fr t H => ?_
 replace A : HH g h8 [_, _, _, _, _, _, _, _, _, _, _, _, _] F := ((((((A.front 9 rfl).front 9 rfl).front 9 rfl).front 9 rfl).front 9 rfl).front 9 rfl)
 obtain ⟨x3, hx, hm⟩ := bind_some hm
 obtain ⟨v1, h10, hr, rfl, A1⟩ := H7 (av := [.ptr (some (bp0, 0)), .agg (AA p1)]) hx (A.cut 6)
 replace A : HH g h10 [.obj bp0 (.cells none 2 [_, _, _, _, _, _, _, _, _, _, _, _, _, _, _, _, _, _]), .AL rp0_14 136 (AL (eP AB) p0.AR), .AL rp0_15 136 (AL (eP AB) p0.AU), .obj bp0_16 (.cells none 2 [AF rp0_16_0 p0.AX.l_.length, Ai p0.AX.BM]), .AL rp0_16_0 142 (AL (eP AJ) p0.AX.l_), .obj bp0_17 (.cells none 2 ([Ai p0.Ae.n_, Ai p0.Ae.An] ++ (CW 257 (AD.int .i64) p0.Ae.Aw ++ []))), _, _, _, _, _, _, _] F := A.CY (n := 6) A1
 refine A8 35 hr H fun fr t H => ?_
 refine Bn 1 [(12, Ai x3)] 2 H fun fr H => AP 2 [(37, .bool (x3 != 0))] H fun fr H => Ak 37 H hm (fun hb hm H => ?_) fun hb hm H => ?_
 ·refine AH 5 ?_
  obtain ⟨h11, hx, A1⟩ := A.st 11 rfl (o := 0) (new := [.str ([] : List UInt8), .str ([] : List UInt8), Ab 0, Ai 0, Ai 0, Ai 0, .str ([] : List UInt8), .str ([] : List UInt8), Ai 0, Ai 0, Ai 0, Ai 0, .slice none 0, .str ([] : List UInt8)]) (ds := [.str ([] : List UInt8), .str ([] : List UInt8), Ab 0, Ai 0, Ai 0, Ai 0, .str ([] : List UInt8), .str ([] : List UInt8), Ai 0, Ai 0, Ai 0, Ai 0, .slice none 0, .str ([] : List UInt8)]) (Nat.le_of_ble_eq_true rfl) rfl rfl
  replace A : HH g h11 [_, _, _, _, _, _, _, _, _, _, _, _, _] F := A1
  refine Fs 2 [(39, Ai x3)] hx H fun fr t H => ?_
  refine AP 2 [(7, Ai x3), (8, Ai 0)] H fun fr H => AY ?_
  obtain ⟨rfl, rfl, rfl, rfl⟩ := SJ hm
  refine ⟨.inl rfl, .tuple [.agg [.str ([] : List UInt8), .str ([] : List UInt8), Ab 0, Ai 0, Ai 0, Ai 0, .str ([] : List UInt8), .str ([] : List UInt8), Ai 0, Ai 0, Ai 0, Ai 0, .slice none 0, .str ([] : List UInt8)], Ai x3, Ai 0], B8 (.cell (rT H) (B6 (by kernel_rfl) (by kernel_rfl) (A.la 11 0 14)) (.tmp (rT H) (.tmp (rT H) .nil))), ?_⟩
  refine ⟨.tuple [.agg [.str ([] : List UInt8), .str ([] : List UInt8), Ab 0, Ai 0, Ai 0, Ai 0, .str ([] : List UInt8), .str ([] : List UInt8), Ai 0, Ai 0, Ai 0, Ai 0, vs Ad ([] : List Am), .str ([] : List UInt8)], Ai x3, Ai 0], h11, by first | rfl | (simp only [KL, KH, KN, J5, KP, KZ, KF, KV, KW, J3, KM, HM, G3, HL, HK, G2, HB, HF, Option.map_some] <;> rfl), ?_⟩
  replace A := A.k8 0 1 2 3 4 5 7 8
  exact ⟨rfl, A⟩
 refine Fg 2 id (Bk 2 [(3, .ptr (some (h.size, 0))), (4, .ptr (some (h1.size, 0))), (6, .ptr (some (h3.size, 0))), (27, .slice (some (h4.size, 0)) 5), (28, Ai 5), (29, Ai 3)] H fun fr H => BF id (Ia (by kernel_rfl) ?_))
 refine AH 1 (AP 1 [(30, .bool true)] H fun fr H => AV (GI (x := .tmp 30) (by kernel_rfl) H (fun fr => by kernel_rfl) ?_))
 refine Br id (AV (Aa (id := 1) (by kernel_rfl) ?_))
 refine AH 3 (AZ 1 [] 32 10 3 A H fun fr t H => ?_)
 refine Bn 1 [(11, .func (.func 42) [.ptr (some (bp0, 0))] [])] 4 H fun fr H => Ax 1 [(33, .func (.func 42) [.ptr (some (bp0, 0))] [])] 34 _ _ H (fun fr => .of (B5 (by kernel_rfl) (A.GQ 12 rfl (o := 0) (n := 14) ⟨Nat.le_of_ble_eq_true rfl, rfl⟩))) fun fr t H => ?_
 obtain ⟨⟨x4, x5⟩, hx, hm⟩ := bind_some hm
 obtain ⟨v1, h12, hr, rfl, A1⟩ := HP (av := [.ptr (some (bp0, 0)), .agg (AA p1)]) hx (A.cut 6)
 replace A : HH g h12 [.obj bp0 (.cells none 2 [_, _, _, _, _, _, _, _, _, _, _, _, _, _, _, _, _, _]), .AL rp0_14 136 (AL (eP AB) p0.AR), .AL rp0_15 136 (AL (eP AB) p0.AU), .obj bp0_16 (.cells none 2 [AF rp0_16_0 p0.AX.l_.length, Ai p0.AX.BM]), .AL rp0_16_0 142 (AL (eP AJ) p0.AX.l_), .obj bp0_17 (.cells none 2 ([Ai x5.n_, Ai x5.An] ++ (CW 257 (AD.int .i64) x5.Aw ++ []))), _, _, _, _, _, _, _] F := A.CY (n := 6) A1
 refine A8 35 hr H fun fr t H => ?_
 refine Bn 1 [(12, Ai x4)] 2 H fun fr H => AP 2 [(37, .bool (x4 != 0))] H fun fr H => Ak 37 H hm (fun hb hm H => ?_) fun hb hm H => ?_
 ·refine AH 5 ?_
  obtain ⟨h13, hx, A1⟩ := A.st 11 rfl (o := 0) (new := [.str ([] : List UInt8), .str ([] : List UInt8), Ab 0, Ai 0, Ai 0, Ai 0, .str ([] : List UInt8), .str ([] : List UInt8), Ai 0, Ai 0, Ai 0, Ai 0, .slice none 0, .str ([] : List UInt8)]) (ds := [.str ([] : List UInt8), .str ([] : List UInt8), Ab 0, Ai 0, Ai 0, Ai 0, .str ([] : List UInt8), .str ([] : List UInt8), Ai 0, Ai 0, Ai 0, Ai 0, .slice none 0, .str ([] : List UInt8)]) (Nat.le_of_ble_eq_true rfl) rfl rfl
  replace A : HH g h13 [_, _, _, _, _, _, _, _, _, _, _, _, _] F := A1
  refine Fs 2 [(39, Ai x4)] hx H fun fr t H => ?_
  refine AP 2 [(7, Ai x4), (8, Ai 0)] H fun fr H => AY ?_
  obtain ⟨rfl, rfl, rfl, rfl⟩ := SJ hm
  refine ⟨.inl rfl, .tuple [.agg [.str ([] : List UInt8), .str ([] : List UInt8), Ab 0, Ai 0, Ai 0, Ai 0, .str ([] : List UInt8), .str ([] : List UInt8), Ai 0, Ai 0, Ai 0, Ai 0, .slice none 0, .str ([] : List UInt8)], Ai x4, Ai 0], B8 (.cell (rT H) (B6 (by kernel_rfl) (by kernel_rfl) (A.la 11 0 14)) (.tmp (rT H) (.tmp (rT H) .nil))), ?_⟩
  refine ⟨.tuple [.agg [.str ([] : List UInt8), .str ([] : List UInt8), Ab 0, Ai 0, Ai 0, Ai 0, .str ([] : List UInt8), .str ([] : List UInt8), Ai 0, Ai 0, Ai 0, Ai 0, vs Ad ([] : List Am), .str ([] : List UInt8)], Ai x4, Ai 0], h13, by first | rfl | (simp only [KL, KH, KN, J5, KP, KZ, KF, KV, KW, J3, KM, HM, G3, HL, HK, G2, HB, HF, Option.map_some] <;> rfl), ?_⟩
  replace A := A.k8 0 1 2 3 4 5 7 8
  exact ⟨rfl, A⟩
 refine Fg 2 id (Bk 2 [(3, .ptr (some (h.size, 0))), (4, .ptr (some (h1.size, 0))), (6, .ptr (some (h3.size, 0))), (27, .slice (some (h4.size, 0)) 5), (28, Ai 5), (29, Ai 4)] H fun fr H => BF id (Ia (by kernel_rfl) ?_))
 refine AH 1 (AP 1 [(30, .bool true)] H fun fr H => AV (GI (x := .tmp 30) (by kernel_rfl) H (fun fr => by kernel_rfl) ?_))
 refine Br id (AV (Aa (id := 1) (by kernel_rfl) ?_))
 refine AH 3 (AZ 1 [] 32 10 4 A H fun fr t H => ?_)
 refine Bn 1 [(11, .func (.func 43) [.ptr (some (bp0, 0))] [])] 4 H fun fr H => Ax 1 [(33, .func (.func 43) [.ptr (some (bp0, 0))] [])] 34 _ _ H (fun fr => .of (B5 (by kernel_rfl) (A.GQ 12 rfl (o := 0) (n := 14) ⟨Nat.le_of_ble_eq_true rfl, rfl⟩))) fun fr t H => ?_
 obtain ⟨x6, hx, hm⟩ := bind_some hm
 obtain ⟨v1, h14, hr, rfl, A1⟩ := Ha (av := [.ptr (some (bp0, 0)), .agg (AA p1)]) hx (A.cut 6)
 replace A : HH g h14 [.obj bp0 (.cells none 2 [_, _, _, _, _, _, _, _, _, _, _, _, _, _, _, _, _, _]), .AL rp0_14 136 (AL (eP AB) p0.AR), .AL rp0_15 136 (AL (eP AB) p0.AU), .obj bp0_16 (.cells none 2 [AF rp0_16_0 p0.AX.l_.length, Ai p0.AX.BM]), .AL rp0_16_0 142 (AL (eP AJ) p0.AX.l_), .obj bp0_17 (.cells none 2 ([Ai x5.n_, Ai x5.An] ++ (CW 257 (AD.int .i64) x5.Aw ++ []))), _, _, _, _, _, _, _] F := A.CY (n := 6) A1
 refine A8 35 hr H fun fr t H => ?_
 refine Bn 1 [(12, Ai x6)] 2 H fun fr H => AP 2 [(37, .bool (x6 != 0))] H fun fr H => Ak 37 H hm (fun hb hm H => ?_) fun hb hm H => ?_
 ·refine AH 5 ?_
  obtain ⟨h15, hx, A1⟩ := A.st 11 rfl (o := 0) (new := [.str ([] : List UInt8), .str ([] : List UInt8), Ab 0, Ai 0, Ai 0, Ai 0, .str ([] : List UInt8), .str ([] : List UInt8), Ai 0, Ai 0, Ai 0, Ai 0, .slice none 0, .str ([] : List UInt8)]) (ds := [.str ([] : List UInt8), .str ([] : List UInt8), Ab 0, Ai 0, Ai 0, Ai 0, .str ([] : List UInt8), .str ([] : List UInt8), Ai 0, Ai 0, Ai 0, Ai 0, .slice none 0, .str ([] : List UInt8)]) (Nat.le_of_ble_eq_true rfl) rfl rfl
  replace A : HH g h15 [_, _, _, _, _, _, _, _, _, _, _, _, _] F := A1
  refine Fs 2 [(39, Ai x6)] hx H fun fr t H => ?_
  refine AP 2 [(7, Ai x6), (8, Ai 0)] H fun fr H => AY ?_
  obtain ⟨rfl, rfl, rfl, rfl⟩ := SJ hm
  refine ⟨.inl rfl, .tuple [.agg [.str ([] : List UInt8), .str ([] : List UInt8), Ab 0, Ai 0, Ai 0, Ai 0, .str ([] : List UInt8), .str ([] : List UInt8), Ai 0, Ai 0, Ai 0, Ai 0, .slice none 0, .str ([] : List UInt8)], Ai x6, Ai 0], B8 (.cell (rT H) (B6 (by kernel_rfl) (by kernel_rfl) (A.la 11 0 14)) (.tmp (rT H) (.tmp (rT H) .nil))), ?_⟩
  refine ⟨.tuple [.agg [.str ([] : List UInt8), .str ([] : List UInt8), Ab 0, Ai 0, Ai 0, Ai 0, .str ([] : List UInt8), .str ([] : List UInt8), Ai 0, Ai 0, Ai 0, Ai 0, vs Ad ([] : List Am), .str ([] : List UInt8)], Ai x6, Ai 0], h15, by first | rfl | (simp only [KL, KH, KN, J5, KP, KZ, KF, KV, KW, J3, KM, HM, G3, HL, HK, G2, HB, HF, Option.map_some] <;> rfl), ?_⟩
  replace A := A.k8 0 1 2 3 4 5 7 8
  exact ⟨rfl, A⟩
 refine Fg 2 id (Bk 2 [(3, .ptr (some (h.size, 0))), (4, .ptr (some (h1.size, 0))), (6, .ptr (some (h3.size, 0))), (27, .slice (some (h4.size, 0)) 5), (28, Ai 5), (29, Ai 5)] H fun fr H => BF id (Ia (by kernel_rfl) ?_))
 refine AH 1 (AP 1 [(30, .bool false)] H fun fr H => AV (OY (x := .tmp 30) (by kernel_rfl) H (fun fr => by kernel_rfl) ?_))
 refine Bh (i := 0) (by kernel_rfl) ?_
 show AW _ _ _ _ _ _ _
 refine AV (FF 9 13 ?_)
 refine AZ 1 [] 43 12 0 A H fun fr t H => ?_
 refine Ek 44 9 0 A H fun fr t H => ?_
 refine AZ 3 [] 48 0 10 A H fun fr t H => ?_
 obtain ⟨⟨x7, x8⟩, hx, hm⟩ := bind_some hm
 obtain ⟨v1, h16, hr, rfl, A1⟩ := Ig (av := [.str p1.Name, Ai p0.c_.Bz]) hx (A.cut 0)
 replace A := A.E8 A1
 refine A8 49 hr H fun fr t H => ?_
 obtain ⟨h17, hx, A1⟩ := A.st 12 rfl (o := 0) (new := [.str x7]) (ds := (Dv p1 (.str x7))) (Nat.le_of_ble_eq_true rfl) rfl rfl
 replace A : HH g h17 [_, _, _, _, _, _, _, _, _, _, _, _, .obj h1.size (.cells none 2 (Dv p1 (.str x7)))] F := A1
 refine FH 4 [] hx H fun fr t H => ?_
 refine BF id (AV ?_)
 obtain ⟨o1, ho, hm⟩ := bind_some hm
 refine BG (Q' := fun e fr' h' => (∃ x9, e = .normal ∧ x9 = o1 ∧ Has fr' 83 [(3, .ptr (some (h.size, 0))), (4, .ptr (some (h1.size, 0))), (6, .ptr (some (h3.size, 0)))] ∧ HH g h' [.obj bp0 (.cells none 2 [vs AE p0.c_.Ah, vs AE p0.c_.Aj, vs AI p0.c_.Bj, .bool p0.c_.G1, .bool p0.c_.BE, Ai p0.c_.Bc, .bool p0.c_.B4, Ai p0.c_.Ay.Cf, Ai p0.c_.Ay.Bb, Ai p0.c_.Ge, Ai p0.c_.Bz, Ai p0.c_.Name, Ai p0.c_.Head, Ai p0.c_.BU, AF rp0_14 p0.AR.length, AF rp0_15 p0.AU.length, .ptr (some (bp0_16, 0)), .ptr (some (bp0_17, 0))]), .AL rp0_14 136 (AL (eP AB) p0.AR), .AL rp0_15 136 (AL (eP AB) p0.AU), .obj bp0_16 (.cells none 2 [AF rp0_16_0 p0.AX.l_.length, Ai p0.AX.BM]), .AL rp0_16_0 142 (AL (eP AJ) p0.AX.l_), .obj bp0_17 (.cells none 2 ([Ai x5.n_, Ai x5.An] ++ (CW 257 (AD.int .i64) x5.Aw ++ []))), .obj h2.size (.cells none 2 [.ptr (some (bp2, 0))]), .obj bp2 (.cells none 2 [.map (some bp2_0)]), .obj bp2_0 (.map 2 (BZ (fun k : List UInt8 => .str k) (fun v : Bool => .bool v) p2.DD)), .obj h.size (.cells none 2 [.ptr (some (bp0, 0))]), .obj h4.size (.cells (some 48) 2 [.func (.func 40) [.ptr (some (bp0, 0))] [], .func (.func 39) [] [.ptr (some (h2.size, 0)), .ptr (some (h.size, 0))], .func (.func 41) [.ptr (some (bp0, 0))] [], .func (.func 42) [.ptr (some (bp0, 0))] [], .func (.func 43) [.ptr (some (bp0, 0))] []]), .obj h3.size (.cells none 2 [.str ([] : List UInt8), .str ([] : List UInt8), Ab 0, Ai 0, Ai 0, Ai 0, .str ([] : List UInt8), .str ([] : List UInt8), Ai 0, Ai 0, Ai 0, Ai 0, .slice none 0, .str ([] : List UInt8)]), .obj h1.size (.cells none 2 (BR p1 (.str x7) (.str x9)))] F) ∨ False) ?_ ?_
 ·replace hm := ho
  clear ho
  refine AV (FF 10 13 ?_)
  refine AZ 1 [] 55 12 1 A H fun fr t H => ?_
  refine Ek 56 9 0 A H fun fr t H => ?_
  refine AZ 3 [] 60 0 10 A H fun fr t H => ?_
  obtain ⟨⟨x10, x11⟩, hx, hm⟩ := bind_some hm
  obtain ⟨v1, h18, hr, rfl, A1⟩ := Ig (av := [.str p1.Be, Ai p0.c_.Bz]) hx (A.cut 0)
  replace A := A.E8 A1
  refine A8 61 hr H fun fr t H => ?_
  refine Bn 5 [(13, .str x10), (14, .bool x11)] 6 H fun fr H => AG 2 [(65, .bool x11)] H fun fr H => Aq 4 (fun fr' h' => h18 = h' ∧ Has fr' 83 [(3, .ptr (some (h.size, 0))), (4, .ptr (some (h1.size, 0))), (6, .ptr (some (h3.size, 0))), (13, .str x10), (69, .bool (x11 && (p1.Kind == 49)))]) ?_ ?_
  ·cases hb : (x11 : Bool) with
   | true =>
    replace H := H.kn 65 hb
    refine AZ 1 [] 67 12 2 A H fun fr t H => ?_
    exact AG 2 [(69, .bool (p1.Kind == 49))] H fun fr H => Ap H hb
   | false =>
    replace H := H.kn 65 hb
    exact AG 4 [(69, .bool false)] H fun fr H => Ap H hb
  intro t fr h' hK
  obtain ⟨e, H⟩ := hK
  subst e
  refine BF id (Ak 69 H hm (fun hb hm H => ?_) fun hb hm H => ?_)
  ·refine ED 3 ?_
   obtain ⟨h19, hx, A1⟩ := A.st 12 rfl (o := 1) (new := [.str x10]) (ds := (BR p1 (.str x7) (.str x10))) (Nat.le_of_ble_eq_true rfl) rfl rfl
   replace A : HH g h19 [_, _, _, _, _, _, _, _, _, _, _, _, .obj h1.size (.cells none 2 [_, .str x10, _, _, _, _, _, _, _, _, _, _, _, _])] F := A1
   refine FH 2 [] hx H fun fr t H => ?_
   refine at_nil ?_
   exact .inl ⟨_, rfl, Ag hm, H.ls, A⟩
  exact HG (.inl ⟨_, rfl, Ag hm, H.ls, A⟩)
 clear ho
 clear A
 intro e fr h20 hQ
 rcases hQ with ⟨x9, rfl, rfl, H, A⟩ | hF
 ·show AW _ _ _ _ _ _ _
  refine AV (Kg 13 12 [(0, []), (1, []), (2, []), (3, []), (4, []), (9, []), (5, [9]), (6, []), (7, []), (8, []), (10, []), (11, [])] ?_)
  refine CO 73 (.ptr (some (bp0, 0))) h20 [(0, h.size)] (g.Bm) H (fun fr => .of (DU (by kernel_rfl) (A.l1 9 0))) (fun fr H => ?_)
  refine AG 2 [(75, .ptr (some (bp0, 16)))] H fun fr H => CO 76 (.ptr (some (bp0_16, 0))) h20 [(3, bp0), (0, h.size)] (g.Bm) H (fun fr => .of (DU (by kernel_rfl) (A.l1 0 16))) (fun fr H => ?_)
  refine CO 77 (.agg (BR p1 (.str x7) (.str x9))) h20 [(4, h1.size), (3, bp0), (0, h.size)] (g.Bm) H (fun fr => .of (B5 (by kernel_rfl) (A.la 12 0 14))) (fun fr H => ?_)
  obtain ⟨h21, e6, A⟩ := A.pu (.cells none 2 [.str ([] : List UInt8), .str ([] : List UInt8), Ab 0, Ai 0, Ai 0, Ai 0, .str ([] : List UInt8), .str ([] : List UInt8), Ai 0, Ai 0, Ai 0, Ai 0, .slice none 0, .str ([] : List UInt8)])
  refine CO 15 (.ptr (some (h20.size, 0))) h21 [(9, h20.size), (4, h1.size), (3, bp0), (0, h.size)] (g.Bm) H (fun fr => .of (VS (by kernel_rfl) (congrArg some e6.symm))) (fun fr H => ?_)
  replace A : HH g h21 [_, _, .obj h20.size (.cells none 2 [.str ([] : List UInt8), .str ([] : List UInt8), Ab 0, Ai 0, Ai 0, Ai 0, .str ([] : List UInt8), .str ([] : List UInt8), Ai 0, Ai 0, Ai 0, Ai 0, .slice none 0, .str ([] : List UInt8)]), _, _, _, _, _, _, _, _, _, _, _] F := ((A.front 5 rfl).front 5 rfl)
  have A1 := A.G4 2 (pr := [h20.size]) (.cons 0 rfl (by simp [Ck.ids]) .nil)
  obtain ⟨⟨x12, x13⟩, hx, hm⟩ := bind_some hm
  obtain ⟨v1, h22, hr, rfl, A1⟩ := Iw (av := [.ptr (some (bp0_16, 0)), .agg (BR p1 (.str x7) (.str x9))]) hx A1
  replace A := A.Yk A1
  refine CO 78 (.tuple [.agg (AA x12), Ai x13]) h22 [(9, h20.size), (4, h1.size), (3, bp0), (0, h.size)] (h20.size :: g.Bm) H (fun fr => Steps.call (by kernel_rfl) hr) (fun fr H => ?_)
  refine AG 3 [(79, .agg (AA x12)), (80, Ai x13)] H fun fr H => ?_
  obtain ⟨h23, hx, A⟩ := A.s2 0 (AA x12) [_, _, _, _, _, _, _, _, _, _, _, _, _, _]
  refine I7 (.tuple []) h23 [(9, h20.size), (4, h1.size), (3, bp0), (0, h.size)] (g.Bm) H (fun fr => .of (TH (by kernel_rfl) (Ql hx rfl))) (fun fr H => ?_)
  refine Bn 1 [(16, Ai x13)] 5 H fun fr H => As 81 _ _ H (fun fr => .of (B5 (by kernel_rfl) (A.GQ 2 rfl (o := 0) (n := 14) ⟨Nat.le_of_ble_eq_true rfl, rfl⟩))) fun fr t H => ?_
  obtain ⟨h24, hx, A1⟩ := A.st 12 rfl (o := 0) (new := (AA x12)) (ds := (AA x12)) (Nat.le_of_ble_eq_true rfl) rfl rfl
  replace A : HH g h24 [_, _, _, _, _, _, _, _, _, _, _, _, .obj h3.size (.cells none 2 (AA x12)), _] F := A1
  refine Fs 1 [(82, Ai x13)] hx H fun fr t H => ?_
  refine AP 2 [(7, Ai 0), (8, Ai x13)] H fun fr H => AY ?_
  obtain ⟨rfl, rfl, rfl, rfl⟩ := SJ hm
  refine ⟨.inl rfl, .tuple [.agg (AA x12), Ai 0, Ai x13], B8 (.cell (rT H) (B6 (by kernel_rfl) (by kernel_rfl) (A.la 12 0 14)) (.tmp (rT H) (.tmp (rT H) .nil))), ?_⟩
  refine ⟨.tuple [.agg (AA x12), Ai 0, Ai x13], h24, by first | rfl | (simp only [KL, KH, KN, J5, KP, KZ, KF, KV, KW, J3, KM, HM, G3, HL, HK, G2, HB, HF, Option.map_some] <;> rfl), ?_⟩
  replace A := A.k8 3 4 5 0 1 6 8 9
  exact ⟨rfl, A⟩
 exact hF.elim
end
end Go.Av.L
