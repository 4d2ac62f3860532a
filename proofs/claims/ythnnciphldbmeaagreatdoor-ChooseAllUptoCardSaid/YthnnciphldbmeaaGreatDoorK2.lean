/-
 Models of functions, and that the abstract run tells them. Written by lift2.py.
-/
import Derived.Test.YthnnciphldbmeaaGreatDoorKCfg
import Derived.Test.YthnnciphldbmeaaGreatDoorK1
namespace Go.Av.L
open Go.Av Go.Lib
set_option maxRecDepth 10000
set_option maxHeartbeats 4000000
set_option linter.unusedVariables false
set_option linter.unusedSimpArgs false
variable {g : Gd} {h : AH} {F : List Ck} {av : List AA}
noncomputable section
def En (p0 : Bz) (x2 : (Nat → Int)) (x3 : List UInt8) (x4 : Int) (s : (List UInt8) × Int) : Option (((List UInt8) × Int) ⊕ (((List UInt8)))) :=
 match s with
 | (x8, x9) => Ae (decide (x9 < (p0.l_.length : Int))) (((HR p0.l_ x9).bind fun x12 => (Ct (⟨p0.l_, p0.f_, p0.ET, (⟨x2, p0.t_.Aq, p0.t_.BN, p0.t_.A8⟩ : BX), x3, p0.Bk, p0.By⟩ : Bz) x12 (IntKind.u8.wrap x4)).bind fun x13 => Ae x13 ((HR x8 x9).bind fun x14 => some (x8.set x9.toNat (1 : UInt8))) (some x8) : Option (((List UInt8)))).bind fun x11 => some (.inl (x11, IntKind.i64.wrap (x9 + 1)))) (some (.inr x8))
def Ei (p0 : Bz) (s : (List ((List UInt8) × Int)) × (Nat → Int) × (List UInt8) × Int) : Option (((List ((List UInt8) × Int)) × (Nat → Int) × (List UInt8) × Int) ⊕ (((List ((List UInt8) × Int)) × (Nat → Int) × (List UInt8)))) :=
 match s with
 | (x1, x2, x3, x4) => Ae (decide (x4 < 256)) (Fl (XF 1 (IntKind.i64.wrap ((p0.l_.length : Int) + 1))) <| (loop (En p0 x2 x3 x4) ((List.replicate (IntKind.i64.wrap ((p0.l_.length : Int) + 1)).toNat (0 : UInt8)), (0 : Int))).bind fun x10 => (Ae (x4 == 47) ((HR x10 (p0.l_.length : Int)).bind fun x16 => some (x10.set (p0.l_.length : Int).toNat (1 : UInt8))) (some x10) : Option (((List UInt8)))).bind fun x15 => (Ae (!((D4 x1 x15).isSome)) ((Vx (IntKind.u8.wrap x4)).bind fun x20 => Fl (OU 1 (x3.length + ([x20] : List UInt8).length)) <| some ((HB x1 x15 (IntKind.u8.wrap (x1.length : Int))), (x3 ++ ([x20] : List UInt8)), IntKind.u8.wrap (x1.length : Int))) (some (x1, x3, ((D4 x1 x15).getD (0 : Int)))) : Option (((List ((List UInt8) × Int)) × (List UInt8) × Int))).bind fun (x17, x18, x19) => (Rk 256 x2 x4).bind fun x21 => some (.inl (x17, (Ov x2 x4.toNat x19), x18, IntKind.i64.wrap (x4 + 1)))) (some (.inr (x1, x2, x3)))
def Dh (p0 : Bz) : Option (BX × (List UInt8)) :=
 (loop (Ei p0) (([] : List ((List UInt8) × Int)), p0.t_.BO, p0.DP, (0 : Int))).bind fun (x5, x6, x7) => some ((⟨x6, (x5.length : Int), p0.t_.BN, p0.t_.A8⟩ : BX), x7)
theorem HM {p0 bp0 rp0_0 bp0_4 rp0_4_2 rp0_4_3 rp0_5 bp0_6 rp0_7 u2 u5} (hm : Dh p0 = some (u2, u5)) (A : HH g h [.obj bp0 (.cells none 2 [AI rp0_0 p0.l_.length, .bool p0.f_.Fold, .bool p0.f_.Ax, Ai p0.ET, .ptr (some (bp0_4, 0)), AI rp0_5 p0.DP.length, .map (some bp0_6), AI rp0_7 p0.By.length]), .AL rp0_0 264 (AL AM p0.l_), .obj bp0_4 (.cells none 2 (Cl 256 (AA.int .u8) p0.t_.BO ++ [Ai p0.t_.Aq, AI rp0_4_2 p0.t_.BN.length, AI rp0_4_3 p0.t_.A8.length])), .AL rp0_4_2 21 (AL (eI .i32) p0.t_.BN), .AL rp0_4_3 4 (AL eB p0.t_.A8), .AL rp0_5 5 (AL eY p0.DP), .obj bp0_6 (.map 2 (BR (fun k : List UInt8 => .str k) (fun v : Int => .int .i32 v) p0.Bk)), .AL rp0_7 9 (AL eS p0.By)] F) (hc : BI (cfg.still 180) av = [.ptr (some (bp0, 0))] := by kernel_rfl) : ∃ v h', BL cfg g h 180 av v h' ∧ ∃ (r'5 : Option Nat), v = .tuple [] ∧ HH g h' [.obj bp0 (.cells none 2 [AI rp0_0 p0.l_.length, .bool p0.f_.Fold, .bool p0.f_.Ax, Ai p0.ET, .ptr (some (bp0_4, 0)), AI r'5 u5.length, .map (some bp0_6), AI rp0_7 p0.By.length]), .AL rp0_0 264 (AL AM p0.l_), .obj bp0_4 (.cells none 2 (Cl 256 (AA.int .u8) u2.BO ++ [Ai u2.Aq, AI rp0_4_2 p0.t_.BN.length, AI rp0_4_3 p0.t_.A8.length])), .AL rp0_4_2 21 (AL (eI .i32) p0.t_.BN), .AL rp0_4_3 4 (AL eB p0.t_.A8), .AL r'5 5 (AL eY u5), .obj bp0_6 (.map 2 (BR (fun k : List UInt8 => .str k) (fun v : Int => .int .i32 v) p0.Bk)), .AL rp0_7 9 (AL eS p0.By)] F := by
 refine D5 93 [] hc ?_
 clear hc
 unfold Dh at hm
 refine bg 93 [(0, .ptr (some (bp0, 0)))] fun fr H => ?_
 refine AG 2 ?_
 obtain ⟨h1, e1⟩ : ∃ x, x = h.push (.map 2 []) := ⟨_, rfl⟩
 replace A : HH g h1 [.obj h.size (.map 2 (BR (fun k : List UInt8 => .str k) (fun v : Int => Ab v) ([] : List ((List UInt8) × Int)))), _, _, _, _, _, _, _, _] F := (A.push _).to e1
 refine BC 9 (.map (some h.size)) e1 H fun fr t H => ?_
 refine AN 1 [(2, .map (some h.size))] H fun fr H => AQ (AG 1 (AN 1 [(10, Ai 0)] H fun fr H => AX (id := 0) (by kernel_rfl) ?_))
 obtain ⟨o1, ho, hm⟩ := bind_some hm
 refine BM (Q' := fun e fr' h' => (∃ x5 x6 x7, e = .exit 0 ∧ (x5, x6, x7) = o1 ∧ ∃ r2, Has fr' 93 [(0, .ptr (some (bp0, 0))), (2, .map (some h.size))] ∧ HH g h' [.obj h.size (.map 2 (BR (fun k : List UInt8 => .str k) (fun v : Int => Ab v) x5)), .obj bp0 (.cells none 2 [AI rp0_0 p0.l_.length, .bool p0.f_.Fold, .bool p0.f_.Ax, Ai p0.ET, .ptr (some (bp0_4, 0)), AI r2 x7.length, .map (some bp0_6), AI rp0_7 p0.By.length]), .AL rp0_0 264 (AL AM p0.l_), .obj bp0_4 (.cells none 2 (Cl 256 (AA.int .u8) x6 ++ [Ai p0.t_.Aq, AI rp0_4_2 p0.t_.BN.length, AI rp0_4_3 p0.t_.A8.length])), .AL rp0_4_2 21 (AL (eI .i32) p0.t_.BN), .AL rp0_4_3 4 (AL eB p0.t_.A8), .AL r2 5 (AL eY x7), .obj bp0_6 (.map 2 (BR (fun k : List UInt8 => .str k) (fun v : Int => .int .i32 v) p0.Bk)), .AL rp0_7 9 (AL eS p0.By)] F) ∨ False) ?_ ?_
 ·refine B8 (by kernel_rfl) (fun (s : (List ((List UInt8) × Int)) × (Nat → Int) × (List UInt8) × Int) fr' h' => ∃ x1 x2 x3 x4, (x1, x2, x3, x4) = s ∧ ∃ r1, Has fr' 93 [(0, .ptr (some (bp0, 0))), (2, .map (some h.size)), (10, Ai x4)] ∧ HH g h' [.obj h.size (.map 2 (BR (fun k : List UInt8 => .str k) (fun v : Int => Ab v) x1)), .obj bp0 (.cells none 2 [AI rp0_0 p0.l_.length, .bool p0.f_.Fold, .bool p0.f_.Ax, Ai p0.ET, .ptr (some (bp0_4, 0)), AI r1 x3.length, .map (some bp0_6), AI rp0_7 p0.By.length]), .AL rp0_0 264 (AL AM p0.l_), .obj bp0_4 (.cells none 2 (Cl 256 (AA.int .u8) x2 ++ [Ai p0.t_.Aq, AI rp0_4_2 p0.t_.BN.length, AI rp0_4_3 p0.t_.A8.length])), .AL rp0_4_2 21 (AL (eI .i32) p0.t_.BN), .AL rp0_4_3 4 (AL eB p0.t_.A8), .AL r1 5 (AL eY x3), .obj bp0_6 (.map 2 (BR (fun k : List UInt8 => .str k) (fun v : Int => .int .i32 v) p0.Bk)), .AL rp0_7 9 (AL eS p0.By)] F) ho ⟨_, _, _, _, rfl, rp0_5, H.ls, A⟩ ?_
  clear ho hm H A
  intro s q fr h2 hI hm
  obtain ⟨x1, x2, x3, x4, rfl, r1, H, A⟩ := hI
  unfold Ei at hm
  refine AG 1 (AN 1 [(11, .bool (decide (x4 < 256)))] H fun fr H => AQ (Ak 11 H hm (fun hb hm H => ?_) fun hb hm H => ?_))
  ·refine Be id (AQ (AX (id := 1) (by kernel_rfl) ?_))
   refine AG 2 (BT 2 [(3, Ai x4)] 8 H fun fr H => AR 3 [] 16 1 0 A H fun fr t H => ?_)
   obtain ⟨hb, hm⟩ := BZ hm
   obtain ⟨h3, e2, A⟩ := A.pL 5 (AL eY (List.replicate (IntKind.i64.wrap ((p0.l_.length : Int) + 1)).toNat (0 : UInt8)))
   refine As 2 [] 19 (AI (some h2.size) (List.replicate (IntKind.i64.wrap ((p0.l_.length : Int) + 1)).toNat (0 : UInt8)).length) h3 H (fun fr => .of (Tj (e := eY) HC (x := (0 : UInt8)) (by kernel_rfl) hb (congrArg some e2.symm))) fun fr t H => ?_
   refine AN 1 [(4, AI (some h2.size) ((List.replicate (IntKind.i64.wrap ((p0.l_.length : Int) + 1)).toNat (0 : UInt8)).length))] H fun fr H => AQ (AG 6 (AR 3 [] 23 2 0 A H fun fr t H => ?_))
   refine AN 2 [(24, Ai (p0.l_.length : Int)), (25, Ai 0)] H fun fr H => AX (id := 2) (by kernel_rfl) ?_
   obtain ⟨o2, ho, hm⟩ := bind_some hm
   refine BM (Q' := fun e fr' h' => (∃ x10, e = .exit 2 ∧ x10 = o2 ∧ ∃ (hl2 : x10.length = (List.replicate (IntKind.i64.wrap ((p0.l_.length : Int) + 1)).toNat (0 : UInt8)).length), Has fr' 93 [(0, .ptr (some (bp0, 0))), (2, .map (some h.size)), (3, Ai x4), (4, AI (some h2.size) x10.length), (10, Ai x4)] ∧ HH g h' [.AL (some h2.size) 5 (AL eY x10), .obj h.size (.map 2 (BR (fun k : List UInt8 => .str k) (fun v : Int => Ab v) x1)), .obj bp0 (.cells none 2 [AI rp0_0 p0.l_.length, .bool p0.f_.Fold, .bool p0.f_.Ax, Ai p0.ET, .ptr (some (bp0_4, 0)), AI r1 x3.length, .map (some bp0_6), AI rp0_7 p0.By.length]), .AL rp0_0 264 (AL AM p0.l_), .obj bp0_4 (.cells none 2 (Cl 256 (AA.int .u8) x2 ++ [Ai p0.t_.Aq, AI rp0_4_2 p0.t_.BN.length, AI rp0_4_3 p0.t_.A8.length])), .AL rp0_4_2 21 (AL (eI .i32) p0.t_.BN), .AL rp0_4_3 4 (AL eB p0.t_.A8), .AL r1 5 (AL eY x3), .obj bp0_6 (.map 2 (BR (fun k : List UInt8 => .str k) (fun v : Int => .int .i32 v) p0.Bk)), .AL rp0_7 9 (AL eS p0.By)] F) ∨ False) ?_ ?_
   ·refine B8 (by kernel_rfl) (fun (s : (List UInt8) × Int) fr' h' => ∃ x8 x9, (x8, x9) = s ∧ ∃ (hl1 : x8.length = (List.replicate (IntKind.i64.wrap ((p0.l_.length : Int) + 1)).toNat (0 : UInt8)).length), Has fr' 93 [(0, .ptr (some (bp0, 0))), (2, .map (some h.size)), (3, Ai x4), (4, AI (some h2.size) x8.length), (10, Ai x4), (23, AI rp0_0 p0.l_.length), (24, Ai (p0.l_.length : Int)), (25, Ai x9)] ∧ HH g h' [.AL (some h2.size) 5 (AL eY x8), .obj h.size (.map 2 (BR (fun k : List UInt8 => .str k) (fun v : Int => Ab v) x1)), .obj bp0 (.cells none 2 [AI rp0_0 p0.l_.length, .bool p0.f_.Fold, .bool p0.f_.Ax, Ai p0.ET, .ptr (some (bp0_4, 0)), AI r1 x3.length, .map (some bp0_6), AI rp0_7 p0.By.length]), .AL rp0_0 264 (AL AM p0.l_), .obj bp0_4 (.cells none 2 (Cl 256 (AA.int .u8) x2 ++ [Ai p0.t_.Aq, AI rp0_4_2 p0.t_.BN.length, AI rp0_4_3 p0.t_.A8.length])), .AL rp0_4_2 21 (AL (eI .i32) p0.t_.BN), .AL rp0_4_3 4 (AL eB p0.t_.A8), .AL r1 5 (AL eY x3), .obj bp0_6 (.map 2 (BR (fun k : List UInt8 => .str k) (fun v : Int => .int .i32 v) p0.Bk)), .AL rp0_7 9 (AL eS p0.By)] F) ho ⟨_, _, rfl, rfl, H.ls, A⟩ ?_
    clear ho hm H A
    intro s q fr h4 hI hm
    obtain ⟨x8, x9, rfl, hl1, H, A⟩ := hI
    unfold En at hm
    refine AG 1 (AN 1 [(26, .bool (decide (x9 < (p0.l_.length : Int))))] H fun fr H => AQ (Ak 26 H hm (fun hb hm H => ?_) fun hb hm H => ?_))
    ·refine Be id (AQ ?_)
     obtain ⟨o3, ho, hm⟩ := bind_some hm
     refine BM (Q' := fun e fr' h' => (∃ x11, e = .normal ∧ x11 = o3 ∧ ∃ (hl3 : x11.length = (List.replicate (IntKind.i64.wrap ((p0.l_.length : Int) + 1)).toNat (0 : UInt8)).length), Has fr' 93 [(0, .ptr (some (bp0, 0))), (2, .map (some h.size)), (3, Ai x4), (4, AI (some h2.size) x11.length), (10, Ai x4), (23, AI rp0_0 p0.l_.length), (24, Ai (p0.l_.length : Int)), (25, Ai x9)] ∧ HH g h' [.AL (some h2.size) 5 (AL eY x11), .obj h.size (.map 2 (BR (fun k : List UInt8 => .str k) (fun v : Int => Ab v) x1)), .obj bp0 (.cells none 2 [AI rp0_0 p0.l_.length, .bool p0.f_.Fold, .bool p0.f_.Ax, Ai p0.ET, .ptr (some (bp0_4, 0)), AI r1 x3.length, .map (some bp0_6), AI rp0_7 p0.By.length]), .AL rp0_0 264 (AL AM p0.l_), .obj bp0_4 (.cells none 2 (Cl 256 (AA.int .u8) x2 ++ [Ai p0.t_.Aq, AI rp0_4_2 p0.t_.BN.length, AI rp0_4_3 p0.t_.A8.length])), .AL rp0_4_2 21 (AL (eI .i32) p0.t_.BN), .AL rp0_4_3 4 (AL eB p0.t_.A8), .AL r1 5 (AL eY x3), .obj bp0_6 (.map 2 (BR (fun k : List UInt8 => .str k) (fun v : Int => .int .i32 v) p0.Bk)), .AL rp0_7 9 (AL eS p0.By)] F) ∨ False) ?_ ?_
     ·replace hm := ho
      clear ho
      refine AX (id := 3) (by kernel_rfl) ?_
      refine AG 6 ?_
      obtain ⟨x12, hx, hm⟩ := bind_some hm
      obtain ⟨i1, er1, _, hx, hq1⟩ := HH.NP Br (by decide) A 3 (xs := p0.l_) rfl hx
      refine As 1 [(27, Ai x9)] 28 (.ptr (some (i1, x9.toNat * 6))) h4 H (fun fr => .of (Fa (s := D2 rp0_0 p0.l_.length) (by kernel_rfl) hx)) fun fr t H => ?_
      refine Az 29 _ _ H (fun fr => .of (Bs (by kernel_rfl) (L4 Br (HH.row A 3 rfl er1) hq1 0 6 (Nat.le_of_ble_eq_true rfl)))) fun fr t H => ?_
      obtain ⟨h5, e3, A⟩ := A.pu (.cells none 2 [Ai 0, Ab 0, Au 0, Au 0, Au 0, Au 0])
      refine BC 6 (.ptr (some (h4.size, 0))) e3 H fun fr t H => ?_
      obtain ⟨h6, hx, A⟩ := A.s0 0 (AM x12) [_, _, _, _, _, _]
      refine EL 1 [(5, Ai x9)] hx H fun fr t H => ?_
      refine Cj 5 id (As 1 [(30, .ptr (some (bp0, 0)))] 31 _ _ H (fun fr => .of (Bs (by kernel_rfl) (A.GA 0 rfl (o := 0) (n := 6) ⟨Nat.le_of_ble_eq_true rfl, rfl⟩))) fun fr t H => ?_)
      replace A : HH g h6 [_, _, _, _, _, _, _, _, _, _, _] F := ((((((((A.front 10 rfl).front 10 rfl).front 10 rfl).front 10 rfl).front 10 rfl).front 10 rfl).front 10 rfl).front 10 rfl)
      obtain ⟨x13, hx, hm⟩ := bind_some hm
      obtain ⟨v1, h7, hr, rfl, A1⟩ := E7 (av := [.ptr (some (bp0, 0)), .agg (AM x12), Ab (IntKind.u8.wrap x4)]) hx (A.cut 8)
      replace A : HH g h7 [.obj bp0 (.cells none 2 [_, _, _, _, _, _, _, _]), .AL rp0_0 264 (AL AM p0.l_), .obj bp0_4 (.cells none 2 (Cl 256 (AA.int .u8) x2 ++ [Ai p0.t_.Aq, AI rp0_4_2 p0.t_.BN.length, AI rp0_4_3 p0.t_.A8.length])), .AL rp0_4_2 21 (AL (eI .i32) p0.t_.BN), .AL rp0_4_3 4 (AL eB p0.t_.A8), .AL r1 5 (AL eY x3), .obj bp0_6 (.map 2 (BR (fun k : List UInt8 => .str k) (fun v : Int => .int .i32 v) p0.Bk)), .AL rp0_7 9 (AL eS p0.By), _, _, _] F := A.CL (n := 8) A1
      refine BH 2 [] 34 hr H fun fr t H => ?_
      refine BB id (Ak 34 H hm (fun hb hm H => ?_) fun hb hm H => ?_)
      ·refine EW 4 ?_
       obtain ⟨x14, hx, hm⟩ := bind_some hm
       obtain ⟨i2, er2, _, hx, hq2⟩ := HH.NP HC (by decide) A 9 (xs := x8) rfl hx
       refine As 2 [] 37 (.ptr (some (i2, x9.toNat * 1))) h7 H (fun fr => .of (Fa (s := D2 (some h2.size) x8.length) (by kernel_rfl) hx)) fun fr t H => ?_
       obtain ⟨h8, hx, A1⟩ := HH.WW HC A 9 rfl er2 hq2 (y := (1 : UInt8)) (o := 0) (new := [Ab 1]) rfl rfl (Nat.le_of_ble_eq_true rfl)
       have hl4 : (x8.set x9.toNat (1 : UInt8)).length = (List.replicate (IntKind.i64.wrap ((p0.l_.length : Int) + 1)).toNat (0 : UInt8)).length := List.length_set.trans hl1
       have el : AI (some h2.size) x8.length = AI (some h2.size) (x8.set x9.toNat (1 : UInt8)).length := congrArg _ List.length_set.symm
       try rw [el] at H
       try rw [el] at A1
       replace A : HH g h8 [_, _, _, _, _, _, _, _, _, .AL (some h2.size) 5 (AL eY (x8.set x9.toNat (1 : UInt8))), _] F := A1
       refine Jo hx H fun fr t H => ?_
       refine at_nil ?_
       replace A : HH g h8 [_, _, _, _, _, _, _, _, _, _] F := (HH.KS ((((((((((A.front 7 rfl).front 7 rfl).front 7 rfl).front 7 rfl).front 7 rfl).front 7 rfl).front 7 rfl).front 7 rfl).front 10 rfl).front 10 rfl) 10)
       exact .inl ⟨_, rfl, Aa hm, hl4, H.ls, A⟩
      refine IG ?_
      replace A : HH g h7 [_, _, _, _, _, _, _, _, _, _] F := (HH.KS ((((((((((A.front 7 rfl).front 7 rfl).front 7 rfl).front 7 rfl).front 7 rfl).front 7 rfl).front 7 rfl).front 7 rfl).front 10 rfl).front 10 rfl) 10)
      exact .inl ⟨_, rfl, Aa hm, hl1, H.ls, A⟩
     clear ho
     clear A
     intro e fr h9 hQ
     rcases hQ with ⟨x11, rfl, rfl, hl3, H, A⟩ | hF
     ·show AW _ _ _ _ _ _ _
      refine EW 2 (Bi 2 [(0, .ptr (some (bp0, 0))), (2, .map (some h.size)), (3, Ai x4), (4, AI (some h2.size) x11.length), (10, Ai x4), (23, AI rp0_0 p0.l_.length), (24, Ai (p0.l_.length : Int)), (25, Ai (IntKind.i64.wrap (x9 + 1)))] H fun fr H => at_nil ?_)
      exact nx hm ⟨_, _, rfl, hl3, H.ls, A⟩
     exact hF.elim
    refine Bn (i := 2) (by kernel_rfl) ?_
    exact nr hm fun e => .inl ⟨_, rfl, e, hl1, H.ls, A⟩
   clear ho
   clear A
   intro e fr h10 hQ
   rcases hQ with ⟨x10, rfl, rfl, hl2, H, A⟩ | hF
   ·show AW _ _ _ _ _ _ _
    refine AQ ?_
    obtain ⟨o4, ho, hm⟩ := bind_some hm
    refine BM (Q' := fun e fr' h' => (∃ x15, e = .normal ∧ x15 = o4 ∧ ∃ (hl5 : x15.length = (List.replicate (IntKind.i64.wrap ((p0.l_.length : Int) + 1)).toNat (0 : UInt8)).length), Has fr' 93 [(0, .ptr (some (bp0, 0))), (2, .map (some h.size)), (3, Ai x4), (4, AI (some h2.size) x15.length), (10, Ai x4)] ∧ HH g h' [.AL (some h2.size) 5 (AL eY x15), .obj h.size (.map 2 (BR (fun k : List UInt8 => .str k) (fun v : Int => Ab v) x1)), .obj bp0 (.cells none 2 [AI rp0_0 p0.l_.length, .bool p0.f_.Fold, .bool p0.f_.Ax, Ai p0.ET, .ptr (some (bp0_4, 0)), AI r1 x3.length, .map (some bp0_6), AI rp0_7 p0.By.length]), .AL rp0_0 264 (AL AM p0.l_), .obj bp0_4 (.cells none 2 (Cl 256 (AA.int .u8) x2 ++ [Ai p0.t_.Aq, AI rp0_4_2 p0.t_.BN.length, AI rp0_4_3 p0.t_.A8.length])), .AL rp0_4_2 21 (AL (eI .i32) p0.t_.BN), .AL rp0_4_3 4 (AL eB p0.t_.A8), .AL r1 5 (AL eY x3), .obj bp0_6 (.map 2 (BR (fun k : List UInt8 => .str k) (fun v : Int => .int .i32 v) p0.Bk)), .AL rp0_7 9 (AL eS p0.By)] F) ∨ False) ?_ ?_
    ·replace hm := ho
     clear ho
     refine AG 2 (AN 2 [(40, .bool (x4 == 47))] H fun fr H => Ak 40 H hm (fun hb hm H => ?_) fun hb hm H => ?_)
     ·refine EW 8 (AR 4 [(41, AI (some h2.size) x10.length)] 45 2 0 A H fun fr t H => ?_)
      obtain ⟨x16, hx, hm⟩ := bind_some hm
      obtain ⟨i3, er3, _, hx, hq3⟩ := HH.NP HC (by decide) A 0 (xs := x10) rfl hx
      refine As 1 [] 47 (.ptr (some (i3, (p0.l_.length : Int).toNat * 1))) h10 H (fun fr => .of (Fa (s := D2 (some h2.size) x10.length) (by kernel_rfl) hx)) fun fr t H => ?_
      obtain ⟨h11, hx, A1⟩ := HH.WW HC A 0 rfl er3 hq3 (y := (1 : UInt8)) (o := 0) (new := [Ab 1]) rfl rfl (Nat.le_of_ble_eq_true rfl)
      have hl6 : (x10.set (p0.l_.length : Int).toNat (1 : UInt8)).length = (List.replicate (IntKind.i64.wrap ((p0.l_.length : Int) + 1)).toNat (0 : UInt8)).length := List.length_set.trans hl2
      have el : AI (some h2.size) x10.length = AI (some h2.size) (x10.set (p0.l_.length : Int).toNat (1 : UInt8)).length := congrArg _ List.length_set.symm
      try rw [el] at H
      try rw [el] at A1
      replace A : HH g h11 [.AL (some h2.size) 5 (AL eY (x10.set (p0.l_.length : Int).toNat (1 : UInt8))), _, _, _, _, _, _, _, _, _] F := A1
      refine Jo hx H fun fr t H => ?_
      refine at_nil ?_
      exact .inl ⟨_, rfl, Aa hm, hl6, H.ls, A⟩
     exact IG (.inl ⟨_, rfl, Aa hm, hl2, H.ls, A⟩)
    clear ho
    clear A
    intro e fr h12 hQ
    rcases hQ with ⟨x15, rfl, rfl, hl5, H, A⟩ | hF
    ·show AW _ _ _ _ _ _ _
     refine AG 9 (AF 2 [(49, .map (some h.size)), (50, AI (some h2.size) x15.length)] H fun fr H => Az 51 (.str x15) h12 H (fun fr => .of (Sa (xs := x15) A 0 rfl (by kernel_rfl))) fun fr t H => ?_)
     refine Az 52 (.tuple [Ab ((D4 x1 x15).getD (0 : Int)), .bool ((D4 x1 x15).isSome)]) h12 H (fun fr => .of (RL (by kernel_rfl) (HH.Qe (kt := 9) (et := 5) (ek := fun k : List UInt8 => .str k) (ev := fun v : Int => Ab v) (Ob (by kernel_rfl)) A 1 rfl (t := 341) (by kernel_rfl) (z := (0 : Int)) (by kernel_rfl) x15))) fun fr t H => ?_
     refine AN 5 [(7, Ab ((D4 x1 x15).getD (0 : Int))), (8, .bool ((D4 x1 x15).isSome))] H fun fr H => AQ ?_
     obtain ⟨o5, ho, hm⟩ := bind_some hm
     refine BM (Q' := fun e fr' h' => (∃ x17 x18 x19, e = .normal ∧ (x17, x18, x19) = o5 ∧ ∃ r3, Has fr' 93 [(0, .ptr (some (bp0, 0))), (2, .map (some h.size)), (3, Ai x4), (7, Ab x19), (10, Ai x4)] ∧ HH g h' [.obj h.size (.map 2 (BR (fun k : List UInt8 => .str k) (fun v : Int => Ab v) x17)), .obj bp0 (.cells none 2 [AI rp0_0 p0.l_.length, .bool p0.f_.Fold, .bool p0.f_.Ax, Ai p0.ET, .ptr (some (bp0_4, 0)), AI r3 x18.length, .map (some bp0_6), AI rp0_7 p0.By.length]), .AL rp0_0 264 (AL AM p0.l_), .obj bp0_4 (.cells none 2 (Cl 256 (AA.int .u8) x2 ++ [Ai p0.t_.Aq, AI rp0_4_2 p0.t_.BN.length, AI rp0_4_3 p0.t_.A8.length])), .AL rp0_4_2 21 (AL (eI .i32) p0.t_.BN), .AL rp0_4_3 4 (AL eB p0.t_.A8), .AL r3 5 (AL eY x18), .obj bp0_6 (.map 2 (BR (fun k : List UInt8 => .str k) (fun v : Int => .int .i32 v) p0.Bk)), .AL rp0_7 9 (AL eS p0.By)] F) ∨ False) ?_ ?_
     ·replace hm := ho
      clear ho
      refine AG 2 (AN 2 [(56, .bool (!((D4 x1 x15).isSome)))] H fun fr H => Ak 56 H hm (fun hb hm H => ?_) fun hb hm H => ?_)
      ·refine AG 4 (AF 1 [(57, .map (some h.size))] H fun fr H => Az 58 (Ai (x1.length : Int)) h12 H (fun fr => .of (Uc (by kernel_rfl) (HH.Wo (ek := fun k : List UInt8 => .str k) (ev := fun v : Int => Ab v) A 1 rfl))) fun fr t H => ?_)
       refine Bi 2 [(0, .ptr (some (bp0, 0))), (2, .map (some h.size)), (3, Ai x4), (4, AI (some h2.size) x15.length), (7, Ab (IntKind.u8.wrap (x1.length : Int))), (10, Ai x4)] H fun fr H => Cj 5 id (AF 2 [(60, .map (some h.size)), (61, AI (some h2.size) x15.length)] H fun fr H => Az 62 (.str x15) h12 H (fun fr => .of (Sa (xs := x15) A 0 rfl (by kernel_rfl))) fun fr t H => ?_)
       refine AF 1 [(63, Ab (IntKind.u8.wrap (x1.length : Int)))] H fun fr H => ?_
       obtain ⟨h13, hx, A1⟩ := HH.Tp (kt := 9) (et := 5) (ek := fun k : List UInt8 => .str k) (ev := fun v : Int => Ab v) (Ob (by kernel_rfl)) A 1 rfl (t := 341) (by kernel_rfl) x15 (IntKind.u8.wrap (x1.length : Int))
       replace A : HH g h13 [_, .obj h.size (.map 2 (BR (fun k : List UInt8 => .str k) (fun v : Int => Ab v) (HB x1 x15 (IntKind.u8.wrap (x1.length : Int))))), _, _, _, _, _, _, _, _] F := A1
       refine LR (.tuple []) h13 H (fun fr => .of (SD (by kernel_rfl) hx)) fun fr t H => ?_
       refine KY 12 id (AR 4 [(64, .ptr (some (bp0, 0)))] 68 2 5 A H fun fr t H => ?_)
       refine AF 2 [(70, Ab (IntKind.u8.wrap x4))] H fun fr H => ?_
       obtain ⟨x20, hx, hm⟩ := bind_some hm
       have hx := N7 hx
       rw [hx] at H
       obtain ⟨h14, e4, A⟩ := A.pL 5 [Ab (x20.toNat : Int)]
       refine BC 71 (AI (some h13.size) (([x20] : List UInt8).length)) e4 H fun fr t H => ?_
       obtain ⟨hb, hm⟩ := BZ hm
       obtain ⟨r4, h15, hx, A1⟩ := HH.NQ HC (by decide) A 8 (xs := x3) (ys := ([x20] : List UInt8)) rfl (EI A 0 rfl (n := ([x20] : List UInt8).length) (z := 1) rfl (by decide)) rfl rfl hb
       replace A : HH g h15 [.AL (some h13.size) 5 ([Ab (x20.toNat : Int)]), _, _, _, _, _, _, _, .AL r4 5 (AL eY (x3 ++ ([x20] : List UInt8))), _, _] F := A1
       replace A : HH g h15 [_, _, _, _, _, _, _, _, _, _] F := (HH.KS ((((((((((A.front 10 rfl).front 10 rfl).front 10 rfl).front 10 rfl).front 10 rfl).front 10 rfl).front 10 rfl).front 10 rfl).front 10 rfl).front 10 rfl) 10)
       refine Az 72 _ _ H (fun fr => .of (KF (s := D2 r1 x3.length) (by kernel_rfl) hx)) fun fr t H => ?_
       obtain ⟨h16, hx, A1⟩ := A.st 2 rfl (o := 5) (new := [AI r4 ((x3 ++ ([x20] : List UInt8)).length)]) (ds := [AI rp0_0 p0.l_.length, .bool p0.f_.Fold, .bool p0.f_.Ax, Ai p0.ET, .ptr (some (bp0_4, 0)), AI r4 ((x3 ++ ([x20] : List UInt8)).length), .map (some bp0_6), AI rp0_7 p0.By.length]) (Nat.le_of_ble_eq_true rfl) rfl rfl
       replace A : HH g h16 [_, _, .obj bp0 (.cells none 2 [_, _, _, _, _, AI r4 ((x3 ++ ([x20] : List UInt8)).length), _, _]), _, _, _, _, _, _, _] F := A1
       refine E8 2 [] hx H fun fr t H => ?_
       refine at_nil ?_
       replace A := A.k9 1 2 3 4 5 6 7 8 9
       exact .inl ⟨_, _, _, rfl, Aa hm, _, H.ls, A⟩
      refine IG ?_
      replace A := A.k9 1 2 3 4 5 6 7 8 9
      exact .inl ⟨_, _, _, rfl, Aa hm, _, H.ls, A⟩
     clear ho
     clear A
     intro e fr h17 hQ
     rcases hQ with ⟨x17, x18, x19, rfl, rfl, r3, H, A⟩ | hF
     ·show AW _ _ _ _ _ _ _
      refine EW 10 (AR 3 [] 78 1 4 A H fun fr t H => ?_)
      obtain ⟨x21, hq4, hm⟩ := bind_some hm
      refine As 4 [(80, Ab x19)] 83 (.ptr (some (bp0_4, 0 + x4.toNat * 1))) h17 H (fun fr => .of (PZ (by kernel_rfl) (MO hq4 (bp0_4, 0) 1))) fun fr t H => ?_
      obtain ⟨h18, hx, A1⟩ := HH.Xt A 3 (AA.int .u8) (X := x2) [] ([Ai p0.t_.Aq, AI rp0_4_2 p0.t_.BN.length, AI rp0_4_3 p0.t_.A8.length] : List AA) (off := 0) rfl rfl (i := x4) x19 hq4 rfl
      replace A : HH g h18 [_, _, _, .obj bp0_4 (.cells none 2 (Cl 256 (AA.int .u8) (Ov x2 x4.toNat x19) ++ [Ai p0.t_.Aq, AI rp0_4_2 p0.t_.BN.length, AI rp0_4_3 p0.t_.A8.length])), _, _, _, _, _] F := A1
      refine Jo hx H fun fr t H => ?_
      refine KY 2 id (Bi 2 [(0, .ptr (some (bp0, 0))), (2, .map (some h.size)), (10, Ai (IntKind.i64.wrap (x4 + 1)))] H fun fr H => at_nil ?_)
      exact nx hm ⟨_, _, _, _, rfl, _, H.ls, A⟩
     exact hF.elim
    exact hF.elim
   exact hF.elim
  refine Bn (i := 0) (by kernel_rfl) ?_
  exact nr hm fun e => .inl ⟨_, _, _, rfl, e, _, H.ls, A⟩
 clear ho
 clear A
 intro e fr h19 hQ
 rcases hQ with ⟨x5, x6, x7, rfl, rfl, r2, H, A⟩ | hF
 ·show AW _ _ _ _ _ _ _
  refine EZ 20 9 ?_
  refine AR 3 [] 88 1 4 A H fun fr t H => ?_
  refine AF 1 [(89, .map (some h.size))] H fun fr H => Az 90 (Ai (x5.length : Int)) h19 H (fun fr => .of (Uc (by kernel_rfl) (HH.Wo (ek := fun k : List UInt8 => .str k) (ev := fun v : Int => Ab v) A 0 rfl))) fun fr t H => ?_
  obtain ⟨h20, hx, A1⟩ := A.st 3 rfl (o := 256) (new := [Ai (x5.length : Int)]) (ds := (Cl 256 (AA.int .u8) x6 ++ [Ai (x5.length : Int), AI rp0_4_2 p0.t_.BN.length, AI rp0_4_3 p0.t_.A8.length])) (Nat.le_of_ble_eq_true (by kernel_rfl)) rfl (by kernel_rfl)
  replace A : HH g h20 [_, _, _, .obj bp0_4 (.cells none 2 (Cl 256 (AA.int .u8) x6 ++ [Ai (x5.length : Int), AI rp0_4_2 p0.t_.BN.length, AI rp0_4_3 p0.t_.A8.length])), _, _, _, _, _] F := A1
  refine E8 2 [] hx H fun fr t H => ?_
  refine at_nil ?_
  obtain ⟨rfl, rfl⟩ := DG hm
  refine ⟨.inr rfl, .tuple [], rH H, ?_⟩
  replace A := A.k8 1 2 3 4 5 6 7 8
  exact ⟨r2, rfl, A⟩
 exact hF.elim
def EU (p0 : Bz) (s : (List UInt8) × Int) : Option (((List UInt8) × Int) ⊕ (((List UInt8)))) :=
 match s with
 | (x1, x2) => Ae (decide (x2 < (p0.l_.length : Int))) (((HR p0.l_ x2).bind fun x5 => (Ae (x5.Kind == 4) ((HR x1 (B7 .i64 x2 (3 : Int))).bind fun x7 => Fl (decide (0 ≤ (CM .i64 x2 (7 : Int)))) <| some ((CM .u8 (B7 .u8 (x7.toNat : Int) (CM .i64 x2 (7 : Int))) (1 : Int)) == 1)) (some false) : Option (Bool)).bind fun x6 => Ae x6 ((HR x1 (B7 .i64 (IntKind.i64.wrap (x2 + 1)) (3 : Int))).bind fun x8 => Fl (decide (0 ≤ (CM .i64 (IntKind.i64.wrap (x2 + 1)) (7 : Int)))) <| (HR x1 (B7 .i64 (IntKind.i64.wrap (x2 + 1)) (3 : Int))).bind fun x9 => (Vx (M1 .u8 (x8.toNat : Int) (KH .u8 (1 : Int) (CM .i64 (IntKind.i64.wrap (x2 + 1)) (7 : Int))))).bind fun x10 => some (x1.set (B7 .i64 (IntKind.i64.wrap (x2 + 1)) (3 : Int)).toNat x10)) (some x1) : Option (((List UInt8)))).bind fun x4 => some (.inl (x4, IntKind.i64.wrap (x2 + 1)))) (some (.inr x1))
def Ch (p0 : Bz) (p1 : List UInt8) : Option ((List UInt8) × (List UInt8)) :=
 (loop (EU p0) (p1, (0 : Int))).bind fun x3 => some (x3, x3)
theorem Ey {p0 p1 bp0 rp0_0 bp0_4 rp0_4_2 rp0_4_3 rp0_5 bp0_6 rp0_7 rp1 q0 u8} (hm : Ch p0 p1 = some (q0, u8)) (A : HH g h [.obj bp0 (.cells none 2 [AI rp0_0 p0.l_.length, .bool p0.f_.Fold, .bool p0.f_.Ax, Ai p0.ET, .ptr (some (bp0_4, 0)), AI rp0_5 p0.DP.length, .map (some bp0_6), AI rp0_7 p0.By.length]), .AL rp0_0 264 (AL AM p0.l_), .obj bp0_4 (.cells none 2 (Cl 256 (AA.int .u8) p0.t_.BO ++ [Ai p0.t_.Aq, AI rp0_4_2 p0.t_.BN.length, AI rp0_4_3 p0.t_.A8.length])), .AL rp0_4_2 21 (AL (eI .i32) p0.t_.BN), .AL rp0_4_3 4 (AL eB p0.t_.A8), .AL rp0_5 5 (AL eY p0.DP), .obj bp0_6 (.map 2 (BR (fun k : List UInt8 => .str k) (fun v : Int => .int .i32 v) p0.Bk)), .AL rp0_7 9 (AL eS p0.By), .AL rp1 5 (AL eY p1)] F) (hc : BI (cfg.still 182) av = [.ptr (some (bp0, 0)), AI rp1 p1.length] := by kernel_rfl) : ∃ v h', BL cfg g h 182 av v h' ∧ ∃ (hl'8 : u8.length = p1.length), v = .str q0 ∧ HH g h' [.obj bp0 (.cells none 2 [AI rp0_0 p0.l_.length, .bool p0.f_.Fold, .bool p0.f_.Ax, Ai p0.ET, .ptr (some (bp0_4, 0)), AI rp0_5 p0.DP.length, .map (some bp0_6), AI rp0_7 p0.By.length]), .AL rp0_0 264 (AL AM p0.l_), .obj bp0_4 (.cells none 2 (Cl 256 (AA.int .u8) p0.t_.BO ++ [Ai p0.t_.Aq, AI rp0_4_2 p0.t_.BN.length, AI rp0_4_3 p0.t_.A8.length])), .AL rp0_4_2 21 (AL (eI .i32) p0.t_.BN), .AL rp0_4_3 4 (AL eB p0.t_.A8), .AL rp0_5 5 (AL eY p0.DP), .obj bp0_6 (.map 2 (BR (fun k : List UInt8 => .str k) (fun v : Int => .int .i32 v) p0.Bk)), .AL rp0_7 9 (AL eS p0.By), .AL rp1 5 (AL eY u8)] F := by
 refine D5 47 [.tmp 4] hc ?_
 clear hc
 unfold Ch at hm
 refine bg 47 [(0, .ptr (some (bp0, 0))), (1, AI rp1 p1.length)] fun fr H => ?_
 refine AG 1 (AN 1 [] H fun fr H => AQ (AG 6 (AR 3 [] 10 0 0 A H fun fr t H => ?_)))
 refine AN 2 [(11, Ai (p0.l_.length : Int)), (12, Ai 0)] H fun fr H => AX (id := 0) (by kernel_rfl) ?_
 obtain ⟨o1, ho, hm⟩ := bind_some hm
 refine BM (Q' := fun e fr' h' => (∃ x3, e = .exit 0 ∧ x3 = o1 ∧ ∃ (hl2 : x3.length = p1.length), Has fr' 47 [(1, AI rp1 x3.length)] ∧ HH g h' [.obj bp0 (.cells none 2 [AI rp0_0 p0.l_.length, .bool p0.f_.Fold, .bool p0.f_.Ax, Ai p0.ET, .ptr (some (bp0_4, 0)), AI rp0_5 p0.DP.length, .map (some bp0_6), AI rp0_7 p0.By.length]), .AL rp0_0 264 (AL AM p0.l_), .obj bp0_4 (.cells none 2 (Cl 256 (AA.int .u8) p0.t_.BO ++ [Ai p0.t_.Aq, AI rp0_4_2 p0.t_.BN.length, AI rp0_4_3 p0.t_.A8.length])), .AL rp0_4_2 21 (AL (eI .i32) p0.t_.BN), .AL rp0_4_3 4 (AL eB p0.t_.A8), .AL rp0_5 5 (AL eY p0.DP), .obj bp0_6 (.map 2 (BR (fun k : List UInt8 => .str k) (fun v : Int => .int .i32 v) p0.Bk)), .AL rp0_7 9 (AL eS p0.By), .AL rp1 5 (AL eY x3)] F) ∨ False) ?_ ?_
 ·refine B8 (by kernel_rfl) (fun (s : (List UInt8) × Int) fr' h' => ∃ x1 x2, (x1, x2) = s ∧ ∃ (hl1 : x1.length = p1.length), Has fr' 47 [(1, AI rp1 x1.length), (10, AI rp0_0 p0.l_.length), (11, Ai (p0.l_.length : Int)), (12, Ai x2)] ∧ HH g h' [.obj bp0 (.cells none 2 [AI rp0_0 p0.l_.length, .bool p0.f_.Fold, .bool p0.f_.Ax, Ai p0.ET, .ptr (some (bp0_4, 0)), AI rp0_5 p0.DP.length, .map (some bp0_6), AI rp0_7 p0.By.length]), .AL rp0_0 264 (AL AM p0.l_), .obj bp0_4 (.cells none 2 (Cl 256 (AA.int .u8) p0.t_.BO ++ [Ai p0.t_.Aq, AI rp0_4_2 p0.t_.BN.length, AI rp0_4_3 p0.t_.A8.length])), .AL rp0_4_2 21 (AL (eI .i32) p0.t_.BN), .AL rp0_4_3 4 (AL eB p0.t_.A8), .AL rp0_5 5 (AL eY p0.DP), .obj bp0_6 (.map 2 (BR (fun k : List UInt8 => .str k) (fun v : Int => .int .i32 v) p0.Bk)), .AL rp0_7 9 (AL eS p0.By), .AL rp1 5 (AL eY x1)] F) ho ⟨_, _, rfl, rfl, H.ls, A⟩ ?_
  clear ho hm H A
  intro s q fr h1 hI hm
  obtain ⟨x1, x2, rfl, hl1, H, A⟩ := hI
  unfold EU at hm
  refine AG 1 (AN 1 [(13, .bool (decide (x2 < (p0.l_.length : Int))))] H fun fr H => AQ (Ak 13 H hm (fun hb hm H => ?_) fun hb hm H => ?_))
  ·refine Be id (AQ ?_)
   obtain ⟨o2, ho, hm⟩ := bind_some hm
   refine BM (Q' := fun e fr' h' => (∃ x4, e = .normal ∧ x4 = o2 ∧ ∃ (hl3 : x4.length = p1.length), Has fr' 47 [(1, AI rp1 x4.length), (10, AI rp0_0 p0.l_.length), (11, Ai (p0.l_.length : Int)), (12, Ai x2)] ∧ HH g h' [.obj bp0 (.cells none 2 [AI rp0_0 p0.l_.length, .bool p0.f_.Fold, .bool p0.f_.Ax, Ai p0.ET, .ptr (some (bp0_4, 0)), AI rp0_5 p0.DP.length, .map (some bp0_6), AI rp0_7 p0.By.length]), .AL rp0_0 264 (AL AM p0.l_), .obj bp0_4 (.cells none 2 (Cl 256 (AA.int .u8) p0.t_.BO ++ [Ai p0.t_.Aq, AI rp0_4_2 p0.t_.BN.length, AI rp0_4_3 p0.t_.A8.length])), .AL rp0_4_2 21 (AL (eI .i32) p0.t_.BN), .AL rp0_4_3 4 (AL eB p0.t_.A8), .AL rp0_5 5 (AL eY p0.DP), .obj bp0_6 (.map 2 (BR (fun k : List UInt8 => .str k) (fun v : Int => .int .i32 v) p0.Bk)), .AL rp0_7 9 (AL eS p0.By), .AL rp1 5 (AL eY x4)] F) ∨ False) ?_ ?_
   ·replace hm := ho
    clear ho
    refine AX (id := 1) (by kernel_rfl) ?_
    refine AG 6 ?_
    obtain ⟨x5, hx, hm⟩ := bind_some hm
    obtain ⟨i1, er1, _, hx, hq1⟩ := HH.NP Br (by decide) A 1 (xs := p0.l_) rfl hx
    refine As 1 [(14, Ai x2)] 15 (.ptr (some (i1, x2.toNat * 6))) h1 H (fun fr => .of (Fa (s := D2 rp0_0 p0.l_.length) (by kernel_rfl) hx)) fun fr t H => ?_
    refine Az 16 _ _ H (fun fr => .of (Bs (by kernel_rfl) (L4 Br (HH.row A 1 rfl er1) hq1 0 6 (Nat.le_of_ble_eq_true rfl)))) fun fr t H => ?_
    obtain ⟨h2, e1, A⟩ := A.pu (.cells none 2 [Ai 0, Ab 0, Au 0, Au 0, Au 0, Au 0])
    refine BC 6 (.ptr (some (h1.size, 0))) e1 H fun fr t H => ?_
    obtain ⟨h3, hx, A⟩ := A.s0 0 (AM x5) [_, _, _, _, _, _]
    refine EL 1 [(5, Ai x2)] hx H fun fr t H => ?_
    refine Cj 15 id (AR 1 [] 18 0 0 A H fun fr t H => ?_)
    refine AF 2 [(20, .bool (x5.Kind == 4))] H fun fr H => ?_
    obtain ⟨x6, ho, hm⟩ := bind_some hm
    refine An 11 (fun fr' h' => Has fr' 47 [(1, AI rp1 x1.length), (5, Ai x2), (10, AI rp0_0 p0.l_.length), (11, Ai (p0.l_.length : Int)), (12, Ai x2), (31, .bool x6)] ∧ HH g h' [.obj h1.size (.cells none 2 (AM x5)), .obj bp0 (.cells none 2 [AI rp0_0 p0.l_.length, .bool p0.f_.Fold, .bool p0.f_.Ax, Ai p0.ET, .ptr (some (bp0_4, 0)), AI rp0_5 p0.DP.length, .map (some bp0_6), AI rp0_7 p0.By.length]), .AL rp0_0 264 (AL AM p0.l_), .obj bp0_4 (.cells none 2 (Cl 256 (AA.int .u8) p0.t_.BO ++ [Ai p0.t_.Aq, AI rp0_4_2 p0.t_.BN.length, AI rp0_4_3 p0.t_.A8.length])), .AL rp0_4_2 21 (AL (eI .i32) p0.t_.BN), .AL rp0_4_3 4 (AL eB p0.t_.A8), .AL rp0_5 5 (AL eY p0.DP), .obj bp0_6 (.map 2 (BR (fun k : List UInt8 => .str k) (fun v : Int => .int .i32 v) p0.Bk)), .AL rp0_7 9 (AL eS p0.By), .AL rp1 5 (AL eY x1)] F) ?_ ?_
    ·rcases AU ho with ⟨hb, hm⟩ | ⟨hb, hm⟩
     ·replace H := H.kn 20 hb
      obtain ⟨x7, hx, hm⟩ := bind_some hm
      obtain ⟨i2, er2, _, hx, hq2⟩ := HH.NP HC (by decide) A 9 (xs := x1) rfl hx
      refine As 3 [] 24 (.ptr (some (i2, (B7 .i64 x2 (3 : Int)).toNat * 1))) h3 H (fun fr => .of (Fa (s := D2 rp1 x1.length) (by kernel_rfl) hx)) fun fr t H => ?_
      refine Az 25 _ _ H (fun fr => .of (Dj (by kernel_rfl) (FU HC (HH.row A 9 rfl er2) hq2 (o := 0) rfl))) fun fr t H => ?_
      refine AF 2 [(27, Ai (CM .i64 x2 (7 : Int)))] H fun fr H => ?_
      obtain ⟨hb, hm⟩ := BZ hm
      refine Az 28 (Ab (B7 .u8 (x7.toNat : Int) (CM .i64 x2 (7 : Int)))) h3 H (fun fr => .of (Su (by kernel_rfl) hb)) fun fr t H => ?_
      refine AF 3 [(31, .bool ((CM .u8 (B7 .u8 (x7.toNat : Int) (CM .i64 x2 (7 : Int))) (1 : Int)) == 1))] H fun fr H => ?_
      obtain rfl := Aa hm
      exact at_nil ⟨H.ls, A⟩
     replace H := H.kn 20 hb
     refine AF 11 [(31, .bool false)] H fun fr H => ?_
     obtain rfl := Aa hm
     exact at_nil ⟨H.ls, A⟩
    clear A
    intro t fr h4 hK
    obtain ⟨H, A⟩ := hK
    refine BB id (Ak 31 H hm (fun hb hm H => ?_) fun hb hm H => ?_)
    ·refine EZ 5 13 ?_
     obtain ⟨x8, hx, hm⟩ := bind_some hm
     obtain ⟨i3, er3, _, hx, hq3⟩ := HH.NP HC (by decide) A 9 (xs := x1) rfl hx
     refine As 4 [(32, AI rp1 x1.length), (35, Ai (B7 .i64 (IntKind.i64.wrap (x2 + 1)) (3 : Int)))] 36 (.ptr (some (i3, (B7 .i64 (IntKind.i64.wrap (x2 + 1)) (3 : Int)).toNat * 1))) h4 H (fun fr => .of (Fa (s := D2 rp1 x1.length) (by kernel_rfl) hx)) fun fr t H => ?_
     refine Az 37 _ _ H (fun fr => .of (Dj (by kernel_rfl) (FU HC (HH.row A 9 rfl er3) hq3 (o := 0) rfl))) fun fr t H => ?_
     refine AF 3 [(40, Ai (CM .i64 (IntKind.i64.wrap (x2 + 1)) (7 : Int)))] H fun fr H => ?_
     obtain ⟨hb, hm⟩ := BZ hm
     refine Az 41 (Ab (KH .u8 (1 : Int) (CM .i64 (IntKind.i64.wrap (x2 + 1)) (7 : Int)))) h4 H (fun fr => .of (Tc (by kernel_rfl) hb)) fun fr t H => ?_
     obtain ⟨x9, hx, hm⟩ := bind_some hm
     obtain ⟨i4, er4, _, hx, hq4⟩ := HH.NP HC (by decide) A 9 (xs := x1) rfl hx
     refine As 1 [(42, Ab (M1 .u8 (x8.toNat : Int) (KH .u8 (1 : Int) (CM .i64 (IntKind.i64.wrap (x2 + 1)) (7 : Int)))))] 43 (.ptr (some (i4, (B7 .i64 (IntKind.i64.wrap (x2 + 1)) (3 : Int)).toNat * 1))) h4 H (fun fr => .of (Fa (s := D2 rp1 x1.length) (by kernel_rfl) hx)) fun fr t H => ?_
     obtain ⟨x10, hx, hm⟩ := bind_some hm
     have hx := N7 hx
     rw [hx] at H
     obtain ⟨h5, hx, A1⟩ := HH.WW HC A 9 rfl er4 hq4 (y := x10) (o := 0) (new := [Ab (x10.toNat : Int)]) rfl rfl (Nat.le_of_ble_eq_true rfl)
     have hl4 : (x1.set (B7 .i64 (IntKind.i64.wrap (x2 + 1)) (3 : Int)).toNat x10).length = p1.length := List.length_set.trans hl1
     have el : AI rp1 x1.length = AI rp1 (x1.set (B7 .i64 (IntKind.i64.wrap (x2 + 1)) (3 : Int)).toNat x10).length := congrArg _ List.length_set.symm
     try rw [el] at H
     try rw [el] at A1
     replace A : HH g h5 [_, _, _, _, _, _, _, _, _, .AL rp1 5 (AL eY (x1.set (B7 .i64 (IntKind.i64.wrap (x2 + 1)) (3 : Int)).toNat x10))] F := A1
     refine Jo hx H fun fr t H => ?_
     refine at_nil ?_
     replace A := A.k9 1 2 3 4 5 6 7 8 9
     exact .inl ⟨_, rfl, Aa hm, hl4, H.ls, A⟩
    refine IG ?_
    replace A := A.k9 1 2 3 4 5 6 7 8 9
    exact .inl ⟨_, rfl, Aa hm, hl1, H.ls, A⟩
   clear ho
   clear A
   intro e fr h6 hQ
   rcases hQ with ⟨x4, rfl, rfl, hl3, H, A⟩ | hF
   ·show AW _ _ _ _ _ _ _
    refine EW 2 (Bi 2 [(1, AI rp1 x4.length), (10, AI rp0_0 p0.l_.length), (11, Ai (p0.l_.length : Int)), (12, Ai (IntKind.i64.wrap (x2 + 1)))] H fun fr H => at_nil ?_)
    exact nx hm ⟨_, _, rfl, hl3, H.ls, A⟩
   exact hF.elim
  refine Bn (i := 0) (by kernel_rfl) ?_
  exact nr hm fun e => .inl ⟨_, rfl, e, hl1, H.ls, A⟩
 clear ho
 clear A
 intro e fr h7 hQ
 rcases hQ with ⟨x3, rfl, rfl, hl2, H, A⟩ | hF
 ·show AW _ _ _ _ _ _ _
  refine AG 3 (AF 1 [(45, AI rp1 x3.length)] H fun fr H => Az 46 (.str x3) h7 H (fun fr => .of (Sa (xs := x3) A 8 rfl (by kernel_rfl))) fun fr t H => ?_)
  refine AN 1 [(4, .str x3)] H fun fr H => AS ?_
  obtain ⟨rfl, rfl⟩ := DG hm
  exact ⟨.inl rfl, _, rH H, hl2, rfl, A⟩
 exact hF.elim
def GZ (p0 : List UInt8) : Option ((List UInt8)) :=
 Ae ((p0 == ([] : List UInt8)) || (([0] : List UInt8) == ([] : List UInt8))) (some p0) ((Dt p0 (0 : Int)).bind fun x1 => (EC x1 (0 : Int)).bind fun x2 => some x2)
theorem LN {p0 q0} (hm : GZ p0 = some q0) (A : HH g h [] F) (hc : BI (cfg.still 248) av = [.str p0, .str ([0] : List UInt8)] := by kernel_rfl) : ∃ v h', BL cfg g h 248 av v h' ∧ v = .str q0 ∧ HH g h' [] F := by
 refine D5 43 [.tmp 4] hc ?_
 clear hc
 unfold GZ at hm
 refine bg 43 [(0, .str p0), (1, .str ([0] : List UInt8))] fun fr H => ?_
 refine AG 1 (AN 1 [] H fun fr H => AQ (AG 6 (AF 3 [(9, .bool (p0 == ([] : List UInt8)))] H fun fr H => An 3 (fun fr' h' => h = h' ∧ Has fr' 43 [(0, .str p0), (1, .str ([0] : List UInt8)), (12, .bool ((p0 == ([] : List UInt8)) || (([0] : List UInt8) == ([] : List UInt8))))]) ?_ ?_)))
 ·cases hb : (p0 == ([] : List UInt8) : Bool) with
  | true =>
   replace H := H.kn 9 hb
   exact AF 3 [(12, .bool true)] H fun fr H => AY H hb
  | false =>
   replace H := H.kn 9 hb
   exact AF 3 [(12, .bool (([0] : List UInt8) == ([] : List UInt8)))] H fun fr H => AY H hb
 intro t fr h' hK
 obtain ⟨e, H⟩ := hK
 subst e
 refine BB id (Ak 12 H hm (fun hb hm H => ?_) fun hb hm H => ?_)
 ·refine AG 2 (AN 2 [(4, .str p0)] H fun fr H => AS ?_)
  obtain rfl := Aa hm
  exact ⟨.inl rfl, _, rH H, rfl, A⟩
 refine Be id (AQ (AG 8 (AN 8 [(21, .bool true)] H fun fr H => Dd (x := .tmp 21) (by kernel_rfl) H (fun fr => by kernel_rfl) ?_)))
 refine AQ (EZ 4 8 ?_)
 obtain ⟨x1, hx, hm⟩ := bind_some hm
 obtain ⟨v1, h1, hr, rfl, A1⟩ := GM (av := [.str p0, Ab 0]) hx (A.cut 0)
 replace A := A.EV A1
 refine BH 3 [] 25 hr H fun fr t H => ?_
 obtain ⟨x2, hx, hm⟩ := bind_some hm
 obtain ⟨v1, h2, hr, rfl, A1⟩ := Gg (av := [.str x1, Ab 0]) hx (A.cut 0)
 replace A := A.EV A1
 refine BH 2 [] 28 hr H fun fr t H => ?_
 refine AN 1 [(4, .str x2)] H fun fr H => AS ?_
 obtain rfl := Aa hm
 exact ⟨.inl rfl, _, rH H, rfl, A⟩
def Ce (p0 : Bz) (p1 : List UInt8) : Option (Int × Bool × (List Bool) × (List ((List UInt8) × Int)) × (List (List UInt8))) :=
 (GZ p1).bind fun x1 => Ae (x1 == ([] : List UInt8)) (some ((-1 : Int), true, p0.t_.A8, p0.Bk, p0.By)) (Ae ((D4 p0.Bk p1).isSome) (some (((D4 p0.Bk p1).getD (0 : Int)), true, p0.t_.A8, p0.Bk, p0.By)) (Ae ((p0.t_.A8.length : Int) == p0.ET) (some ((0 : Int), false, p0.t_.A8, p0.Bk, p0.By)) ((Nb p1 (B7 .i64 (p0.l_.length : Int) (3 : Int))).bind fun x2 => Fl (decide (0 ≤ (CM .i64 (p0.l_.length : Int) (7 : Int)))) <| Fl (OU 1 (p0.t_.A8.length + ([(CM .u8 (B7 .u8 x2 (CM .i64 (p0.l_.length : Int) (7 : Int))) (1 : Int)) == 1] : List Bool).length)) <| Fl (OU 16 (p0.By.length + ([p1] : List (List UInt8)).length)) <| some (IntKind.i32.wrap (p0.t_.A8.length : Int), true, (p0.t_.A8 ++ ([(CM .u8 (B7 .u8 x2 (CM .i64 (p0.l_.length : Int) (7 : Int))) (1 : Int)) == 1] : List Bool)), (HB p0.Bk p1 (IntKind.i32.wrap (p0.t_.A8.length : Int))), (p0.By ++ ([p1] : List (List UInt8)))))))
theorem Ez {p0 p1 bp0 rp0_0 bp0_4 rp0_4_2 rp0_4_3 rp0_5 bp0_6 rp0_7 q0 q1 u4 u6 u7} (hm : Ce p0 p1 = some (q0, q1, u4, u6, u7)) (A : HH g h [.obj bp0 (.cells none 2 [AI rp0_0 p0.l_.length, .bool p0.f_.Fold, .bool p0.f_.Ax, Ai p0.ET, .ptr (some (bp0_4, 0)), AI rp0_5 p0.DP.length, .map (some bp0_6), AI rp0_7 p0.By.length]), .AL rp0_0 264 (AL AM p0.l_), .obj bp0_4 (.cells none 2 (Cl 256 (AA.int .u8) p0.t_.BO ++ [Ai p0.t_.Aq, AI rp0_4_2 p0.t_.BN.length, AI rp0_4_3 p0.t_.A8.length])), .AL rp0_4_2 21 (AL (eI .i32) p0.t_.BN), .AL rp0_4_3 4 (AL eB p0.t_.A8), .AL rp0_5 5 (AL eY p0.DP), .obj bp0_6 (.map 2 (BR (fun k : List UInt8 => .str k) (fun v : Int => .int .i32 v) p0.Bk)), .AL rp0_7 9 (AL eS p0.By)] F) (hc : BI (cfg.still 181) av = [.ptr (some (bp0, 0)), .str p1] := by kernel_rfl) : ∃ v h', BL cfg g h 181 av v h' ∧ ∃ (r'4 : Option Nat) (r'7 : Option Nat), v = .tuple [.int .i32 q0, .bool q1] ∧ HH g h' [.obj bp0 (.cells none 2 [AI rp0_0 p0.l_.length, .bool p0.f_.Fold, .bool p0.f_.Ax, Ai p0.ET, .ptr (some (bp0_4, 0)), AI rp0_5 p0.DP.length, .map (some bp0_6), AI r'7 u7.length]), .AL rp0_0 264 (AL AM p0.l_), .obj bp0_4 (.cells none 2 (Cl 256 (AA.int .u8) p0.t_.BO ++ [Ai p0.t_.Aq, AI rp0_4_2 p0.t_.BN.length, AI r'4 u4.length])), .AL rp0_4_2 21 (AL (eI .i32) p0.t_.BN), .AL r'4 4 (AL eB u4), .AL rp0_5 5 (AL eY p0.DP), .obj bp0_6 (.map 2 (BR (fun k : List UInt8 => .str k) (fun v : Int => .int .i32 v) u6)), .AL r'7 9 (AL eS u7)] F := by
 refine D5 92 [.tmp 4, .tmp 5] hc ?_
 clear hc
 unfold Ce at hm
 refine bg 92 [(0, .ptr (some (bp0, 0))), (1, .str p1)] fun fr H => ?_
 refine AG 2 (AN 2 [] H fun fr H => AQ (AG 3 ?_))
 obtain ⟨x1, hx, hm⟩ := bind_some hm
 obtain ⟨v1, h1, hr, rfl, A1⟩ := LN (av := [.str p1, .str ([0] : List UInt8)]) hx (A.cut 0)
 replace A := A.EV A1
 refine BH 1 [] 11 hr H fun fr t H => ?_
 refine AN 1 [(12, .bool (x1 == ([] : List UInt8)))] H fun fr H => Ak 12 H hm (fun hb hm H => ?_) fun hb hm H => ?_
 ·refine AG 2 (AN 2 [(4, .int .i32 (-1)), (5, .bool true)] H fun fr H => AS ?_)
  obtain ⟨rfl, rfl, rfl, rfl, rfl⟩ := Uj hm
  exact ⟨.inl rfl, _, rH H, _, _, rfl, A⟩
 refine Be id (AQ (AG 11 (AR 3 [] 17 0 6 A H fun fr t H => ?_)))
 refine As 1 [] 19 (.tuple [.int .i32 ((D4 p0.Bk p1).getD (0 : Int)), .bool ((D4 p0.Bk p1).isSome)]) h1 H (fun fr => .of (RL (by kernel_rfl) (HH.Qe (kt := 9) (et := 21) (ek := fun k : List UInt8 => .str k) (ev := fun v : Int => .int .i32 v) (Ob (by kernel_rfl)) A 6 rfl (t := 273) (by kernel_rfl) (z := (0 : Int)) (by kernel_rfl) p1))) fun fr t H => ?_
 refine BT 5 [(6, .int .i32 ((D4 p0.Bk p1).getD (0 : Int))), (7, .bool ((D4 p0.Bk p1).isSome))] 1 H fun fr H => AN 1 [(22, .bool ((D4 p0.Bk p1).isSome))] H fun fr H => Ak 22 H hm (fun hb hm H => ?_) fun hb hm H => ?_
 ·refine AG 3 (AN 3 [(4, .int .i32 ((D4 p0.Bk p1).getD (0 : Int))), (5, .bool true)] H fun fr H => AS ?_)
  obtain ⟨rfl, rfl, rfl, rfl, rfl⟩ := Uj hm
  exact ⟨.inl rfl, _, rH H, _, _, rfl, A⟩
 refine Be id (AQ (AQ (EZ 6 13 ?_)))
 refine AR 3 [] 27 0 4 A H fun fr t H => ?_
 refine As 2 [] 30 (AI rp0_4_3 p0.t_.A8.length) h1 H (fun fr => .of (Dj (by kernel_rfl) (A.NX 2 rfl (o := 258) (by kernel_rfl)))) fun fr t H => ?_
 refine AR 4 [(31, Ai (p0.t_.A8.length : Int))] 35 0 3 A H fun fr t H => ?_
 refine AN 1 [(36, .bool ((p0.t_.A8.length : Int) == p0.ET))] H fun fr H => Ak 36 H hm (fun hb hm H => ?_) fun hb hm H => ?_
 ·refine AG 2 (AN 2 [(4, .int .i32 0), (5, .bool false)] H fun fr H => AS ?_)
  obtain ⟨rfl, rfl, rfl, rfl, rfl⟩ := Uj hm
  exact ⟨.inl rfl, _, rH H, _, _, rfl, A⟩
 refine Cm 10 id (AR 3 [] 40 0 4 A H fun fr t H => ?_)
 refine As 2 [] 43 (AI rp0_4_3 p0.t_.A8.length) h1 H (fun fr => .of (Dj (by kernel_rfl) (A.NX 2 rfl (o := 258) (by kernel_rfl)))) fun fr t H => ?_
 refine BT 3 [(8, .int .i32 (IntKind.i32.wrap (p0.t_.A8.length : Int)))] 6 H fun fr H => AR 3 [] 49 0 0 A H fun fr t H => ?_
 refine BT 2 [(9, Ai (p0.l_.length : Int))] 7 H fun fr H => AR 3 [] 54 0 6 A H fun fr t H => ?_
 refine AF 2 [(55, .str p1), (56, .int .i32 (IntKind.i32.wrap (p0.t_.A8.length : Int)))] H fun fr H => ?_
 obtain ⟨h2, hx, A1⟩ := HH.Tp (kt := 9) (et := 21) (ek := fun k : List UInt8 => .str k) (ev := fun v : Int => .int .i32 v) (Ob (by kernel_rfl)) A 6 rfl (t := 273) (by kernel_rfl) p1 (IntKind.i32.wrap (p0.t_.A8.length : Int))
 replace A : HH g h2 [_, _, _, _, _, _, .obj bp0_6 (.map 2 (BR (fun k : List UInt8 => .str k) (fun v : Int => .int .i32 v) (HB p0.Bk p1 (IntKind.i32.wrap (p0.t_.A8.length : Int))))), _] F := A1
 refine LR (.tuple []) h2 H (fun fr => .of (SD (by kernel_rfl) hx)) fun fr t H => ?_
 refine BB id (AQ (Jk 11 25 [(0, []), (1, []), (2, []), (3, []), (4, []), (5, []), (6, []), (7, []), (8, []), (9, []), (10, []), (11, []), (12, []), (13, []), (14, []), (15, []), (16, []), (17, []), (18, []), (19, []), (20, []), (21, [3]), (22, []), (23, []), (24, [])] ?_))
 refine AF 3 [(59, .ptr (some (bp0, 4)))] H fun fr H => B0 60 (.ptr (some (bp0_4, 0))) h2 [(3, bp0)] (g.BU) H (fun fr => .of (Dj (by kernel_rfl) (A.l1 0 4))) (fun fr H => ?_)
 refine AF 3 [(63, .ptr (some (bp0, 4)))] H fun fr H => B0 64 (.ptr (some (bp0_4, 0))) h2 [(7, bp0), (3, bp0)] (g.BU) H (fun fr => .of (Dj (by kernel_rfl) (A.l1 0 4))) (fun fr H => ?_)
 refine AF 2 [(66, .ptr (some (bp0_4, 258)))] H fun fr H => B0 67 (AI rp0_4_3 p0.t_.A8.length) h2 [(10, bp0_4), (7, bp0), (3, bp0)] (g.BU) H (fun fr => .of (Dj (by kernel_rfl) (A.NX 2 rfl (o := 258) (by kernel_rfl)))) (fun fr H => ?_)
 refine AF 3 [(68, .str p1), (70, Ai (B7 .i64 (p0.l_.length : Int) (3 : Int)))] H fun fr H => ?_
 obtain ⟨x2, hx, hm⟩ := bind_some hm
 refine B0 71 (Ab x2) h2 [(10, bp0_4), (7, bp0), (3, bp0)] (g.BU) H (fun fr => .of (G4 (by kernel_rfl) hx)) (fun fr H => ?_)
 refine AF 2 [(73, Ai (CM .i64 (p0.l_.length : Int) (7 : Int)))] H fun fr H => ?_
 obtain ⟨hb, hm⟩ := BZ hm
 refine B0 74 (Ab (B7 .u8 x2 (CM .i64 (p0.l_.length : Int) (7 : Int)))) h2 [(10, bp0_4), (7, bp0), (3, bp0)] (g.BU) H (fun fr => .of (Su (by kernel_rfl) hb)) (fun fr H => ?_)
 refine AF 2 [(76, .bool ((CM .u8 (B7 .u8 x2 (CM .i64 (p0.l_.length : Int) (7 : Int))) (1 : Int)) == 1))] H fun fr H => ?_
 obtain ⟨h3, e1, A⟩ := A.pL 4 [.bool ((CM .u8 (B7 .u8 x2 (CM .i64 (p0.l_.length : Int) (7 : Int))) (1 : Int)) == 1)]
 refine B0 77 (AI (some h2.size) (([(CM .u8 (B7 .u8 x2 (CM .i64 (p0.l_.length : Int) (7 : Int))) (1 : Int)) == 1] : List Bool).length)) h3 [(20, h2.size), (10, bp0_4), (7, bp0), (3, bp0)] (g.BU) H (fun fr => .of (Qk (by kernel_rfl) (congrArg some e1.symm))) (fun fr H => ?_)
 replace A : HH g h3 [_, .AL (some h2.size) 4 ([.bool ((CM .u8 (B7 .u8 x2 (CM .i64 (p0.l_.length : Int) (7 : Int))) (1 : Int)) == 1)]), _, _, _, _, _, _, _] F := (A.front 5 rfl)
 have A1 := A.Gm 1 (pr := [bp0]) (.cons 1 rfl (by simp [Ck.ids]) .nil)
 obtain ⟨hb, hm⟩ := BZ hm
 obtain ⟨r1, h4, hx, A1⟩ := HH.NQ WH (by decide) A1 0 (xs := p0.t_.A8) (ys := ([(CM .u8 (B7 .u8 x2 (CM .i64 (p0.l_.length : Int) (7 : Int))) (1 : Int)) == 1] : List Bool)) rfl (EI A 1 rfl (n := ([(CM .u8 (B7 .u8 x2 (CM .i64 (p0.l_.length : Int) (7 : Int))) (1 : Int)) == 1] : List Bool).length) (z := 1) rfl (by decide)) rfl rfl hb
 replace A := A.XK A1
 replace A := A.k8 0 2 3 4 5 6 7 8
 refine B0 78 (AI r1 ((p0.t_.A8 ++ ([(CM .u8 (B7 .u8 x2 (CM .i64 (p0.l_.length : Int) (7 : Int))) (1 : Int)) == 1] : List Bool)).length)) h4 [(20, h2.size), (10, bp0_4), (7, bp0), (3, bp0)] (bp0 :: g.BU) H (fun fr => .of (KF (s := D2 rp0_4_3 p0.t_.A8.length) (by kernel_rfl) hx)) (fun fr H => ?_)
 refine AF 2 [(80, .ptr (some (bp0_4, 258)))] H fun fr H => ?_
 obtain ⟨h5, hx, A1⟩ := A.st 3 rfl (o := 258) (new := [AI r1 ((p0.t_.A8 ++ ([(CM .u8 (B7 .u8 x2 (CM .i64 (p0.l_.length : Int) (7 : Int))) (1 : Int)) == 1] : List Bool)).length)]) (ds := (Cl 256 (AA.int .u8) p0.t_.BO ++ ([Ai p0.t_.Aq, AI rp0_4_2 p0.t_.BN.length, AI r1 ((p0.t_.A8 ++ ([(CM .u8 (B7 .u8 x2 (CM .i64 (p0.l_.length : Int) (7 : Int))) (1 : Int)) == 1] : List Bool)).length)]))) (Nat.le_of_ble_eq_true (by kernel_rfl)) rfl (by kernel_rfl)
 replace A : HH g h5 [_, _, _, .obj bp0_4 (.cells none 2 (Cl 256 (AA.int .u8) p0.t_.BO ++ ([Ai p0.t_.Aq, AI rp0_4_2 p0.t_.BN.length, AI r1 ((p0.t_.A8 ++ ([(CM .u8 (B7 .u8 x2 (CM .i64 (p0.l_.length : Int) (7 : Int))) (1 : Int)) == 1] : List Bool)).length)]))), _, _, _, _] F := A1
 refine K2 (.tuple []) h5 [(20, h2.size), (10, bp0_4), (7, bp0), (3, bp0)] (g.BU) H (fun fr => .of (RG (by kernel_rfl) rfl hx)) (fun fr H => ?_)
 refine Cj 11 id (AR 4 [(81, .ptr (some (bp0, 0)))] 85 1 7 A H fun fr t H => ?_)
 refine AF 1 [(86, .str p1)] H fun fr H => ?_
 obtain ⟨h6, e2, A⟩ := A.pL 9 [.str p1]
 refine BC 87 (AI (some h5.size) (([p1] : List (List UInt8)).length)) e2 H fun fr t H => ?_
 obtain ⟨hb, hm⟩ := BZ hm
 obtain ⟨r2, h7, hx, A1⟩ := HH.NQ encS (by decide) A 8 (xs := p0.By) (ys := ([p1] : List (List UInt8))) rfl (EI A 0 rfl (n := ([p1] : List (List UInt8)).length) (z := 1) rfl (by decide)) rfl rfl hb
 replace A : HH g h7 [.AL (some h5.size) 9 ([.str p1]), _, _, _, _, _, _, _, .AL r2 9 (AL eS (p0.By ++ ([p1] : List (List UInt8))))] F := A1
 replace A := A.k8 1 2 3 4 5 6 7 8
 refine Az 88 _ _ H (fun fr => .of (KF (s := D2 rp0_7 p0.By.length) (by kernel_rfl) hx)) fun fr t H => ?_
 obtain ⟨h8, hx, A1⟩ := A.st 1 rfl (o := 7) (new := [AI r2 ((p0.By ++ ([p1] : List (List UInt8))).length)]) (ds := [AI rp0_0 p0.l_.length, .bool p0.f_.Fold, .bool p0.f_.Ax, Ai p0.ET, .ptr (some (bp0_4, 0)), AI rp0_5 p0.DP.length, .map (some bp0_6), AI r2 ((p0.By ++ ([p1] : List (List UInt8))).length)]) (Nat.le_of_ble_eq_true rfl) rfl rfl
 replace A : HH g h8 [_, .obj bp0 (.cells none 2 [_, _, _, _, _, _, _, AI r2 ((p0.By ++ ([p1] : List (List UInt8))).length)]), _, _, _, _, _, _] F := A1
 refine E8 2 [] hx H fun fr t H => ?_
 refine Cj 3 id (AN 3 [(4, .int .i32 (IntKind.i32.wrap (p0.t_.A8.length : Int))), (5, .bool true)] H fun fr H => AS ?_)
 obtain ⟨rfl, rfl, rfl, rfl, rfl⟩ := Uj hm
 refine ⟨.inl rfl, .tuple [.int .i32 (IntKind.i32.wrap (p0.t_.A8.length : Int)), .bool true], rH H, ?_⟩
 replace A := A.k8 1 2 3 4 0 5 6 7
 exact ⟨r1, r2, rfl, A⟩
def EY (p0 : Bz) (p1 : List UInt8) (p2 : Int) (s : (List UInt8) × Int) : Option (((List UInt8) × Int) ⊕ (((List UInt8)))) :=
 match s with
 | (x1, x2) => Ae (decide (x2 < (p0.l_.length : Int))) (((HR p0.l_ x2).bind fun x5 => (Nb p1 (B7 .i64 x2 (3 : Int))).bind fun x6 => Fl (decide (0 ≤ (CM .i64 x2 (7 : Int)))) <| Ae ((CM .u8 (B7 .u8 x6 (CM .i64 x2 (7 : Int))) (1 : Int)) == 0) (some x1) (Ae ((x5.Kind == 4) && (p0.f_.Ax || (p2 != 47))) ((HR x1 (B7 .i64 x2 (3 : Int))).bind fun x7 => Fl (decide (0 ≤ (CM .i64 x2 (7 : Int)))) <| (HR x1 (B7 .i64 x2 (3 : Int))).bind fun x8 => (Vx (M1 .u8 (x7.toNat : Int) (KH .u8 (1 : Int) (CM .i64 x2 (7 : Int))))).bind fun x9 => some (x1.set (B7 .i64 x2 (3 : Int)).toNat x9)) ((Ae (x5.Kind != 4) ((Ct p0 x5 p2).bind fun x11 => some x11) (some false) : Option (Bool)).bind fun x10 => Ae x10 ((HR x1 (B7 .i64 (IntKind.i64.wrap (x2 + 1)) (3 : Int))).bind fun x12 => Fl (decide (0 ≤ (CM .i64 (IntKind.i64.wrap (x2 + 1)) (7 : Int)))) <| (HR x1 (B7 .i64 (IntKind.i64.wrap (x2 + 1)) (3 : Int))).bind fun x13 => (Vx (M1 .u8 (x12.toNat : Int) (KH .u8 (1 : Int) (CM .i64 (IntKind.i64.wrap (x2 + 1)) (7 : Int))))).bind fun x14 => some (x1.set (B7 .i64 (IntKind.i64.wrap (x2 + 1)) (3 : Int)).toNat x14)) (some x1))) : Option (((List UInt8)))).bind fun x4 => some (.inl (x4, IntKind.i64.wrap (x2 + 1)))) (some (.inr x1))
def DW (p0 : Bz) (p1 : List UInt8) (p2 : Int) : Option ((List UInt8)) :=
 Fl (XF 1 (p1.length : Int)) <| (loop (EY p0 p1 p2) ((List.replicate (p1.length : Int).toNat (0 : UInt8)), (0 : Int))).bind fun x3 => (Ch p0 x3).bind fun (x15, x16) => some x15
theorem HA {p0 p1 p2 bp0 rp0_0 bp0_4 rp0_4_2 rp0_4_3 rp0_5 bp0_6 rp0_7 q0} (hm : DW p0 p1 p2 = some q0) (A : HH g h [.obj bp0 (.cells none 2 [AI rp0_0 p0.l_.length, .bool p0.f_.Fold, .bool p0.f_.Ax, Ai p0.ET, .ptr (some (bp0_4, 0)), AI rp0_5 p0.DP.length, .map (some bp0_6), AI rp0_7 p0.By.length]), .AL rp0_0 264 (AL AM p0.l_), .obj bp0_4 (.cells none 2 (Cl 256 (AA.int .u8) p0.t_.BO ++ [Ai p0.t_.Aq, AI rp0_4_2 p0.t_.BN.length, AI rp0_4_3 p0.t_.A8.length])), .AL rp0_4_2 21 (AL (eI .i32) p0.t_.BN), .AL rp0_4_3 4 (AL eB p0.t_.A8), .AL rp0_5 5 (AL eY p0.DP), .obj bp0_6 (.map 2 (BR (fun k : List UInt8 => .str k) (fun v : Int => .int .i32 v) p0.Bk)), .AL rp0_7 9 (AL eS p0.By)] F) (hc : BI (cfg.still 183) av = [.ptr (some (bp0, 0)), .str p1, Ab p2] := by kernel_rfl) : ∃ v h', BL cfg g h 183 av v h' ∧ v = .str q0 ∧ HH g h' [.obj bp0 (.cells none 2 [AI rp0_0 p0.l_.length, .bool p0.f_.Fold, .bool p0.f_.Ax, Ai p0.ET, .ptr (some (bp0_4, 0)), AI rp0_5 p0.DP.length, .map (some bp0_6), AI rp0_7 p0.By.length]), .AL rp0_0 264 (AL AM p0.l_), .obj bp0_4 (.cells none 2 (Cl 256 (AA.int .u8) p0.t_.BO ++ [Ai p0.t_.Aq, AI rp0_4_2 p0.t_.BN.length, AI rp0_4_3 p0.t_.A8.length])), .AL rp0_4_2 21 (AL (eI .i32) p0.t_.BN), .AL rp0_4_3 4 (AL eB p0.t_.A8), .AL rp0_5 5 (AL eY p0.DP), .obj bp0_6 (.map 2 (BR (fun k : List UInt8 => .str k) (fun v : Int => .int .i32 v) p0.Bk)), .AL rp0_7 9 (AL eS p0.By)] F := by
 refine D5 83 [.tmp 6] hc ?_
 clear hc
 unfold DW at hm
 refine bg 83 [(0, .ptr (some (bp0, 0))), (1, .str p1), (2, Ab p2)] fun fr H => ?_
 refine AG 1 (BT 1 [] 4 H fun fr H => ?_)
 obtain ⟨hb, hm⟩ := BZ hm
 obtain ⟨h1, e1, A⟩ := A.pL 5 (AL eY (List.replicate (p1.length : Int).toNat (0 : UInt8)))
 refine As 2 [] 12 (AI (some h.size) (List.replicate (p1.length : Int).toNat (0 : UInt8)).length) h1 H (fun fr => .of (Tj (e := eY) HC (x := (0 : UInt8)) (by kernel_rfl) hb (congrArg some e1.symm))) fun fr t H => ?_
 refine AN 1 [(7, AI (some h.size) ((List.replicate (p1.length : Int).toNat (0 : UInt8)).length))] H fun fr H => AQ (AG 6 (AR 3 [] 16 1 0 A H fun fr t H => ?_))
 refine AN 2 [(17, Ai (p0.l_.length : Int)), (18, Ai 0)] H fun fr H => AX (id := 0) (by kernel_rfl) ?_
 obtain ⟨o1, ho, hm⟩ := bind_some hm
 refine BM (Q' := fun e fr' h' => (∃ x3, e = .exit 0 ∧ x3 = o1 ∧ ∃ (hl2 : x3.length = (List.replicate (p1.length : Int).toNat (0 : UInt8)).length), Has fr' 83 [(0, .ptr (some (bp0, 0))), (7, AI (some h.size) x3.length)] ∧ HH g h' [.AL (some h.size) 5 (AL eY x3), .obj bp0 (.cells none 2 [AI rp0_0 p0.l_.length, .bool p0.f_.Fold, .bool p0.f_.Ax, Ai p0.ET, .ptr (some (bp0_4, 0)), AI rp0_5 p0.DP.length, .map (some bp0_6), AI rp0_7 p0.By.length]), .AL rp0_0 264 (AL AM p0.l_), .obj bp0_4 (.cells none 2 (Cl 256 (AA.int .u8) p0.t_.BO ++ [Ai p0.t_.Aq, AI rp0_4_2 p0.t_.BN.length, AI rp0_4_3 p0.t_.A8.length])), .AL rp0_4_2 21 (AL (eI .i32) p0.t_.BN), .AL rp0_4_3 4 (AL eB p0.t_.A8), .AL rp0_5 5 (AL eY p0.DP), .obj bp0_6 (.map 2 (BR (fun k : List UInt8 => .str k) (fun v : Int => .int .i32 v) p0.Bk)), .AL rp0_7 9 (AL eS p0.By)] F) ∨ False) ?_ ?_
 ·refine B8 (by kernel_rfl) (fun (s : (List UInt8) × Int) fr' h' => ∃ x1 x2, (x1, x2) = s ∧ ∃ (hl1 : x1.length = (List.replicate (p1.length : Int).toNat (0 : UInt8)).length), Has fr' 83 [(0, .ptr (some (bp0, 0))), (1, .str p1), (2, Ab p2), (7, AI (some h.size) x1.length), (16, AI rp0_0 p0.l_.length), (17, Ai (p0.l_.length : Int)), (18, Ai x2)] ∧ HH g h' [.AL (some h.size) 5 (AL eY x1), .obj bp0 (.cells none 2 [AI rp0_0 p0.l_.length, .bool p0.f_.Fold, .bool p0.f_.Ax, Ai p0.ET, .ptr (some (bp0_4, 0)), AI rp0_5 p0.DP.length, .map (some bp0_6), AI rp0_7 p0.By.length]), .AL rp0_0 264 (AL AM p0.l_), .obj bp0_4 (.cells none 2 (Cl 256 (AA.int .u8) p0.t_.BO ++ [Ai p0.t_.Aq, AI rp0_4_2 p0.t_.BN.length, AI rp0_4_3 p0.t_.A8.length])), .AL rp0_4_2 21 (AL (eI .i32) p0.t_.BN), .AL rp0_4_3 4 (AL eB p0.t_.A8), .AL rp0_5 5 (AL eY p0.DP), .obj bp0_6 (.map 2 (BR (fun k : List UInt8 => .str k) (fun v : Int => .int .i32 v) p0.Bk)), .AL rp0_7 9 (AL eS p0.By)] F) ho ⟨_, _, rfl, rfl, H.ls, A⟩ ?_
  clear ho hm H A
  intro s q fr h2 hI hm
  obtain ⟨x1, x2, rfl, hl1, H, A⟩ := hI
  unfold EY at hm
  refine AG 1 (AN 1 [(19, .bool (decide (x2 < (p0.l_.length : Int))))] H fun fr H => AQ (Ak 19 H hm (fun hb hm H => ?_) fun hb hm H => ?_))
  ·refine Be id (AQ ?_)
   obtain ⟨o2, ho, hm⟩ := bind_some hm
   refine BM (Q' := fun e fr' h' => (∃ x4, e = .normal ∧ x4 = o2 ∧ ∃ (hl3 : x4.length = (List.replicate (p1.length : Int).toNat (0 : UInt8)).length), Has fr' 83 [(0, .ptr (some (bp0, 0))), (1, .str p1), (2, Ab p2), (7, AI (some h.size) x4.length), (16, AI rp0_0 p0.l_.length), (17, Ai (p0.l_.length : Int)), (18, Ai x2)] ∧ HH g h' [.AL (some h.size) 5 (AL eY x4), .obj bp0 (.cells none 2 [AI rp0_0 p0.l_.length, .bool p0.f_.Fold, .bool p0.f_.Ax, Ai p0.ET, .ptr (some (bp0_4, 0)), AI rp0_5 p0.DP.length, .map (some bp0_6), AI rp0_7 p0.By.length]), .AL rp0_0 264 (AL AM p0.l_), .obj bp0_4 (.cells none 2 (Cl 256 (AA.int .u8) p0.t_.BO ++ [Ai p0.t_.Aq, AI rp0_4_2 p0.t_.BN.length, AI rp0_4_3 p0.t_.A8.length])), .AL rp0_4_2 21 (AL (eI .i32) p0.t_.BN), .AL rp0_4_3 4 (AL eB p0.t_.A8), .AL rp0_5 5 (AL eY p0.DP), .obj bp0_6 (.map 2 (BR (fun k : List UInt8 => .str k) (fun v : Int => .int .i32 v) p0.Bk)), .AL rp0_7 9 (AL eS p0.By)] F) ∨ False) ?_ ?_
   ·replace hm := ho
    clear ho
    refine AX (id := 1) (by kernel_rfl) ?_
    refine AG 6 ?_
    obtain ⟨x5, hx, hm⟩ := bind_some hm
    obtain ⟨i1, er1, _, hx, hq1⟩ := HH.NP Br (by decide) A 2 (xs := p0.l_) rfl hx
    refine As 1 [(20, Ai x2)] 21 (.ptr (some (i1, x2.toNat * 6))) h2 H (fun fr => .of (Fa (s := D2 rp0_0 p0.l_.length) (by kernel_rfl) hx)) fun fr t H => ?_
    refine Az 22 _ _ H (fun fr => .of (Bs (by kernel_rfl) (L4 Br (HH.row A 2 rfl er1) hq1 0 6 (Nat.le_of_ble_eq_true rfl)))) fun fr t H => ?_
    obtain ⟨h3, e2, A⟩ := A.pu (.cells none 2 [Ai 0, Ab 0, Au 0, Au 0, Au 0, Au 0])
    refine BC 9 (.ptr (some (h2.size, 0))) e2 H fun fr t H => ?_
    obtain ⟨h4, hx, A⟩ := A.s0 0 (AM x5) [_, _, _, _, _, _]
    refine EL 1 [(8, Ai x2)] hx H fun fr t H => ?_
    refine BB id (AQ (AG 9 ?_))
    obtain ⟨x6, hx, hm⟩ := bind_some hm
    refine As 3 [] 26 (Ab x6) h4 H (fun fr => .of (G4 (by kernel_rfl) hx)) fun fr t H => ?_
    refine AF 2 [(28, Ai (CM .i64 x2 (7 : Int)))] H fun fr H => ?_
    obtain ⟨hb, hm⟩ := BZ hm
    refine Az 29 (Ab (B7 .u8 x6 (CM .i64 x2 (7 : Int)))) h4 H (fun fr => .of (Su (by kernel_rfl) hb)) fun fr t H => ?_
    refine AN 2 [(31, .bool ((CM .u8 (B7 .u8 x6 (CM .i64 x2 (7 : Int))) (1 : Int)) == 0))] H fun fr H => Ak 31 H hm (fun hb hm H => ?_) fun hb hm H => ?_
    ·refine Bn (i := 1) (by kernel_rfl) ?_
     replace A := A.k9 1 2 3 4 5 6 7 8 9
     exact .inl ⟨_, rfl, Aa hm, hl1, H.ls, A⟩
    refine Be id (AX (id := 2) (by kernel_rfl) ?_)
    refine AG 15 (AR 1 [] 34 0 0 A H fun fr t H => ?_)
    refine AF 2 [(36, .bool (x5.Kind == 4))] H fun fr H => An 10 (fun fr' h' => h4 = h' ∧ Has fr' 83 [(0, .ptr (some (bp0, 0))), (1, .str p1), (2, Ab p2), (7, AI (some h.size) x1.length), (8, Ai x2), (9, .ptr (some (h2.size, 0))), (16, AI rp0_0 p0.l_.length), (17, Ai (p0.l_.length : Int)), (18, Ai x2), (46, .bool ((x5.Kind == 4) && (p0.f_.Ax || (p2 != 47))))]) ?_ ?_
    ·cases hb : (x5.Kind == 4 : Bool) with
     | true =>
      replace H := H.kn 36 hb
      refine AR 4 [] 41 2 2 A H fun fr t H => ?_
      refine AF 1 [(42, .bool p0.f_.Ax)] H fun fr H => An 3 (fun fr' h' => h4 = h' ∧ Has fr' 83 [(0, .ptr (some (bp0, 0))), (1, .str p1), (2, Ab p2), (7, AI (some h.size) x1.length), (8, Ai x2), (9, .ptr (some (h2.size, 0))), (16, AI rp0_0 p0.l_.length), (17, Ai (p0.l_.length : Int)), (18, Ai x2), (36, .bool true), (45, .bool (p0.f_.Ax || (p2 != 47)))]) ?_ ?_
      ·cases hb : (p0.f_.Ax : Bool) with
       | true =>
        replace H := H.kn 42 hb
        exact AF 3 [(45, .bool true)] H fun fr H => AY H hb
       | false =>
        replace H := H.kn 42 hb
        exact AF 3 [(45, .bool (p2 != 47))] H fun fr H => AY H hb
      intro t fr h' hK
      obtain ⟨e, H⟩ := hK
      subst e
      exact AF 1 [(46, .bool (p0.f_.Ax || (p2 != 47)))] H fun fr H => AY H hb
     | false =>
      replace H := H.kn 36 hb
      exact AF 10 [(46, .bool false)] H fun fr H => AY H hb
    intro t fr h' hK
    obtain ⟨e, H⟩ := hK
    subst e
    refine AN 1 [(32, .bool ((x5.Kind == 4) && (p0.f_.Ax || (p2 != 47))))] H fun fr H => Ak 32 H hm (fun hb hm H => ?_) fun hb hm H => ?_
    ·refine EZ 7 11 ?_
     obtain ⟨x7, hx, hm⟩ := bind_some hm
     obtain ⟨i2, er2, _, hx, hq2⟩ := HH.NP HC (by decide) A 1 (xs := x1) rfl hx
     refine As 3 [(47, AI (some h.size) x1.length), (49, Ai (B7 .i64 x2 (3 : Int)))] 50 (.ptr (some (i2, (B7 .i64 x2 (3 : Int)).toNat * 1))) h4 H (fun fr => .of (Fa (s := D2 (some h.size) x1.length) (by kernel_rfl) hx)) fun fr t H => ?_
     refine Az 51 _ _ H (fun fr => .of (Dj (by kernel_rfl) (FU HC (HH.row A 1 rfl er2) hq2 (o := 0) rfl))) fun fr t H => ?_
     refine AF 2 [(53, Ai (CM .i64 x2 (7 : Int)))] H fun fr H => ?_
     obtain ⟨hb, hm⟩ := BZ hm
     refine Az 54 (Ab (KH .u8 (1 : Int) (CM .i64 x2 (7 : Int)))) h4 H (fun fr => .of (Tc (by kernel_rfl) hb)) fun fr t H => ?_
     obtain ⟨x8, hx, hm⟩ := bind_some hm
     obtain ⟨i3, er3, _, hx, hq3⟩ := HH.NP HC (by decide) A 1 (xs := x1) rfl hx
     refine As 1 [(55, Ab (M1 .u8 (x7.toNat : Int) (KH .u8 (1 : Int) (CM .i64 x2 (7 : Int)))))] 56 (.ptr (some (i3, (B7 .i64 x2 (3 : Int)).toNat * 1))) h4 H (fun fr => .of (Fa (s := D2 (some h.size) x1.length) (by kernel_rfl) hx)) fun fr t H => ?_
     obtain ⟨x9, hx, hm⟩ := bind_some hm
     have hx := N7 hx
     rw [hx] at H
     obtain ⟨h5, hx, A1⟩ := HH.WW HC A 1 rfl er3 hq3 (y := x9) (o := 0) (new := [Ab (x9.toNat : Int)]) rfl rfl (Nat.le_of_ble_eq_true rfl)
     have hl4 : (x1.set (B7 .i64 x2 (3 : Int)).toNat x9).length = (List.replicate (p1.length : Int).toNat (0 : UInt8)).length := List.length_set.trans hl1
     have el : AI (some h.size) x1.length = AI (some h.size) (x1.set (B7 .i64 x2 (3 : Int)).toNat x9).length := congrArg _ List.length_set.symm
     try rw [el] at H
     try rw [el] at A1
     replace A : HH g h5 [_, .AL (some h.size) 5 (AL eY (x1.set (B7 .i64 x2 (3 : Int)).toNat x9)), _, _, _, _, _, _, _, _] F := A1
     refine Jo hx H fun fr t H => ?_
     refine at_nil ?_
     replace A := A.k9 1 2 3 4 5 6 7 8 9
     exact .inl ⟨_, rfl, Aa hm, hl4, H.ls, A⟩
    refine AG 10 (AR 1 [] 59 0 0 A H fun fr t H => ?_)
    refine AF 2 [(61, .bool (x5.Kind != 4))] H fun fr H => ?_
    obtain ⟨x10, ho, hm⟩ := bind_some hm
    refine An 5 (fun fr' h' => Has fr' 83 [(0, .ptr (some (bp0, 0))), (1, .str p1), (2, Ab p2), (7, AI (some h.size) x1.length), (8, Ai x2), (16, AI rp0_0 p0.l_.length), (17, Ai (p0.l_.length : Int)), (18, Ai x2), (66, .bool x10)] ∧ HH g h' [.obj h2.size (.cells none 2 (AM x5)), .AL (some h.size) 5 (AL eY x1), .obj bp0 (.cells none 2 [AI rp0_0 p0.l_.length, .bool p0.f_.Fold, .bool p0.f_.Ax, Ai p0.ET, .ptr (some (bp0_4, 0)), AI rp0_5 p0.DP.length, .map (some bp0_6), AI rp0_7 p0.By.length]), .AL rp0_0 264 (AL AM p0.l_), .obj bp0_4 (.cells none 2 (Cl 256 (AA.int .u8) p0.t_.BO ++ [Ai p0.t_.Aq, AI rp0_4_2 p0.t_.BN.length, AI rp0_4_3 p0.t_.A8.length])), .AL rp0_4_2 21 (AL (eI .i32) p0.t_.BN), .AL rp0_4_3 4 (AL eB p0.t_.A8), .AL rp0_5 5 (AL eY p0.DP), .obj bp0_6 (.map 2 (BR (fun k : List UInt8 => .str k) (fun v : Int => .int .i32 v) p0.Bk)), .AL rp0_7 9 (AL eS p0.By)] F) ?_ ?_
    ·rcases AU ho with ⟨hb, hm⟩ | ⟨hb, hm⟩
     ·replace H := H.kn 61 hb
      refine As 1 [(62, .ptr (some (bp0, 0)))] 63 _ _ H (fun fr => .of (Bs (by kernel_rfl) (A.GA 0 rfl (o := 0) (n := 6) ⟨Nat.le_of_ble_eq_true rfl, rfl⟩))) fun fr t H => ?_
      replace A : HH g h4 [_, _, _, _, _, _, _, _, _, _] F := ((((((((A.front 9 rfl).front 9 rfl).front 9 rfl).front 9 rfl).front 9 rfl).front 9 rfl).front 9 rfl).front 9 rfl)
      obtain ⟨x11, hx, hm⟩ := bind_some hm
      obtain ⟨v1, h7, hr, rfl, A1⟩ := E7 (av := [.ptr (some (bp0, 0)), .agg (AM x5), Ab p2]) hx (A.cut 8)
      replace A : HH g h7 [.obj bp0 (.cells none 2 [_, _, _, _, _, _, _, _]), .AL rp0_0 264 (AL AM p0.l_), .obj bp0_4 (.cells none 2 (Cl 256 (AA.int .u8) p0.t_.BO ++ [Ai p0.t_.Aq, AI rp0_4_2 p0.t_.BN.length, AI rp0_4_3 p0.t_.A8.length])), .AL rp0_4_2 21 (AL (eI .i32) p0.t_.BN), .AL rp0_4_3 4 (AL eB p0.t_.A8), .AL rp0_5 5 (AL eY p0.DP), .obj bp0_6 (.map 2 (BR (fun k : List UInt8 => .str k) (fun v : Int => .int .i32 v) p0.Bk)), .AL rp0_7 9 (AL eS p0.By), _, _] F := A.CL (n := 8) A1
      refine BH 1 [] 65 hr H fun fr t H => ?_
      refine AF 1 [(66, .bool x11)] H fun fr H => ?_
      obtain rfl := Aa hm
      replace A : HH g h7 [_, _, _, _, _, _, _, _, _, _] F := ((((((((((A.front 7 rfl).front 7 rfl).front 7 rfl).front 7 rfl).front 7 rfl).front 7 rfl).front 7 rfl).front 7 rfl).front 9 rfl).front 9 rfl)
      exact at_nil ⟨H.ls, A⟩
     replace H := H.kn 61 hb
     refine AF 5 [(66, .bool false)] H fun fr H => ?_
     obtain rfl := Aa hm
     exact at_nil ⟨H.ls, A⟩
    clear A
    intro t fr h6 hK
    obtain ⟨H, A⟩ := hK
    refine AN 1 [(57, .bool x10)] H fun fr H => Ak 57 H hm (fun hb hm H => ?_) fun hb hm H => ?_
    ·refine EZ 9 13 ?_
     obtain ⟨x12, hx, hm⟩ := bind_some hm
     obtain ⟨i4, er4, _, hx, hq4⟩ := HH.NP HC (by decide) A 1 (xs := x1) rfl hx
     refine As 4 [(67, AI (some h.size) x1.length), (70, Ai (B7 .i64 (IntKind.i64.wrap (x2 + 1)) (3 : Int)))] 71 (.ptr (some (i4, (B7 .i64 (IntKind.i64.wrap (x2 + 1)) (3 : Int)).toNat * 1))) h6 H (fun fr => .of (Fa (s := D2 (some h.size) x1.length) (by kernel_rfl) hx)) fun fr t H => ?_
     refine Az 72 _ _ H (fun fr => .of (Dj (by kernel_rfl) (FU HC (HH.row A 1 rfl er4) hq4 (o := 0) rfl))) fun fr t H => ?_
     refine AF 3 [(75, Ai (CM .i64 (IntKind.i64.wrap (x2 + 1)) (7 : Int)))] H fun fr H => ?_
     obtain ⟨hb, hm⟩ := BZ hm
     refine Az 76 (Ab (KH .u8 (1 : Int) (CM .i64 (IntKind.i64.wrap (x2 + 1)) (7 : Int)))) h6 H (fun fr => .of (Tc (by kernel_rfl) hb)) fun fr t H => ?_
     obtain ⟨x13, hx, hm⟩ := bind_some hm
     obtain ⟨i5, er5, _, hx, hq5⟩ := HH.NP HC (by decide) A 1 (xs := x1) rfl hx
     refine As 1 [(77, Ab (M1 .u8 (x12.toNat : Int) (KH .u8 (1 : Int) (CM .i64 (IntKind.i64.wrap (x2 + 1)) (7 : Int)))))] 78 (.ptr (some (i5, (B7 .i64 (IntKind.i64.wrap (x2 + 1)) (3 : Int)).toNat * 1))) h6 H (fun fr => .of (Fa (s := D2 (some h.size) x1.length) (by kernel_rfl) hx)) fun fr t H => ?_
     obtain ⟨x14, hx, hm⟩ := bind_some hm
     have hx := N7 hx
     rw [hx] at H
     obtain ⟨h8, hx, A1⟩ := HH.WW HC A 1 rfl er5 hq5 (y := x14) (o := 0) (new := [Ab (x14.toNat : Int)]) rfl rfl (Nat.le_of_ble_eq_true rfl)
     have hl5 : (x1.set (B7 .i64 (IntKind.i64.wrap (x2 + 1)) (3 : Int)).toNat x14).length = (List.replicate (p1.length : Int).toNat (0 : UInt8)).length := List.length_set.trans hl1
     have el : AI (some h.size) x1.length = AI (some h.size) (x1.set (B7 .i64 (IntKind.i64.wrap (x2 + 1)) (3 : Int)).toNat x14).length := congrArg _ List.length_set.symm
     try rw [el] at H
     try rw [el] at A1
     replace A : HH g h8 [_, .AL (some h.size) 5 (AL eY (x1.set (B7 .i64 (IntKind.i64.wrap (x2 + 1)) (3 : Int)).toNat x14)), _, _, _, _, _, _, _, _] F := A1
     refine Jo hx H fun fr t H => ?_
     refine at_nil ?_
     replace A := A.k9 1 2 3 4 5 6 7 8 9
     exact .inl ⟨_, rfl, Aa hm, hl5, H.ls, A⟩
    refine IG ?_
    replace A := A.k9 1 2 3 4 5 6 7 8 9
    exact .inl ⟨_, rfl, Aa hm, hl1, H.ls, A⟩
   clear ho
   clear A
   intro e fr h9 hQ
   rcases hQ with ⟨x4, rfl, rfl, hl3, H, A⟩ | hF
   ·show AW _ _ _ _ _ _ _
    refine EW 2 (Bi 2 [(0, .ptr (some (bp0, 0))), (1, .str p1), (2, Ab p2), (7, AI (some h.size) x4.length), (16, AI rp0_0 p0.l_.length), (17, Ai (p0.l_.length : Int)), (18, Ai (IntKind.i64.wrap (x2 + 1)))] H fun fr H => at_nil ?_)
    exact nx hm ⟨_, _, rfl, hl3, H.ls, A⟩
   exact hF.elim
  refine Bn (i := 0) (by kernel_rfl) ?_
  exact nr hm fun e => .inl ⟨_, rfl, e, hl1, H.ls, A⟩
 clear ho
 clear A
 intro e fr h10 hQ
 rcases hQ with ⟨x3, rfl, rfl, hl2, H, A⟩ | hF
 ·show AW _ _ _ _ _ _ _
  refine AG 4 ?_
  replace A := A.k9 1 2 3 4 5 6 7 8 0
  obtain ⟨⟨x15, x16⟩, hx, hm⟩ := bind_some hm
  obtain ⟨v1, h11, hr, hl6, rfl, A1⟩ := Ey (av := [.ptr (some (bp0, 0)), AI (some h.size) x3.length]) hx (A.cut 9)
  have hl7 : x16.length = (List.replicate (p1.length : Int).toNat (0 : UInt8)).length := hl6.trans hl2
  have el : AI (some h.size) x3.length = AI (some h.size) x16.length := congrArg _ hl6.symm
  try rw [el] at H
  try rw [el] at hr
  try rw [el] at A1
  replace A : HH g h11 [.obj bp0 (.cells none 2 [_, _, _, _, _, _, _, _]), .AL rp0_0 264 (AL AM p0.l_), .obj bp0_4 (.cells none 2 (Cl 256 (AA.int .u8) p0.t_.BO ++ [Ai p0.t_.Aq, AI rp0_4_2 p0.t_.BN.length, AI rp0_4_3 p0.t_.A8.length])), .AL rp0_4_2 21 (AL (eI .i32) p0.t_.BN), .AL rp0_4_3 4 (AL eB p0.t_.A8), .AL rp0_5 5 (AL eY p0.DP), .obj bp0_6 (.map 2 (BR (fun k : List UInt8 => .str k) (fun v : Int => .int .i32 v) p0.Bk)), .AL rp0_7 9 (AL eS p0.By), .AL (some h.size) 5 (AL eY x16)] F := A.CL (n := 9) A1
  refine BH 2 [] 82 hr H fun fr t H => ?_
  refine AN 1 [(6, .str x15)] H fun fr H => AS ?_
  obtain rfl := Aa hm
  refine ⟨.inl rfl, .str x15, rH H, ?_⟩
  replace A := A.d8
  exact ⟨rfl, A⟩
 exact hF.elim
def Kr (p0 : List A0) (s : Int) : Option ((Int) ⊕ ((Unit))) :=
 match s with
 | x1 => Ae (decide (x1 < (p0.length : Int))) ((HR p0 x1).bind fun x2 => none) (some (.inr ()))
def Kz (p0 : List A0) (p1 : Int) (p2 : Int) : Option ((Option CQ) × Int × Int) :=
 Ae ((decide (p2 < 1)) || (decide (p2 > 4096))) (some (none, (0 : Int), (6 : Int))) (Ae (decide ((p0.length : Int) > 256)) (some (none, (0 : Int), (8 : Int))) ((loop (Kr p0) (0 : Int)).bind fun _ => some (some (⟨([] : List EJ), p2⟩ : CQ), (0 : Int), (0 : Int))))
theorem QX {p0 p1 p2 o0 q1 q2} (hm : Kz p0 p1 p2 = some (o0, q1, q2)) (A : HH g h [] F) (hc : BI (cfg.still 32) av = [vs AJ p0, Ai p1, Ai p2] := by kernel_rfl) : ∃ v h', BL cfg g h 32 av v h' ∧ ((∃ (bq00 : Nat) (rq00_0 : Option Nat) (q00 : CQ), o0 = some q00 ∧ v = .tuple [.ptr (some (bq00, 0)), Ai q1, Ai q2] ∧ HH g h' [.obj bq00 (.cells none 2 [AI rq00_0 q00.l_.length, Ai q00.Ba]), .AL rq00_0 142 (AL (eP AK) q00.l_)] F) ∨ (o0 = none ∧ v = .tuple [.ptr none, Ai q1, Ai q2] ∧ HH g h' [] F)) := by
 refine D5 59 [.tmp 6, .tmp 7, .tmp 8] hc ?_
 clear hc
 unfold Kz at hm
 refine bg 59 [(0, vs AJ p0), (1, Ai p1), (2, Ai p2)] fun fr H => ?_
 refine AG 3 (AN 3 [] H fun fr H => AQ (AX (id := 0) (by kernel_rfl) ?_))
 refine AG 7 (AF 3 [(18, .bool (decide (p2 < 1)))] H fun fr H => An 3 (fun fr' h' => h = h' ∧ Has fr' 59 [(0, vs AJ p0), (1, Ai p1), (2, Ai p2), (21, .bool ((decide (p2 < 1)) || (decide (p2 > 4096))))]) ?_ ?_)
 ·cases hb : (decide (p2 < 1) : Bool) with
  | true =>
   replace H := H.kn 18 hb
   exact AF 3 [(21, .bool true)] H fun fr H => AY H hb
  | false =>
   replace H := H.kn 18 hb
   exact AF 3 [(21, .bool (decide (p2 > 4096)))] H fun fr H => AY H hb
 intro t fr h' hK
 obtain ⟨e, H⟩ := hK
 subst e
 refine AN 1 [(15, .bool ((decide (p2 < 1)) || (decide (p2 > 4096))))] H fun fr H => Ak 15 H hm (fun hb hm H => ?_) fun hb hm H => ?_
 ·refine AG 3 (AN 3 [(6, .ptr none), (7, Ai 0), (8, Ai 6)] H fun fr H => AS ?_)
  obtain ⟨rfl, rfl, rfl⟩ := Li hm
  refine ⟨.inl rfl, .tuple [.ptr none, Ai 0, Ai 6], rH H, ?_⟩
  exact .inr ⟨rfl, rfl, A⟩
 refine AG 4 (AN 4 [(22, .bool (decide ((p0.length : Int) > 256)))] H fun fr H => Ak 22 H hm (fun hb hm H => ?_) fun hb hm H => ?_)
 ·refine AG 3 (AN 3 [(6, .ptr none), (7, Ai 0), (8, Ai 8)] H fun fr H => AS ?_)
  obtain ⟨rfl, rfl, rfl⟩ := Li hm
  refine ⟨.inl rfl, .tuple [.ptr none, Ai 0, Ai 8], rH H, ?_⟩
  exact .inr ⟨rfl, rfl, A⟩
 refine Cm 4 id ?_
 obtain ⟨h1, e1, A⟩ := A.pu (.cells none 2 [.slice none 0, Ai p2])
 refine Gy 2 [] 28 (.ptr (some (h.size, 0))) e1 H fun fr t H => ?_
 refine AN 1 [(9, .ptr (some (h.size, 0)))] H fun fr H => AQ (AG 3 (AN 3 [(29, vs AJ p0), (30, Ai (p0.length : Int)), (31, Ai 0)] H fun fr H => AX (id := 1) (by kernel_rfl) ?_))
 obtain ⟨o1, ho, hm⟩ := bind_some hm
 refine BM (Q' := fun e fr' h' => (e = .exit 1 ∧ () = o1 ∧ Has fr' 59 [(9, .ptr (some (h.size, 0)))] ∧ HH g h' [.obj h.size (.cells none 2 [.slice none 0, Ai p2])] F) ∨ False) ?_ ?_
 ·refine B8 (by kernel_rfl) (fun (s : Int) fr' h' => ∃ x1, x1 = s ∧ Has fr' 59 [(1, Ai p1), (9, .ptr (some (h.size, 0))), (29, vs AJ p0), (30, Ai (p0.length : Int)), (31, Ai x1)] ∧ HH g h' [.obj h.size (.cells none 2 [.slice none 0, Ai p2])] F) ho ⟨_, rfl, H.ls, A⟩ ?_
  clear ho hm H A
  intro s q fr h2 hI hm
  obtain ⟨x1, rfl, H, A⟩ := hI
  unfold Kr at hm
  refine AG 1 (AN 1 [(32, .bool (decide (x1 < (p0.length : Int))))] H fun fr H => AQ (Ak 32 H hm (fun hb hm H => ?_) fun hb hm H => ?_))
  ·refine Be id (AQ (AX (id := 2) (by kernel_rfl) ?_))
   refine AG 6 ?_
   obtain ⟨x2, hx, hm⟩ := bind_some hm
   refine As 1 [(33, Ai x1)] 34 (.A7 (AJ x2)) h2 H (fun fr => .of (I3 (e := AJ) (x := x2) EK (by decide) (by kernel_rfl) hx)) fun fr t H => ?_
   refine Az 35 (.agg (AJ x2)) h2 H (fun fr => .of (IQ (by kernel_rfl))) fun fr t H => ?_
   obtain ⟨h3, e2, A⟩ := A.pu (.cells none 2 [.str ([] : List UInt8), .str ([] : List UInt8), .bool false, .bool false, .bool false, Ai 0, .bool false, .bool false, .bool false])
   refine BC 11 (.ptr (some (h2.size, 0))) e2 H fun fr t H => ?_
   obtain ⟨h4, hx, A⟩ := A.s0 0 (AJ x2) [_, _, _, _, _, _, _, _, _]
   refine EL 1 [(10, Ai x1)] hx H fun fr t H => ?_
   refine Cj 10 id (Az 37 _ _ H (fun fr => .of (Bs (by kernel_rfl) (A.GA 0 rfl (o := 0) (n := 9) ⟨Nat.le_of_ble_eq_true rfl, rfl⟩))) fun fr t H => ?_)
   cases hm
  refine Bn (i := 1) (by kernel_rfl) ?_
  exact nr hm fun e => .inl ⟨rfl, e, H.ls, A⟩
 clear ho
 clear A
 intro e fr h5 hQ
 rcases hQ with ⟨rfl, rfl, H, A⟩ | hF
 ·show AW _ _ _ _ _ _ _
  refine AG 4 (AN 4 [(6, .ptr (some (h.size, 0))), (7, Ai 0), (8, Ai 0)] H fun fr H => AS ?_)
  obtain ⟨rfl, rfl, rfl⟩ := Li hm
  refine ⟨.inl rfl, .tuple [.ptr (some (h.size, 0)), Ai 0, Ai 0], rH H, ?_⟩
  replace A : HH g h5 [.AL none 142 (AL (eP AK) ([] : List EJ)), .obj h.size (.cells none 2 [AI none (([] : List EJ).length), Ai p2])] F := A.MV 142
  replace A := A.k2 1 0
  exact .inl ⟨h.size, none, (⟨([] : List EJ), p2⟩ : CQ), rfl, rfl, A⟩
 exact hF.elim
def JB (p0 : Int) (p1 : Int) : Option ((Option CF) × Int) :=
 Ae ((((decide (p0 < 0)) || (decide (p0 > 9007199254740991))) || (decide (p1 < 1))) || (decide (p1 > 257))) (some (none, (6 : Int))) (some (some (⟨p0, p1, Oe⟩ : CF), (0 : Int)))
theorem MU {p0 p1 o0 q1} (hm : JB p0 p1 = some (o0, q1)) (A : HH g h [] F) (hc : BI (cfg.still 33) av = [Ai p0, Ai p1] := by kernel_rfl) : ∃ v h', BL cfg g h 33 av v h' ∧ ((∃ (bq00 : Nat) (q00 : CF), o0 = some q00 ∧ v = .tuple [.ptr (some (bq00, 0)), Ai q1] ∧ HH g h' [.obj bq00 (.cells none 2 ([Ai q00.n_, Ai q00.Aq] ++ (Cl 257 (AA.int .i64) q00.BJ ++ [])))] F) ∨ (o0 = none ∧ v = .tuple [.ptr none, Ai q1] ∧ HH g h' [] F)) := by
 refine D5 24 [.tmp 4, .tmp 5] hc ?_
 clear hc
 unfold JB at hm
 refine bg 24 [(0, Ai p0), (1, Ai p1)] fun fr H => ?_
 refine AG 2 (AN 2 [] H fun fr H => AQ (AG 14 (AF 3 [(8, .bool (decide (p0 < 0)))] H fun fr H => An 3 (fun fr' h' => h = h' ∧ Has fr' 24 [(0, Ai p0), (1, Ai p1), (11, .bool ((decide (p0 < 0)) || (decide (p0 > 9007199254740991))))]) ?_ ?_)))
 ·cases hb : (decide (p0 < 0) : Bool) with
  | true =>
   replace H := H.kn 8 hb
   exact AF 3 [(11, .bool true)] H fun fr H => AY H hb
  | false =>
   replace H := H.kn 8 hb
   exact AF 3 [(11, .bool (decide (p0 > 9007199254740991)))] H fun fr H => AY H hb
 intro t fr h' hK
 obtain ⟨e, H⟩ := hK
 subst e
 refine AF 1 [(12, .bool ((decide (p0 < 0)) || (decide (p0 > 9007199254740991))))] H fun fr H => An 3 (fun fr' h' => h = h' ∧ Has fr' 24 [(0, Ai p0), (1, Ai p1), (15, .bool (((decide (p0 < 0)) || (decide (p0 > 9007199254740991))) || (decide (p1 < 1))))]) ?_ ?_
 ·cases hb : ((decide (p0 < 0)) || (decide (p0 > 9007199254740991)) : Bool) with
  | true =>
   replace H := H.kn 12 hb
   exact AF 3 [(15, .bool true)] H fun fr H => AY H hb
  | false =>
   replace H := H.kn 12 hb
   exact AF 3 [(15, .bool (decide (p1 < 1)))] H fun fr H => AY H hb
 intro t fr h' hK
 obtain ⟨e, H⟩ := hK
 subst e
 refine AF 1 [(16, .bool (((decide (p0 < 0)) || (decide (p0 > 9007199254740991))) || (decide (p1 < 1))))] H fun fr H => An 3 (fun fr' h' => h = h' ∧ Has fr' 24 [(0, Ai p0), (1, Ai p1), (19, .bool ((((decide (p0 < 0)) || (decide (p0 > 9007199254740991))) || (decide (p1 < 1))) || (decide (p1 > 257))))]) ?_ ?_
 ·cases hb : (((decide (p0 < 0)) || (decide (p0 > 9007199254740991))) || (decide (p1 < 1)) : Bool) with
  | true =>
   replace H := H.kn 16 hb
   exact AF 3 [(19, .bool true)] H fun fr H => AY H hb
  | false =>
   replace H := H.kn 16 hb
   exact AF 3 [(19, .bool (decide (p1 > 257)))] H fun fr H => AY H hb
 intro t fr h' hK
 obtain ⟨e, H⟩ := hK
 subst e
 refine BB id (Ak 19 H hm (fun hb hm H => ?_) fun hb hm H => ?_)
 ·refine AG 2 (AN 2 [(4, .ptr none), (5, Ai 6)] H fun fr H => AS ?_)
  obtain ⟨rfl, rfl⟩ := DG hm
  refine ⟨.inl rfl, .tuple [.ptr none, Ai 6], rH H, ?_⟩
  exact .inr ⟨rfl, rfl, A⟩
 refine Cm 6 id ?_
 obtain ⟨h1, e1, A⟩ := A.pu (.cells none 2 ([Ai p0, Ai p1] ++ (Cl 257 (AA.int .i64) Oe ++ [])))
 refine Gy 3 [] 23 (.ptr (some (h.size, 0))) e1 H fun fr t H => ?_
 refine AN 2 [(4, .ptr (some (h.size, 0))), (5, Ai 0)] H fun fr H => AS ?_
 obtain ⟨rfl, rfl⟩ := DG hm
 refine ⟨.inl rfl, .tuple [.ptr (some (h.size, 0)), Ai 0], rH H, ?_⟩
 exact .inl ⟨h.size, (⟨p0, p1, Oe⟩ : CF), rfl, rfl, A⟩
def Dp (p0 : List UInt8) : Option ((List UInt8)) :=
 Ae ((p0 == ([] : List UInt8)) || (([47] : List UInt8) == ([] : List UInt8))) (some p0) ((Dt p0 (47 : Int)).bind fun x1 => some x1)
theorem GJ {p0 q0} (hm : Dp p0 = some q0) (A : HH g h [] F) (hc : BI (cfg.still 151) av = [.str p0, .str ([47] : List UInt8)] := by kernel_rfl) : ∃ v h', BL cfg g h 151 av v h' ∧ v = .str q0 ∧ HH g h' [] F := by
 refine D5 37 [.tmp 4] hc ?_
 clear hc
 unfold Dp at hm
 refine bg 37 [(0, .str p0), (1, .str ([47] : List UInt8))] fun fr H => ?_
 refine AG 1 (AN 1 [] H fun fr H => AQ (AG 6 (AF 3 [(9, .bool (p0 == ([] : List UInt8)))] H fun fr H => An 3 (fun fr' h' => h = h' ∧ Has fr' 37 [(0, .str p0), (1, .str ([47] : List UInt8)), (12, .bool ((p0 == ([] : List UInt8)) || (([47] : List UInt8) == ([] : List UInt8))))]) ?_ ?_)))
 ·cases hb : (p0 == ([] : List UInt8) : Bool) with
  | true =>
   replace H := H.kn 9 hb
   exact AF 3 [(12, .bool true)] H fun fr H => AY H hb
  | false =>
   replace H := H.kn 9 hb
   exact AF 3 [(12, .bool (([47] : List UInt8) == ([] : List UInt8)))] H fun fr H => AY H hb
 intro t fr h' hK
 obtain ⟨e, H⟩ := hK
 subst e
 refine BB id (Ak 12 H hm (fun hb hm H => ?_) fun hb hm H => ?_)
 ·refine AG 2 (AN 2 [(4, .str p0)] H fun fr H => AS ?_)
  obtain rfl := Aa hm
  exact ⟨.inl rfl, _, rH H, rfl, A⟩
 refine Be id (AQ (AG 8 (AN 8 [(21, .bool true)] H fun fr H => Dd (x := .tmp 21) (by kernel_rfl) H (fun fr => by kernel_rfl) ?_)))
 refine AG 5 ?_
 obtain ⟨x1, hx, hm⟩ := bind_some hm
 obtain ⟨v1, h1, hr, rfl, A1⟩ := GM (av := [.str p0, Ab 47]) hx (A.cut 0)
 replace A := A.EV A1
 refine BH 3 [] 25 hr H fun fr t H => ?_
 refine AN 1 [(4, .str x1)] H fun fr H => AS ?_
 obtain rfl := Aa hm
 exact ⟨.inl rfl, _, rH H, rfl, A⟩
end
end Go.Av.L
