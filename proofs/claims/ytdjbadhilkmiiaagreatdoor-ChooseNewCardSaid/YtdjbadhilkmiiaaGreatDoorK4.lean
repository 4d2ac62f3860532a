/-
 A part.
-/
import Derived.Test.YtdjbadhilkmiiaaGreatDoorKCfg
import Derived.Test.YtdjbadhilkmiiaaGreatDoorK1
import Derived.Test.YtdjbadhilkmiiaaGreatDoorK2
import Derived.Test.YtdjbadhilkmiiaaGreatDoorK3
namespace Go.Av.L
open Go.Av Go.Lib
set_option maxRecDepth 10000
set_option maxHeartbeats 4000000
set_option linter.unusedVariables false
set_option linter.unusedSimpArgs false
variable {g : Gd} {h : AJ} {F : List Ck} {av : List AB}
noncomputable section
def Cj (p0 : Bj) (p1 : List UInt8) (p2 : Int) (s : (List UInt8) × Int) : Option (((List UInt8) × Int) ⊕ (((List UInt8)))) :=
 match s with
 | (x1, x2) => Ac (decide (x2 < (p0.l_.length : Int))) (((HO p0.l_ x2).bind fun x5 => (KW p1 (By .i64 x2 (3 : Int))).bind fun x6 => Ca (decide (0 ≤ (Br .i64 x2 (7 : Int)))) <| Ac ((Br .u8 (By .u8 x6 (Br .i64 x2 (7 : Int))) (1 : Int)) == 0) (some x1) (Ac ((x5.Kind == 4) && (p0.f_.BG || (p2 != 47))) ((HO x1 (By .i64 x2 (3 : Int))).bind fun x7 => Ca (decide (0 ≤ (Br .i64 x2 (7 : Int)))) <| (HO x1 (By .i64 x2 (3 : Int))).bind fun x8 => (TG (G9 .u8 (x7.toNat : Int) (Fk .u8 (1 : Int) (Br .i64 x2 (7 : Int))))).bind fun x9 => some (x1.set (By .i64 x2 (3 : Int)).toNat x9)) ((Ac (x5.Kind != 4) ((CK p0 x5 p2).bind fun x11 => some x11) (some false) : Option (Bool)).bind fun x10 => Ac x10 ((HO x1 (By .i64 (IntKind.i64.wrap (x2 + 1)) (3 : Int))).bind fun x12 => Ca (decide (0 ≤ (Br .i64 (IntKind.i64.wrap (x2 + 1)) (7 : Int)))) <| (HO x1 (By .i64 (IntKind.i64.wrap (x2 + 1)) (3 : Int))).bind fun x13 => (TG (G9 .u8 (x12.toNat : Int) (Fk .u8 (1 : Int) (Br .i64 (IntKind.i64.wrap (x2 + 1)) (7 : Int))))).bind fun x14 => some (x1.set (By .i64 (IntKind.i64.wrap (x2 + 1)) (3 : Int)).toNat x14)) (some x1))) : Option (((List UInt8)))).bind fun x4 => some (.inl (x4, IntKind.i64.wrap (x2 + 1)))) (some (.inr x1))
def CW (p0 : Bj) (p1 : List UInt8) (p2 : Int) : Option ((List UInt8)) :=
 Ca (XO 1 (p1.length : Int)) <| (loop (Cj p0 p1 p2) ((List.replicate (p1.length : Int).toNat (0 : UInt8)), (0 : Int))).bind fun x3 => (CE p0 x3).bind fun (x15, x16) => some x15
theorem G7 {p0 p1 p2 bp0 rp0_0 bp0_4 rp0_4_2 rp0_4_3 rp0_5 bp0_6 rp0_7 q0} (hm : CW p0 p1 p2 = some q0) (A : HH g h [.obj bp0 (.cells none 2 [AH rp0_0 p0.l_.length, .bool p0.f_.Fold, .bool p0.f_.BG, Ai p0.EG, .ptr (some (bp0_4, 0)), AH rp0_5 p0.DU.length, .map (some bp0_6), AH rp0_7 p0.B9.length]), .AK rp0_0 219 (AK AO p0.l_), .obj bp0_4 (.cells none 2 (DC 256 (AB.int .u8) p0.t_.Bh ++ [Ai p0.t_.Az, AH rp0_4_2 p0.t_.Bd.length, AH rp0_4_3 p0.t_.BM.length])), .AK rp0_4_2 21 (AK (eI .i32) p0.t_.Bd), .AK rp0_4_3 4 (AK eB p0.t_.BM), .AK rp0_5 5 (AK eY p0.DU), .obj bp0_6 (.map 2 (CL (fun k : List UInt8 => .str k) (fun v : Int => .int .i32 v) p0.Bx)), .AK rp0_7 9 (AK eS p0.B9)] F) (hc : Ba (cfg.still 135) av = [.ptr (some (bp0, 0)), .str p1, Ab p2] := by kernel_rfl) : ∃ v h', Bi cfg g h 135 av v h' ∧ v = .str q0 ∧ HH g h' [.obj bp0 (.cells none 2 [AH rp0_0 p0.l_.length, .bool p0.f_.Fold, .bool p0.f_.BG, Ai p0.EG, .ptr (some (bp0_4, 0)), AH rp0_5 p0.DU.length, .map (some bp0_6), AH rp0_7 p0.B9.length]), .AK rp0_0 219 (AK AO p0.l_), .obj bp0_4 (.cells none 2 (DC 256 (AB.int .u8) p0.t_.Bh ++ [Ai p0.t_.Az, AH rp0_4_2 p0.t_.Bd.length, AH rp0_4_3 p0.t_.BM.length])), .AK rp0_4_2 21 (AK (eI .i32) p0.t_.Bd), .AK rp0_4_3 4 (AK eB p0.t_.BM), .AK rp0_5 5 (AK eY p0.DU), .obj bp0_6 (.map 2 (CL (fun k : List UInt8 => .str k) (fun v : Int => .int .i32 v) p0.Bx)), .AK rp0_7 9 (AK eS p0.B9)] F := by
 refine EN 83 [.tmp 6] hc ?_
 clear hc
 unfold CW at hm
 refine bg 83 [(0, .ptr (some (bp0, 0))), (1, .str p1), (2, Ab p2)] fun fr H => ?_
 refine AF 1 (B1 1 [] 4 H fun fr H => ?_)
 obtain ⟨hb, hm⟩ := BE hm
 obtain ⟨h1, e1, A⟩ := A.pL 5 (AK eY (List.replicate (p1.length : Int).toNat (0 : UInt8)))
 refine BA 2 [] 12 (AH (some h.size) (List.replicate (p1.length : Int).toNat (0 : UInt8)).length) h1 H (fun fr => .of (TX (e := eY) G8 (x := (0 : UInt8)) (by kernel_rfl) hb (congrArg some e1.symm))) fun fr t H => ?_
 refine AP 1 [(7, AH (some h.size) ((List.replicate (p1.length : Int).toNat (0 : UInt8)).length))] H fun fr H => AR (AF 6 (Ah 3 [] 16 1 0 A H fun fr t H => ?_))
 refine AP 2 [(17, Ai (p0.l_.length : Int)), (18, Ai 0)] H fun fr H => Af (id := 0) (by kernel_rfl) ?_
 obtain ⟨o1, ho, hm⟩ := bind_some hm
 refine BU (Q' := fun e fr' h' => (∃ x3, e = .exit 0 ∧ x3 = o1 ∧ ∃ (hl2 : x3.length = (List.replicate (p1.length : Int).toNat (0 : UInt8)).length), Has fr' 83 [(0, .ptr (some (bp0, 0))), (7, AH (some h.size) x3.length)] ∧ HH g h' [.AK (some h.size) 5 (AK eY x3), .obj bp0 (.cells none 2 [AH rp0_0 p0.l_.length, .bool p0.f_.Fold, .bool p0.f_.BG, Ai p0.EG, .ptr (some (bp0_4, 0)), AH rp0_5 p0.DU.length, .map (some bp0_6), AH rp0_7 p0.B9.length]), .AK rp0_0 219 (AK AO p0.l_), .obj bp0_4 (.cells none 2 (DC 256 (AB.int .u8) p0.t_.Bh ++ [Ai p0.t_.Az, AH rp0_4_2 p0.t_.Bd.length, AH rp0_4_3 p0.t_.BM.length])), .AK rp0_4_2 21 (AK (eI .i32) p0.t_.Bd), .AK rp0_4_3 4 (AK eB p0.t_.BM), .AK rp0_5 5 (AK eY p0.DU), .obj bp0_6 (.map 2 (CL (fun k : List UInt8 => .str k) (fun v : Int => .int .i32 v) p0.Bx)), .AK rp0_7 9 (AK eS p0.B9)] F) ∨ False) ?_ ?_
 ·refine CH (by kernel_rfl) (fun (s : (List UInt8) × Int) fr' h' => ∃ x1 x2, (x1, x2) = s ∧ ∃ (hl1 : x1.length = (List.replicate (p1.length : Int).toNat (0 : UInt8)).length), Has fr' 83 [(0, .ptr (some (bp0, 0))), (1, .str p1), (2, Ab p2), (7, AH (some h.size) x1.length), (16, AH rp0_0 p0.l_.length), (17, Ai (p0.l_.length : Int)), (18, Ai x2)] ∧ HH g h' [.AK (some h.size) 5 (AK eY x1), .obj bp0 (.cells none 2 [AH rp0_0 p0.l_.length, .bool p0.f_.Fold, .bool p0.f_.BG, Ai p0.EG, .ptr (some (bp0_4, 0)), AH rp0_5 p0.DU.length, .map (some bp0_6), AH rp0_7 p0.B9.length]), .AK rp0_0 219 (AK AO p0.l_), .obj bp0_4 (.cells none 2 (DC 256 (AB.int .u8) p0.t_.Bh ++ [Ai p0.t_.Az, AH rp0_4_2 p0.t_.Bd.length, AH rp0_4_3 p0.t_.BM.length])), .AK rp0_4_2 21 (AK (eI .i32) p0.t_.Bd), .AK rp0_4_3 4 (AK eB p0.t_.BM), .AK rp0_5 5 (AK eY p0.DU), .obj bp0_6 (.map 2 (CL (fun k : List UInt8 => .str k) (fun v : Int => .int .i32 v) p0.Bx)), .AK rp0_7 9 (AK eS p0.B9)] F) ho ⟨_, _, rfl, rfl, H.ls, A⟩ ?_
  clear ho hm H A
  intro s q fr h2 hI hm
  obtain ⟨x1, x2, rfl, hl1, H, A⟩ := hI
  unfold Cj at hm
  refine AF 1 (AP 1 [(19, .bool (decide (x2 < (p0.l_.length : Int))))] H fun fr H => AR (Ae 19 H hm (fun hb hm H => ?_) fun hb hm H => ?_))
  ·refine B0 id (AR ?_)
   obtain ⟨o2, ho, hm⟩ := bind_some hm
   refine BU (Q' := fun e fr' h' => (∃ x4, e = .normal ∧ x4 = o2 ∧ ∃ (hl3 : x4.length = (List.replicate (p1.length : Int).toNat (0 : UInt8)).length), Has fr' 83 [(0, .ptr (some (bp0, 0))), (1, .str p1), (2, Ab p2), (7, AH (some h.size) x4.length), (16, AH rp0_0 p0.l_.length), (17, Ai (p0.l_.length : Int)), (18, Ai x2)] ∧ HH g h' [.AK (some h.size) 5 (AK eY x4), .obj bp0 (.cells none 2 [AH rp0_0 p0.l_.length, .bool p0.f_.Fold, .bool p0.f_.BG, Ai p0.EG, .ptr (some (bp0_4, 0)), AH rp0_5 p0.DU.length, .map (some bp0_6), AH rp0_7 p0.B9.length]), .AK rp0_0 219 (AK AO p0.l_), .obj bp0_4 (.cells none 2 (DC 256 (AB.int .u8) p0.t_.Bh ++ [Ai p0.t_.Az, AH rp0_4_2 p0.t_.Bd.length, AH rp0_4_3 p0.t_.BM.length])), .AK rp0_4_2 21 (AK (eI .i32) p0.t_.Bd), .AK rp0_4_3 4 (AK eB p0.t_.BM), .AK rp0_5 5 (AK eY p0.DU), .obj bp0_6 (.map 2 (CL (fun k : List UInt8 => .str k) (fun v : Int => .int .i32 v) p0.Bx)), .AK rp0_7 9 (AK eS p0.B9)] F) ∨ False) ?_ ?_
   ·replace hm := ho
    clear ho
    refine Af (id := 1) (by kernel_rfl) ?_
    refine AF 6 ?_
    obtain ⟨x5, hx, hm⟩ := bind_some hm
    obtain ⟨i1, er1, _, hx, hq1⟩ := HH.Nk Bw (by decide) A 2 (xs := p0.l_) rfl hx
    refine BA 1 [(20, Ai x2)] 21 (.ptr (some (i1, x2.toNat * 6))) h2 H (fun fr => .of (Fg (s := De rp0_0 p0.l_.length) (by kernel_rfl) hx)) fun fr t H => ?_
    refine As 22 _ _ H (fun fr => .of (B3 (by kernel_rfl) (LG Bw (HH.row A 2 rfl er1) hq1 0 6 (Nat.le_of_ble_eq_true rfl)))) fun fr t H => ?_
    obtain ⟨h3, e2, A⟩ := A.pu (.cells none 2 [Ai 0, Ab 0, Au 0, Au 0, Au 0, Au 0])
    refine BP 9 (.ptr (some (h2.size, 0))) e2 H fun fr t H => ?_
    obtain ⟨h4, hx, A⟩ := A.s0 0 (AO x5) [_, _, _, _, _, _]
    refine Dm 1 [(8, Ai x2)] hx H fun fr t H => ?_
    refine BD id (AR (AF 9 ?_))
    obtain ⟨x6, hx, hm⟩ := bind_some hm
    refine BA 3 [] 26 (Ab x6) h4 H (fun fr => .of (E5 (by kernel_rfl) hx)) fun fr t H => ?_
    refine AG 2 [(28, Ai (Br .i64 x2 (7 : Int)))] H fun fr H => ?_
    obtain ⟨hb, hm⟩ := BE hm
    refine As 29 (Ab (By .u8 x6 (Br .i64 x2 (7 : Int)))) h4 H (fun fr => .of (Sp (by kernel_rfl) hb)) fun fr t H => ?_
    refine AP 2 [(31, .bool ((Br .u8 (By .u8 x6 (Br .i64 x2 (7 : Int))) (1 : Int)) == 0))] H fun fr H => Ae 31 H hm (fun hb hm H => ?_) fun hb hm H => ?_
    ·refine Bz (i := 1) (by kernel_rfl) ?_
     replace A := A.k9 1 2 3 4 5 6 7 8 9
     exact .inl ⟨_, rfl, Ag hm, hl1, H.ls, A⟩
    refine B0 id (Af (id := 2) (by kernel_rfl) ?_)
    refine AF 15 (Ah 1 [] 34 0 0 A H fun fr t H => ?_)
    refine AG 2 [(36, .bool (x5.Kind == 4))] H fun fr H => A9 10 (fun fr' h' => h4 = h' ∧ Has fr' 83 [(0, .ptr (some (bp0, 0))), (1, .str p1), (2, Ab p2), (7, AH (some h.size) x1.length), (8, Ai x2), (9, .ptr (some (h2.size, 0))), (16, AH rp0_0 p0.l_.length), (17, Ai (p0.l_.length : Int)), (18, Ai x2), (46, .bool ((x5.Kind == 4) && (p0.f_.BG || (p2 != 47))))]) ?_ ?_
    ·cases hb : (x5.Kind == 4 : Bool) with
     | true =>
      replace H := H.kn 36 hb
      refine Ah 4 [] 41 2 2 A H fun fr t H => ?_
      refine AG 1 [(42, .bool p0.f_.BG)] H fun fr H => A9 3 (fun fr' h' => h4 = h' ∧ Has fr' 83 [(0, .ptr (some (bp0, 0))), (1, .str p1), (2, Ab p2), (7, AH (some h.size) x1.length), (8, Ai x2), (9, .ptr (some (h2.size, 0))), (16, AH rp0_0 p0.l_.length), (17, Ai (p0.l_.length : Int)), (18, Ai x2), (36, .bool true), (45, .bool (p0.f_.BG || (p2 != 47)))]) ?_ ?_
      ·cases hb : (p0.f_.BG : Bool) with
       | true =>
        replace H := H.kn 42 hb
        exact AG 3 [(45, .bool true)] H fun fr H => BK H hb
       | false =>
        replace H := H.kn 42 hb
        exact AG 3 [(45, .bool (p2 != 47))] H fun fr H => BK H hb
      intro t fr h' hK
      obtain ⟨e, H⟩ := hK
      subst e
      exact AG 1 [(46, .bool (p0.f_.BG || (p2 != 47)))] H fun fr H => BK H hb
     | false =>
      replace H := H.kn 36 hb
      exact AG 10 [(46, .bool false)] H fun fr H => BK H hb
    intro t fr h' hK
    obtain ⟨e, H⟩ := hK
    subst e
    refine AP 1 [(32, .bool ((x5.Kind == 4) && (p0.f_.BG || (p2 != 47))))] H fun fr H => Ae 32 H hm (fun hb hm H => ?_) fun hb hm H => ?_
    ·refine Df 7 11 ?_
     obtain ⟨x7, hx, hm⟩ := bind_some hm
     obtain ⟨i2, er2, _, hx, hq2⟩ := HH.Nk G8 (by decide) A 1 (xs := x1) rfl hx
     refine BA 3 [(47, AH (some h.size) x1.length), (49, Ai (By .i64 x2 (3 : Int)))] 50 (.ptr (some (i2, (By .i64 x2 (3 : Int)).toNat * 1))) h4 H (fun fr => .of (Fg (s := De (some h.size) x1.length) (by kernel_rfl) hx)) fun fr t H => ?_
     refine As 51 _ _ H (fun fr => .of (EP (by kernel_rfl) (Fw G8 (HH.row A 1 rfl er2) hq2 (o := 0) rfl))) fun fr t H => ?_
     refine AG 2 [(53, Ai (Br .i64 x2 (7 : Int)))] H fun fr H => ?_
     obtain ⟨hb, hm⟩ := BE hm
     refine As 54 (Ab (Fk .u8 (1 : Int) (Br .i64 x2 (7 : Int)))) h4 H (fun fr => .of (SN (by kernel_rfl) hb)) fun fr t H => ?_
     obtain ⟨x8, hx, hm⟩ := bind_some hm
     obtain ⟨i3, er3, _, hx, hq3⟩ := HH.Nk G8 (by decide) A 1 (xs := x1) rfl hx
     refine BA 1 [(55, Ab (G9 .u8 (x7.toNat : Int) (Fk .u8 (1 : Int) (Br .i64 x2 (7 : Int)))))] 56 (.ptr (some (i3, (By .i64 x2 (3 : Int)).toNat * 1))) h4 H (fun fr => .of (Fg (s := De (some h.size) x1.length) (by kernel_rfl) hx)) fun fr t H => ?_
     obtain ⟨x9, hx, hm⟩ := bind_some hm
     have hx := Li hx
     rw [hx] at H
     obtain ⟨h5, hx, A1⟩ := HH.WY G8 A 1 rfl er3 hq3 (y := x9) (o := 0) (new := [Ab (x9.toNat : Int)]) rfl rfl (Nat.le_of_ble_eq_true rfl)
     have hl4 : (x1.set (By .i64 x2 (3 : Int)).toNat x9).length = (List.replicate (p1.length : Int).toNat (0 : UInt8)).length := List.length_set.trans hl1
     have el : AH (some h.size) x1.length = AH (some h.size) (x1.set (By .i64 x2 (3 : Int)).toNat x9).length := congrArg _ List.length_set.symm
     try rw [el] at H
     try rw [el] at A1
     replace A : HH g h5 [_, .AK (some h.size) 5 (AK eY (x1.set (By .i64 x2 (3 : Int)).toNat x9)), _, _, _, _, _, _, _, _] F := A1
     refine Hk hx H fun fr t H => ?_
     refine at_nil ?_
     replace A := A.k9 1 2 3 4 5 6 7 8 9
     exact .inl ⟨_, rfl, Ag hm, hl4, H.ls, A⟩
    refine AF 10 (Ah 1 [] 59 0 0 A H fun fr t H => ?_)
    refine AG 2 [(61, .bool (x5.Kind != 4))] H fun fr H => ?_
    obtain ⟨x10, ho, hm⟩ := bind_some hm
    refine A9 5 (fun fr' h' => Has fr' 83 [(0, .ptr (some (bp0, 0))), (1, .str p1), (2, Ab p2), (7, AH (some h.size) x1.length), (8, Ai x2), (16, AH rp0_0 p0.l_.length), (17, Ai (p0.l_.length : Int)), (18, Ai x2), (66, .bool x10)] ∧ HH g h' [.obj h2.size (.cells none 2 (AO x5)), .AK (some h.size) 5 (AK eY x1), .obj bp0 (.cells none 2 [AH rp0_0 p0.l_.length, .bool p0.f_.Fold, .bool p0.f_.BG, Ai p0.EG, .ptr (some (bp0_4, 0)), AH rp0_5 p0.DU.length, .map (some bp0_6), AH rp0_7 p0.B9.length]), .AK rp0_0 219 (AK AO p0.l_), .obj bp0_4 (.cells none 2 (DC 256 (AB.int .u8) p0.t_.Bh ++ [Ai p0.t_.Az, AH rp0_4_2 p0.t_.Bd.length, AH rp0_4_3 p0.t_.BM.length])), .AK rp0_4_2 21 (AK (eI .i32) p0.t_.Bd), .AK rp0_4_3 4 (AK eB p0.t_.BM), .AK rp0_5 5 (AK eY p0.DU), .obj bp0_6 (.map 2 (CL (fun k : List UInt8 => .str k) (fun v : Int => .int .i32 v) p0.Bx)), .AK rp0_7 9 (AK eS p0.B9)] F) ?_ ?_
    ·rcases AZ ho with ⟨hb, hm⟩ | ⟨hb, hm⟩
     ·replace H := H.kn 61 hb
      refine BA 1 [(62, .ptr (some (bp0, 0)))] 63 _ _ H (fun fr => .of (B3 (by kernel_rfl) (A.F5 0 rfl (o := 0) (n := 6) ⟨Nat.le_of_ble_eq_true rfl, rfl⟩))) fun fr t H => ?_
      replace A : HH g h4 [_, _, _, _, _, _, _, _, _, _] F := ((((((((A.front 9 rfl).front 9 rfl).front 9 rfl).front 9 rfl).front 9 rfl).front 9 rfl).front 9 rfl).front 9 rfl)
      obtain ⟨x11, hx, hm⟩ := bind_some hm
      obtain ⟨v1, h7, hr, rfl, A1⟩ := FJ (av := [.ptr (some (bp0, 0)), .agg (AO x5), Ab p2]) hx (A.cut 8)
      replace A : HH g h7 [.obj bp0 (.cells none 2 [_, _, _, _, _, _, _, _]), .AK rp0_0 219 (AK AO p0.l_), .obj bp0_4 (.cells none 2 (DC 256 (AB.int .u8) p0.t_.Bh ++ [Ai p0.t_.Az, AH rp0_4_2 p0.t_.Bd.length, AH rp0_4_3 p0.t_.BM.length])), .AK rp0_4_2 21 (AK (eI .i32) p0.t_.Bd), .AK rp0_4_3 4 (AK eB p0.t_.BM), .AK rp0_5 5 (AK eY p0.DU), .obj bp0_6 (.map 2 (CL (fun k : List UInt8 => .str k) (fun v : Int => .int .i32 v) p0.Bx)), .AK rp0_7 9 (AK eS p0.B9), _, _] F := A.Cp (n := 8) A1
      refine Ap 1 [] 65 hr H fun fr t H => ?_
      refine AG 1 [(66, .bool x11)] H fun fr H => ?_
      obtain rfl := Ag hm
      replace A : HH g h7 [_, _, _, _, _, _, _, _, _, _] F := ((((((((((A.front 7 rfl).front 7 rfl).front 7 rfl).front 7 rfl).front 7 rfl).front 7 rfl).front 7 rfl).front 7 rfl).front 9 rfl).front 9 rfl)
      exact at_nil ⟨H.ls, A⟩
     replace H := H.kn 61 hb
     refine AG 5 [(66, .bool false)] H fun fr H => ?_
     obtain rfl := Ag hm
     exact at_nil ⟨H.ls, A⟩
    clear A
    intro t fr h6 hK
    obtain ⟨H, A⟩ := hK
    refine AP 1 [(57, .bool x10)] H fun fr H => Ae 57 H hm (fun hb hm H => ?_) fun hb hm H => ?_
    ·refine Df 9 13 ?_
     obtain ⟨x12, hx, hm⟩ := bind_some hm
     obtain ⟨i4, er4, _, hx, hq4⟩ := HH.Nk G8 (by decide) A 1 (xs := x1) rfl hx
     refine BA 4 [(67, AH (some h.size) x1.length), (70, Ai (By .i64 (IntKind.i64.wrap (x2 + 1)) (3 : Int)))] 71 (.ptr (some (i4, (By .i64 (IntKind.i64.wrap (x2 + 1)) (3 : Int)).toNat * 1))) h6 H (fun fr => .of (Fg (s := De (some h.size) x1.length) (by kernel_rfl) hx)) fun fr t H => ?_
     refine As 72 _ _ H (fun fr => .of (EP (by kernel_rfl) (Fw G8 (HH.row A 1 rfl er4) hq4 (o := 0) rfl))) fun fr t H => ?_
     refine AG 3 [(75, Ai (Br .i64 (IntKind.i64.wrap (x2 + 1)) (7 : Int)))] H fun fr H => ?_
     obtain ⟨hb, hm⟩ := BE hm
     refine As 76 (Ab (Fk .u8 (1 : Int) (Br .i64 (IntKind.i64.wrap (x2 + 1)) (7 : Int)))) h6 H (fun fr => .of (SN (by kernel_rfl) hb)) fun fr t H => ?_
     obtain ⟨x13, hx, hm⟩ := bind_some hm
     obtain ⟨i5, er5, _, hx, hq5⟩ := HH.Nk G8 (by decide) A 1 (xs := x1) rfl hx
     refine BA 1 [(77, Ab (G9 .u8 (x12.toNat : Int) (Fk .u8 (1 : Int) (Br .i64 (IntKind.i64.wrap (x2 + 1)) (7 : Int)))))] 78 (.ptr (some (i5, (By .i64 (IntKind.i64.wrap (x2 + 1)) (3 : Int)).toNat * 1))) h6 H (fun fr => .of (Fg (s := De (some h.size) x1.length) (by kernel_rfl) hx)) fun fr t H => ?_
     obtain ⟨x14, hx, hm⟩ := bind_some hm
     have hx := Li hx
     rw [hx] at H
     obtain ⟨h8, hx, A1⟩ := HH.WY G8 A 1 rfl er5 hq5 (y := x14) (o := 0) (new := [Ab (x14.toNat : Int)]) rfl rfl (Nat.le_of_ble_eq_true rfl)
     have hl5 : (x1.set (By .i64 (IntKind.i64.wrap (x2 + 1)) (3 : Int)).toNat x14).length = (List.replicate (p1.length : Int).toNat (0 : UInt8)).length := List.length_set.trans hl1
     have el : AH (some h.size) x1.length = AH (some h.size) (x1.set (By .i64 (IntKind.i64.wrap (x2 + 1)) (3 : Int)).toNat x14).length := congrArg _ List.length_set.symm
     try rw [el] at H
     try rw [el] at A1
     replace A : HH g h8 [_, .AK (some h.size) 5 (AK eY (x1.set (By .i64 (IntKind.i64.wrap (x2 + 1)) (3 : Int)).toNat x14)), _, _, _, _, _, _, _, _] F := A1
     refine Hk hx H fun fr t H => ?_
     refine at_nil ?_
     replace A := A.k9 1 2 3 4 5 6 7 8 9
     exact .inl ⟨_, rfl, Ag hm, hl5, H.ls, A⟩
    refine Fz ?_
    replace A := A.k9 1 2 3 4 5 6 7 8 9
    exact .inl ⟨_, rfl, Ag hm, hl1, H.ls, A⟩
   clear ho
   clear A
   intro e fr h9 hQ
   rcases hQ with ⟨x4, rfl, rfl, hl3, H, A⟩ | hF
   ·show AW _ _ _ _ _ _ _
    refine DQ 2 (BV 2 [(0, .ptr (some (bp0, 0))), (1, .str p1), (2, Ab p2), (7, AH (some h.size) x4.length), (16, AH rp0_0 p0.l_.length), (17, Ai (p0.l_.length : Int)), (18, Ai (IntKind.i64.wrap (x2 + 1)))] H fun fr H => at_nil ?_)
    exact nx hm ⟨_, _, rfl, hl3, H.ls, A⟩
   exact hF.elim
  refine Bz (i := 0) (by kernel_rfl) ?_
  exact nr hm fun e => .inl ⟨_, rfl, e, hl1, H.ls, A⟩
 clear ho
 clear A
 intro e fr h10 hQ
 rcases hQ with ⟨x3, rfl, rfl, hl2, H, A⟩ | hF
 ·show AW _ _ _ _ _ _ _
  refine AF 4 ?_
  replace A := A.k9 1 2 3 4 5 6 7 8 0
  obtain ⟨⟨x15, x16⟩, hx, hm⟩ := bind_some hm
  obtain ⟨v1, h11, hr, hl6, rfl, A1⟩ := E1 (av := [.ptr (some (bp0, 0)), AH (some h.size) x3.length]) hx (A.cut 9)
  have hl7 : x16.length = (List.replicate (p1.length : Int).toNat (0 : UInt8)).length := hl6.trans hl2
  have el : AH (some h.size) x3.length = AH (some h.size) x16.length := congrArg _ hl6.symm
  try rw [el] at H
  try rw [el] at hr
  try rw [el] at A1
  replace A : HH g h11 [.obj bp0 (.cells none 2 [_, _, _, _, _, _, _, _]), .AK rp0_0 219 (AK AO p0.l_), .obj bp0_4 (.cells none 2 (DC 256 (AB.int .u8) p0.t_.Bh ++ [Ai p0.t_.Az, AH rp0_4_2 p0.t_.Bd.length, AH rp0_4_3 p0.t_.BM.length])), .AK rp0_4_2 21 (AK (eI .i32) p0.t_.Bd), .AK rp0_4_3 4 (AK eB p0.t_.BM), .AK rp0_5 5 (AK eY p0.DU), .obj bp0_6 (.map 2 (CL (fun k : List UInt8 => .str k) (fun v : Int => .int .i32 v) p0.Bx)), .AK rp0_7 9 (AK eS p0.B9), .AK (some h.size) 5 (AK eY x16)] F := A.Cp (n := 9) A1
  refine Ap 2 [] 82 hr H fun fr t H => ?_
  refine AP 1 [(6, .str x15)] H fun fr H => AY ?_
  obtain rfl := Ag hm
  refine ⟨.inl rfl, .str x15, rH H, ?_⟩
  replace A := A.d8
  exact ⟨rfl, A⟩
 exact hF.elim
def Dr (p0 : List AM) (p1 : C3) (p2 : Int) (x1 : Bq) (x2 : List UInt8) (x15 : Int) (s : (List Int) × (List Bool) × (List ((List UInt8) × Int)) × (List (List UInt8)) × Int) : Option (((List Int) × (List Bool) × (List ((List UInt8) × Int)) × (List (List UInt8)) × Int) ⊕ (((List Int) × (List Bool) × (List ((List UInt8) × Int)) × (List (List UInt8))) ⊕ ((List Int) × (List Bool) × (List ((List UInt8) × Int)) × (List (List UInt8)) × Int))) :=
 match s with
 | (x25, x26, x27, x28, x29) => Ac (decide (x29 < (x2.length : Int))) ((HO x2 x29).bind fun x39 => (HO x28 x15).bind fun x40 => (CW (⟨p0, p1, p2, (⟨x1.Bh, x1.Az, x25, x26⟩ : Bq), x2, x27, x28⟩ : Bj) x40 (x39.toNat : Int)).bind fun x41 => (CD (⟨p0, p1, p2, (⟨x1.Bh, x1.Az, x25, x26⟩ : Bq), x2, x27, x28⟩ : Bj) x41).bind fun (x42, x43, x44, x45, x46) => Ac (!x43) (some (.inr (.inr (x25, x44, x45, x46, (7 : Int))))) (Ca (Lw 4 (x25.length + ([x42] : List Int).length)) <| some (.inl ((x25 ++ ([x42] : List Int)), x44, x45, x46, IntKind.i64.wrap (x29 + 1))))) (some (.inr (.inl (x25, x26, x27, x28))))
def Ew (p0 : List AM) (p1 : C3) (p2 : Int) (x1 : Bq) (x2 : List UInt8) (s : (List Int) × (List Bool) × (List ((List UInt8) × Int)) × (List (List UInt8)) × Int) : Option (((List Int) × (List Bool) × (List ((List UInt8) × Int)) × (List (List UInt8)) × Int) ⊕ (((List Int) × (List Bool) × (List ((List UInt8) × Int)) × (List (List UInt8))) ⊕ ((List Int) × (List Bool) × (List ((List UInt8) × Int)) × (List (List UInt8)) × Int))) :=
 match s with
 | (x11, x12, x13, x14, x15) => Ac (decide (x15 < (x14.length : Int))) ((loop (Dr p0 p1 p2 x1 x2 x15) (x11, x12, x13, x14, (0 : Int))).bind fun o2 => (match o2 with | .inl (x30, x31, x32, x33) => some (.inl (x30, x31, x32, x33, IntKind.i64.wrap (x15 + 1))) | .inr (x34, x35, x36, x37, x38) => some (.inr (.inr (x34, x35, x36, x37, x38))))) (some (.inr (.inl (x11, x12, x13, x14))))
def Dg (p0 : List AM) (p1 : C3) (p2 : Int) : Option ((Option Bq) × Int) :=
 Ac ((decide (p2 < 1)) || (decide (p2 > 4096))) (some (none, (6 : Int))) (Ac (decide ((p0.length : Int) > 1024)) (some (none, (8 : Int))) ((Cb (⟨p0, p1, p2, (⟨Pr, (0 : Int), ([] : List Int), ([] : List Bool)⟩ : Bq), ([] : List UInt8), ([] : List ((List UInt8) × Int)), ([] : List (List UInt8))⟩ : Bj)).bind fun (x1, x2) => Ca (XO 1 (IntKind.i64.wrap ((By .i64 (p0.length : Int) (3 : Int)) + 1))) <| (HO (List.replicate (IntKind.i64.wrap ((By .i64 (p0.length : Int) (3 : Int)) + 1)).toNat (0 : UInt8)) (0 : Int)).bind fun x3 => (CE (⟨p0, p1, p2, (⟨x1.Bh, x1.Az, ([] : List Int), ([] : List Bool)⟩ : Bq), x2, ([] : List ((List UInt8) × Int)), ([] : List (List UInt8))⟩ : Bj) ((List.replicate (IntKind.i64.wrap ((By .i64 (p0.length : Int) (3 : Int)) + 1)).toNat (0 : UInt8)).set (0 : Int).toNat (1 : UInt8))).bind fun (x4, x5) => (CD (⟨p0, p1, p2, (⟨x1.Bh, x1.Az, ([] : List Int), ([] : List Bool)⟩ : Bq), x2, ([] : List ((List UInt8) × Int)), ([] : List (List UInt8))⟩ : Bj) x4).bind fun (x6, x7, x8, x9, x10) => (loop (Ew p0 p1 p2 x1 x2) (([] : List Int), x8, x9, x10, (0 : Int))).bind fun o1 => (match o1 with | .inl (x16, x17, x18, x19) => some (some (⟨x1.Bh, x1.Az, x16, x17⟩ : Bq), (0 : Int)) | .inr (x20, x21, x22, x23, x24) => some (none, x24))))
theorem Jz {p0 p1 p2 rp0 o0 q1} (hm : Dg p0 p1 p2 = some (o0, q1)) (A : HH g h [.AK rp0 219 (AK AO p0)] F) (hc : Ba (cfg.still 86) av = [AH rp0 p0.length, .agg [.bool p1.Fold, .bool p1.BG], Ai p2] := by kernel_rfl) : ∃ v h', Bi cfg g h 86 av v h' ∧ ((∃ (q0 : Bq), o0 = some q0 ∧ v = .tuple [.BR (DC 256 (AB.int .u8) q0.Bh ++ [Ai q0.Az, vs (eI .i32) q0.Bd, vs eB q0.BM]), Ai q1] ∧ HH g h' [.AK rp0 219 (AK AO p0)] F) ∨ (o0 = none ∧ v = .tuple [.ptr none, Ai q1] ∧ HH g h' [.AK rp0 219 (AK AO p0)] F)) := by
 refine Xy 104 [.tmp 6, .tmp 7] hc ?_
 clear hc
 unfold Dg at hm
 refine bg 104 [(0, AH rp0 p0.length), (1, .agg [.bool p1.Fold, .bool p1.BG]), (2, Ai p2)] fun fr H => ?_
 refine AF 3 ?_
 obtain ⟨h1, e1, A⟩ := A.pu (.cells none 2 [.bool p1.Fold, .bool p1.BG])
 refine BP 4 (.ptr (some (h.size, 0))) e1 H fun fr t H => ?_
 refine AP 2 [] H fun fr H => AR (Af (id := 0) (by kernel_rfl) ?_)
 refine AF 7 (AG 3 [(18, .bool (decide (p2 < 1)))] H fun fr H => A9 3 (fun fr' h' => h1 = h' ∧ Has fr' 104 [(0, AH rp0 p0.length), (2, Ai p2), (4, .ptr (some (h.size, 0))), (21, .bool ((decide (p2 < 1)) || (decide (p2 > 4096))))]) ?_ ?_)
 ·cases hb : (decide (p2 < 1) : Bool) with
  | true =>
   replace H := H.kn 18 hb
   exact AG 3 [(21, .bool true)] H fun fr H => BK H hb
  | false =>
   replace H := H.kn 18 hb
   exact AG 3 [(21, .bool (decide (p2 > 4096)))] H fun fr H => BK H hb
 intro t fr h' hK
 obtain ⟨e, H⟩ := hK
 subst e
 refine AP 1 [(15, .bool ((decide (p2 < 1)) || (decide (p2 > 4096))))] H fun fr H => Ae 15 H hm (fun hb hm H => ?_) fun hb hm H => ?_
 ·refine AF 2 (AP 2 [(6, .ptr none), (7, Ai 6)] H fun fr H => AY ?_)
  obtain ⟨rfl, rfl⟩ := B6 hm
  refine ⟨.inl rfl, .tuple [.ptr none, Ai 6], rH H, ?_⟩
  replace A := A.k1 1
  refine ⟨.tuple [.ptr none, Ai 6], h1, by first | rfl | (simp only [Oe, O5, Oz, Oo, O4, Ox, O0, Of, On, Ov, Ol, Oq, Ob, Iq, IQ, Ig, IK, Ir, Ic, Io, Option.map_some] <;> rfl), ?_⟩
  exact .inr ⟨rfl, rfl, A⟩
 refine AF 4 (AP 4 [(22, .bool (decide ((p0.length : Int) > 1024)))] H fun fr H => Ae 22 H hm (fun hb hm H => ?_) fun hb hm H => ?_)
 ·refine AF 2 (AP 2 [(6, .ptr none), (7, Ai 8)] H fun fr H => AY ?_)
  obtain ⟨rfl, rfl⟩ := B6 hm
  refine ⟨.inl rfl, .tuple [.ptr none, Ai 8], rH H, ?_⟩
  replace A := A.k1 1
  refine ⟨.tuple [.ptr none, Ai 8], h1, by first | rfl | (simp only [Oe, O5, Oz, Oo, O4, Ox, O0, Of, On, Ov, Ol, Oq, Ob, Iq, IQ, Ig, IK, Ir, Ic, Io, Option.map_some] <;> rfl), ?_⟩
  exact .inr ⟨rfl, rfl, A⟩
 refine CN 9 id (BA 1 [(26, AH rp0 p0.length)] 27 _ _ H (fun fr => .of (B3 (by kernel_rfl) (A.F5 0 rfl (o := 0) (n := 2) ⟨Nat.le_of_ble_eq_true rfl, rfl⟩))) fun fr t H => ?_)
 obtain ⟨h2, e2, A⟩ := A.pu (.cells none 2 (DC 256 (AB.int .u8) Pr ++ [Ai 0, .slice none 0, .slice none 0]))
 refine Gf 2 [(28, Ai p2)] 30 (.ptr (some (h1.size, 0))) e2 H fun fr t H => ?_
 obtain ⟨h3, e3⟩ : ∃ x, x = h2.push (.map 2 []) := ⟨_, rfl⟩
 replace A : HH g h3 [.obj h2.size (.map 2 (CL (fun k : List UInt8 => .str k) (fun v : Int => .int .i32 v) ([] : List ((List UInt8) × Int)))), .obj h1.size (.cells none 2 (DC 256 (AB.int .u8) Pr ++ [Ai 0, .slice none 0, .slice none 0])), .obj h.size (.cells none 2 [.bool p1.Fold, .bool p1.BG]), _] F := (A.push _).to e3
 refine BP 31 (.map (some h2.size)) e3 H fun fr t H => ?_
 obtain ⟨h4, e4, A⟩ := A.pu (.cells none 2 [AH rp0 p0.length, .bool p1.Fold, .bool p1.BG, Ai p2, .ptr (some (h1.size, 0)), .slice none 0, .map (some h2.size), .slice none 0])
 refine Gf 1 [] 33 (.ptr (some (h3.size, 0))) e4 H fun fr t H => ?_
 refine B1 1 [(8, .ptr (some (h3.size, 0)))] 2 H fun fr H => ?_
 replace A : HH g h4 [.AK none 21 (AK (eI .i32) ([] : List Int)), .obj h3.size (.cells none 2 [AH rp0 p0.length, .bool p1.Fold, .bool p1.BG, Ai p2, .ptr (some (h1.size, 0)), .slice none 0, .map (some h2.size), .slice none 0]), _, .obj h1.size (.cells none 2 (DC 256 (AB.int .u8) Pr ++ [Ai 0, AH none (([] : List Int).length), .slice none 0])), _, _] F := A.KI 21
 replace A : HH g h4 [.AK none 4 (AK eB ([] : List Bool)), _, _, _, .obj h1.size (.cells none 2 (DC 256 (AB.int .u8) Pr ++ [Ai 0, AH none (([] : List Int).length), AH none (([] : List Bool).length)])), _, _] F := A.KI 4
 replace A : HH g h4 [.AK none 5 (AK eY ([] : List UInt8)), _, _, .obj h3.size (.cells none 2 [_, _, _, _, _, AH none (([] : List UInt8).length), _, _]), _, _, _, _] F := A.KI 5
 replace A : HH g h4 [.AK none 9 (AK eS ([] : List (List UInt8))), _, _, _, .obj h3.size (.cells none 2 [_, _, _, _, _, _, _, AH none (([] : List (List UInt8)).length)]), _, _, _, _] F := A.KI 9
 replace A := A.k9 4 8 6 3 2 1 5 0 7
 obtain ⟨⟨x1, x2⟩, hx, hm⟩ := bind_some hm
 obtain ⟨v1, h5, hr, r1, rfl, A1⟩ := HG (av := [.ptr (some (h3.size, 0))]) hx (A.cut 8)
 replace A : HH g h5 [.obj h3.size (.cells none 2 [_, _, _, _, _, AH r1 x2.length, _, _]), .AK rp0 219 (AK AO p0), .obj h1.size (.cells none 2 (DC 256 (AB.int .u8) x1.Bh ++ [Ai x1.Az, AH none (([] : List Int).length), AH none (([] : List Bool).length)])), .AK none 21 (AK (eI .i32) ([] : List Int)), .AK none 4 (AK eB ([] : List Bool)), .AK r1 5 (AK eY x2), .obj h2.size (.map 2 (CL (fun k : List UInt8 => .str k) (fun v : Int => .int .i32 v) ([] : List ((List UInt8) × Int)))), .AK none 9 (AK eS ([] : List (List UInt8))), _] F := A.Cp (n := 8) A1
 refine P6 1 [] hr H fun fr t H => ?_
 refine CI 6 id ?_
 obtain ⟨hb, hm⟩ := BE hm
 obtain ⟨h6, e5, A⟩ := A.pL 5 (AK eY (List.replicate (IntKind.i64.wrap ((By .i64 (p0.length : Int) (3 : Int)) + 1)).toNat (0 : UInt8)))
 refine BA 4 [] 40 (AH (some h5.size) (List.replicate (IntKind.i64.wrap ((By .i64 (p0.length : Int) (3 : Int)) + 1)).toNat (0 : UInt8)).length) h6 H (fun fr => .of (TX (e := eY) G8 (x := (0 : UInt8)) (by kernel_rfl) hb (congrArg some e5.symm))) fun fr t H => ?_
 refine B1 1 [(9, AH (some h5.size) ((List.replicate (IntKind.i64.wrap ((By .i64 (p0.length : Int) (3 : Int)) + 1)).toNat (0 : UInt8)).length))] 3 H fun fr H => ?_
 obtain ⟨x3, hx, hm⟩ := bind_some hm
 obtain ⟨i1, er1, _, hx, hq1⟩ := HH.Nk G8 (by decide) A 0 (xs := (List.replicate (IntKind.i64.wrap ((By .i64 (p0.length : Int) (3 : Int)) + 1)).toNat (0 : UInt8))) rfl hx
 refine BA 1 [] 42 (.ptr (some (i1, (0 : Int).toNat * 1))) h6 H (fun fr => .of (Fg (s := De (some h5.size) ((List.replicate (IntKind.i64.wrap ((By .i64 (p0.length : Int) (3 : Int)) + 1)).toNat (0 : UInt8)).length)) (by kernel_rfl) hx)) fun fr t H => ?_
 obtain ⟨h7, hx, A1⟩ := HH.WY G8 A 0 rfl er1 hq1 (y := (1 : UInt8)) (o := 0) (new := [Ab 1]) rfl rfl (Nat.le_of_ble_eq_true rfl)
 have hl1 : ((List.replicate (IntKind.i64.wrap ((By .i64 (p0.length : Int) (3 : Int)) + 1)).toNat (0 : UInt8)).set (0 : Int).toNat (1 : UInt8)).length = (List.replicate (IntKind.i64.wrap ((By .i64 (p0.length : Int) (3 : Int)) + 1)).toNat (0 : UInt8)).length := List.length_set
 have el : AH (some h5.size) (List.replicate (IntKind.i64.wrap ((By .i64 (p0.length : Int) (3 : Int)) + 1)).toNat (0 : UInt8)).length = AH (some h5.size) ((List.replicate (IntKind.i64.wrap ((By .i64 (p0.length : Int) (3 : Int)) + 1)).toNat (0 : UInt8)).set (0 : Int).toNat (1 : UInt8)).length := congrArg _ List.length_set.symm
 try rw [el] at H
 try rw [el] at A1
 replace A : HH g h7 [.AK (some h5.size) 5 (AK eY ((List.replicate (IntKind.i64.wrap ((By .i64 (p0.length : Int) (3 : Int)) + 1)).toNat (0 : UInt8)).set (0 : Int).toNat (1 : UInt8))), _, _, _, _, _, _, _, _, _] F := A1
 refine Hk hx H fun fr t H => ?_
 refine CI 5 id ?_
 replace A : HH g h7 [_, _, _, _, _, _, _, _, _, _] F := (((((((((A.front 0 rfl).front 8 rfl).front 8 rfl).front 8 rfl).front 8 rfl).front 8 rfl).front 8 rfl).front 8 rfl).front 8 rfl)
 obtain ⟨⟨x4, x5⟩, hx, hm⟩ := bind_some hm
 obtain ⟨v1, h8, hr, hl2, rfl, A1⟩ := E1 (av := [.ptr (some (h3.size, 0)), AH (some h5.size) (((List.replicate (IntKind.i64.wrap ((By .i64 (p0.length : Int) (3 : Int)) + 1)).toNat (0 : UInt8)).set (0 : Int).toNat (1 : UInt8)).length)]) hx (A.cut 9)
 have hl3 : x5.length = (List.replicate (IntKind.i64.wrap ((By .i64 (p0.length : Int) (3 : Int)) + 1)).toNat (0 : UInt8)).length := hl2.trans hl1
 have el : AH (some h5.size) ((List.replicate (IntKind.i64.wrap ((By .i64 (p0.length : Int) (3 : Int)) + 1)).toNat (0 : UInt8)).set (0 : Int).toNat (1 : UInt8)).length = AH (some h5.size) x5.length := congrArg _ hl2.symm
 try rw [el] at H
 try rw [el] at hr
 try rw [el] at A1
 replace A : HH g h8 [.obj h3.size (.cells none 2 [_, _, _, _, _, _, _, _]), .AK rp0 219 (AK AO p0), .obj h1.size (.cells none 2 (DC 256 (AB.int .u8) x1.Bh ++ [Ai x1.Az, AH none (([] : List Int).length), AH none (([] : List Bool).length)])), .AK none 21 (AK (eI .i32) ([] : List Int)), .AK none 4 (AK eB ([] : List Bool)), .AK r1 5 (AK eY x2), .obj h2.size (.map 2 (CL (fun k : List UInt8 => .str k) (fun v : Int => .int .i32 v) ([] : List ((List UInt8) × Int)))), .AK none 9 (AK eS ([] : List (List UInt8))), .AK (some h5.size) 5 (AK eY x5), _] F := A.Cp (n := 9) A1
 refine Ap 3 [(43, .ptr (some (h3.size, 0)))] 46 hr H fun fr t H => ?_
 obtain ⟨⟨x6, x7, x8, x9, x10⟩, hx, hm⟩ := bind_some hm
 obtain ⟨v1, h9, hr, r2, r3, rfl, A1⟩ := E3 (av := [.ptr (some (h3.size, 0)), .str x4]) hx (A.cut 8)
 replace A : HH g h9 [.obj h3.size (.cells none 2 [_, _, _, _, _, _, _, AH r3 x10.length]), .AK rp0 219 (AK AO p0), .obj h1.size (.cells none 2 (DC 256 (AB.int .u8) x1.Bh ++ [Ai x1.Az, AH none (([] : List Int).length), AH r2 x8.length])), .AK none 21 (AK (eI .i32) ([] : List Int)), .AK r2 4 (AK eB x8), .AK r1 5 (AK eY x2), .obj h2.size (.map 2 (CL (fun k : List UInt8 => .str k) (fun v : Int => .int .i32 v) x9)), .AK r3 9 (AK eS x10), _, _] F := A.Cp (n := 8) A1
 refine RV hr H fun fr t H => ?_
 refine BD id (AR (AF 1 (AP 1 [(10, Ai 0)] H fun fr H => Af (id := 1) (by kernel_rfl) ?_)))
 replace A := A.k9 0 1 2 3 4 5 6 7 9
 obtain ⟨o1, ho, hm⟩ := bind_some hm
 refine BU (Q' := fun e fr' h' => (∃ x16 x17 x18 x19, e = .exit 1 ∧ .inl (x16, x17, x18, x19) = o1 ∧ ∃ r7 r8 r9, Has fr' 104 [(8, .ptr (some (h3.size, 0)))] ∧ HH g h' [.obj h3.size (.cells none 2 [AH rp0 p0.length, .bool p1.Fold, .bool p1.BG, Ai p2, .ptr (some (h1.size, 0)), AH r1 x2.length, .map (some h2.size), AH r9 x19.length]), .AK rp0 219 (AK AO p0), .obj h1.size (.cells none 2 (DC 256 (AB.int .u8) x1.Bh ++ [Ai x1.Az, AH r7 x16.length, AH r8 x17.length])), .AK r7 21 (AK (eI .i32) x16), .AK r8 4 (AK eB x17), .AK r1 5 (AK eY x2), .obj h2.size (.map 2 (CL (fun k : List UInt8 => .str k) (fun v : Int => .int .i32 v) x18)), .AK r9 9 (AK eS x19), .obj h.size (.cells none 2 [.bool p1.Fold, .bool p1.BG])] F) ∨ (∃ x20 x21 x22 x23 x24, e = .ret ∧ .inr (x20, x21, x22, x23, x24) = o1 ∧ ∃ r10 r11 r12, Has fr' 104 [(6, .ptr none), (7, Ai x24)] ∧ HH g h' [.obj h3.size (.cells none 2 [AH rp0 p0.length, .bool p1.Fold, .bool p1.BG, Ai p2, .ptr (some (h1.size, 0)), AH r1 x2.length, .map (some h2.size), AH r12 x23.length]), .AK rp0 219 (AK AO p0), .obj h1.size (.cells none 2 (DC 256 (AB.int .u8) x1.Bh ++ [Ai x1.Az, AH r10 x20.length, AH r11 x21.length])), .AK r10 21 (AK (eI .i32) x20), .AK r11 4 (AK eB x21), .AK r1 5 (AK eY x2), .obj h2.size (.map 2 (CL (fun k : List UInt8 => .str k) (fun v : Int => .int .i32 v) x22)), .AK r12 9 (AK eS x23), .obj h.size (.cells none 2 [.bool p1.Fold, .bool p1.BG])] F) ∨ False) ?_ ?_
 ·refine CH (by kernel_rfl) (fun (s : (List Int) × (List Bool) × (List ((List UInt8) × Int)) × (List (List UInt8)) × Int) fr' h' => ∃ x11 x12 x13 x14 x15, (x11, x12, x13, x14, x15) = s ∧ ∃ r4 r5 r6, Has fr' 104 [(8, .ptr (some (h3.size, 0))), (10, Ai x15)] ∧ HH g h' [.obj h3.size (.cells none 2 [AH rp0 p0.length, .bool p1.Fold, .bool p1.BG, Ai p2, .ptr (some (h1.size, 0)), AH r1 x2.length, .map (some h2.size), AH r6 x14.length]), .AK rp0 219 (AK AO p0), .obj h1.size (.cells none 2 (DC 256 (AB.int .u8) x1.Bh ++ [Ai x1.Az, AH r4 x11.length, AH r5 x12.length])), .AK r4 21 (AK (eI .i32) x11), .AK r5 4 (AK eB x12), .AK r1 5 (AK eY x2), .obj h2.size (.map 2 (CL (fun k : List UInt8 => .str k) (fun v : Int => .int .i32 v) x13)), .AK r6 9 (AK eS x14), .obj h.size (.cells none 2 [.bool p1.Fold, .bool p1.BG])] F) ho ⟨_, _, _, _, _, rfl, none, _, _, H.ls, A⟩ ?_
  clear ho hm H A
  intro s q fr h10 hI hm
  obtain ⟨x11, x12, x13, x14, x15, rfl, r4, r5, r6, H, A⟩ := hI
  unfold Ew at hm
  refine AR (AF 7 (Ah 4 [(48, Ai x15)] 52 0 7 A H fun fr t H => ?_))
  refine AP 2 [(54, .bool (decide (x15 < (x14.length : Int))))] H fun fr H => Ae 54 H hm (fun hb hm H => ?_) fun hb hm H => ?_
  ·refine B0 id (AR (Af (id := 2) (by kernel_rfl) ?_))
   refine AF 6 (Ah 3 [] 60 0 5 A H fun fr t H => ?_)
   refine AP 2 [(61, Ai (x2.length : Int)), (62, Ai 0)] H fun fr H => Af (id := 3) (by kernel_rfl) ?_
   obtain ⟨o2, ho, hm⟩ := bind_some hm
   refine BU (Q' := fun e fr' h' => (∃ x30 x31 x32 x33, e = .exit 3 ∧ .inl (x30, x31, x32, x33) = o2 ∧ ∃ r16 r17 r18, Has fr' 104 [(8, .ptr (some (h3.size, 0))), (10, Ai x15)] ∧ HH g h' [.obj h3.size (.cells none 2 [AH rp0 p0.length, .bool p1.Fold, .bool p1.BG, Ai p2, .ptr (some (h1.size, 0)), AH r1 x2.length, .map (some h2.size), AH r18 x33.length]), .AK rp0 219 (AK AO p0), .obj h1.size (.cells none 2 (DC 256 (AB.int .u8) x1.Bh ++ [Ai x1.Az, AH r16 x30.length, AH r17 x31.length])), .AK r16 21 (AK (eI .i32) x30), .AK r17 4 (AK eB x31), .AK r1 5 (AK eY x2), .obj h2.size (.map 2 (CL (fun k : List UInt8 => .str k) (fun v : Int => .int .i32 v) x32)), .AK r18 9 (AK eS x33), .obj h.size (.cells none 2 [.bool p1.Fold, .bool p1.BG])] F) ∨ (∃ x34 x35 x36 x37 x38, e = .ret ∧ .inr (x34, x35, x36, x37, x38) = o2 ∧ ∃ r19 r20 r21, Has fr' 104 [(6, .ptr none), (7, Ai x38)] ∧ HH g h' [.obj h3.size (.cells none 2 [AH rp0 p0.length, .bool p1.Fold, .bool p1.BG, Ai p2, .ptr (some (h1.size, 0)), AH r1 x2.length, .map (some h2.size), AH r21 x37.length]), .AK rp0 219 (AK AO p0), .obj h1.size (.cells none 2 (DC 256 (AB.int .u8) x1.Bh ++ [Ai x1.Az, AH r19 x34.length, AH r20 x35.length])), .AK r19 21 (AK (eI .i32) x34), .AK r20 4 (AK eB x35), .AK r1 5 (AK eY x2), .obj h2.size (.map 2 (CL (fun k : List UInt8 => .str k) (fun v : Int => .int .i32 v) x36)), .AK r21 9 (AK eS x37), .obj h.size (.cells none 2 [.bool p1.Fold, .bool p1.BG])] F) ∨ False) ?_ ?_
   ·refine CH (by kernel_rfl) (fun (s : (List Int) × (List Bool) × (List ((List UInt8) × Int)) × (List (List UInt8)) × Int) fr' h' => ∃ x25 x26 x27 x28 x29, (x25, x26, x27, x28, x29) = s ∧ ∃ r13 r14 r15, Has fr' 104 [(8, .ptr (some (h3.size, 0))), (10, Ai x15), (60, AH r1 x2.length), (61, Ai (x2.length : Int)), (62, Ai x29)] ∧ HH g h' [.obj h3.size (.cells none 2 [AH rp0 p0.length, .bool p1.Fold, .bool p1.BG, Ai p2, .ptr (some (h1.size, 0)), AH r1 x2.length, .map (some h2.size), AH r15 x28.length]), .AK rp0 219 (AK AO p0), .obj h1.size (.cells none 2 (DC 256 (AB.int .u8) x1.Bh ++ [Ai x1.Az, AH r13 x25.length, AH r14 x26.length])), .AK r13 21 (AK (eI .i32) x25), .AK r14 4 (AK eB x26), .AK r1 5 (AK eY x2), .obj h2.size (.map 2 (CL (fun k : List UInt8 => .str k) (fun v : Int => .int .i32 v) x27)), .AK r15 9 (AK eS x28), .obj h.size (.cells none 2 [.bool p1.Fold, .bool p1.BG])] F) ho ⟨_, _, _, _, _, rfl, _, _, _, H.ls, A⟩ ?_
    clear ho hm H A
    intro s q fr h11 hI hm
    obtain ⟨x25, x26, x27, x28, x29, rfl, r13, r14, r15, H, A⟩ := hI
    unfold Dr at hm
    refine AF 1 (AP 1 [(63, .bool (decide (x29 < (x2.length : Int))))] H fun fr H => AR (Ae 63 H hm (fun hb hm H => ?_) fun hb hm H => ?_))
    ·refine B0 id (AR (Af (id := 4) (by kernel_rfl) ?_))
     refine AF 3 ?_
     obtain ⟨x39, hx, hm⟩ := bind_some hm
     obtain ⟨i2, er2, _, hx, hq2⟩ := HH.Nk G8 (by decide) A 5 (xs := x2) rfl hx
     refine As 64 (.ptr (some (i2, x29.toNat * 1))) h11 H (fun fr => .of (Fg (s := De r1 x2.length) (by kernel_rfl) hx)) fun fr t H => ?_
     refine As 65 _ _ H (fun fr => .of (EP (by kernel_rfl) (Fw G8 (HH.row A 5 rfl er2) hq2 (o := 0) rfl))) fun fr t H => ?_
     refine B1 1 [(12, Ab (x39.toNat : Int))] 17 H fun fr H => Ah 5 [(67, .ptr (some (h3.size, 0))), (68, .ptr (some (h3.size, 0)))] 72 0 7 A H fun fr t H => ?_
     obtain ⟨x40, hx, hm⟩ := bind_some hm
     obtain ⟨i3, er3, _, hx, hq3⟩ := HH.Nk encS (by decide) A 7 (xs := x28) rfl hx
     refine BA 1 [] 74 (.ptr (some (i3, x15.toNat * 1))) h11 H (fun fr => .of (Fg (s := De r15 x28.length) (by kernel_rfl) hx)) fun fr t H => ?_
     refine As 75 _ _ H (fun fr => .of (EP (by kernel_rfl) (Fw encS (HH.row A 7 rfl er3) hq3 (o := 0) rfl))) fun fr t H => ?_
     obtain ⟨x41, hx, hm⟩ := bind_some hm
     obtain ⟨v1, h12, hr, rfl, A1⟩ := G7 (av := [.ptr (some (h3.size, 0)), .str x40, Ab (x39.toNat : Int)]) hx (A.cut 8)
     replace A : HH g h12 [.obj h3.size (.cells none 2 [_, _, _, _, _, _, _, _]), .AK rp0 219 (AK AO p0), .obj h1.size (.cells none 2 (DC 256 (AB.int .u8) x1.Bh ++ [Ai x1.Az, AH r13 x25.length, AH r14 x26.length])), .AK r13 21 (AK (eI .i32) x25), .AK r14 4 (AK eB x26), .AK r1 5 (AK eY x2), .obj h2.size (.map 2 (CL (fun k : List UInt8 => .str k) (fun v : Int => .int .i32 v) x27)), .AK r15 9 (AK eS x28), _] F := A.Cp (n := 8) A1
     refine Ap 1 [] 77 hr H fun fr t H => ?_
     obtain ⟨⟨x42, x43, x44, x45, x46⟩, hx, hm⟩ := bind_some hm
     obtain ⟨v1, h13, hr, r22, r23, rfl, A1⟩ := E3 (av := [.ptr (some (h3.size, 0)), .str x41]) hx (A.cut 8)
     replace A : HH g h13 [.obj h3.size (.cells none 2 [_, _, _, _, _, _, _, AH r23 x46.length]), .AK rp0 219 (AK AO p0), .obj h1.size (.cells none 2 (DC 256 (AB.int .u8) x1.Bh ++ [Ai x1.Az, AH r13 x25.length, AH r22 x44.length])), .AK r13 21 (AK (eI .i32) x25), .AK r22 4 (AK eB x44), .AK r1 5 (AK eY x2), .obj h2.size (.map 2 (CL (fun k : List UInt8 => .str k) (fun v : Int => .int .i32 v) x45)), .AK r23 9 (AK eS x46), _] F := A.Cp (n := 8) A1
     refine A8 78 hr H fun fr t H => ?_
     refine AP 5 [(13, .int .i32 x42), (14, .bool x43)] H fun fr H => AR (AF 2 (AP 2 [(82, .bool (!x43))] H fun fr H => Ae 82 H hm (fun hb hm H => ?_) fun hb hm H => ?_))
     ·refine AF 2 (AP 2 [(6, .ptr none), (7, Ai 7)] H fun fr H => AY ?_)
      exact nr hm fun e => Or.inr (.inl ⟨_, _, _, _, _, rfl, e, _, _, _, H.ls, A⟩)
     refine B0 id (JV 19 17 [(0, []), (1, []), (2, []), (3, []), (4, []), (5, []), (6, []), (7, []), (8, []), (9, []), (10, []), (11, []), (12, []), (13, [3]), (14, []), (15, []), (16, [])] ?_)
     refine AG 3 [(85, .ptr (some (h3.size, 4)))] H fun fr H => CT 86 (.ptr (some (h1.size, 0))) h13 [(3, h3.size)] (g.Bo) H (fun fr => .of (EP (by kernel_rfl) (A.l1 0 4))) (fun fr H => ?_)
     refine AG 3 [(89, .ptr (some (h3.size, 4)))] H fun fr H => CT 90 (.ptr (some (h1.size, 0))) h13 [(7, h3.size), (3, h3.size)] (g.Bo) H (fun fr => .of (EP (by kernel_rfl) (A.l1 0 4))) (fun fr H => ?_)
     refine AG 2 [(92, .ptr (some (h1.size, 257)))] H fun fr H => CT 93 (AH r13 x25.length) h13 [(10, h1.size), (7, h3.size), (3, h3.size)] (g.Bo) H (fun fr => .of (EP (by kernel_rfl) (A.Ni 2 rfl (o := 257) (by kernel_rfl)))) (fun fr H => ?_)
     refine AG 1 [(94, .int .i32 x42)] H fun fr H => ?_
     obtain ⟨h14, e6, A⟩ := A.pL 21 [.int .i32 x42]
     refine CT 95 (AH (some h13.size) (([x42] : List Int).length)) h14 [(12, h13.size), (10, h1.size), (7, h3.size), (3, h3.size)] (g.Bo) H (fun fr => .of (TQ (by kernel_rfl) (congrArg some e6.symm))) (fun fr H => ?_)
     replace A : HH g h14 [_, .AK (some h13.size) 21 ([.int .i32 x42]), _, _, _, _, _, _, _, _] F := (A.front 4 rfl)
     have A1 := A.Hz 1 (pr := [h3.size]) (.cons 1 rfl (by simp [Ck.ids]) .nil)
     obtain ⟨hb, hm⟩ := BE hm
     obtain ⟨r24, h15, hx, A1⟩ := HH.J2 (encI .i32) (by decide) A1 0 (xs := x25) (ys := ([x42] : List Int)) rfl (Cl A 1 rfl (n := ([x42] : List Int).length) (z := 1) rfl (by decide)) rfl rfl hb
     replace A := A.XJ A1
     replace A := A.k9 0 2 3 4 5 6 7 8 9
     refine CT 96 (AH r24 ((x25 ++ ([x42] : List Int)).length)) h15 [(12, h13.size), (10, h1.size), (7, h3.size), (3, h3.size)] (h3.size :: g.Bo) H (fun fr => .of (G3 (s := De r13 x25.length) (by kernel_rfl) hx)) (fun fr H => ?_)
     refine AG 2 [(98, .ptr (some (h1.size, 257)))] H fun fr H => ?_
     obtain ⟨h16, hx, A1⟩ := A.st 3 rfl (o := 257) (new := [AH r24 ((x25 ++ ([x42] : List Int)).length)]) (ds := (DC 256 (AB.int .u8) x1.Bh ++ ([Ai x1.Az, AH r24 ((x25 ++ ([x42] : List Int)).length), AH r22 x44.length]))) (Nat.le_of_ble_eq_true (by kernel_rfl)) rfl (by kernel_rfl)
     replace A : HH g h16 [_, _, _, .obj h1.size (.cells none 2 (DC 256 (AB.int .u8) x1.Bh ++ ([Ai x1.Az, AH r24 ((x25 ++ ([x42] : List Int)).length), AH r22 x44.length]))), _, _, _, _, _] F := A1
     refine H5 (.tuple []) h16 [(12, h13.size), (10, h1.size), (7, h3.size), (3, h3.size)] (g.Bo) H (fun fr => .of (N5 (by kernel_rfl) rfl hx)) (fun fr H => ?_)
     refine F4 2 id (BV 2 [(8, .ptr (some (h3.size, 0))), (10, Ai x15), (60, AH r1 x2.length), (61, Ai (x2.length : Int)), (62, Ai (IntKind.i64.wrap (x29 + 1)))] H fun fr H => at_nil ?_)
     replace A := A.k9 1 2 3 0 4 5 6 7 8
     exact nx hm ⟨_, _, _, _, _, rfl, _, _, _, H.ls, A⟩
    refine Bz (i := 3) (by kernel_rfl) ?_
    exact nr hm fun e => .inl ⟨_, _, _, _, rfl, e, _, _, _, H.ls, A⟩
   clear ho
   clear A
   intro e fr h17 hQ
   rcases hQ with ⟨x30, x31, x32, x33, rfl, rfl, r16, r17, r18, H, A⟩ | ⟨x34, x35, x36, x37, x38, rfl, rfl, r19, r20, r21, H, A⟩ | hF
   ·show AW _ _ _ _ _ _ _
    refine DQ 3 (BV 3 [(8, .ptr (some (h3.size, 0))), (10, Ai (IntKind.i64.wrap (x15 + 1)))] H fun fr H => at_nil ?_)
    exact nx hm ⟨_, _, _, _, _, rfl, _, _, _, H.ls, A⟩
   ·exact nr hm fun e => Or.inr (.inl ⟨_, _, _, _, _, rfl, e, _, _, _, H.ls, A⟩)
   exact hF.elim
  refine Bz (i := 1) (by kernel_rfl) ?_
  exact nr hm fun e => .inl ⟨_, _, _, _, rfl, e, _, _, _, H.ls, A⟩
 clear ho
 clear A
 intro e fr h18 hQ
 rcases hQ with ⟨x16, x17, x18, x19, rfl, rfl, r7, r8, r9, H, A⟩ | ⟨x20, x21, x22, x23, x24, rfl, rfl, r10, r11, r12, H, A⟩ | hF
 ·show AW _ _ _ _ _ _ _
  refine AF 6 (Ah 3 [] 103 0 4 A H fun fr t H => ?_)
  refine AP 2 [(6, .ptr (some (h1.size, 0))), (7, Ai 0)] H fun fr H => AY ?_
  obtain ⟨rfl, rfl⟩ := B6 hm
  refine ⟨.inl rfl, .tuple [.ptr (some (h1.size, 0)), Ai 0], rH H, ?_⟩
  replace A := A.k4 2 3 4 1
  obtain ⟨h19, A1, hy0⟩ := (A.front 0 rfl).Wl
  replace A : HH g h19 [_, _, _] F := A1
  obtain ⟨h20, hz1, A1⟩ := (A.front 0 rfl).WV (n := x16.length) (z := 1) ((encI .i32).J5 _) (by decide)
  replace A : HH g h20 [_, _] F := A1
  obtain ⟨h21, hz2, A1⟩ := (A.front 0 rfl).WV (n := x17.length) (z := 1) (Vn.J5 _) (by decide)
  replace A : HH g h21 [_] F := A1
  have hz0 := hy0 (DC 256 (AB.int .u8) x1.Bh ++ [Ai x1.Az, vs (eI .i32) x16, vs eB x17]) h21 (by simp only [Oe, O5, Oz, Oo, O4, Ox, O0, Of, On, Ov, Ol, Oq, Ob, Iq, IQ, Ig, IK, Ir, Ic, Io, Option.map_some, Qx, RJ, hz1, hz2] <;> rfl)
  refine ⟨.tuple [.BR (DC 256 (AB.int .u8) x1.Bh ++ [Ai x1.Az, vs (eI .i32) x16, vs eB x17]), Ai 0], h21, by first | rfl | (simp only [Oe, O5, Oz, Oo, O4, Ox, O0, Of, On, Ov, Ol, Oq, Ob, Iq, IQ, Ig, IK, Ir, Ic, Io, Option.map_some, Qx, RJ, hz0, hz1, hz2] <;> rfl), ?_⟩
  exact .inl ⟨(⟨x1.Bh, x1.Az, x16, x17⟩ : Bq), rfl, rfl, A⟩
 ·obtain ⟨rfl, rfl⟩ := B6 hm
  refine ⟨.inl rfl, .tuple [.ptr none, Ai x24], rH H, ?_⟩
  replace A := A.k1 1
  refine ⟨.tuple [.ptr none, Ai x24], h18, by first | rfl | (simp only [Oe, O5, Oz, Oo, O4, Ox, O0, Of, On, Ov, Ol, Oq, Ob, Iq, IQ, Ig, IK, Ir, Ic, Io, Option.map_some] <;> rfl), ?_⟩
  exact .inr ⟨rfl, rfl, A⟩
 exact hF.elim
def EO (p0 : AD) (p1 : Int) : Option ((Option AV) × Int × Int) :=
 (Fy p0.Text).bind fun (x1, x2, x3) => Ac (x3 != 0) (some (none, x2, x3)) ((Dg x1 (⟨p0.Fold, p0.BG⟩ : C3) p1).bind fun (w5, x5) => (match w5 with | some x4 => Ac (x5 != 0) (some (none, (0 : Int), x5)) (some (some (⟨p0, x4⟩ : AV), (0 : Int), (0 : Int))) | none => Ac (x5 != 0) (some (none, (0 : Int), x5)) (none)))
theorem K2 {p0 p1 o0 q1 q2} (hm : EO p0 p1 = some (o0, q1, q2)) (A : HH g h [] F) (hc : Ba (cfg.still 34) av = [.agg (AA p0), Ai p1] := by kernel_rfl) : ∃ v h', Bi cfg g h 34 av v h' ∧ ((∃ (q0 : AV), o0 = some q0 ∧ v = .tuple [.BR (AE q0), Ai q1, Ai q2] ∧ HH g h' [] F) ∨ (o0 = none ∧ v = .tuple [.ptr none, Ai q1, Ai q2] ∧ HH g h' [] F)) := by
 refine Xy 40 [.tmp 4, .tmp 5, .tmp 6] hc ?_
 clear hc
 unfold EO at hm
 refine bg 40 [(0, .agg (AA p0)), (1, Ai p1)] fun fr H => ?_
 refine AF 4 ?_
 obtain ⟨h1, e1, A⟩ := A.pu (.cells none 2 (AA p0))
 refine BP 2 (.ptr (some (h.size, 0))) e1 H fun fr t H => ?_
 refine B1 3 [] 10 H fun fr H => Ah 1 [] 13 0 0 A H fun fr t H => ?_
 obtain ⟨⟨x1, x2, x3⟩, hx, hm⟩ := bind_some hm
 obtain ⟨v1, h2, hr, rqw1, rfl, A1⟩ := Lf (av := [.str p0.Text]) hx (A.cut 0)
 replace A : HH g h2 [.AK rqw1 219 (AK AO x1), .obj h.size (.cells none 2 (AA p0))] F := A.Cp (n := 0) A1
 refine A8 14 hr H fun fr t H => ?_
 refine AP 7 [(7, AH rqw1 x1.length), (8, Ai x2), (9, Ai x3)] H fun fr H => AR (AF 2 (AP 2 [(19, .bool (x3 != 0))] H fun fr H => Ae 19 H hm (fun hb hm H => ?_) fun hb hm H => ?_))
 ·refine AF 5 (AP 5 [(4, .ptr none), (5, Ai x2), (6, Ai x3)] H fun fr H => AY ?_)
  obtain ⟨rfl, rfl, rfl⟩ := Ho hm
  refine ⟨.inl rfl, .tuple [.ptr none, Ai x2, Ai x3], rH H, ?_⟩
  replace A := A.d0
  refine ⟨.tuple [.ptr none, Ai x2, Ai x3], h2, by first | rfl | (simp only [Oe, O5, Oz, Oo, O4, Ox, O0, Of, On, Ov, Ol, Oq, Ob, Iq, IQ, Ig, IK, Ir, Ic, Io, Option.map_some] <;> rfl), ?_⟩
  exact .inr ⟨rfl, rfl, A⟩
 refine CN 13 id (Ah 2 [(23, AH rqw1 x1.length)] 25 1 2 A H fun fr t H => ?_)
 refine Ah 1 [] 27 1 3 A H fun fr t H => ?_
 obtain ⟨⟨w5, x5⟩, hx, hm⟩ := bind_some hm
 obtain ⟨v1, h3, hr, hc⟩ := Jz (av := [AH rqw1 x1.length, .agg [.bool p0.Fold, .bool p0.BG], Ai p1]) hx (A.cut 1)
 rcases hc with ⟨x4, rfl, rfl, A1⟩ | ⟨rfl, rfl, A1⟩
 ·replace A := A.g11 A1
  refine Ap 2 [] 30 hr H fun fr t H => ?_
  refine BV 5 [(2, .ptr (some (h.size, 0))), (9, Ai x5), (10, .BR (DC 256 (AB.int .u8) x4.Bh ++ [Ai x4.Az, vs (eI .i32) x4.Bd, vs eB x4.BM]))] H fun fr H => BD id (AR (AF 2 (AP 2 [(34, .bool (x5 != 0))] H fun fr H => Ae 34 H hm (fun hb hm H => ?_) fun hb hm H => ?_)))
  ·refine AF 4 (AP 4 [(4, .ptr none), (5, Ai 0), (6, Ai x5)] H fun fr H => AY ?_)
   obtain ⟨rfl, rfl, rfl⟩ := Ho hm
   refine ⟨.inl rfl, .tuple [.ptr none, Ai 0, Ai x5], rH H, ?_⟩
   replace A := A.d0
   refine ⟨.tuple [.ptr none, Ai 0, Ai x5], h3, by first | rfl | (simp only [Oe, O5, Oz, Oo, O4, Ox, O0, Of, On, Ov, Ol, Oq, Ob, Iq, IQ, Ig, IK, Ir, Ic, Io, Option.map_some] <;> rfl), ?_⟩
   exact .inr ⟨rfl, rfl, A⟩
  refine CN 7 id (As 36 _ _ H (fun fr => .of (B3 (by kernel_rfl) (A.F5 1 rfl (o := 0) (n := 4) ⟨Nat.le_of_ble_eq_true rfl, rfl⟩))) fun fr t H => ?_)
  obtain ⟨h4, e2, A⟩ := A.pu (.cells none 2 [.str p0.Text, .bool p0.Bu, .bool p0.Fold, .bool p0.BG, .BR (DC 256 (AB.int .u8) x4.Bh ++ [Ai x4.Az, vs (eI .i32) x4.Bd, vs eB x4.BM])])
  refine Gf 2 [] 39 (.ptr (some (h3.size, 0))) e2 H fun fr t H => ?_
  refine AP 3 [(4, .ptr (some (h3.size, 0))), (5, Ai 0), (6, Ai 0)] H fun fr H => AY ?_
  obtain ⟨rfl, rfl, rfl⟩ := Ho hm
  refine ⟨.inl rfl, .tuple [.ptr (some (h3.size, 0)), Ai 0, Ai 0], rH H, ?_⟩
  replace A : HH g h4 [.obj h3.size (.cells none 2 [.str p0.Text, .bool p0.Bu, .bool p0.Fold, .bool p0.BG, .BR (DC 256 (AB.int .u8) x4.Bh ++ [Ai x4.Az, vs (eI .i32) x4.Bd, vs eB x4.BM])])] F := (HH.Kw (A.front 0 rfl) 1)
  obtain ⟨h5, A1, hy0⟩ := (A.front 0 rfl).Wl
  replace A : HH g h5 [] F := A1
  have hz0 := hy0 [.str p0.Text, .bool p0.Bu, .bool p0.Fold, .bool p0.BG, .BR (DC 256 (AB.int .u8) x4.Bh ++ [Ai x4.Az, vs (eI .i32) x4.Bd, vs eB x4.BM])] h5 (by simp only [Oe, O5, Oz, Oo, O4, Ox, O0, Of, On, Ov, Ol, Oq, Ob, Iq, IQ, Ig, IK, Ir, Ic, Io, Option.map_some, AE] <;> rfl)
  refine ⟨.tuple [.BR [.str p0.Text, .bool p0.Bu, .bool p0.Fold, .bool p0.BG, .BR (DC 256 (AB.int .u8) x4.Bh ++ [Ai x4.Az, vs (eI .i32) x4.Bd, vs eB x4.BM])], Ai 0, Ai 0], h5, by first | rfl | (simp only [Oe, O5, Oz, Oo, O4, Ox, O0, Of, On, Ov, Ol, Oq, Ob, Iq, IQ, Ig, IK, Ir, Ic, Io, Option.map_some, AE, hz0] <;> rfl), ?_⟩
  exact .inl ⟨(⟨p0, x4⟩ : AV), rfl, rfl, A⟩
 replace A := A.g11 A1
 refine Ap 2 [] 30 hr H fun fr t H => ?_
 refine BV 5 [(2, .ptr (some (h.size, 0))), (9, Ai x5), (10, .ptr none)] H fun fr H => BD id (AR (AF 2 (AP 2 [(34, .bool (x5 != 0))] H fun fr H => Ae 34 H hm (fun hb hm H => ?_) fun hb hm H => ?_)))
 ·refine AF 4 (AP 4 [(4, .ptr none), (5, Ai 0), (6, Ai x5)] H fun fr H => AY ?_)
  obtain ⟨rfl, rfl, rfl⟩ := Ho hm
  refine ⟨.inl rfl, .tuple [.ptr none, Ai 0, Ai x5], rH H, ?_⟩
  replace A := A.d0
  refine ⟨.tuple [.ptr none, Ai 0, Ai x5], h3, by first | rfl | (simp only [Oe, O5, Oz, Oo, O4, Ox, O0, Of, On, Ov, Ol, Oq, Ob, Iq, IQ, Ig, IK, Ir, Ic, Io, Option.map_some] <;> rfl), ?_⟩
  exact .inr ⟨rfl, rfl, A⟩
 refine CN 7 id (As 36 _ _ H (fun fr => .of (B3 (by kernel_rfl) (A.F5 1 rfl (o := 0) (n := 4) ⟨Nat.le_of_ble_eq_true rfl, rfl⟩))) fun fr t H => ?_)
 obtain ⟨h6, e3, A⟩ := A.pu (.cells none 2 [.str p0.Text, .bool p0.Bu, .bool p0.Fold, .bool p0.BG, .ptr none])
 refine Gf 2 [] 39 (.ptr (some (h3.size, 0))) e3 H fun fr t H => ?_
 refine AP 3 [(4, .ptr (some (h3.size, 0))), (5, Ai 0), (6, Ai 0)] H fun fr H => AY ?_
 cases hm
def Hc (p0 : List AD) (p1 : Int) (s : (List AV) × Int) : Option (((List AV) × Int) ⊕ (((List AV)) ⊕ (Int))) :=
 match s with
 | (x1, x2) => Ac (decide (x2 < (p0.length : Int))) ((HO p0 x2).bind fun x5 => (EO x5 p1).bind fun (w2, x7, x8) => (match w2 with | some x6 => Ac (x8 != 0) (some (.inr (.inr x8))) (Ca (Lw 8 (x1.length + ([x6] : List AV).length)) <| some (.inl ((x1 ++ ([x6] : List AV)), IntKind.i64.wrap (x2 + 1)))) | none => Ac (x8 != 0) (some (.inr (.inr x8))) (none))) (some (.inr (.inl x1)))
def Fj (p0 : List AD) (p1 : Int) : Option ((List AV) × Int) :=
 (loop (Hc p0 p1) (([] : List AV), (0 : Int))).bind fun o1 => (match o1 with | .inl x3 => some (x3, (0 : Int)) | .inr x4 => some (([] : List AV), x4))
theorem Iv {p0 p1 q0 q1} (hm : Fj p0 p1 = some (q0, q1)) (A : HH g h [] F) (hc : Ba (cfg.still 13) av = [vs AA p0, Ai p1] := by kernel_rfl) : ∃ v h', Bi cfg g h 13 av v h' ∧ ∃ (rq0 : Option Nat), v = .tuple [AH rq0 q0.length, Ai q1] ∧ HH g h' [.AK rq0 93 (AK (eP AE) q0)] F := by
 refine EN 34 [.tmp 4, .tmp 5] hc ?_
 clear hc
 unfold Fj at hm
 refine bg 34 [(0, vs AA p0), (1, Ai p1)] fun fr H => ?_
 refine AF 2 (B1 2 [] 1 H fun fr H => AP 1 [(6, .slice none 0)] H fun fr H => AR (AF 3 (AP 3 [(12, vs AA p0), (13, Ai (p0.length : Int)), (14, Ai 0)] H fun fr H => Af (id := 0) (by kernel_rfl) ?_)))
 replace A : HH g h [.AK none 93 (AK (eP AE) ([] : List AV))] F := A.KI 93
 obtain ⟨o1, ho, hm⟩ := bind_some hm
 refine BU (Q' := fun e fr' h' => (∃ x3, e = .exit 0 ∧ .inl x3 = o1 ∧ ∃ r2, Has fr' 34 [(6, AH r2 x3.length)] ∧ HH g h' [.AK r2 93 (AK (eP AE) x3)] F) ∨ (∃ x4, e = .ret ∧ .inr x4 = o1 ∧ Has fr' 34 [(4, .slice none 0), (5, Ai x4)] ∧ HH g h' [] F) ∨ False) ?_ ?_
 ·refine CH (by kernel_rfl) (fun (s : (List AV) × Int) fr' h' => ∃ x1 x2, (x1, x2) = s ∧ ∃ r1, Has fr' 34 [(1, Ai p1), (6, AH r1 x1.length), (12, vs AA p0), (13, Ai (p0.length : Int)), (14, Ai x2)] ∧ HH g h' [.AK r1 93 (AK (eP AE) x1)] F) ho ⟨_, _, rfl, none, H.ls, A⟩ ?_
  clear ho hm H A
  intro s q fr h1 hI hm
  obtain ⟨x1, x2, rfl, r1, H, A⟩ := hI
  unfold Hc at hm
  refine AF 1 (AP 1 [(15, .bool (decide (x2 < (p0.length : Int))))] H fun fr H => AR (Ae 15 H hm (fun hb hm H => ?_) fun hb hm H => ?_))
  ·refine B0 id (AR (Af (id := 1) (by kernel_rfl) ?_))
   refine AF 4 ?_
   obtain ⟨x5, hx, hm⟩ := bind_some hm
   refine As 16 (.BR (AA x5)) h1 H (fun fr => .of (RM (e := AA) (x := x5) BQ (by decide) (by kernel_rfl) hx)) fun fr t H => ?_
   refine As 17 (.agg (AA x5)) h1 H (fun fr => .of (Lp (by kernel_rfl))) fun fr t H => ?_
   obtain ⟨h2, e1, A⟩ := A.pu (.cells none 2 [.str ([] : List UInt8), .bool false, .bool false, .bool false])
   refine BP 8 (.ptr (some (h1.size, 0))) e1 H fun fr t H => ?_
   obtain ⟨h3, hx, A⟩ := A.s0 0 (AA x5) [_, _, _, _]
   refine Cy hx H fun fr t H => ?_
   refine CI 10 id (As 19 _ _ H (fun fr => .of (B3 (by kernel_rfl) (A.F5 0 rfl (o := 0) (n := 4) ⟨Nat.le_of_ble_eq_true rfl, rfl⟩))) fun fr t H => ?_)
   obtain ⟨⟨w2, x7, x8⟩, hx, hm⟩ := bind_some hm
   obtain ⟨v1, h4, hr, hc⟩ := K2 (av := [.agg (AA x5), Ai p1]) hx (A.cut 0)
   rcases hc with ⟨x6, rfl, rfl, A1⟩ | ⟨rfl, rfl, A1⟩
   ·replace A := A.C4 A1
    refine Ap 1 [] 21 hr H fun fr t H => ?_
    refine AP 7 [(9, .BR (AE x6)), (11, Ai x8)] H fun fr H => AR (AF 2 (AP 2 [(26, .bool (x8 != 0))] H fun fr H => Ae 26 H hm (fun hb hm H => ?_) fun hb hm H => ?_))
    ·refine AF 3 (AP 3 [(4, .slice none 0), (5, Ai x8)] H fun fr H => AY ?_)
     replace A := A.d0
     exact nr hm fun e => Or.inr (.inl ⟨_, rfl, e, H.ls, A⟩)
    refine F3 5 id (AG 2 [(28, AH r1 x1.length), (29, .BR (AE x6))] H fun fr H => ?_)
    obtain ⟨h5, e2, A⟩ := A.pL 93 [.BR (AE x6)]
    refine BP 30 (AH (some h4.size) (([x6] : List AV).length)) e2 H fun fr t H => ?_
    obtain ⟨hb, hm⟩ := BE hm
    obtain ⟨r3, h6, hx, A1⟩ := HH.J2 (Sx _) (by decide) A 2 (xs := x1) (ys := ([x6] : List AV)) rfl (Cl A 0 rfl (n := ([x6] : List AV).length) (z := 1) rfl (by decide)) rfl rfl hb
    replace A : HH g h6 [.AK (some h4.size) 93 ([.BR (AE x6)]), _, .AK r3 93 (AK (eP AE) (x1 ++ ([x6] : List AV)))] F := A1
    replace A := A.k2 1 2
    refine As 31 _ _ H (fun fr => .of (G3 (s := De r1 x1.length) (by kernel_rfl) hx)) fun fr t H => ?_
    refine BV 1 [(1, Ai p1), (6, AH r3 ((x1 ++ ([x6] : List AV)).length)), (12, vs AA p0), (13, Ai (p0.length : Int)), (14, Ai x2)] H fun fr H => F4 2 id (BV 2 [(1, Ai p1), (6, AH r3 ((x1 ++ ([x6] : List AV)).length)), (12, vs AA p0), (13, Ai (p0.length : Int)), (14, Ai (IntKind.i64.wrap (x2 + 1)))] H fun fr H => at_nil ?_)
    replace A := A.k1 1
    exact nx hm ⟨_, _, rfl, _, H.ls, A⟩
   replace A := A.C4 A1
   refine Ap 1 [] 21 hr H fun fr t H => ?_
   refine AP 7 [(9, .ptr none), (11, Ai x8)] H fun fr H => AR (AF 2 (AP 2 [(26, .bool (x8 != 0))] H fun fr H => Ae 26 H hm (fun hb hm H => ?_) fun hb hm H => ?_))
   ·refine AF 3 (AP 3 [(4, .slice none 0), (5, Ai x8)] H fun fr H => AY ?_)
    replace A := A.d0
    exact nr hm fun e => Or.inr (.inl ⟨_, rfl, e, H.ls, A⟩)
   refine F3 5 id (AG 2 [(28, AH r1 x1.length), (29, .ptr none)] H fun fr H => ?_)
   cases hm
  refine Bz (i := 0) (by kernel_rfl) ?_
  exact nr hm fun e => .inl ⟨_, rfl, e, _, H.ls, A⟩
 clear ho
 clear A
 intro e fr h7 hQ
 rcases hQ with ⟨x3, rfl, rfl, r2, H, A⟩ | ⟨x4, rfl, rfl, H, A⟩ | hF
 ·show AW _ _ _ _ _ _ _
  refine AF 3 (AP 3 [(4, AH r2 x3.length), (5, Ai 0)] H fun fr H => AY ?_)
  obtain ⟨rfl, rfl⟩ := B6 hm
  exact ⟨.inl rfl, _, rH H, _, rfl, A⟩
 ·obtain ⟨rfl, rfl⟩ := B6 hm
  refine ⟨.inl rfl, .tuple [.slice none 0, Ai x4], rH H, ?_⟩
  replace A : HH g h7 [.AK none 93 (AK (eP AE) ([] : List AV))] F := A.KI 93
  exact ⟨none, rfl, A⟩
 exact hF.elim
def FN (p0 : Int) (p1 : Int) : Option ((Option Cf) × Int) :=
 Ac ((((decide (p0 < 0)) || (decide (p0 > 9007199254740991))) || (decide (p1 < 1))) || (decide (p1 > 257))) (some (none, (6 : Int))) (some (some (⟨p0, p1, Pr⟩ : Cf), (0 : Int)))
theorem ID {p0 p1 o0 q1} (hm : FN p0 p1 = some (o0, q1)) (A : HH g h [] F) (hc : Ba (cfg.still 15) av = [Ai p0, Ai p1] := by kernel_rfl) : ∃ v h', Bi cfg g h 15 av v h' ∧ ((∃ (bq00 : Nat) (q00 : Cf), o0 = some q00 ∧ v = .tuple [.ptr (some (bq00, 0)), Ai q1] ∧ HH g h' [.obj bq00 (.cells none 2 ([Ai q00.n_, Ai q00.Az] ++ (DC 257 (AB.int .i64) q00.Bl ++ [])))] F) ∨ (o0 = none ∧ v = .tuple [.ptr none, Ai q1] ∧ HH g h' [] F)) := by
 refine EN 24 [.tmp 4, .tmp 5] hc ?_
 clear hc
 unfold FN at hm
 refine bg 24 [(0, Ai p0), (1, Ai p1)] fun fr H => ?_
 refine AF 2 (AP 2 [] H fun fr H => AR (AF 14 (AG 3 [(8, .bool (decide (p0 < 0)))] H fun fr H => A9 3 (fun fr' h' => h = h' ∧ Has fr' 24 [(0, Ai p0), (1, Ai p1), (11, .bool ((decide (p0 < 0)) || (decide (p0 > 9007199254740991))))]) ?_ ?_)))
 ·cases hb : (decide (p0 < 0) : Bool) with
  | true =>
   replace H := H.kn 8 hb
   exact AG 3 [(11, .bool true)] H fun fr H => BK H hb
  | false =>
   replace H := H.kn 8 hb
   exact AG 3 [(11, .bool (decide (p0 > 9007199254740991)))] H fun fr H => BK H hb
 intro t fr h' hK
 obtain ⟨e, H⟩ := hK
 subst e
 refine AG 1 [(12, .bool ((decide (p0 < 0)) || (decide (p0 > 9007199254740991))))] H fun fr H => A9 3 (fun fr' h' => h = h' ∧ Has fr' 24 [(0, Ai p0), (1, Ai p1), (15, .bool (((decide (p0 < 0)) || (decide (p0 > 9007199254740991))) || (decide (p1 < 1))))]) ?_ ?_
 ·cases hb : ((decide (p0 < 0)) || (decide (p0 > 9007199254740991)) : Bool) with
  | true =>
   replace H := H.kn 12 hb
   exact AG 3 [(15, .bool true)] H fun fr H => BK H hb
  | false =>
   replace H := H.kn 12 hb
   exact AG 3 [(15, .bool (decide (p1 < 1)))] H fun fr H => BK H hb
 intro t fr h' hK
 obtain ⟨e, H⟩ := hK
 subst e
 refine AG 1 [(16, .bool (((decide (p0 < 0)) || (decide (p0 > 9007199254740991))) || (decide (p1 < 1))))] H fun fr H => A9 3 (fun fr' h' => h = h' ∧ Has fr' 24 [(0, Ai p0), (1, Ai p1), (19, .bool ((((decide (p0 < 0)) || (decide (p0 > 9007199254740991))) || (decide (p1 < 1))) || (decide (p1 > 257))))]) ?_ ?_
 ·cases hb : (((decide (p0 < 0)) || (decide (p0 > 9007199254740991))) || (decide (p1 < 1)) : Bool) with
  | true =>
   replace H := H.kn 16 hb
   exact AG 3 [(19, .bool true)] H fun fr H => BK H hb
  | false =>
   replace H := H.kn 16 hb
   exact AG 3 [(19, .bool (decide (p1 > 257)))] H fun fr H => BK H hb
 intro t fr h' hK
 obtain ⟨e, H⟩ := hK
 subst e
 refine BD id (Ae 19 H hm (fun hb hm H => ?_) fun hb hm H => ?_)
 ·refine AF 2 (AP 2 [(4, .ptr none), (5, Ai 6)] H fun fr H => AY ?_)
  obtain ⟨rfl, rfl⟩ := B6 hm
  refine ⟨.inl rfl, .tuple [.ptr none, Ai 6], rH H, ?_⟩
  exact .inr ⟨rfl, rfl, A⟩
 refine CN 6 id ?_
 obtain ⟨h1, e1, A⟩ := A.pu (.cells none 2 ([Ai p0, Ai p1] ++ (DC 257 (AB.int .i64) Pr ++ [])))
 refine Gf 3 [] 23 (.ptr (some (h.size, 0))) e1 H fun fr t H => ?_
 refine AP 2 [(4, .ptr (some (h.size, 0))), (5, Ai 0)] H fun fr H => AY ?_
 obtain ⟨rfl, rfl⟩ := B6 hm
 refine ⟨.inl rfl, .tuple [.ptr (some (h.size, 0)), Ai 0], rH H, ?_⟩
 exact .inl ⟨h.size, (⟨p0, p1, Pr⟩ : Cf), rfl, rfl, A⟩
def J3 (p0 : BI) : Option ((Option B2) × Int) :=
 (IU p0).bind fun x1 => Ac (!x1) (some (none, (6 : Int))) (Ac ((decide ((IntKind.i64.wrap ((p0.AQ.length : Int) + (p0.AS.length : Int))) > 256)) || (decide ((p0.Bt.length : Int) > 256))) (some (none, (8 : Int))) ((Hq p0).bind fun x2 => (Fj p0.AQ p0.BF).bind fun (x3, x4) => Ac (x4 != 0) (some (none, x4)) ((Fj p0.AS p0.BF).bind fun (x5, x6) => Ac (x6 != 0) (some (none, x6)) ((Gg x2.Bt p0.BF p0.Name).bind fun (w8, x8, x9) => (match w8 with | some x7w7 => Ac (x9 != 0) (some (none, x9)) ((FN p0.Eu (mx (p0.AQ.length : Int) (1 : Int))).bind fun (w12, x11) => (match w12 with | some x10w11 => some (some (⟨x2, x3, x5, x7w7, x10w11⟩ : B2), x11) | none => none)) | none => Ac (x9 != 0) (some (none, x9)) ((FN p0.Eu (mx (p0.AQ.length : Int) (1 : Int))).bind fun (w15, x13) => (match w15 with | some x12w14 => none | none => none)))))))
theorem O2 {p0 o0 q1} (hm : J3 p0 = some (o0, q1)) (A : HH g h [] F) (hc : Ba (cfg.still 5) av = [.agg (Am p0)] := by kernel_rfl) : ∃ v h', Bi cfg g h 5 av v h' ∧ ((∃ (bq00 : Nat) (rq00_14 : Option Nat) (rq00_15 : Option Nat) (bq00_16 : Nat) (rq00_16_0 : Option Nat) (bq00_17 : Nat) (q00 : B2), o0 = some q00 ∧ v = .tuple [.ptr (some (bq00, 0)), Ai q1] ∧ HH g h' [.obj bq00 (.cells none 2 [vs AA q00.c_.AQ, vs AA q00.c_.AS, vs AL q00.c_.Bt, .bool q00.c_.FT, .bool q00.c_.Ay, Ai q00.c_.BN, .bool q00.c_.Be, Ai q00.c_.An.CX, Ai q00.c_.An.BS, Ai q00.c_.Eu, Ai q00.c_.Bf, Ai q00.c_.Name, Ai q00.c_.Head, Ai q00.c_.BF, AH rq00_14 q00.Aj.length, AH rq00_15 q00.Ak.length, .ptr (some (bq00_16, 0)), .ptr (some (bq00_17, 0))]), .AK rq00_14 93 (AK (eP AE) q00.Aj), .AK rq00_15 93 (AK (eP AE) q00.Ak), .obj bq00_16 (.cells none 2 [AH rq00_16_0 q00.Aq.l_.length, Ai q00.Aq.Cm]), .AK rq00_16_0 99 (AK (eP AU) q00.Aq.l_), .obj bq00_17 (.cells none 2 ([Ai q00.Ar.n_, Ai q00.Ar.Az] ++ (DC 257 (AB.int .i64) q00.Ar.Bl ++ [])))] F) ∨ (o0 = none ∧ v = .tuple [.ptr none, Ai q1] ∧ HH g h' [] F)) := by
 refine EN 92 [.tmp 2, .tmp 3] hc ?_
 clear hc
 unfold J3 at hm
 refine bg 92 [(0, .agg (Am p0))] fun fr H => ?_
 refine AF 3 ?_
 obtain ⟨h1, e1, A⟩ := A.pu (.cells none 2 (Am p0))
 refine BP 1 (.ptr (some (h.size, 0))) e1 H fun fr t H => ?_
 refine AP 2 [] H fun fr H => AR (Af (id := 0) (by kernel_rfl) ?_)
 refine AF 4 (As 7 _ _ H (fun fr => .of (B3 (by kernel_rfl) (A.F5 0 rfl (o := 0) (n := 14) ⟨Nat.le_of_ble_eq_true rfl, rfl⟩))) fun fr t H => ?_)
 obtain ⟨x1, hx, hm⟩ := bind_some hm
 obtain ⟨v1, h2, hr, rfl, A1⟩ := Nb (av := [.agg (Am p0)]) hx (A.cut 0)
 replace A : HH g h2 [.obj h.size (.cells none 2 (Am p0))] F := A.Cp (n := 0) A1
 refine A8 8 hr H fun fr t H => ?_
 refine AP 2 [(6, .bool (!x1))] H fun fr H => Ae 6 H hm (fun hb hm H => ?_) fun hb hm H => ?_
 ·refine AF 2 (AP 2 [(2, .ptr none), (3, Ai 6)] H fun fr H => AY ?_)
  obtain ⟨rfl, rfl⟩ := B6 hm
  refine ⟨.inl rfl, .tuple [.ptr none, Ai 6], rH H, ?_⟩
  replace A := A.d0
  exact .inr ⟨rfl, rfl, A⟩
 refine AF 15 (Ah 1 [] 12 0 0 A H fun fr t H => ?_)
 refine Ah 2 [(13, Ai (p0.AQ.length : Int))] 15 0 1 A H fun fr t H => ?_
 refine AG 4 [(19, .bool (decide ((IntKind.i64.wrap ((p0.AQ.length : Int) + (p0.AS.length : Int))) > 256)))] H fun fr H => A9 5 (fun fr' h' => h2 = h' ∧ Has fr' 92 [(1, .ptr (some (h.size, 0))), (24, .bool ((decide ((IntKind.i64.wrap ((p0.AQ.length : Int) + (p0.AS.length : Int))) > 256)) || (decide ((p0.Bt.length : Int) > 256))))]) ?_ ?_
 ·cases hb : (decide ((IntKind.i64.wrap ((p0.AQ.length : Int) + (p0.AS.length : Int))) > 256) : Bool) with
  | true =>
   replace H := H.kn 19 hb
   exact AG 5 [(24, .bool true)] H fun fr H => BK H hb
  | false =>
   replace H := H.kn 19 hb
   refine Ah 1 [] 21 0 2 A H fun fr t H => ?_
   exact AG 3 [(24, .bool (decide ((p0.Bt.length : Int) > 256)))] H fun fr H => BK H hb
 intro t fr h' hK
 obtain ⟨e, H⟩ := hK
 subst e
 refine AP 1 [(10, .bool ((decide ((IntKind.i64.wrap ((p0.AQ.length : Int) + (p0.AS.length : Int))) > 256)) || (decide ((p0.Bt.length : Int) > 256))))] H fun fr H => Ae 10 H hm (fun hb hm H => ?_) fun hb hm H => ?_
 ·refine AF 2 (AP 2 [(2, .ptr none), (3, Ai 8)] H fun fr H => AY ?_)
  obtain ⟨rfl, rfl⟩ := B6 hm
  refine ⟨.inl rfl, .tuple [.ptr none, Ai 8], rH H, ?_⟩
  replace A := A.d0
  exact .inr ⟨rfl, rfl, A⟩
 refine CN 5 id (As 25 _ _ H (fun fr => .of (B3 (by kernel_rfl) (A.F5 0 rfl (o := 0) (n := 14) ⟨Nat.le_of_ble_eq_true rfl, rfl⟩))) fun fr t H => ?_)
 obtain ⟨x2, hx, hm⟩ := bind_some hm
 obtain ⟨v1, h3, hr, rfl, A1⟩ := Ms (av := [.agg (Am p0)]) hx (A.cut 0)
 replace A := A.C4 A1
 refine A8 26 hr H fun fr t H => ?_
 obtain ⟨h4, e2, A⟩ := A.pu (.cells none 2 [vs AA x2.AQ, vs AA x2.AS, vs AL x2.Bt, .bool x2.FT, .bool x2.Ay, Ai x2.BN, .bool x2.Be, Ai x2.An.CX, Ai x2.An.BS, Ai x2.Eu, Ai x2.Bf, Ai x2.Name, Ai x2.Head, Ai x2.BF, .slice none 0, .slice none 0, .ptr none, .ptr none])
 refine Gf 1 [] 28 (.ptr (some (h3.size, 0))) e2 H fun fr t H => ?_
 refine B1 1 [(4, .ptr (some (h3.size, 0)))] 1 H fun fr H => AP 1 [] H fun fr H => AR (AF 13 (Ah 2 [(30, .ptr (some (h3.size, 0)))] 32 1 0 A H fun fr t H => ?_))
 refine Ah 1 [] 34 1 13 A H fun fr t H => ?_
 obtain ⟨⟨x3, x4⟩, hx, hm⟩ := bind_some hm
 obtain ⟨v1, h5, hr, rqw3, rfl, A1⟩ := Iv (av := [vs AA p0.AQ, Ai p0.BF]) hx (A.cut 0)
 replace A : HH g h5 [.AK rqw3 93 (AK (eP AE) x3), .obj h3.size (.cells none 2 [vs AA x2.AQ, vs AA x2.AS, vs AL x2.Bt, .bool x2.FT, .bool x2.Ay, Ai x2.BN, .bool x2.Be, Ai x2.An.CX, Ai x2.An.BS, Ai x2.Eu, Ai x2.Bf, Ai x2.Name, Ai x2.Head, Ai x2.BF, .slice none 0, .slice none 0, .ptr none, .ptr none]), _] F := A.Cp (n := 0) A1
 refine A8 35 hr H fun fr t H => ?_
 obtain ⟨h6, hx, A⟩ := A.s1 14 [AH rqw3 x3.length] [_, _, _, _, _, _, _, _, _, _, _, _, _, _, _, _, _, _]
 refine Dn 5 [(37, Ai x4)] hx H fun fr t H => ?_
 refine B1 1 [(5, Ai x4)] 2 H fun fr H => AP 2 [(41, .bool (x4 != 0))] H fun fr H => Ae 41 H hm (fun hb hm H => ?_) fun hb hm H => ?_
 ·refine AF 3 (AP 3 [(2, .ptr none), (3, Ai x4)] H fun fr H => AY ?_)
  obtain ⟨rfl, rfl⟩ := B6 hm
  refine ⟨.inl rfl, .tuple [.ptr none, Ai x4], rH H, ?_⟩
  replace A := A.d0
  exact .inr ⟨rfl, rfl, A⟩
 refine B0 id (AR (AF 13 (Ah 2 [(44, .ptr (some (h3.size, 0)))] 46 2 1 A H fun fr t H => ?_)))
 refine Ah 1 [] 48 2 13 A H fun fr t H => ?_
 obtain ⟨⟨x5, x6⟩, hx, hm⟩ := bind_some hm
 obtain ⟨v1, h7, hr, rqw5, rfl, A1⟩ := Iv (av := [vs AA p0.AS, Ai p0.BF]) hx (A.cut 0)
 replace A := A.Ve A1
 refine A8 49 hr H fun fr t H => ?_
 obtain ⟨h8, hx, A⟩ := A.s2 15 [AH rqw5 x5.length] [_, _, _, _, _, _, _, _, _, _, _, _, _, _, _, _, _, _]
 refine Dn 5 [(51, Ai x6)] hx H fun fr t H => ?_
 refine BV 1 [(1, .ptr (some (h.size, 0))), (4, .ptr (some (h3.size, 0))), (5, Ai x6)] H fun fr H => CI 2 id (AP 2 [(55, .bool (x6 != 0))] H fun fr H => Ae 55 H hm (fun hb hm H => ?_) fun hb hm H => ?_)
 ·refine AF 3 (AP 3 [(2, .ptr none), (3, Ai x6)] H fun fr H => AY ?_)
  obtain ⟨rfl, rfl⟩ := B6 hm
  refine ⟨.inl rfl, .tuple [.ptr none, Ai x6], rH H, ?_⟩
  replace A := A.d0
  exact .inr ⟨rfl, rfl, A⟩
 refine B0 id (AR (AR (Df 13 19 ?_)))
 refine Ah 5 [(58, .ptr (some (h3.size, 0)))] 63 2 2 A H fun fr t H => ?_
 refine Ah 1 [] 65 3 13 A H fun fr t H => ?_
 refine Ah 1 [] 67 3 11 A H fun fr t H => ?_
 obtain ⟨⟨w8, x8, x9⟩, hx, hm⟩ := bind_some hm
 obtain ⟨v1, h9, hr, hc⟩ := MU (av := [vs AL x2.Bt, Ai p0.BF, Ai p0.Name]) hx (A.cut 0)
 rcases hc with ⟨bx7w7, rx7w7_0, x7w7, rfl, rfl, A1⟩ | ⟨rfl, rfl, A1⟩
 ·replace A := A.Xh A1
  refine A8 68 hr H fun fr t H => ?_
  obtain ⟨h10, hx, A⟩ := A.s4 16 [.ptr (some (bx7w7, 0))] [_, _, _, _, _, _, _, _, _, _, _, _, _, _, _, _, _, _]
  refine Dn 6 [(71, Ai x9)] hx H fun fr t H => ?_
  refine BV 1 [(1, .ptr (some (h.size, 0))), (4, .ptr (some (h3.size, 0))), (5, Ai x9)] H fun fr H => CI 2 id (AP 2 [(75, .bool (x9 != 0))] H fun fr H => Ae 75 H hm (fun hb hm H => ?_) fun hb hm H => ?_)
  ·refine AF 3 (AP 3 [(2, .ptr none), (3, Ai x9)] H fun fr H => AY ?_)
   obtain ⟨rfl, rfl⟩ := B6 hm
   refine ⟨.inl rfl, .tuple [.ptr none, Ai x9], rH H, ?_⟩
   replace A := A.d0
   exact .inr ⟨rfl, rfl, A⟩
  refine CN 15 id (Ah 2 [(78, .ptr (some (h3.size, 0)))] 80 5 9 A H fun fr t H => ?_)
  refine Ah 1 [] 82 5 0 A H fun fr t H => ?_
  obtain ⟨⟨w12, x11⟩, hx, hm⟩ := bind_some hm
  obtain ⟨v1, h11, hr, hc⟩ := ID (av := [Ai p0.Eu, Ai (mx (p0.AQ.length : Int) (1 : Int))]) hx (A.cut 0)
  rcases hc with ⟨bx10w11, x10w11, rfl, rfl, A1⟩ | ⟨rfl, rfl, A1⟩
  ·replace A := A.Ve A1
   refine Ap 2 [] 85 hr H fun fr t H => ?_
   obtain ⟨h12, hx, A⟩ := A.s5 17 [.ptr (some (bx10w11, 0))] [_, _, _, _, _, _, _, _, _, _, _, _, _, _, _, _, _, _]
   refine Dn 5 [(87, Ai x11)] hx H fun fr t H => ?_
   refine BV 1 [(4, .ptr (some (h3.size, 0))), (5, Ai x11)] H fun fr H => CI 4 id (AP 4 [(2, .ptr (some (h3.size, 0))), (3, Ai x11)] H fun fr H => AY ?_)
   obtain ⟨rfl, rfl⟩ := B6 hm
   refine ⟨.inl rfl, .tuple [.ptr (some (h3.size, 0)), Ai x11], rH H, ?_⟩
   replace A := A.k6 5 4 3 1 2 0
   exact .inl ⟨h3.size, rqw3, rqw5, bx7w7, rx7w7_0, bx10w11, (⟨x2, x3, x5, x7w7, x10w11⟩ : B2), rfl, rfl, A⟩
  replace A := A.C4 A1
  refine Ap 2 [] 85 hr H fun fr t H => ?_
  obtain ⟨h13, hx, A⟩ := A.s4 17 [.ptr none] [_, _, _, _, _, _, _, _, _, _, _, _, _, _, _, _, _, _]
  refine Dn 5 [(87, Ai x11)] hx H fun fr t H => ?_
  refine BV 1 [(4, .ptr (some (h3.size, 0))), (5, Ai x11)] H fun fr H => CI 4 id (AP 4 [(2, .ptr (some (h3.size, 0))), (3, Ai x11)] H fun fr H => AY ?_)
  cases hm
 replace A := A.C4 A1
 refine A8 68 hr H fun fr t H => ?_
 obtain ⟨h14, hx, A⟩ := A.s2 16 [.ptr none] [_, _, _, _, _, _, _, _, _, _, _, _, _, _, _, _, _, _]
 refine Dn 6 [(71, Ai x9)] hx H fun fr t H => ?_
 refine BV 1 [(1, .ptr (some (h.size, 0))), (4, .ptr (some (h3.size, 0))), (5, Ai x9)] H fun fr H => CI 2 id (AP 2 [(75, .bool (x9 != 0))] H fun fr H => Ae 75 H hm (fun hb hm H => ?_) fun hb hm H => ?_)
 ·refine AF 3 (AP 3 [(2, .ptr none), (3, Ai x9)] H fun fr H => AY ?_)
  obtain ⟨rfl, rfl⟩ := B6 hm
  refine ⟨.inl rfl, .tuple [.ptr none, Ai x9], rH H, ?_⟩
  replace A := A.d0
  exact .inr ⟨rfl, rfl, A⟩
 refine CN 15 id (Ah 2 [(78, .ptr (some (h3.size, 0)))] 80 3 9 A H fun fr t H => ?_)
 refine Ah 1 [] 82 3 0 A H fun fr t H => ?_
 obtain ⟨⟨w15, x13⟩, hx, hm⟩ := bind_some hm
 obtain ⟨v1, h15, hr, hc⟩ := ID (av := [Ai p0.Eu, Ai (mx (p0.AQ.length : Int) (1 : Int))]) hx (A.cut 0)
 rcases hc with ⟨bx12w14, x12w14, rfl, rfl, A1⟩ | ⟨rfl, rfl, A1⟩
 ·replace A := A.Ve A1
  refine Ap 2 [] 85 hr H fun fr t H => ?_
  obtain ⟨h16, hx, A⟩ := A.s3 17 [.ptr (some (bx12w14, 0))] [_, _, _, _, _, _, _, _, _, _, _, _, _, _, _, _, _, _]
  refine Dn 5 [(87, Ai x13)] hx H fun fr t H => ?_
  refine BV 1 [(4, .ptr (some (h3.size, 0))), (5, Ai x13)] H fun fr H => CI 4 id (AP 4 [(2, .ptr (some (h3.size, 0))), (3, Ai x13)] H fun fr H => AY ?_)
  cases hm
 replace A := A.C4 A1
 refine Ap 2 [] 85 hr H fun fr t H => ?_
 obtain ⟨h17, hx, A⟩ := A.s2 17 [.ptr none] [_, _, _, _, _, _, _, _, _, _, _, _, _, _, _, _, _, _]
 refine Dn 5 [(87, Ai x13)] hx H fun fr t H => ?_
 refine BV 1 [(4, .ptr (some (h3.size, 0))), (5, Ai x13)] H fun fr H => CI 4 id (AP 4 [(2, .ptr (some (h3.size, 0))), (3, Ai x13)] H fun fr H => AY ?_)
 cases hm
def FP (p0 : List UInt8) : Option (Bool) :=
 some (!(p0 == p0))
theorem Hw {p0 q0} (hm : FP p0 = some q0) (A : HH g h [] F) (hc : Ba (cfg.still 246) av = [.str p0] := by kernel_rfl) : ∃ v h', Bi cfg g h 246 av v h' ∧ v = .bool q0 ∧ HH g h' [] F := by
 refine EN 6 [.tmp 2] hc ?_
 clear hc
 unfold FP at hm
 refine bg 6 [(0, .str p0)] fun fr H => ?_
 refine AF 1 (B1 1 [] 4 H fun fr H => AP 4 [(2, .bool (!(p0 == p0)))] H fun fr H => AY ?_)
 obtain rfl := Ag hm
 exact ⟨.inl rfl, _, rH H, rfl, A⟩
end
end Go.Av.L
