/-
 A part.
-/
import Derived.Test.YtdjbadhilkmiiaaGreatDoorKCfg
import Derived.Test.YtdjbadhilkmiiaaGreatDoorK2
namespace Go.Av.L
open Go.Av Go.Lib
set_option maxRecDepth 10000
set_option maxHeartbeats 4000000
set_option linter.unusedVariables false
set_option linter.unusedSimpArgs false
variable {g : Gd} {h : AJ} {F : List Ck} {av : List AB}
noncomputable section
def DM (p0 : List AM) (p1 : C3) (p2 : List UInt8) (s : Int × Int × Int × Int) : Option ((Int × Int × Int × Int) ⊕ ((Bool))) :=
 match s with
 | (x1, x2, x3, x4) => (Ac (decide (x2 < (p0.length : Int))) ((HO p0 x2).bind fun x7 => some (x7.Kind == 4)) (some false) : Option (Bool)).bind fun x6 => Ac x6 (some (.inl (x1, IntKind.i64.wrap (x2 + 1), x2, x1))) (Ac ((x1 == (p2.length : Int)) && (x2 == (p0.length : Int))) (some (.inr true)) ((Ac ((decide (x2 < (p0.length : Int))) && (decide (x1 < (p2.length : Int)))) ((HO p0 x2).bind fun x9 => (KW p2 x1).bind fun x10 => (FA p1 x9 x10).bind fun x11 => some x11) (some false) : Option (Bool)).bind fun x8 => Ac x8 (some (.inl (IntKind.i64.wrap (x1 + 1), IntKind.i64.wrap (x2 + 1), x3, x4))) ((Ac ((decide (x3 < 0)) || (decide (x4 ≥ (p2.length : Int)))) (some true) ((KW p2 x4).bind fun x13 => (Es p1 x13).bind fun x14 => some (!x14)) : Option (Bool)).bind fun x12 => Ac x12 (some (.inr false)) (some (.inl (IntKind.i64.wrap (x4 + 1), IntKind.i64.wrap (x3 + 1), x3, IntKind.i64.wrap (x4 + 1)))))))
def Er (p0 : List AM) (p1 : C3) (p2 : List UInt8) : Option (Bool) :=
 (loop (DM p0 p1 p2) ((0 : Int), (0 : Int), (-1 : Int), (0 : Int))).bind fun x5 => some x5
theorem Lo {p0 p1 p2 rp0 q0} (hm : Er p0 p1 p2 = some q0) (A : HH g h [.AK rp0 219 (AK AO p0)] F) (hc : Ba (cfg.still 230) av = [AH rp0 p0.length, .agg [.bool p1.Fold, .bool p1.BG], .str p2] := by kernel_rfl) : ∃ v h', Bi cfg g h 230 av v h' ∧ v = .bool q0 ∧ HH g h' [.AK rp0 219 (AK AO p0)] F := by
 refine EN 83 [.tmp 6] hc ?_
 clear hc
 unfold Er at hm
 refine bg 83 [(0, AH rp0 p0.length), (1, .agg [.bool p1.Fold, .bool p1.BG]), (2, .str p2)] fun fr H => ?_
 refine AF 2 ?_
 obtain ⟨h1, e1, A⟩ := A.pu (.cells none 2 [.bool p1.Fold, .bool p1.BG])
 refine BP 4 (.ptr (some (h.size, 0))) e1 H fun fr t H => ?_
 refine AP 1 [] H fun fr H => Qh (by kernel_rfl) ?_
 refine AF 2 (B1 2 [(7, Ai 0), (8, Ai 0)] 2 H fun fr H => AP 2 [(9, Ai (-1)), (10, Ai 0)] H fun fr H => AR (Qr (by kernel_rfl) ?_))
 show AW _ _ _ _ _ _ _
 refine Af (id := 0) (by kernel_rfl) ?_
 obtain ⟨o1, ho, hm⟩ := bind_some hm
 refine BU (Q' := fun e fr' h' => (∃ x5, e = .ret ∧ x5 = o1 ∧ Has fr' 83 [(6, .bool x5)] ∧ HH g h' [.obj h.size (.cells none 2 [.bool p1.Fold, .bool p1.BG]), .AK rp0 219 (AK AO p0)] F) ∨ False) ?_ ?_
 ·refine CH (by kernel_rfl) (fun (s : Int × Int × Int × Int) fr' h' => ∃ x1 x2 x3 x4, (x1, x2, x3, x4) = s ∧ Has fr' 83 [(0, AH rp0 p0.length), (2, .str p2), (4, .ptr (some (h.size, 0))), (7, Ai x1), (8, Ai x2), (9, Ai x3), (10, Ai x4)] ∧ HH g h' [.obj h.size (.cells none 2 [.bool p1.Fold, .bool p1.BG]), .AK rp0 219 (AK AO p0)] F) ho ⟨_, _, _, _, rfl, H.ls, A⟩ ?_
  clear ho hm H A
  intro s q fr h2 hI hm
  obtain ⟨x1, x2, x3, x4, rfl, H, A⟩ := hI
  unfold DM at hm
  refine Af (id := 1) (by kernel_rfl) ?_
  refine AR (AF 12 (AG 5 [(15, .bool (decide (x2 < (p0.length : Int))))] H fun fr H => ?_))
  obtain ⟨x6, ho, hm⟩ := bind_some hm
  refine A9 7 (fun fr' h' => Has fr' 83 [(0, AH rp0 p0.length), (2, .str p2), (4, .ptr (some (h.size, 0))), (7, Ai x1), (8, Ai x2), (9, Ai x3), (10, Ai x4), (22, .bool x6)] ∧ HH g h' [.obj h.size (.cells none 2 [.bool p1.Fold, .bool p1.BG]), .AK rp0 219 (AK AO p0)] F) ?_ ?_
  ·rcases AZ ho with ⟨hb, hm⟩ | ⟨hb, hm⟩
   ·replace H := H.kn 15 hb
    obtain ⟨x7, hx, hm⟩ := bind_some hm
    obtain ⟨i1, er1, _, hx, hq1⟩ := HH.Nk Bw (by decide) A 1 (xs := p0) rfl hx
    refine BA 2 [] 18 (.ptr (some (i1, x2.toNat * 6))) h2 H (fun fr => .of (Fg (s := De rp0 p0.length) (by kernel_rfl) hx)) fun fr t H => ?_
    refine BA 1 [] 20 _ _ H (fun fr => .of (EP (by kernel_rfl) (Fw Bw (HH.row A 1 rfl er1) hq1 (o := 0) rfl))) fun fr t H => ?_
    refine AG 2 [(22, .bool (x7.Kind == 4))] H fun fr H => ?_
    obtain rfl := Ag hm
    exact at_nil ⟨H.ls, A⟩
   replace H := H.kn 15 hb
   refine AG 7 [(22, .bool false)] H fun fr H => ?_
   obtain rfl := Ag hm
   exact at_nil ⟨H.ls, A⟩
  clear A
  intro t fr h3 hK
  obtain ⟨H, A⟩ := hK
  refine BD id (Ae 22 H hm (fun hb hm H => ?_) fun hb hm H => ?_)
  ·refine AF 4 (BV 4 [(0, AH rp0 p0.length), (2, .str p2), (4, .ptr (some (h.size, 0))), (7, Ai x1), (8, Ai x2), (9, Ai x2), (10, Ai x1)] H fun fr H => CI 3 id (BV 3 [(0, AH rp0 p0.length), (2, .str p2), (4, .ptr (some (h.size, 0))), (7, Ai x1), (8, Ai (IntKind.i64.wrap (x2 + 1))), (9, Ai x2), (10, Ai x1)] H fun fr H => BD id (Bz (i := 1) (by kernel_rfl) ?_)))
   exact nx hm ⟨_, _, _, _, rfl, H.ls, A⟩
  refine B0 id (AR (AF 10 (AG 5 [(31, .bool (x1 == (p2.length : Int)))] H fun fr H => A9 5 (fun fr' h' => h3 = h' ∧ Has fr' 83 [(0, AH rp0 p0.length), (2, .str p2), (4, .ptr (some (h.size, 0))), (7, Ai x1), (8, Ai x2), (9, Ai x3), (10, Ai x4), (36, .bool ((x1 == (p2.length : Int)) && (x2 == (p0.length : Int))))]) ?_ ?_)))
  ·cases hb : (x1 == (p2.length : Int) : Bool) with
   | true =>
    replace H := H.kn 31 hb
    exact AG 5 [(36, .bool (x2 == (p0.length : Int)))] H fun fr H => BK H hb
   | false =>
    replace H := H.kn 31 hb
    exact AG 5 [(36, .bool false)] H fun fr H => BK H hb
  intro t fr h' hK
  obtain ⟨e, H⟩ := hK
  subst e
  refine BD id (Ae 36 H hm (fun hb hm H => ?_) fun hb hm H => ?_)
  ·refine AF 1 (AP 1 [(6, .bool true)] H fun fr H => AY ?_)
   exact nr hm fun e => .inl ⟨_, rfl, e, H.ls, A⟩
  refine B0 id (AR (AR (Df 8 21 ?_)))
  refine AG 5 [(41, .bool (decide (x2 < (p0.length : Int))))] H fun fr H => A9 5 (fun fr' h' => h3 = h' ∧ Has fr' 83 [(0, AH rp0 p0.length), (2, .str p2), (4, .ptr (some (h.size, 0))), (7, Ai x1), (8, Ai x2), (9, Ai x3), (10, Ai x4), (46, .bool ((decide (x2 < (p0.length : Int))) && (decide (x1 < (p2.length : Int)))))]) ?_ ?_
  ·cases hb : (decide (x2 < (p0.length : Int)) : Bool) with
   | true =>
    replace H := H.kn 41 hb
    exact AG 5 [(46, .bool (decide (x1 < (p2.length : Int))))] H fun fr H => BK H hb
   | false =>
    replace H := H.kn 41 hb
    exact AG 5 [(46, .bool false)] H fun fr H => BK H hb
  intro t fr h' hK
  obtain ⟨e, H⟩ := hK
  subst e
  refine AG 1 [(47, .bool ((decide (x2 < (p0.length : Int))) && (decide (x1 < (p2.length : Int)))))] H fun fr H => ?_
  obtain ⟨x8, ho, hm⟩ := bind_some hm
  refine A9 10 (fun fr' h' => Has fr' 83 [(0, AH rp0 p0.length), (2, .str p2), (4, .ptr (some (h.size, 0))), (7, Ai x1), (8, Ai x2), (9, Ai x3), (10, Ai x4), (57, .bool x8)] ∧ HH g h' [.obj h.size (.cells none 2 [.bool p1.Fold, .bool p1.BG]), .AK rp0 219 (AK AO p0)] F) ?_ ?_
  ·rcases AZ ho with ⟨hb, hm⟩ | ⟨hb, hm⟩
   ·replace H := H.kn 47 hb
    refine As 48 _ _ H (fun fr => .of (B3 (by kernel_rfl) (A.F5 0 rfl (o := 0) (n := 2) ⟨Nat.le_of_ble_eq_true rfl, rfl⟩))) fun fr t H => ?_
    obtain ⟨x9, hx, hm⟩ := bind_some hm
    obtain ⟨i2, er2, _, hx, hq2⟩ := HH.Nk Bw (by decide) A 1 (xs := p0) rfl hx
    refine BA 2 [] 51 (.ptr (some (i2, x2.toNat * 6))) h3 H (fun fr => .of (Fg (s := De rp0 p0.length) (by kernel_rfl) hx)) fun fr t H => ?_
    refine As 52 _ _ H (fun fr => .of (B3 (by kernel_rfl) (LG Bw (HH.row A 1 rfl er2) hq2 0 6 (Nat.le_of_ble_eq_true rfl)))) fun fr t H => ?_
    obtain ⟨x10, hx, hm⟩ := bind_some hm
    refine BA 2 [] 55 (Ab x10) h3 H (fun fr => .of (E5 (by kernel_rfl) hx)) fun fr t H => ?_
    obtain ⟨x11, hx, hm⟩ := bind_some hm
    obtain ⟨v1, h5, hr, rfl, A1⟩ := ML (av := [.agg [.bool p1.Fold, .bool p1.BG], .agg (AO x9), Ab x10]) hx (A.cut 0)
    replace A := A.C4 A1
    refine A8 56 hr H fun fr t H => ?_
    refine AG 1 [(57, .bool x11)] H fun fr H => ?_
    obtain rfl := Ag hm
    exact at_nil ⟨H.ls, A⟩
   replace H := H.kn 47 hb
   refine AG 10 [(57, .bool false)] H fun fr H => ?_
   obtain rfl := Ag hm
   exact at_nil ⟨H.ls, A⟩
  clear A
  intro t fr h4 hK
  obtain ⟨H, A⟩ := hK
  refine BD id (Ae 57 H hm (fun hb hm H => ?_) fun hb hm H => ?_)
  ·refine AF 3 (BV 3 [(0, AH rp0 p0.length), (2, .str p2), (4, .ptr (some (h.size, 0))), (7, Ai (IntKind.i64.wrap (x1 + 1))), (8, Ai x2), (9, Ai x3), (10, Ai x4)] H fun fr H => CI 3 id (BV 3 [(0, AH rp0 p0.length), (2, .str p2), (4, .ptr (some (h.size, 0))), (7, Ai (IntKind.i64.wrap (x1 + 1))), (8, Ai (IntKind.i64.wrap (x2 + 1))), (9, Ai x3), (10, Ai x4)] H fun fr H => BD id (Bz (i := 1) (by kernel_rfl) ?_)))
   exact nx hm ⟨_, _, _, _, rfl, H.ls, A⟩
  refine B0 id (AR (AR (Df 11 16 ?_)))
  refine AG 3 [(64, .bool (decide (x3 < 0)))] H fun fr H => A9 5 (fun fr' h' => h4 = h' ∧ Has fr' 83 [(0, AH rp0 p0.length), (2, .str p2), (4, .ptr (some (h.size, 0))), (9, Ai x3), (10, Ai x4), (69, .bool ((decide (x3 < 0)) || (decide (x4 ≥ (p2.length : Int)))))]) ?_ ?_
  ·cases hb : (decide (x3 < 0) : Bool) with
   | true =>
    replace H := H.kn 64 hb
    exact AG 5 [(69, .bool true)] H fun fr H => BK H hb
   | false =>
    replace H := H.kn 64 hb
    exact AG 5 [(69, .bool (decide (x4 ≥ (p2.length : Int))))] H fun fr H => BK H hb
  intro t fr h' hK
  obtain ⟨e, H⟩ := hK
  subst e
  refine AG 1 [(70, .bool ((decide (x3 < 0)) || (decide (x4 ≥ (p2.length : Int)))))] H fun fr H => ?_
  obtain ⟨x12, ho, hm⟩ := bind_some hm
  refine A9 7 (fun fr' h' => Has fr' 83 [(0, AH rp0 p0.length), (2, .str p2), (4, .ptr (some (h.size, 0))), (9, Ai x3), (10, Ai x4), (77, .bool x12)] ∧ HH g h' [.obj h.size (.cells none 2 [.bool p1.Fold, .bool p1.BG]), .AK rp0 219 (AK AO p0)] F) ?_ ?_
  ·rcases AZ ho with ⟨hb, hm⟩ | ⟨hb, hm⟩
   ·replace H := H.kn 70 hb
    refine AG 7 [(77, .bool true)] H fun fr H => ?_
    obtain rfl := Ag hm
    exact at_nil ⟨H.ls, A⟩
   replace H := H.kn 70 hb
   refine As 71 _ _ H (fun fr => .of (B3 (by kernel_rfl) (A.F5 0 rfl (o := 0) (n := 2) ⟨Nat.le_of_ble_eq_true rfl, rfl⟩))) fun fr t H => ?_
   obtain ⟨x13, hx, hm⟩ := bind_some hm
   refine BA 2 [] 74 (Ab x13) h4 H (fun fr => .of (E5 (by kernel_rfl) hx)) fun fr t H => ?_
   obtain ⟨x14, hx, hm⟩ := bind_some hm
   obtain ⟨v1, h7, hr, rfl, A1⟩ := GR (av := [.agg [.bool p1.Fold, .bool p1.BG], Ab x13]) hx (A.cut 0)
   replace A := A.C4 A1
   refine A8 75 hr H fun fr t H => ?_
   refine AG 2 [(77, .bool (!x14))] H fun fr H => ?_
   obtain rfl := Ag hm
   exact at_nil ⟨H.ls, A⟩
  clear A
  intro t fr h6 hK
  obtain ⟨H, A⟩ := hK
  refine BD id (Ae 77 H hm (fun hb hm H => ?_) fun hb hm H => ?_)
  ·refine AF 1 (AP 1 [(6, .bool false)] H fun fr H => AY ?_)
   exact nr hm fun e => .inl ⟨_, rfl, e, H.ls, A⟩
  refine CN 3 id (BV 3 [(0, AH rp0 p0.length), (2, .str p2), (4, .ptr (some (h.size, 0))), (9, Ai x3), (10, Ai (IntKind.i64.wrap (x4 + 1)))] H fun fr H => F4 5 id (AG 5 [(7, Ai (IntKind.i64.wrap (x4 + 1))), (8, Ai (IntKind.i64.wrap (x3 + 1)))] H fun fr H => at_nil ?_))
  exact nx hm ⟨_, _, _, _, rfl, H.ls, A⟩
 clear ho
 clear A
 intro e fr h8 hQ
 rcases hQ with ⟨x5, rfl, rfl, H, A⟩ | hF
 ·obtain rfl := Ag hm
  refine ⟨.inl rfl, .bool x5, rH H, ?_⟩
  replace A := A.k1 1
  exact ⟨rfl, A⟩
 exact hF.elim
def CK (p0 : Bj) (p1 : AM) (p2 : Int) : Option (Bool) :=
 (TG p2).bind fun x1 => (Er ([p1] : List AM) p0.f_ ([x1] : List UInt8)).bind fun x2 => some (x2 && (p1.Kind != 4))
theorem FJ {p0 p1 p2 bp0 rp0_0 bp0_4 rp0_4_2 rp0_4_3 rp0_5 bp0_6 rp0_7 q0} (hm : CK p0 p1 p2 = some q0) (A : HH g h [.obj bp0 (.cells none 2 [AH rp0_0 p0.l_.length, .bool p0.f_.Fold, .bool p0.f_.BG, Ai p0.EG, .ptr (some (bp0_4, 0)), AH rp0_5 p0.DU.length, .map (some bp0_6), AH rp0_7 p0.B9.length]), .AK rp0_0 219 (AK AO p0.l_), .obj bp0_4 (.cells none 2 (DC 256 (AB.int .u8) p0.t_.Bh ++ [Ai p0.t_.Az, AH rp0_4_2 p0.t_.Bd.length, AH rp0_4_3 p0.t_.BM.length])), .AK rp0_4_2 21 (AK (eI .i32) p0.t_.Bd), .AK rp0_4_3 4 (AK eB p0.t_.BM), .AK rp0_5 5 (AK eY p0.DU), .obj bp0_6 (.map 2 (CL (fun k : List UInt8 => .str k) (fun v : Int => .int .i32 v) p0.Bx)), .AK rp0_7 9 (AK eS p0.B9)] F) (hc : Ba (cfg.still 188) av = [.ptr (some (bp0, 0)), .agg (AO p1), Ab p2] := by kernel_rfl) : ∃ v h', Bi cfg g h 188 av v h' ∧ v = .bool q0 ∧ HH g h' [.obj bp0 (.cells none 2 [AH rp0_0 p0.l_.length, .bool p0.f_.Fold, .bool p0.f_.BG, Ai p0.EG, .ptr (some (bp0_4, 0)), AH rp0_5 p0.DU.length, .map (some bp0_6), AH rp0_7 p0.B9.length]), .AK rp0_0 219 (AK AO p0.l_), .obj bp0_4 (.cells none 2 (DC 256 (AB.int .u8) p0.t_.Bh ++ [Ai p0.t_.Az, AH rp0_4_2 p0.t_.Bd.length, AH rp0_4_3 p0.t_.BM.length])), .AK rp0_4_2 21 (AK (eI .i32) p0.t_.Bd), .AK rp0_4_3 4 (AK eB p0.t_.BM), .AK rp0_5 5 (AK eY p0.DU), .obj bp0_6 (.map 2 (CL (fun k : List UInt8 => .str k) (fun v : Int => .int .i32 v) p0.Bx)), .AK rp0_7 9 (AK eS p0.B9)] F := by
 refine EN 22 [.tmp 6] hc ?_
 clear hc
 unfold CK at hm
 refine bg 22 [(0, .ptr (some (bp0, 0))), (1, .agg (AO p1)), (2, Ab p2)] fun fr H => ?_
 refine AF 2 ?_
 obtain ⟨h1, e1, A⟩ := A.pu (.cells none 2 (AO p1))
 refine BP 4 (.ptr (some (h.size, 0))) e1 H fun fr t H => ?_
 refine AP 1 [] H fun fr H => AR (Df 1 16 ?_)
 refine As 7 _ _ H (fun fr => .of (B3 (by kernel_rfl) (A.F5 0 rfl (o := 0) (n := 6) ⟨Nat.le_of_ble_eq_true rfl, rfl⟩))) fun fr t H => ?_
 obtain ⟨h2, e2, A⟩ := A.pL 219 (AO p1)
 refine BP 8 (AH (some h1.size) (([p1] : List AM).length)) e2 H fun fr t H => ?_
 refine BA 3 [] 12 _ _ H (fun fr => .of (B3 (by kernel_rfl) (A.F5 2 rfl (o := 1) (n := 2) ⟨Nat.le_of_ble_eq_true rfl, rfl⟩))) fun fr t H => ?_
 refine AG 1 [(13, Ab p2)] H fun fr H => ?_
 obtain ⟨x1, hx, hm⟩ := bind_some hm
 have hx := Li hx
 have kH := hm
 have kA := A
 have kR := H
 subst hx
 have hm := kH
 have A := kA
 have H := kR
 clear kH kA kR
 obtain ⟨h3, e3, A⟩ := A.pL 5 [Ab (x1.toNat : Int)]
 refine BP 14 (AH (some h2.size) (([x1] : List UInt8).length)) e3 H fun fr t H => ?_
 refine As 15 (.str ([x1] : List UInt8)) h3 H (fun fr => .of (PI (xs := ([x1] : List UInt8)) A 0 rfl (by kernel_rfl))) fun fr t H => ?_
 replace A : HH g h3 [.AK (some h2.size) 5 ([Ab (x1.toNat : Int)]), .AK (some h1.size) 219 (AK AO ([p1] : List AM)), .obj h.size (.cells none 2 (AO p1)), _, _, _, _, _, _, _, _] F := A
 replace A : HH g h3 [_, _, _, _, _, _, _, _, _, _, _] F := (A.front 1 rfl)
 obtain ⟨x2, hx, hm⟩ := bind_some hm
 obtain ⟨v1, h4, hr, rfl, A1⟩ := Lo (av := [AH (some h1.size) (([p1] : List AM).length), .agg [.bool p0.f_.Fold, .bool p0.f_.BG], .str ([x1] : List UInt8)]) hx (A.cut 1)
 replace A := A.g11 A1
 refine A8 16 hr H fun fr t H => ?_
 refine AG 1 [(17, .bool x2)] H fun fr H => A9 4 (fun fr' h' => h4 = h' ∧ Has fr' 22 [(21, .bool (x2 && (p1.Kind != 4)))]) ?_ ?_
 ·cases hb : (x2 : Bool) with
  | true =>
   replace H := H.kn 17 hb
   refine Ah 1 [] 19 2 0 A H fun fr t H => ?_
   exact AG 2 [(21, .bool (p1.Kind != 4))] H fun fr H => BK H hb
  | false =>
   replace H := H.kn 17 hb
   exact AG 4 [(21, .bool false)] H fun fr H => BK H hb
 intro t fr h' hK
 obtain ⟨e, H⟩ := hK
 subst e
 refine AP 1 [(6, .bool (x2 && (p1.Kind != 4)))] H fun fr H => AY ?_
 obtain rfl := Ag hm
 refine ⟨.inl rfl, .bool (x2 && (p1.Kind != 4)), rH H, ?_⟩
 replace A := A.k8 3 4 5 6 7 8 9 10
 exact ⟨rfl, A⟩
def Cq (p0 : Bj) (x2 : (Nat → Int)) (x3 : List UInt8) (x4 : Int) (s : (List UInt8) × Int) : Option (((List UInt8) × Int) ⊕ (((List UInt8)))) :=
 match s with
 | (x8, x9) => Ac (decide (x9 < (p0.l_.length : Int))) (((HO p0.l_ x9).bind fun x12 => (CK (⟨p0.l_, p0.f_, p0.EG, (⟨x2, p0.t_.Az, p0.t_.Bd, p0.t_.BM⟩ : Bq), x3, p0.Bx, p0.B9⟩ : Bj) x12 (IntKind.u8.wrap x4)).bind fun x13 => Ac x13 ((HO x8 x9).bind fun x14 => some (x8.set x9.toNat (1 : UInt8))) (some x8) : Option (((List UInt8)))).bind fun x11 => some (.inl (x11, IntKind.i64.wrap (x9 + 1)))) (some (.inr x8))
def DV (p0 : Bj) (s : (List ((List UInt8) × Int)) × (Nat → Int) × (List UInt8) × Int) : Option (((List ((List UInt8) × Int)) × (Nat → Int) × (List UInt8) × Int) ⊕ (((List ((List UInt8) × Int)) × (Nat → Int) × (List UInt8)))) :=
 match s with
 | (x1, x2, x3, x4) => Ac (decide (x4 < 256)) (Ca (XO 1 (IntKind.i64.wrap ((p0.l_.length : Int) + 1))) <| (loop (Cq p0 x2 x3 x4) ((List.replicate (IntKind.i64.wrap ((p0.l_.length : Int) + 1)).toNat (0 : UInt8)), (0 : Int))).bind fun x10 => (Ac (x4 == 47) ((HO x10 (p0.l_.length : Int)).bind fun x16 => some (x10.set (p0.l_.length : Int).toNat (1 : UInt8))) (some x10) : Option (((List UInt8)))).bind fun x15 => (Ac (!((FC x1 x15).isSome)) ((TG (IntKind.u8.wrap x4)).bind fun x20 => Ca (Lw 1 (x3.length + ([x20] : List UInt8).length)) <| some ((IA x1 x15 (IntKind.u8.wrap (x1.length : Int))), (x3 ++ ([x20] : List UInt8)), IntKind.u8.wrap (x1.length : Int))) (some (x1, x3, ((FC x1 x15).getD (0 : Int)))) : Option (((List ((List UInt8) × Int)) × (List UInt8) × Int))).bind fun (x17, x18, x19) => (Ss 256 x2 x4).bind fun x21 => some (.inl (x17, (O8 x2 x4.toNat x19), x18, IntKind.i64.wrap (x4 + 1)))) (some (.inr (x1, x2, x3)))
def Cb (p0 : Bj) : Option (Bq × (List UInt8)) :=
 (loop (DV p0) (([] : List ((List UInt8) × Int)), p0.t_.Bh, p0.DU, (0 : Int))).bind fun (x5, x6, x7) => some ((⟨x6, (x5.length : Int), p0.t_.Bd, p0.t_.BM⟩ : Bq), x7)
theorem HG {p0 bp0 rp0_0 bp0_4 rp0_4_2 rp0_4_3 rp0_5 bp0_6 rp0_7 u2 u5} (hm : Cb p0 = some (u2, u5)) (A : HH g h [.obj bp0 (.cells none 2 [AH rp0_0 p0.l_.length, .bool p0.f_.Fold, .bool p0.f_.BG, Ai p0.EG, .ptr (some (bp0_4, 0)), AH rp0_5 p0.DU.length, .map (some bp0_6), AH rp0_7 p0.B9.length]), .AK rp0_0 219 (AK AO p0.l_), .obj bp0_4 (.cells none 2 (DC 256 (AB.int .u8) p0.t_.Bh ++ [Ai p0.t_.Az, AH rp0_4_2 p0.t_.Bd.length, AH rp0_4_3 p0.t_.BM.length])), .AK rp0_4_2 21 (AK (eI .i32) p0.t_.Bd), .AK rp0_4_3 4 (AK eB p0.t_.BM), .AK rp0_5 5 (AK eY p0.DU), .obj bp0_6 (.map 2 (CL (fun k : List UInt8 => .str k) (fun v : Int => .int .i32 v) p0.Bx)), .AK rp0_7 9 (AK eS p0.B9)] F) (hc : Ba (cfg.still 132) av = [.ptr (some (bp0, 0))] := by kernel_rfl) : ∃ v h', Bi cfg g h 132 av v h' ∧ ∃ (r'5 : Option Nat), v = .tuple [] ∧ HH g h' [.obj bp0 (.cells none 2 [AH rp0_0 p0.l_.length, .bool p0.f_.Fold, .bool p0.f_.BG, Ai p0.EG, .ptr (some (bp0_4, 0)), AH r'5 u5.length, .map (some bp0_6), AH rp0_7 p0.B9.length]), .AK rp0_0 219 (AK AO p0.l_), .obj bp0_4 (.cells none 2 (DC 256 (AB.int .u8) u2.Bh ++ [Ai u2.Az, AH rp0_4_2 p0.t_.Bd.length, AH rp0_4_3 p0.t_.BM.length])), .AK rp0_4_2 21 (AK (eI .i32) p0.t_.Bd), .AK rp0_4_3 4 (AK eB p0.t_.BM), .AK r'5 5 (AK eY u5), .obj bp0_6 (.map 2 (CL (fun k : List UInt8 => .str k) (fun v : Int => .int .i32 v) p0.Bx)), .AK rp0_7 9 (AK eS p0.B9)] F := by
 refine EN 93 [] hc ?_
 clear hc
 unfold Cb at hm
 refine bg 93 [(0, .ptr (some (bp0, 0)))] fun fr H => ?_
 refine AF 2 ?_
 obtain ⟨h1, e1⟩ : ∃ x, x = h.push (.map 2 []) := ⟨_, rfl⟩
 replace A : HH g h1 [.obj h.size (.map 2 (CL (fun k : List UInt8 => .str k) (fun v : Int => Ab v) ([] : List ((List UInt8) × Int)))), _, _, _, _, _, _, _, _] F := (A.push _).to e1
 refine BP 9 (.map (some h.size)) e1 H fun fr t H => ?_
 refine AP 1 [(2, .map (some h.size))] H fun fr H => AR (AF 1 (AP 1 [(10, Ai 0)] H fun fr H => Af (id := 0) (by kernel_rfl) ?_))
 obtain ⟨o1, ho, hm⟩ := bind_some hm
 refine BU (Q' := fun e fr' h' => (∃ x5 x6 x7, e = .exit 0 ∧ (x5, x6, x7) = o1 ∧ ∃ r2, Has fr' 93 [(0, .ptr (some (bp0, 0))), (2, .map (some h.size))] ∧ HH g h' [.obj h.size (.map 2 (CL (fun k : List UInt8 => .str k) (fun v : Int => Ab v) x5)), .obj bp0 (.cells none 2 [AH rp0_0 p0.l_.length, .bool p0.f_.Fold, .bool p0.f_.BG, Ai p0.EG, .ptr (some (bp0_4, 0)), AH r2 x7.length, .map (some bp0_6), AH rp0_7 p0.B9.length]), .AK rp0_0 219 (AK AO p0.l_), .obj bp0_4 (.cells none 2 (DC 256 (AB.int .u8) x6 ++ [Ai p0.t_.Az, AH rp0_4_2 p0.t_.Bd.length, AH rp0_4_3 p0.t_.BM.length])), .AK rp0_4_2 21 (AK (eI .i32) p0.t_.Bd), .AK rp0_4_3 4 (AK eB p0.t_.BM), .AK r2 5 (AK eY x7), .obj bp0_6 (.map 2 (CL (fun k : List UInt8 => .str k) (fun v : Int => .int .i32 v) p0.Bx)), .AK rp0_7 9 (AK eS p0.B9)] F) ∨ False) ?_ ?_
 ·refine CH (by kernel_rfl) (fun (s : (List ((List UInt8) × Int)) × (Nat → Int) × (List UInt8) × Int) fr' h' => ∃ x1 x2 x3 x4, (x1, x2, x3, x4) = s ∧ ∃ r1, Has fr' 93 [(0, .ptr (some (bp0, 0))), (2, .map (some h.size)), (10, Ai x4)] ∧ HH g h' [.obj h.size (.map 2 (CL (fun k : List UInt8 => .str k) (fun v : Int => Ab v) x1)), .obj bp0 (.cells none 2 [AH rp0_0 p0.l_.length, .bool p0.f_.Fold, .bool p0.f_.BG, Ai p0.EG, .ptr (some (bp0_4, 0)), AH r1 x3.length, .map (some bp0_6), AH rp0_7 p0.B9.length]), .AK rp0_0 219 (AK AO p0.l_), .obj bp0_4 (.cells none 2 (DC 256 (AB.int .u8) x2 ++ [Ai p0.t_.Az, AH rp0_4_2 p0.t_.Bd.length, AH rp0_4_3 p0.t_.BM.length])), .AK rp0_4_2 21 (AK (eI .i32) p0.t_.Bd), .AK rp0_4_3 4 (AK eB p0.t_.BM), .AK r1 5 (AK eY x3), .obj bp0_6 (.map 2 (CL (fun k : List UInt8 => .str k) (fun v : Int => .int .i32 v) p0.Bx)), .AK rp0_7 9 (AK eS p0.B9)] F) ho ⟨_, _, _, _, rfl, rp0_5, H.ls, A⟩ ?_
  clear ho hm H A
  intro s q fr h2 hI hm
  obtain ⟨x1, x2, x3, x4, rfl, r1, H, A⟩ := hI
  unfold DV at hm
  refine AF 1 (AP 1 [(11, .bool (decide (x4 < 256)))] H fun fr H => AR (Ae 11 H hm (fun hb hm H => ?_) fun hb hm H => ?_))
  ·refine B0 id (AR (Af (id := 1) (by kernel_rfl) ?_))
   refine AF 2 (B1 2 [(3, Ai x4)] 8 H fun fr H => Ah 3 [] 16 1 0 A H fun fr t H => ?_)
   obtain ⟨hb, hm⟩ := BE hm
   obtain ⟨h3, e2, A⟩ := A.pL 5 (AK eY (List.replicate (IntKind.i64.wrap ((p0.l_.length : Int) + 1)).toNat (0 : UInt8)))
   refine BA 2 [] 19 (AH (some h2.size) (List.replicate (IntKind.i64.wrap ((p0.l_.length : Int) + 1)).toNat (0 : UInt8)).length) h3 H (fun fr => .of (TX (e := eY) G8 (x := (0 : UInt8)) (by kernel_rfl) hb (congrArg some e2.symm))) fun fr t H => ?_
   refine AP 1 [(4, AH (some h2.size) ((List.replicate (IntKind.i64.wrap ((p0.l_.length : Int) + 1)).toNat (0 : UInt8)).length))] H fun fr H => AR (AF 6 (Ah 3 [] 23 2 0 A H fun fr t H => ?_))
   refine AP 2 [(24, Ai (p0.l_.length : Int)), (25, Ai 0)] H fun fr H => Af (id := 2) (by kernel_rfl) ?_
   obtain ⟨o2, ho, hm⟩ := bind_some hm
   refine BU (Q' := fun e fr' h' => (∃ x10, e = .exit 2 ∧ x10 = o2 ∧ ∃ (hl2 : x10.length = (List.replicate (IntKind.i64.wrap ((p0.l_.length : Int) + 1)).toNat (0 : UInt8)).length), Has fr' 93 [(0, .ptr (some (bp0, 0))), (2, .map (some h.size)), (3, Ai x4), (4, AH (some h2.size) x10.length), (10, Ai x4)] ∧ HH g h' [.AK (some h2.size) 5 (AK eY x10), .obj h.size (.map 2 (CL (fun k : List UInt8 => .str k) (fun v : Int => Ab v) x1)), .obj bp0 (.cells none 2 [AH rp0_0 p0.l_.length, .bool p0.f_.Fold, .bool p0.f_.BG, Ai p0.EG, .ptr (some (bp0_4, 0)), AH r1 x3.length, .map (some bp0_6), AH rp0_7 p0.B9.length]), .AK rp0_0 219 (AK AO p0.l_), .obj bp0_4 (.cells none 2 (DC 256 (AB.int .u8) x2 ++ [Ai p0.t_.Az, AH rp0_4_2 p0.t_.Bd.length, AH rp0_4_3 p0.t_.BM.length])), .AK rp0_4_2 21 (AK (eI .i32) p0.t_.Bd), .AK rp0_4_3 4 (AK eB p0.t_.BM), .AK r1 5 (AK eY x3), .obj bp0_6 (.map 2 (CL (fun k : List UInt8 => .str k) (fun v : Int => .int .i32 v) p0.Bx)), .AK rp0_7 9 (AK eS p0.B9)] F) ∨ False) ?_ ?_
   ·refine CH (by kernel_rfl) (fun (s : (List UInt8) × Int) fr' h' => ∃ x8 x9, (x8, x9) = s ∧ ∃ (hl1 : x8.length = (List.replicate (IntKind.i64.wrap ((p0.l_.length : Int) + 1)).toNat (0 : UInt8)).length), Has fr' 93 [(0, .ptr (some (bp0, 0))), (2, .map (some h.size)), (3, Ai x4), (4, AH (some h2.size) x8.length), (10, Ai x4), (23, AH rp0_0 p0.l_.length), (24, Ai (p0.l_.length : Int)), (25, Ai x9)] ∧ HH g h' [.AK (some h2.size) 5 (AK eY x8), .obj h.size (.map 2 (CL (fun k : List UInt8 => .str k) (fun v : Int => Ab v) x1)), .obj bp0 (.cells none 2 [AH rp0_0 p0.l_.length, .bool p0.f_.Fold, .bool p0.f_.BG, Ai p0.EG, .ptr (some (bp0_4, 0)), AH r1 x3.length, .map (some bp0_6), AH rp0_7 p0.B9.length]), .AK rp0_0 219 (AK AO p0.l_), .obj bp0_4 (.cells none 2 (DC 256 (AB.int .u8) x2 ++ [Ai p0.t_.Az, AH rp0_4_2 p0.t_.Bd.length, AH rp0_4_3 p0.t_.BM.length])), .AK rp0_4_2 21 (AK (eI .i32) p0.t_.Bd), .AK rp0_4_3 4 (AK eB p0.t_.BM), .AK r1 5 (AK eY x3), .obj bp0_6 (.map 2 (CL (fun k : List UInt8 => .str k) (fun v : Int => .int .i32 v) p0.Bx)), .AK rp0_7 9 (AK eS p0.B9)] F) ho ⟨_, _, rfl, rfl, H.ls, A⟩ ?_
    clear ho hm H A
    intro s q fr h4 hI hm
    obtain ⟨x8, x9, rfl, hl1, H, A⟩ := hI
    unfold Cq at hm
    refine AF 1 (AP 1 [(26, .bool (decide (x9 < (p0.l_.length : Int))))] H fun fr H => AR (Ae 26 H hm (fun hb hm H => ?_) fun hb hm H => ?_))
    ·refine B0 id (AR ?_)
     obtain ⟨o3, ho, hm⟩ := bind_some hm
     refine BU (Q' := fun e fr' h' => (∃ x11, e = .normal ∧ x11 = o3 ∧ ∃ (hl3 : x11.length = (List.replicate (IntKind.i64.wrap ((p0.l_.length : Int) + 1)).toNat (0 : UInt8)).length), Has fr' 93 [(0, .ptr (some (bp0, 0))), (2, .map (some h.size)), (3, Ai x4), (4, AH (some h2.size) x11.length), (10, Ai x4), (23, AH rp0_0 p0.l_.length), (24, Ai (p0.l_.length : Int)), (25, Ai x9)] ∧ HH g h' [.AK (some h2.size) 5 (AK eY x11), .obj h.size (.map 2 (CL (fun k : List UInt8 => .str k) (fun v : Int => Ab v) x1)), .obj bp0 (.cells none 2 [AH rp0_0 p0.l_.length, .bool p0.f_.Fold, .bool p0.f_.BG, Ai p0.EG, .ptr (some (bp0_4, 0)), AH r1 x3.length, .map (some bp0_6), AH rp0_7 p0.B9.length]), .AK rp0_0 219 (AK AO p0.l_), .obj bp0_4 (.cells none 2 (DC 256 (AB.int .u8) x2 ++ [Ai p0.t_.Az, AH rp0_4_2 p0.t_.Bd.length, AH rp0_4_3 p0.t_.BM.length])), .AK rp0_4_2 21 (AK (eI .i32) p0.t_.Bd), .AK rp0_4_3 4 (AK eB p0.t_.BM), .AK r1 5 (AK eY x3), .obj bp0_6 (.map 2 (CL (fun k : List UInt8 => .str k) (fun v : Int => .int .i32 v) p0.Bx)), .AK rp0_7 9 (AK eS p0.B9)] F) ∨ False) ?_ ?_
     ·replace hm := ho
      clear ho
      refine Af (id := 3) (by kernel_rfl) ?_
      refine AF 6 ?_
      obtain ⟨x12, hx, hm⟩ := bind_some hm
      obtain ⟨i1, er1, _, hx, hq1⟩ := HH.Nk Bw (by decide) A 3 (xs := p0.l_) rfl hx
      refine BA 1 [(27, Ai x9)] 28 (.ptr (some (i1, x9.toNat * 6))) h4 H (fun fr => .of (Fg (s := De rp0_0 p0.l_.length) (by kernel_rfl) hx)) fun fr t H => ?_
      refine As 29 _ _ H (fun fr => .of (B3 (by kernel_rfl) (LG Bw (HH.row A 3 rfl er1) hq1 0 6 (Nat.le_of_ble_eq_true rfl)))) fun fr t H => ?_
      obtain ⟨h5, e3, A⟩ := A.pu (.cells none 2 [Ai 0, Ab 0, Au 0, Au 0, Au 0, Au 0])
      refine BP 6 (.ptr (some (h4.size, 0))) e3 H fun fr t H => ?_
      obtain ⟨h6, hx, A⟩ := A.s0 0 (AO x12) [_, _, _, _, _, _]
      refine Dm 1 [(5, Ai x9)] hx H fun fr t H => ?_
      refine CI 5 id (BA 1 [(30, .ptr (some (bp0, 0)))] 31 _ _ H (fun fr => .of (B3 (by kernel_rfl) (A.F5 0 rfl (o := 0) (n := 6) ⟨Nat.le_of_ble_eq_true rfl, rfl⟩))) fun fr t H => ?_)
      replace A : HH g h6 [_, _, _, _, _, _, _, _, _, _, _] F := ((((((((A.front 10 rfl).front 10 rfl).front 10 rfl).front 10 rfl).front 10 rfl).front 10 rfl).front 10 rfl).front 10 rfl)
      obtain ⟨x13, hx, hm⟩ := bind_some hm
      obtain ⟨v1, h7, hr, rfl, A1⟩ := FJ (av := [.ptr (some (bp0, 0)), .agg (AO x12), Ab (IntKind.u8.wrap x4)]) hx (A.cut 8)
      replace A : HH g h7 [.obj bp0 (.cells none 2 [_, _, _, _, _, _, _, _]), .AK rp0_0 219 (AK AO p0.l_), .obj bp0_4 (.cells none 2 (DC 256 (AB.int .u8) x2 ++ [Ai p0.t_.Az, AH rp0_4_2 p0.t_.Bd.length, AH rp0_4_3 p0.t_.BM.length])), .AK rp0_4_2 21 (AK (eI .i32) p0.t_.Bd), .AK rp0_4_3 4 (AK eB p0.t_.BM), .AK r1 5 (AK eY x3), .obj bp0_6 (.map 2 (CL (fun k : List UInt8 => .str k) (fun v : Int => .int .i32 v) p0.Bx)), .AK rp0_7 9 (AK eS p0.B9), _, _, _] F := A.Cp (n := 8) A1
      refine Ap 2 [] 34 hr H fun fr t H => ?_
      refine BD id (Ae 34 H hm (fun hb hm H => ?_) fun hb hm H => ?_)
      ·refine DQ 4 ?_
       obtain ⟨x14, hx, hm⟩ := bind_some hm
       obtain ⟨i2, er2, _, hx, hq2⟩ := HH.Nk G8 (by decide) A 9 (xs := x8) rfl hx
       refine BA 2 [] 37 (.ptr (some (i2, x9.toNat * 1))) h7 H (fun fr => .of (Fg (s := De (some h2.size) x8.length) (by kernel_rfl) hx)) fun fr t H => ?_
       obtain ⟨h8, hx, A1⟩ := HH.WY G8 A 9 rfl er2 hq2 (y := (1 : UInt8)) (o := 0) (new := [Ab 1]) rfl rfl (Nat.le_of_ble_eq_true rfl)
       have hl4 : (x8.set x9.toNat (1 : UInt8)).length = (List.replicate (IntKind.i64.wrap ((p0.l_.length : Int) + 1)).toNat (0 : UInt8)).length := List.length_set.trans hl1
       have el : AH (some h2.size) x8.length = AH (some h2.size) (x8.set x9.toNat (1 : UInt8)).length := congrArg _ List.length_set.symm
       try rw [el] at H
       try rw [el] at A1
       replace A : HH g h8 [_, _, _, _, _, _, _, _, _, .AK (some h2.size) 5 (AK eY (x8.set x9.toNat (1 : UInt8))), _] F := A1
       refine Hk hx H fun fr t H => ?_
       refine at_nil ?_
       replace A : HH g h8 [_, _, _, _, _, _, _, _, _, _] F := (HH.Kw ((((((((((A.front 7 rfl).front 7 rfl).front 7 rfl).front 7 rfl).front 7 rfl).front 7 rfl).front 7 rfl).front 7 rfl).front 10 rfl).front 10 rfl) 10)
       exact .inl ⟨_, rfl, Ag hm, hl4, H.ls, A⟩
      refine Fz ?_
      replace A : HH g h7 [_, _, _, _, _, _, _, _, _, _] F := (HH.Kw ((((((((((A.front 7 rfl).front 7 rfl).front 7 rfl).front 7 rfl).front 7 rfl).front 7 rfl).front 7 rfl).front 7 rfl).front 10 rfl).front 10 rfl) 10)
      exact .inl ⟨_, rfl, Ag hm, hl1, H.ls, A⟩
     clear ho
     clear A
     intro e fr h9 hQ
     rcases hQ with ⟨x11, rfl, rfl, hl3, H, A⟩ | hF
     ·show AW _ _ _ _ _ _ _
      refine DQ 2 (BV 2 [(0, .ptr (some (bp0, 0))), (2, .map (some h.size)), (3, Ai x4), (4, AH (some h2.size) x11.length), (10, Ai x4), (23, AH rp0_0 p0.l_.length), (24, Ai (p0.l_.length : Int)), (25, Ai (IntKind.i64.wrap (x9 + 1)))] H fun fr H => at_nil ?_)
      exact nx hm ⟨_, _, rfl, hl3, H.ls, A⟩
     exact hF.elim
    refine Bz (i := 2) (by kernel_rfl) ?_
    exact nr hm fun e => .inl ⟨_, rfl, e, hl1, H.ls, A⟩
   clear ho
   clear A
   intro e fr h10 hQ
   rcases hQ with ⟨x10, rfl, rfl, hl2, H, A⟩ | hF
   ·show AW _ _ _ _ _ _ _
    refine AR ?_
    obtain ⟨o4, ho, hm⟩ := bind_some hm
    refine BU (Q' := fun e fr' h' => (∃ x15, e = .normal ∧ x15 = o4 ∧ ∃ (hl5 : x15.length = (List.replicate (IntKind.i64.wrap ((p0.l_.length : Int) + 1)).toNat (0 : UInt8)).length), Has fr' 93 [(0, .ptr (some (bp0, 0))), (2, .map (some h.size)), (3, Ai x4), (4, AH (some h2.size) x15.length), (10, Ai x4)] ∧ HH g h' [.AK (some h2.size) 5 (AK eY x15), .obj h.size (.map 2 (CL (fun k : List UInt8 => .str k) (fun v : Int => Ab v) x1)), .obj bp0 (.cells none 2 [AH rp0_0 p0.l_.length, .bool p0.f_.Fold, .bool p0.f_.BG, Ai p0.EG, .ptr (some (bp0_4, 0)), AH r1 x3.length, .map (some bp0_6), AH rp0_7 p0.B9.length]), .AK rp0_0 219 (AK AO p0.l_), .obj bp0_4 (.cells none 2 (DC 256 (AB.int .u8) x2 ++ [Ai p0.t_.Az, AH rp0_4_2 p0.t_.Bd.length, AH rp0_4_3 p0.t_.BM.length])), .AK rp0_4_2 21 (AK (eI .i32) p0.t_.Bd), .AK rp0_4_3 4 (AK eB p0.t_.BM), .AK r1 5 (AK eY x3), .obj bp0_6 (.map 2 (CL (fun k : List UInt8 => .str k) (fun v : Int => .int .i32 v) p0.Bx)), .AK rp0_7 9 (AK eS p0.B9)] F) ∨ False) ?_ ?_
    ·replace hm := ho
     clear ho
     refine AF 2 (AP 2 [(40, .bool (x4 == 47))] H fun fr H => Ae 40 H hm (fun hb hm H => ?_) fun hb hm H => ?_)
     ·refine DQ 8 (Ah 4 [(41, AH (some h2.size) x10.length)] 45 2 0 A H fun fr t H => ?_)
      obtain ⟨x16, hx, hm⟩ := bind_some hm
      obtain ⟨i3, er3, _, hx, hq3⟩ := HH.Nk G8 (by decide) A 0 (xs := x10) rfl hx
      refine BA 1 [] 47 (.ptr (some (i3, (p0.l_.length : Int).toNat * 1))) h10 H (fun fr => .of (Fg (s := De (some h2.size) x10.length) (by kernel_rfl) hx)) fun fr t H => ?_
      obtain ⟨h11, hx, A1⟩ := HH.WY G8 A 0 rfl er3 hq3 (y := (1 : UInt8)) (o := 0) (new := [Ab 1]) rfl rfl (Nat.le_of_ble_eq_true rfl)
      have hl6 : (x10.set (p0.l_.length : Int).toNat (1 : UInt8)).length = (List.replicate (IntKind.i64.wrap ((p0.l_.length : Int) + 1)).toNat (0 : UInt8)).length := List.length_set.trans hl2
      have el : AH (some h2.size) x10.length = AH (some h2.size) (x10.set (p0.l_.length : Int).toNat (1 : UInt8)).length := congrArg _ List.length_set.symm
      try rw [el] at H
      try rw [el] at A1
      replace A : HH g h11 [.AK (some h2.size) 5 (AK eY (x10.set (p0.l_.length : Int).toNat (1 : UInt8))), _, _, _, _, _, _, _, _, _] F := A1
      refine Hk hx H fun fr t H => ?_
      refine at_nil ?_
      exact .inl ⟨_, rfl, Ag hm, hl6, H.ls, A⟩
     exact Fz (.inl ⟨_, rfl, Ag hm, hl2, H.ls, A⟩)
    clear ho
    clear A
    intro e fr h12 hQ
    rcases hQ with ⟨x15, rfl, rfl, hl5, H, A⟩ | hF
    ·show AW _ _ _ _ _ _ _
     refine AF 9 (AG 2 [(49, .map (some h.size)), (50, AH (some h2.size) x15.length)] H fun fr H => As 51 (.str x15) h12 H (fun fr => .of (PI (xs := x15) A 0 rfl (by kernel_rfl))) fun fr t H => ?_)
     refine As 52 (.tuple [Ab ((FC x1 x15).getD (0 : Int)), .bool ((FC x1 x15).isSome)]) h12 H (fun fr => .of (RE (by kernel_rfl) (HH.UH (kt := 9) (et := 5) (ek := fun k : List UInt8 => .str k) (ev := fun v : Int => Ab v) (Rv (by kernel_rfl)) A 1 rfl (t := 297) (by kernel_rfl) (z := (0 : Int)) (by kernel_rfl) x15))) fun fr t H => ?_
     refine AP 5 [(7, Ab ((FC x1 x15).getD (0 : Int))), (8, .bool ((FC x1 x15).isSome))] H fun fr H => AR ?_
     obtain ⟨o5, ho, hm⟩ := bind_some hm
     refine BU (Q' := fun e fr' h' => (∃ x17 x18 x19, e = .normal ∧ (x17, x18, x19) = o5 ∧ ∃ r3, Has fr' 93 [(0, .ptr (some (bp0, 0))), (2, .map (some h.size)), (3, Ai x4), (7, Ab x19), (10, Ai x4)] ∧ HH g h' [.obj h.size (.map 2 (CL (fun k : List UInt8 => .str k) (fun v : Int => Ab v) x17)), .obj bp0 (.cells none 2 [AH rp0_0 p0.l_.length, .bool p0.f_.Fold, .bool p0.f_.BG, Ai p0.EG, .ptr (some (bp0_4, 0)), AH r3 x18.length, .map (some bp0_6), AH rp0_7 p0.B9.length]), .AK rp0_0 219 (AK AO p0.l_), .obj bp0_4 (.cells none 2 (DC 256 (AB.int .u8) x2 ++ [Ai p0.t_.Az, AH rp0_4_2 p0.t_.Bd.length, AH rp0_4_3 p0.t_.BM.length])), .AK rp0_4_2 21 (AK (eI .i32) p0.t_.Bd), .AK rp0_4_3 4 (AK eB p0.t_.BM), .AK r3 5 (AK eY x18), .obj bp0_6 (.map 2 (CL (fun k : List UInt8 => .str k) (fun v : Int => .int .i32 v) p0.Bx)), .AK rp0_7 9 (AK eS p0.B9)] F) ∨ False) ?_ ?_
     ·replace hm := ho
      clear ho
      refine AF 2 (AP 2 [(56, .bool (!((FC x1 x15).isSome)))] H fun fr H => Ae 56 H hm (fun hb hm H => ?_) fun hb hm H => ?_)
      ·refine AF 4 (AG 1 [(57, .map (some h.size))] H fun fr H => As 58 (Ai (x1.length : Int)) h12 H (fun fr => .of (UX (by kernel_rfl) (HH.Wv (ek := fun k : List UInt8 => .str k) (ev := fun v : Int => Ab v) A 1 rfl))) fun fr t H => ?_)
       refine BV 2 [(0, .ptr (some (bp0, 0))), (2, .map (some h.size)), (3, Ai x4), (4, AH (some h2.size) x15.length), (7, Ab (IntKind.u8.wrap (x1.length : Int))), (10, Ai x4)] H fun fr H => CI 5 id (AG 2 [(60, .map (some h.size)), (61, AH (some h2.size) x15.length)] H fun fr H => As 62 (.str x15) h12 H (fun fr => .of (PI (xs := x15) A 0 rfl (by kernel_rfl))) fun fr t H => ?_)
       refine AG 1 [(63, Ab (IntKind.u8.wrap (x1.length : Int)))] H fun fr H => ?_
       obtain ⟨h13, hx, A1⟩ := HH.U6 (kt := 9) (et := 5) (ek := fun k : List UInt8 => .str k) (ev := fun v : Int => Ab v) (Rv (by kernel_rfl)) A 1 rfl (t := 297) (by kernel_rfl) x15 (IntKind.u8.wrap (x1.length : Int))
       replace A : HH g h13 [_, .obj h.size (.map 2 (CL (fun k : List UInt8 => .str k) (fun v : Int => Ab v) (IA x1 x15 (IntKind.u8.wrap (x1.length : Int))))), _, _, _, _, _, _, _, _] F := A1
       refine Lb (.tuple []) h13 H (fun fr => .of (S8 (by kernel_rfl) hx)) fun fr t H => ?_
       refine F4 12 id (Ah 4 [(64, .ptr (some (bp0, 0)))] 68 2 5 A H fun fr t H => ?_)
       refine AG 2 [(70, Ab (IntKind.u8.wrap x4))] H fun fr H => ?_
       obtain ⟨x20, hx, hm⟩ := bind_some hm
       have hx := Li hx
       rw [hx] at H
       obtain ⟨h14, e4, A⟩ := A.pL 5 [Ab (x20.toNat : Int)]
       refine BP 71 (AH (some h13.size) (([x20] : List UInt8).length)) e4 H fun fr t H => ?_
       obtain ⟨hb, hm⟩ := BE hm
       obtain ⟨r4, h15, hx, A1⟩ := HH.J2 G8 (by decide) A 8 (xs := x3) (ys := ([x20] : List UInt8)) rfl (Cl A 0 rfl (n := ([x20] : List UInt8).length) (z := 1) rfl (by decide)) rfl rfl hb
       replace A : HH g h15 [.AK (some h13.size) 5 ([Ab (x20.toNat : Int)]), _, _, _, _, _, _, _, .AK r4 5 (AK eY (x3 ++ ([x20] : List UInt8))), _, _] F := A1
       replace A : HH g h15 [_, _, _, _, _, _, _, _, _, _] F := (HH.Kw ((((((((((A.front 10 rfl).front 10 rfl).front 10 rfl).front 10 rfl).front 10 rfl).front 10 rfl).front 10 rfl).front 10 rfl).front 10 rfl).front 10 rfl) 10)
       refine As 72 _ _ H (fun fr => .of (G3 (s := De r1 x3.length) (by kernel_rfl) hx)) fun fr t H => ?_
       obtain ⟨h16, hx, A1⟩ := A.st 2 rfl (o := 5) (new := [AH r4 ((x3 ++ ([x20] : List UInt8)).length)]) (ds := [AH rp0_0 p0.l_.length, .bool p0.f_.Fold, .bool p0.f_.BG, Ai p0.EG, .ptr (some (bp0_4, 0)), AH r4 ((x3 ++ ([x20] : List UInt8)).length), .map (some bp0_6), AH rp0_7 p0.B9.length]) (Nat.le_of_ble_eq_true rfl) rfl rfl
       replace A : HH g h16 [_, _, .obj bp0 (.cells none 2 [_, _, _, _, _, AH r4 ((x3 ++ ([x20] : List UInt8)).length), _, _]), _, _, _, _, _, _, _] F := A1
       refine Dn 2 [] hx H fun fr t H => ?_
       refine at_nil ?_
       replace A := A.k9 1 2 3 4 5 6 7 8 9
       exact .inl ⟨_, _, _, rfl, Ag hm, _, H.ls, A⟩
      refine Fz ?_
      replace A := A.k9 1 2 3 4 5 6 7 8 9
      exact .inl ⟨_, _, _, rfl, Ag hm, _, H.ls, A⟩
     clear ho
     clear A
     intro e fr h17 hQ
     rcases hQ with ⟨x17, x18, x19, rfl, rfl, r3, H, A⟩ | hF
     ·show AW _ _ _ _ _ _ _
      refine DQ 10 (Ah 3 [] 78 1 4 A H fun fr t H => ?_)
      obtain ⟨x21, hq4, hm⟩ := bind_some hm
      refine BA 4 [(80, Ab x19)] 83 (.ptr (some (bp0_4, 0 + x4.toNat * 1))) h17 H (fun fr => .of (Hv (by kernel_rfl) (MF hq4 (bp0_4, 0) 1))) fun fr t H => ?_
      obtain ⟨h18, hx, A1⟩ := HH.Xw A 3 (AB.int .u8) (X := x2) [] ([Ai p0.t_.Az, AH rp0_4_2 p0.t_.Bd.length, AH rp0_4_3 p0.t_.BM.length] : List AB) (off := 0) rfl rfl (i := x4) x19 hq4 rfl
      replace A : HH g h18 [_, _, _, .obj bp0_4 (.cells none 2 (DC 256 (AB.int .u8) (O8 x2 x4.toNat x19) ++ [Ai p0.t_.Az, AH rp0_4_2 p0.t_.Bd.length, AH rp0_4_3 p0.t_.BM.length])), _, _, _, _, _] F := A1
      refine Hk hx H fun fr t H => ?_
      refine F4 2 id (BV 2 [(0, .ptr (some (bp0, 0))), (2, .map (some h.size)), (10, Ai (IntKind.i64.wrap (x4 + 1)))] H fun fr H => at_nil ?_)
      exact nx hm ⟨_, _, _, _, rfl, _, H.ls, A⟩
     exact hF.elim
    exact hF.elim
   exact hF.elim
  refine Bz (i := 0) (by kernel_rfl) ?_
  exact nr hm fun e => .inl ⟨_, _, _, rfl, e, _, H.ls, A⟩
 clear ho
 clear A
 intro e fr h19 hQ
 rcases hQ with ⟨x5, x6, x7, rfl, rfl, r2, H, A⟩ | hF
 ·show AW _ _ _ _ _ _ _
  refine Df 20 9 ?_
  refine Ah 3 [] 88 1 4 A H fun fr t H => ?_
  refine AG 1 [(89, .map (some h.size))] H fun fr H => As 90 (Ai (x5.length : Int)) h19 H (fun fr => .of (UX (by kernel_rfl) (HH.Wv (ek := fun k : List UInt8 => .str k) (ev := fun v : Int => Ab v) A 0 rfl))) fun fr t H => ?_
  obtain ⟨h20, hx, A1⟩ := A.st 3 rfl (o := 256) (new := [Ai (x5.length : Int)]) (ds := (DC 256 (AB.int .u8) x6 ++ [Ai (x5.length : Int), AH rp0_4_2 p0.t_.Bd.length, AH rp0_4_3 p0.t_.BM.length])) (Nat.le_of_ble_eq_true (by kernel_rfl)) rfl (by kernel_rfl)
  replace A : HH g h20 [_, _, _, .obj bp0_4 (.cells none 2 (DC 256 (AB.int .u8) x6 ++ [Ai (x5.length : Int), AH rp0_4_2 p0.t_.Bd.length, AH rp0_4_3 p0.t_.BM.length])), _, _, _, _, _] F := A1
  refine Dn 2 [] hx H fun fr t H => ?_
  refine at_nil ?_
  obtain ⟨rfl, rfl⟩ := B6 hm
  refine ⟨.inr rfl, .tuple [], rH H, ?_⟩
  replace A := A.k8 1 2 3 4 5 6 7 8
  exact ⟨r2, rfl, A⟩
 exact hF.elim
def Ci (p0 : Bj) (s : (List UInt8) × Int) : Option (((List UInt8) × Int) ⊕ (((List UInt8)))) :=
 match s with
 | (x1, x2) => Ac (decide (x2 < (p0.l_.length : Int))) (((HO p0.l_ x2).bind fun x5 => (Ac (x5.Kind == 4) ((HO x1 (By .i64 x2 (3 : Int))).bind fun x7 => Ca (decide (0 ≤ (Br .i64 x2 (7 : Int)))) <| some ((Br .u8 (By .u8 (x7.toNat : Int) (Br .i64 x2 (7 : Int))) (1 : Int)) == 1)) (some false) : Option (Bool)).bind fun x6 => Ac x6 ((HO x1 (By .i64 (IntKind.i64.wrap (x2 + 1)) (3 : Int))).bind fun x8 => Ca (decide (0 ≤ (Br .i64 (IntKind.i64.wrap (x2 + 1)) (7 : Int)))) <| (HO x1 (By .i64 (IntKind.i64.wrap (x2 + 1)) (3 : Int))).bind fun x9 => (TG (G9 .u8 (x8.toNat : Int) (Fk .u8 (1 : Int) (Br .i64 (IntKind.i64.wrap (x2 + 1)) (7 : Int))))).bind fun x10 => some (x1.set (By .i64 (IntKind.i64.wrap (x2 + 1)) (3 : Int)).toNat x10)) (some x1) : Option (((List UInt8)))).bind fun x4 => some (.inl (x4, IntKind.i64.wrap (x2 + 1)))) (some (.inr x1))
def CE (p0 : Bj) (p1 : List UInt8) : Option ((List UInt8) × (List UInt8)) :=
 (loop (Ci p0) (p1, (0 : Int))).bind fun x3 => some (x3, x3)
theorem E1 {p0 p1 bp0 rp0_0 bp0_4 rp0_4_2 rp0_4_3 rp0_5 bp0_6 rp0_7 rp1 q0 u8} (hm : CE p0 p1 = some (q0, u8)) (A : HH g h [.obj bp0 (.cells none 2 [AH rp0_0 p0.l_.length, .bool p0.f_.Fold, .bool p0.f_.BG, Ai p0.EG, .ptr (some (bp0_4, 0)), AH rp0_5 p0.DU.length, .map (some bp0_6), AH rp0_7 p0.B9.length]), .AK rp0_0 219 (AK AO p0.l_), .obj bp0_4 (.cells none 2 (DC 256 (AB.int .u8) p0.t_.Bh ++ [Ai p0.t_.Az, AH rp0_4_2 p0.t_.Bd.length, AH rp0_4_3 p0.t_.BM.length])), .AK rp0_4_2 21 (AK (eI .i32) p0.t_.Bd), .AK rp0_4_3 4 (AK eB p0.t_.BM), .AK rp0_5 5 (AK eY p0.DU), .obj bp0_6 (.map 2 (CL (fun k : List UInt8 => .str k) (fun v : Int => .int .i32 v) p0.Bx)), .AK rp0_7 9 (AK eS p0.B9), .AK rp1 5 (AK eY p1)] F) (hc : Ba (cfg.still 134) av = [.ptr (some (bp0, 0)), AH rp1 p1.length] := by kernel_rfl) : ∃ v h', Bi cfg g h 134 av v h' ∧ ∃ (hl'8 : u8.length = p1.length), v = .str q0 ∧ HH g h' [.obj bp0 (.cells none 2 [AH rp0_0 p0.l_.length, .bool p0.f_.Fold, .bool p0.f_.BG, Ai p0.EG, .ptr (some (bp0_4, 0)), AH rp0_5 p0.DU.length, .map (some bp0_6), AH rp0_7 p0.B9.length]), .AK rp0_0 219 (AK AO p0.l_), .obj bp0_4 (.cells none 2 (DC 256 (AB.int .u8) p0.t_.Bh ++ [Ai p0.t_.Az, AH rp0_4_2 p0.t_.Bd.length, AH rp0_4_3 p0.t_.BM.length])), .AK rp0_4_2 21 (AK (eI .i32) p0.t_.Bd), .AK rp0_4_3 4 (AK eB p0.t_.BM), .AK rp0_5 5 (AK eY p0.DU), .obj bp0_6 (.map 2 (CL (fun k : List UInt8 => .str k) (fun v : Int => .int .i32 v) p0.Bx)), .AK rp0_7 9 (AK eS p0.B9), .AK rp1 5 (AK eY u8)] F := by
 refine EN 47 [.tmp 4] hc ?_
 clear hc
 unfold CE at hm
 refine bg 47 [(0, .ptr (some (bp0, 0))), (1, AH rp1 p1.length)] fun fr H => ?_
 refine AF 1 (AP 1 [] H fun fr H => AR (AF 6 (Ah 3 [] 10 0 0 A H fun fr t H => ?_)))
 refine AP 2 [(11, Ai (p0.l_.length : Int)), (12, Ai 0)] H fun fr H => Af (id := 0) (by kernel_rfl) ?_
 obtain ⟨o1, ho, hm⟩ := bind_some hm
 refine BU (Q' := fun e fr' h' => (∃ x3, e = .exit 0 ∧ x3 = o1 ∧ ∃ (hl2 : x3.length = p1.length), Has fr' 47 [(1, AH rp1 x3.length)] ∧ HH g h' [.obj bp0 (.cells none 2 [AH rp0_0 p0.l_.length, .bool p0.f_.Fold, .bool p0.f_.BG, Ai p0.EG, .ptr (some (bp0_4, 0)), AH rp0_5 p0.DU.length, .map (some bp0_6), AH rp0_7 p0.B9.length]), .AK rp0_0 219 (AK AO p0.l_), .obj bp0_4 (.cells none 2 (DC 256 (AB.int .u8) p0.t_.Bh ++ [Ai p0.t_.Az, AH rp0_4_2 p0.t_.Bd.length, AH rp0_4_3 p0.t_.BM.length])), .AK rp0_4_2 21 (AK (eI .i32) p0.t_.Bd), .AK rp0_4_3 4 (AK eB p0.t_.BM), .AK rp0_5 5 (AK eY p0.DU), .obj bp0_6 (.map 2 (CL (fun k : List UInt8 => .str k) (fun v : Int => .int .i32 v) p0.Bx)), .AK rp0_7 9 (AK eS p0.B9), .AK rp1 5 (AK eY x3)] F) ∨ False) ?_ ?_
 ·refine CH (by kernel_rfl) (fun (s : (List UInt8) × Int) fr' h' => ∃ x1 x2, (x1, x2) = s ∧ ∃ (hl1 : x1.length = p1.length), Has fr' 47 [(1, AH rp1 x1.length), (10, AH rp0_0 p0.l_.length), (11, Ai (p0.l_.length : Int)), (12, Ai x2)] ∧ HH g h' [.obj bp0 (.cells none 2 [AH rp0_0 p0.l_.length, .bool p0.f_.Fold, .bool p0.f_.BG, Ai p0.EG, .ptr (some (bp0_4, 0)), AH rp0_5 p0.DU.length, .map (some bp0_6), AH rp0_7 p0.B9.length]), .AK rp0_0 219 (AK AO p0.l_), .obj bp0_4 (.cells none 2 (DC 256 (AB.int .u8) p0.t_.Bh ++ [Ai p0.t_.Az, AH rp0_4_2 p0.t_.Bd.length, AH rp0_4_3 p0.t_.BM.length])), .AK rp0_4_2 21 (AK (eI .i32) p0.t_.Bd), .AK rp0_4_3 4 (AK eB p0.t_.BM), .AK rp0_5 5 (AK eY p0.DU), .obj bp0_6 (.map 2 (CL (fun k : List UInt8 => .str k) (fun v : Int => .int .i32 v) p0.Bx)), .AK rp0_7 9 (AK eS p0.B9), .AK rp1 5 (AK eY x1)] F) ho ⟨_, _, rfl, rfl, H.ls, A⟩ ?_
  clear ho hm H A
  intro s q fr h1 hI hm
  obtain ⟨x1, x2, rfl, hl1, H, A⟩ := hI
  unfold Ci at hm
  refine AF 1 (AP 1 [(13, .bool (decide (x2 < (p0.l_.length : Int))))] H fun fr H => AR (Ae 13 H hm (fun hb hm H => ?_) fun hb hm H => ?_))
  ·refine B0 id (AR ?_)
   obtain ⟨o2, ho, hm⟩ := bind_some hm
   refine BU (Q' := fun e fr' h' => (∃ x4, e = .normal ∧ x4 = o2 ∧ ∃ (hl3 : x4.length = p1.length), Has fr' 47 [(1, AH rp1 x4.length), (10, AH rp0_0 p0.l_.length), (11, Ai (p0.l_.length : Int)), (12, Ai x2)] ∧ HH g h' [.obj bp0 (.cells none 2 [AH rp0_0 p0.l_.length, .bool p0.f_.Fold, .bool p0.f_.BG, Ai p0.EG, .ptr (some (bp0_4, 0)), AH rp0_5 p0.DU.length, .map (some bp0_6), AH rp0_7 p0.B9.length]), .AK rp0_0 219 (AK AO p0.l_), .obj bp0_4 (.cells none 2 (DC 256 (AB.int .u8) p0.t_.Bh ++ [Ai p0.t_.Az, AH rp0_4_2 p0.t_.Bd.length, AH rp0_4_3 p0.t_.BM.length])), .AK rp0_4_2 21 (AK (eI .i32) p0.t_.Bd), .AK rp0_4_3 4 (AK eB p0.t_.BM), .AK rp0_5 5 (AK eY p0.DU), .obj bp0_6 (.map 2 (CL (fun k : List UInt8 => .str k) (fun v : Int => .int .i32 v) p0.Bx)), .AK rp0_7 9 (AK eS p0.B9), .AK rp1 5 (AK eY x4)] F) ∨ False) ?_ ?_
   ·replace hm := ho
    clear ho
    refine Af (id := 1) (by kernel_rfl) ?_
    refine AF 6 ?_
    obtain ⟨x5, hx, hm⟩ := bind_some hm
    obtain ⟨i1, er1, _, hx, hq1⟩ := HH.Nk Bw (by decide) A 1 (xs := p0.l_) rfl hx
    refine BA 1 [(14, Ai x2)] 15 (.ptr (some (i1, x2.toNat * 6))) h1 H (fun fr => .of (Fg (s := De rp0_0 p0.l_.length) (by kernel_rfl) hx)) fun fr t H => ?_
    refine As 16 _ _ H (fun fr => .of (B3 (by kernel_rfl) (LG Bw (HH.row A 1 rfl er1) hq1 0 6 (Nat.le_of_ble_eq_true rfl)))) fun fr t H => ?_
    obtain ⟨h2, e1, A⟩ := A.pu (.cells none 2 [Ai 0, Ab 0, Au 0, Au 0, Au 0, Au 0])
    refine BP 6 (.ptr (some (h1.size, 0))) e1 H fun fr t H => ?_
    obtain ⟨h3, hx, A⟩ := A.s0 0 (AO x5) [_, _, _, _, _, _]
    refine Dm 1 [(5, Ai x2)] hx H fun fr t H => ?_
    refine CI 15 id (Ah 1 [] 18 0 0 A H fun fr t H => ?_)
    refine AG 2 [(20, .bool (x5.Kind == 4))] H fun fr H => ?_
    obtain ⟨x6, ho, hm⟩ := bind_some hm
    refine A9 11 (fun fr' h' => Has fr' 47 [(1, AH rp1 x1.length), (5, Ai x2), (10, AH rp0_0 p0.l_.length), (11, Ai (p0.l_.length : Int)), (12, Ai x2), (31, .bool x6)] ∧ HH g h' [.obj h1.size (.cells none 2 (AO x5)), .obj bp0 (.cells none 2 [AH rp0_0 p0.l_.length, .bool p0.f_.Fold, .bool p0.f_.BG, Ai p0.EG, .ptr (some (bp0_4, 0)), AH rp0_5 p0.DU.length, .map (some bp0_6), AH rp0_7 p0.B9.length]), .AK rp0_0 219 (AK AO p0.l_), .obj bp0_4 (.cells none 2 (DC 256 (AB.int .u8) p0.t_.Bh ++ [Ai p0.t_.Az, AH rp0_4_2 p0.t_.Bd.length, AH rp0_4_3 p0.t_.BM.length])), .AK rp0_4_2 21 (AK (eI .i32) p0.t_.Bd), .AK rp0_4_3 4 (AK eB p0.t_.BM), .AK rp0_5 5 (AK eY p0.DU), .obj bp0_6 (.map 2 (CL (fun k : List UInt8 => .str k) (fun v : Int => .int .i32 v) p0.Bx)), .AK rp0_7 9 (AK eS p0.B9), .AK rp1 5 (AK eY x1)] F) ?_ ?_
    ·rcases AZ ho with ⟨hb, hm⟩ | ⟨hb, hm⟩
     ·replace H := H.kn 20 hb
      obtain ⟨x7, hx, hm⟩ := bind_some hm
      obtain ⟨i2, er2, _, hx, hq2⟩ := HH.Nk G8 (by decide) A 9 (xs := x1) rfl hx
      refine BA 3 [] 24 (.ptr (some (i2, (By .i64 x2 (3 : Int)).toNat * 1))) h3 H (fun fr => .of (Fg (s := De rp1 x1.length) (by kernel_rfl) hx)) fun fr t H => ?_
      refine As 25 _ _ H (fun fr => .of (EP (by kernel_rfl) (Fw G8 (HH.row A 9 rfl er2) hq2 (o := 0) rfl))) fun fr t H => ?_
      refine AG 2 [(27, Ai (Br .i64 x2 (7 : Int)))] H fun fr H => ?_
      obtain ⟨hb, hm⟩ := BE hm
      refine As 28 (Ab (By .u8 (x7.toNat : Int) (Br .i64 x2 (7 : Int)))) h3 H (fun fr => .of (Sp (by kernel_rfl) hb)) fun fr t H => ?_
      refine AG 3 [(31, .bool ((Br .u8 (By .u8 (x7.toNat : Int) (Br .i64 x2 (7 : Int))) (1 : Int)) == 1))] H fun fr H => ?_
      obtain rfl := Ag hm
      exact at_nil ⟨H.ls, A⟩
     replace H := H.kn 20 hb
     refine AG 11 [(31, .bool false)] H fun fr H => ?_
     obtain rfl := Ag hm
     exact at_nil ⟨H.ls, A⟩
    clear A
    intro t fr h4 hK
    obtain ⟨H, A⟩ := hK
    refine BD id (Ae 31 H hm (fun hb hm H => ?_) fun hb hm H => ?_)
    ·refine Df 5 13 ?_
     obtain ⟨x8, hx, hm⟩ := bind_some hm
     obtain ⟨i3, er3, _, hx, hq3⟩ := HH.Nk G8 (by decide) A 9 (xs := x1) rfl hx
     refine BA 4 [(32, AH rp1 x1.length), (35, Ai (By .i64 (IntKind.i64.wrap (x2 + 1)) (3 : Int)))] 36 (.ptr (some (i3, (By .i64 (IntKind.i64.wrap (x2 + 1)) (3 : Int)).toNat * 1))) h4 H (fun fr => .of (Fg (s := De rp1 x1.length) (by kernel_rfl) hx)) fun fr t H => ?_
     refine As 37 _ _ H (fun fr => .of (EP (by kernel_rfl) (Fw G8 (HH.row A 9 rfl er3) hq3 (o := 0) rfl))) fun fr t H => ?_
     refine AG 3 [(40, Ai (Br .i64 (IntKind.i64.wrap (x2 + 1)) (7 : Int)))] H fun fr H => ?_
     obtain ⟨hb, hm⟩ := BE hm
     refine As 41 (Ab (Fk .u8 (1 : Int) (Br .i64 (IntKind.i64.wrap (x2 + 1)) (7 : Int)))) h4 H (fun fr => .of (SN (by kernel_rfl) hb)) fun fr t H => ?_
     obtain ⟨x9, hx, hm⟩ := bind_some hm
     obtain ⟨i4, er4, _, hx, hq4⟩ := HH.Nk G8 (by decide) A 9 (xs := x1) rfl hx
     refine BA 1 [(42, Ab (G9 .u8 (x8.toNat : Int) (Fk .u8 (1 : Int) (Br .i64 (IntKind.i64.wrap (x2 + 1)) (7 : Int)))))] 43 (.ptr (some (i4, (By .i64 (IntKind.i64.wrap (x2 + 1)) (3 : Int)).toNat * 1))) h4 H (fun fr => .of (Fg (s := De rp1 x1.length) (by kernel_rfl) hx)) fun fr t H => ?_
     obtain ⟨x10, hx, hm⟩ := bind_some hm
     have hx := Li hx
     rw [hx] at H
     obtain ⟨h5, hx, A1⟩ := HH.WY G8 A 9 rfl er4 hq4 (y := x10) (o := 0) (new := [Ab (x10.toNat : Int)]) rfl rfl (Nat.le_of_ble_eq_true rfl)
     have hl4 : (x1.set (By .i64 (IntKind.i64.wrap (x2 + 1)) (3 : Int)).toNat x10).length = p1.length := List.length_set.trans hl1
     have el : AH rp1 x1.length = AH rp1 (x1.set (By .i64 (IntKind.i64.wrap (x2 + 1)) (3 : Int)).toNat x10).length := congrArg _ List.length_set.symm
     try rw [el] at H
     try rw [el] at A1
     replace A : HH g h5 [_, _, _, _, _, _, _, _, _, .AK rp1 5 (AK eY (x1.set (By .i64 (IntKind.i64.wrap (x2 + 1)) (3 : Int)).toNat x10))] F := A1
     refine Hk hx H fun fr t H => ?_
     refine at_nil ?_
     replace A := A.k9 1 2 3 4 5 6 7 8 9
     exact .inl ⟨_, rfl, Ag hm, hl4, H.ls, A⟩
    refine Fz ?_
    replace A := A.k9 1 2 3 4 5 6 7 8 9
    exact .inl ⟨_, rfl, Ag hm, hl1, H.ls, A⟩
   clear ho
   clear A
   intro e fr h6 hQ
   rcases hQ with ⟨x4, rfl, rfl, hl3, H, A⟩ | hF
   ·show AW _ _ _ _ _ _ _
    refine DQ 2 (BV 2 [(1, AH rp1 x4.length), (10, AH rp0_0 p0.l_.length), (11, Ai (p0.l_.length : Int)), (12, Ai (IntKind.i64.wrap (x2 + 1)))] H fun fr H => at_nil ?_)
    exact nx hm ⟨_, _, rfl, hl3, H.ls, A⟩
   exact hF.elim
  refine Bz (i := 0) (by kernel_rfl) ?_
  exact nr hm fun e => .inl ⟨_, rfl, e, hl1, H.ls, A⟩
 clear ho
 clear A
 intro e fr h7 hQ
 rcases hQ with ⟨x3, rfl, rfl, hl2, H, A⟩ | hF
 ·show AW _ _ _ _ _ _ _
  refine AF 3 (AG 1 [(45, AH rp1 x3.length)] H fun fr H => As 46 (.str x3) h7 H (fun fr => .of (PI (xs := x3) A 8 rfl (by kernel_rfl))) fun fr t H => ?_)
  refine AP 1 [(4, .str x3)] H fun fr H => AY ?_
  obtain ⟨rfl, rfl⟩ := B6 hm
  exact ⟨.inl rfl, _, rH H, hl2, rfl, A⟩
 exact hF.elim
def EX (p1 : Int) (s : (List UInt8)) : Option (((List UInt8)) ⊕ (((List UInt8)))) :=
 match s with
 | x1 => (Ac (decide ((x1.length : Int) > 0)) ((KW x1 (IntKind.i64.wrap ((x1.length : Int) - 1))).bind fun x4 => some (x4 == p1)) (some false) : Option (Bool)).bind fun x3 => Ac x3 ((HX x1 none (some (IntKind.i64.wrap ((x1.length : Int) - 1)))).bind fun x5 => some (.inl x5)) (some (.inr x1))
def DK (p0 : List UInt8) (p1 : Int) : Option ((List UInt8)) :=
 (loop (EX p1) p0).bind fun x2 => some x2
theorem GH {p0 p1 q0} (hm : DK p0 p1 = some q0) (A : HH g h [] F) (hc : Ba (cfg.still 216) av = [.str p0, Ab p1] := by kernel_rfl) : ∃ v h', Bi cfg g h 216 av v h' ∧ v = .str q0 ∧ HH g h' [] F := by
 refine EN 23 [.tmp 4] hc ?_
 clear hc
 unfold DK at hm
 refine bg 23 [(0, .str p0), (1, Ab p1)] fun fr H => ?_
 refine AF 1 (AP 1 [] H fun fr H => AR (Af (id := 0) (by kernel_rfl) ?_))
 obtain ⟨o1, ho, hm⟩ := bind_some hm
 refine BU (Q' := fun e fr' h' => (∃ x2, e = .exit 0 ∧ x2 = o1 ∧ Has fr' 23 [(0, .str x2)] ∧ HH g h' [] F) ∨ False) ?_ ?_
 ·refine CH (by kernel_rfl) (fun (s : (List UInt8)) fr' h' => ∃ x1, x1 = s ∧ Has fr' 23 [(0, .str x1), (1, Ab p1)] ∧ HH g h' [] F) ho ⟨_, rfl, H.ls, A⟩ ?_
  clear ho hm H A
  intro s q fr h1 hI hm
  obtain ⟨x1, rfl, H, A⟩ := hI
  unfold EX at hm
  refine AR (AF 12 (AG 4 [(8, .bool (decide ((x1.length : Int) > 0)))] H fun fr H => ?_))
  obtain ⟨x3, ho, hm⟩ := bind_some hm
  refine A9 8 (fun fr' h' => Has fr' 23 [(0, .str x1), (1, Ab p1), (16, .bool x3)] ∧ HH g h' [] F) ?_ ?_
  ·rcases AZ ho with ⟨hb, hm⟩ | ⟨hb, hm⟩
   ·replace H := H.kn 8 hb
    obtain ⟨x4, hx, hm⟩ := bind_some hm
    refine BA 4 [] 13 (Ab x4) h1 H (fun fr => .of (E5 (by kernel_rfl) hx)) fun fr t H => ?_
    refine AG 3 [(16, .bool (x4 == p1))] H fun fr H => ?_
    obtain rfl := Ag hm
    exact at_nil ⟨H.ls, A⟩
   replace H := H.kn 8 hb
   refine AG 8 [(16, .bool false)] H fun fr H => ?_
   obtain rfl := Ag hm
   exact at_nil ⟨H.ls, A⟩
  clear A
  intro t fr h2 hK
  obtain ⟨H, A⟩ := hK
  refine BD id (Ae 16 H hm (fun hb hm H => ?_) fun hb hm H => ?_)
  ·refine B0 id (Af (id := 1) (by kernel_rfl) ?_)
   refine DQ 6 ?_
   obtain ⟨x5, hx, hm⟩ := bind_some hm
   refine BA 4 [] 21 (.str x5) h2 H (fun fr => .of (GA (k := .i64) (k' := .i64) (lo := none) (hi := (some (IntKind.i64.wrap ((x1.length : Int) - 1)))) (by kernel_rfl) hx)) fun fr t H => ?_
   refine BV 1 [(0, .str x5), (1, Ab p1)] H fun fr H => at_nil ?_
   exact nx hm ⟨_, rfl, H.ls, A⟩
  refine Bz (i := 0) (by kernel_rfl) ?_
  exact nr hm fun e => .inl ⟨_, rfl, e, H.ls, A⟩
 clear ho
 clear A
 intro e fr h3 hQ
 rcases hQ with ⟨x2, rfl, rfl, H, A⟩ | hF
 ·show AW _ _ _ _ _ _ _
  refine AF 2 (AP 2 [(4, .str x2)] H fun fr H => AY ?_)
  obtain rfl := Ag hm
  exact ⟨.inl rfl, _, rH H, rfl, A⟩
 exact hF.elim
def Ek (p1 : Int) (s : (List UInt8)) : Option (((List UInt8)) ⊕ (((List UInt8)))) :=
 match s with
 | x1 => (Ac (decide ((x1.length : Int) > 0)) ((KW x1 (0 : Int)).bind fun x4 => some (x4 == p1)) (some false) : Option (Bool)).bind fun x3 => Ac x3 ((HX x1 (some (1 : Int)) none).bind fun x5 => some (.inl x5)) (some (.inr x1))
def DW (p0 : List UInt8) (p1 : Int) : Option ((List UInt8)) :=
 (loop (Ek p1) p0).bind fun x2 => some x2
theorem Gk {p0 p1 q0} (hm : DW p0 p1 = some q0) (A : HH g h [] F) (hc : Ba (cfg.still 123) av = [.str p0, Ab p1] := by kernel_rfl) : ∃ v h', Bi cfg g h 123 av v h' ∧ v = .str q0 ∧ HH g h' [] F := by
 refine EN 17 [.tmp 4] hc ?_
 clear hc
 unfold DW at hm
 refine bg 17 [(0, .str p0), (1, Ab p1)] fun fr H => ?_
 refine AF 1 (AP 1 [] H fun fr H => AR (Af (id := 0) (by kernel_rfl) ?_))
 obtain ⟨o1, ho, hm⟩ := bind_some hm
 refine BU (Q' := fun e fr' h' => (∃ x2, e = .exit 0 ∧ x2 = o1 ∧ Has fr' 17 [(0, .str x2)] ∧ HH g h' [] F) ∨ False) ?_ ?_
 ·refine CH (by kernel_rfl) (fun (s : (List UInt8)) fr' h' => ∃ x1, x1 = s ∧ Has fr' 17 [(0, .str x1), (1, Ab p1)] ∧ HH g h' [] F) ho ⟨_, rfl, H.ls, A⟩ ?_
  clear ho hm H A
  intro s q fr h1 hI hm
  obtain ⟨x1, rfl, H, A⟩ := hI
  unfold Ek at hm
  refine AR (AF 9 (AG 4 [(8, .bool (decide ((x1.length : Int) > 0)))] H fun fr H => ?_))
  obtain ⟨x3, ho, hm⟩ := bind_some hm
  refine A9 5 (fun fr' h' => Has fr' 17 [(0, .str x1), (1, Ab p1), (13, .bool x3)] ∧ HH g h' [] F) ?_ ?_
  ·rcases AZ ho with ⟨hb, hm⟩ | ⟨hb, hm⟩
   ·replace H := H.kn 8 hb
    obtain ⟨x4, hx, hm⟩ := bind_some hm
    refine BA 1 [] 10 (Ab x4) h1 H (fun fr => .of (E5 (by kernel_rfl) hx)) fun fr t H => ?_
    refine AG 3 [(13, .bool (x4 == p1))] H fun fr H => ?_
    obtain rfl := Ag hm
    exact at_nil ⟨H.ls, A⟩
   replace H := H.kn 8 hb
   refine AG 5 [(13, .bool false)] H fun fr H => ?_
   obtain rfl := Ag hm
   exact at_nil ⟨H.ls, A⟩
  clear A
  intro t fr h2 hK
  obtain ⟨H, A⟩ := hK
  refine BD id (Ae 13 H hm (fun hb hm H => ?_) fun hb hm H => ?_)
  ·refine B0 id (Af (id := 1) (by kernel_rfl) ?_)
   refine DQ 3 ?_
   obtain ⟨x5, hx, hm⟩ := bind_some hm
   refine BA 1 [] 15 (.str x5) h2 H (fun fr => .of (GA (k := .i64) (k' := .i64) (lo := (some (1 : Int))) (hi := none) (by kernel_rfl) hx)) fun fr t H => ?_
   refine BV 1 [(0, .str x5), (1, Ab p1)] H fun fr H => at_nil ?_
   exact nx hm ⟨_, rfl, H.ls, A⟩
  refine Bz (i := 0) (by kernel_rfl) ?_
  exact nr hm fun e => .inl ⟨_, rfl, e, H.ls, A⟩
 clear ho
 clear A
 intro e fr h3 hQ
 rcases hQ with ⟨x2, rfl, rfl, H, A⟩ | hF
 ·show AW _ _ _ _ _ _ _
  refine AF 2 (AP 2 [(4, .str x2)] H fun fr H => AY ?_)
  obtain rfl := Ag hm
  exact ⟨.inl rfl, _, rH H, rfl, A⟩
 exact hF.elim
def EZ (p0 : List UInt8) : Option ((List UInt8)) :=
 Ac ((p0 == ([] : List UInt8)) || (([0] : List UInt8) == ([] : List UInt8))) (some p0) ((DK p0 (0 : Int)).bind fun x1 => (DW x1 (0 : Int)).bind fun x2 => some x2)
theorem LN {p0 q0} (hm : EZ p0 = some q0) (A : HH g h [] F) (hc : Ba (cfg.still 189) av = [.str p0, .str ([0] : List UInt8)] := by kernel_rfl) : ∃ v h', Bi cfg g h 189 av v h' ∧ v = .str q0 ∧ HH g h' [] F := by
 refine EN 43 [.tmp 4] hc ?_
 clear hc
 unfold EZ at hm
 refine bg 43 [(0, .str p0), (1, .str ([0] : List UInt8))] fun fr H => ?_
 refine AF 1 (AP 1 [] H fun fr H => AR (AF 6 (AG 3 [(9, .bool (p0 == ([] : List UInt8)))] H fun fr H => A9 3 (fun fr' h' => h = h' ∧ Has fr' 43 [(0, .str p0), (1, .str ([0] : List UInt8)), (12, .bool ((p0 == ([] : List UInt8)) || (([0] : List UInt8) == ([] : List UInt8))))]) ?_ ?_)))
 ·cases hb : (p0 == ([] : List UInt8) : Bool) with
  | true =>
   replace H := H.kn 9 hb
   exact AG 3 [(12, .bool true)] H fun fr H => BK H hb
  | false =>
   replace H := H.kn 9 hb
   exact AG 3 [(12, .bool (([0] : List UInt8) == ([] : List UInt8)))] H fun fr H => BK H hb
 intro t fr h' hK
 obtain ⟨e, H⟩ := hK
 subst e
 refine BD id (Ae 12 H hm (fun hb hm H => ?_) fun hb hm H => ?_)
 ·refine AF 2 (AP 2 [(4, .str p0)] H fun fr H => AY ?_)
  obtain rfl := Ag hm
  exact ⟨.inl rfl, _, rH H, rfl, A⟩
 refine B0 id (AR (AF 8 (AP 8 [(21, .bool true)] H fun fr H => IF (x := .tmp 21) (by kernel_rfl) H (fun fr => by kernel_rfl) ?_)))
 refine AR (Df 4 8 ?_)
 obtain ⟨x1, hx, hm⟩ := bind_some hm
 obtain ⟨v1, h1, hr, rfl, A1⟩ := GH (av := [.str p0, Ab 0]) hx (A.cut 0)
 replace A := A.C4 A1
 refine Ap 3 [] 25 hr H fun fr t H => ?_
 obtain ⟨x2, hx, hm⟩ := bind_some hm
 obtain ⟨v1, h2, hr, rfl, A1⟩ := Gk (av := [.str x1, Ab 0]) hx (A.cut 0)
 replace A := A.C4 A1
 refine Ap 2 [] 28 hr H fun fr t H => ?_
 refine AP 1 [(4, .str x2)] H fun fr H => AY ?_
 obtain rfl := Ag hm
 exact ⟨.inl rfl, _, rH H, rfl, A⟩
def CD (p0 : Bj) (p1 : List UInt8) : Option (Int × Bool × (List Bool) × (List ((List UInt8) × Int)) × (List (List UInt8))) :=
 (EZ p1).bind fun x1 => Ac (x1 == ([] : List UInt8)) (some ((-1 : Int), true, p0.t_.BM, p0.Bx, p0.B9)) (Ac ((FC p0.Bx p1).isSome) (some (((FC p0.Bx p1).getD (0 : Int)), true, p0.t_.BM, p0.Bx, p0.B9)) (Ac ((p0.t_.BM.length : Int) == p0.EG) (some ((0 : Int), false, p0.t_.BM, p0.Bx, p0.B9)) ((KW p1 (By .i64 (p0.l_.length : Int) (3 : Int))).bind fun x2 => Ca (decide (0 ≤ (Br .i64 (p0.l_.length : Int) (7 : Int)))) <| Ca (Lw 1 (p0.t_.BM.length + ([(Br .u8 (By .u8 x2 (Br .i64 (p0.l_.length : Int) (7 : Int))) (1 : Int)) == 1] : List Bool).length)) <| Ca (Lw 16 (p0.B9.length + ([p1] : List (List UInt8)).length)) <| some (IntKind.i32.wrap (p0.t_.BM.length : Int), true, (p0.t_.BM ++ ([(Br .u8 (By .u8 x2 (Br .i64 (p0.l_.length : Int) (7 : Int))) (1 : Int)) == 1] : List Bool)), (IA p0.Bx p1 (IntKind.i32.wrap (p0.t_.BM.length : Int))), (p0.B9 ++ ([p1] : List (List UInt8)))))))
theorem E3 {p0 p1 bp0 rp0_0 bp0_4 rp0_4_2 rp0_4_3 rp0_5 bp0_6 rp0_7 q0 q1 u4 u6 u7} (hm : CD p0 p1 = some (q0, q1, u4, u6, u7)) (A : HH g h [.obj bp0 (.cells none 2 [AH rp0_0 p0.l_.length, .bool p0.f_.Fold, .bool p0.f_.BG, Ai p0.EG, .ptr (some (bp0_4, 0)), AH rp0_5 p0.DU.length, .map (some bp0_6), AH rp0_7 p0.B9.length]), .AK rp0_0 219 (AK AO p0.l_), .obj bp0_4 (.cells none 2 (DC 256 (AB.int .u8) p0.t_.Bh ++ [Ai p0.t_.Az, AH rp0_4_2 p0.t_.Bd.length, AH rp0_4_3 p0.t_.BM.length])), .AK rp0_4_2 21 (AK (eI .i32) p0.t_.Bd), .AK rp0_4_3 4 (AK eB p0.t_.BM), .AK rp0_5 5 (AK eY p0.DU), .obj bp0_6 (.map 2 (CL (fun k : List UInt8 => .str k) (fun v : Int => .int .i32 v) p0.Bx)), .AK rp0_7 9 (AK eS p0.B9)] F) (hc : Ba (cfg.still 133) av = [.ptr (some (bp0, 0)), .str p1] := by kernel_rfl) : ∃ v h', Bi cfg g h 133 av v h' ∧ ∃ (r'4 : Option Nat) (r'7 : Option Nat), v = .tuple [.int .i32 q0, .bool q1] ∧ HH g h' [.obj bp0 (.cells none 2 [AH rp0_0 p0.l_.length, .bool p0.f_.Fold, .bool p0.f_.BG, Ai p0.EG, .ptr (some (bp0_4, 0)), AH rp0_5 p0.DU.length, .map (some bp0_6), AH r'7 u7.length]), .AK rp0_0 219 (AK AO p0.l_), .obj bp0_4 (.cells none 2 (DC 256 (AB.int .u8) p0.t_.Bh ++ [Ai p0.t_.Az, AH rp0_4_2 p0.t_.Bd.length, AH r'4 u4.length])), .AK rp0_4_2 21 (AK (eI .i32) p0.t_.Bd), .AK r'4 4 (AK eB u4), .AK rp0_5 5 (AK eY p0.DU), .obj bp0_6 (.map 2 (CL (fun k : List UInt8 => .str k) (fun v : Int => .int .i32 v) u6)), .AK r'7 9 (AK eS u7)] F := by
 refine EN 92 [.tmp 4, .tmp 5] hc ?_
 clear hc
 unfold CD at hm
 refine bg 92 [(0, .ptr (some (bp0, 0))), (1, .str p1)] fun fr H => ?_
 refine AF 2 (AP 2 [] H fun fr H => AR (AF 3 ?_))
 obtain ⟨x1, hx, hm⟩ := bind_some hm
 obtain ⟨v1, h1, hr, rfl, A1⟩ := LN (av := [.str p1, .str ([0] : List UInt8)]) hx (A.cut 0)
 replace A := A.C4 A1
 refine Ap 1 [] 11 hr H fun fr t H => ?_
 refine AP 1 [(12, .bool (x1 == ([] : List UInt8)))] H fun fr H => Ae 12 H hm (fun hb hm H => ?_) fun hb hm H => ?_
 ·refine AF 2 (AP 2 [(4, .int .i32 (-1)), (5, .bool true)] H fun fr H => AY ?_)
  obtain ⟨rfl, rfl, rfl, rfl, rfl⟩ := Tl hm
  exact ⟨.inl rfl, _, rH H, _, _, rfl, A⟩
 refine B0 id (AR (AF 11 (Ah 3 [] 17 0 6 A H fun fr t H => ?_)))
 refine BA 1 [] 19 (.tuple [.int .i32 ((FC p0.Bx p1).getD (0 : Int)), .bool ((FC p0.Bx p1).isSome)]) h1 H (fun fr => .of (RE (by kernel_rfl) (HH.UH (kt := 9) (et := 21) (ek := fun k : List UInt8 => .str k) (ev := fun v : Int => .int .i32 v) (Rv (by kernel_rfl)) A 6 rfl (t := 228) (by kernel_rfl) (z := (0 : Int)) (by kernel_rfl) p1))) fun fr t H => ?_
 refine B1 5 [(6, .int .i32 ((FC p0.Bx p1).getD (0 : Int))), (7, .bool ((FC p0.Bx p1).isSome))] 1 H fun fr H => AP 1 [(22, .bool ((FC p0.Bx p1).isSome))] H fun fr H => Ae 22 H hm (fun hb hm H => ?_) fun hb hm H => ?_
 ·refine AF 3 (AP 3 [(4, .int .i32 ((FC p0.Bx p1).getD (0 : Int))), (5, .bool true)] H fun fr H => AY ?_)
  obtain ⟨rfl, rfl, rfl, rfl, rfl⟩ := Tl hm
  exact ⟨.inl rfl, _, rH H, _, _, rfl, A⟩
 refine B0 id (AR (AR (Df 6 13 ?_)))
 refine Ah 3 [] 27 0 4 A H fun fr t H => ?_
 refine BA 2 [] 30 (AH rp0_4_3 p0.t_.BM.length) h1 H (fun fr => .of (EP (by kernel_rfl) (A.Ni 2 rfl (o := 258) (by kernel_rfl)))) fun fr t H => ?_
 refine Ah 4 [(31, Ai (p0.t_.BM.length : Int))] 35 0 3 A H fun fr t H => ?_
 refine AP 1 [(36, .bool ((p0.t_.BM.length : Int) == p0.EG))] H fun fr H => Ae 36 H hm (fun hb hm H => ?_) fun hb hm H => ?_
 ·refine AF 2 (AP 2 [(4, .int .i32 0), (5, .bool false)] H fun fr H => AY ?_)
  obtain ⟨rfl, rfl, rfl, rfl, rfl⟩ := Tl hm
  exact ⟨.inl rfl, _, rH H, _, _, rfl, A⟩
 refine CN 10 id (Ah 3 [] 40 0 4 A H fun fr t H => ?_)
 refine BA 2 [] 43 (AH rp0_4_3 p0.t_.BM.length) h1 H (fun fr => .of (EP (by kernel_rfl) (A.Ni 2 rfl (o := 258) (by kernel_rfl)))) fun fr t H => ?_
 refine B1 3 [(8, .int .i32 (IntKind.i32.wrap (p0.t_.BM.length : Int)))] 6 H fun fr H => Ah 3 [] 49 0 0 A H fun fr t H => ?_
 refine B1 2 [(9, Ai (p0.l_.length : Int))] 7 H fun fr H => Ah 3 [] 54 0 6 A H fun fr t H => ?_
 refine AG 2 [(55, .str p1), (56, .int .i32 (IntKind.i32.wrap (p0.t_.BM.length : Int)))] H fun fr H => ?_
 obtain ⟨h2, hx, A1⟩ := HH.U6 (kt := 9) (et := 21) (ek := fun k : List UInt8 => .str k) (ev := fun v : Int => .int .i32 v) (Rv (by kernel_rfl)) A 6 rfl (t := 228) (by kernel_rfl) p1 (IntKind.i32.wrap (p0.t_.BM.length : Int))
 replace A : HH g h2 [_, _, _, _, _, _, .obj bp0_6 (.map 2 (CL (fun k : List UInt8 => .str k) (fun v : Int => .int .i32 v) (IA p0.Bx p1 (IntKind.i32.wrap (p0.t_.BM.length : Int))))), _] F := A1
 refine Lb (.tuple []) h2 H (fun fr => .of (S8 (by kernel_rfl) hx)) fun fr t H => ?_
 refine BD id (AR (JV 11 25 [(0, []), (1, []), (2, []), (3, []), (4, []), (5, []), (6, []), (7, []), (8, []), (9, []), (10, []), (11, []), (12, []), (13, []), (14, []), (15, []), (16, []), (17, []), (18, []), (19, []), (20, []), (21, [3]), (22, []), (23, []), (24, [])] ?_))
 refine AG 3 [(59, .ptr (some (bp0, 4)))] H fun fr H => CT 60 (.ptr (some (bp0_4, 0))) h2 [(3, bp0)] (g.Bo) H (fun fr => .of (EP (by kernel_rfl) (A.l1 0 4))) (fun fr H => ?_)
 refine AG 3 [(63, .ptr (some (bp0, 4)))] H fun fr H => CT 64 (.ptr (some (bp0_4, 0))) h2 [(7, bp0), (3, bp0)] (g.Bo) H (fun fr => .of (EP (by kernel_rfl) (A.l1 0 4))) (fun fr H => ?_)
 refine AG 2 [(66, .ptr (some (bp0_4, 258)))] H fun fr H => CT 67 (AH rp0_4_3 p0.t_.BM.length) h2 [(10, bp0_4), (7, bp0), (3, bp0)] (g.Bo) H (fun fr => .of (EP (by kernel_rfl) (A.Ni 2 rfl (o := 258) (by kernel_rfl)))) (fun fr H => ?_)
 refine AG 3 [(68, .str p1), (70, Ai (By .i64 (p0.l_.length : Int) (3 : Int)))] H fun fr H => ?_
 obtain ⟨x2, hx, hm⟩ := bind_some hm
 refine CT 71 (Ab x2) h2 [(10, bp0_4), (7, bp0), (3, bp0)] (g.Bo) H (fun fr => .of (E5 (by kernel_rfl) hx)) (fun fr H => ?_)
 refine AG 2 [(73, Ai (Br .i64 (p0.l_.length : Int) (7 : Int)))] H fun fr H => ?_
 obtain ⟨hb, hm⟩ := BE hm
 refine CT 74 (Ab (By .u8 x2 (Br .i64 (p0.l_.length : Int) (7 : Int)))) h2 [(10, bp0_4), (7, bp0), (3, bp0)] (g.Bo) H (fun fr => .of (Sp (by kernel_rfl) hb)) (fun fr H => ?_)
 refine AG 2 [(76, .bool ((Br .u8 (By .u8 x2 (Br .i64 (p0.l_.length : Int) (7 : Int))) (1 : Int)) == 1))] H fun fr H => ?_
 obtain ⟨h3, e1, A⟩ := A.pL 4 [.bool ((Br .u8 (By .u8 x2 (Br .i64 (p0.l_.length : Int) (7 : Int))) (1 : Int)) == 1)]
 refine CT 77 (AH (some h2.size) (([(Br .u8 (By .u8 x2 (Br .i64 (p0.l_.length : Int) (7 : Int))) (1 : Int)) == 1] : List Bool).length)) h3 [(20, h2.size), (10, bp0_4), (7, bp0), (3, bp0)] (g.Bo) H (fun fr => .of (TQ (by kernel_rfl) (congrArg some e1.symm))) (fun fr H => ?_)
 replace A : HH g h3 [_, .AK (some h2.size) 4 ([.bool ((Br .u8 (By .u8 x2 (Br .i64 (p0.l_.length : Int) (7 : Int))) (1 : Int)) == 1)]), _, _, _, _, _, _, _] F := (A.front 5 rfl)
 have A1 := A.Hz 1 (pr := [bp0]) (.cons 1 rfl (by simp [Ck.ids]) .nil)
 obtain ⟨hb, hm⟩ := BE hm
 obtain ⟨r1, h4, hx, A1⟩ := HH.J2 Vn (by decide) A1 0 (xs := p0.t_.BM) (ys := ([(Br .u8 (By .u8 x2 (Br .i64 (p0.l_.length : Int) (7 : Int))) (1 : Int)) == 1] : List Bool)) rfl (Cl A 1 rfl (n := ([(Br .u8 (By .u8 x2 (Br .i64 (p0.l_.length : Int) (7 : Int))) (1 : Int)) == 1] : List Bool).length) (z := 1) rfl (by decide)) rfl rfl hb
 replace A := A.XJ A1
 replace A := A.k8 0 2 3 4 5 6 7 8
 refine CT 78 (AH r1 ((p0.t_.BM ++ ([(Br .u8 (By .u8 x2 (Br .i64 (p0.l_.length : Int) (7 : Int))) (1 : Int)) == 1] : List Bool)).length)) h4 [(20, h2.size), (10, bp0_4), (7, bp0), (3, bp0)] (bp0 :: g.Bo) H (fun fr => .of (G3 (s := De rp0_4_3 p0.t_.BM.length) (by kernel_rfl) hx)) (fun fr H => ?_)
 refine AG 2 [(80, .ptr (some (bp0_4, 258)))] H fun fr H => ?_
 obtain ⟨h5, hx, A1⟩ := A.st 3 rfl (o := 258) (new := [AH r1 ((p0.t_.BM ++ ([(Br .u8 (By .u8 x2 (Br .i64 (p0.l_.length : Int) (7 : Int))) (1 : Int)) == 1] : List Bool)).length)]) (ds := (DC 256 (AB.int .u8) p0.t_.Bh ++ ([Ai p0.t_.Az, AH rp0_4_2 p0.t_.Bd.length, AH r1 ((p0.t_.BM ++ ([(Br .u8 (By .u8 x2 (Br .i64 (p0.l_.length : Int) (7 : Int))) (1 : Int)) == 1] : List Bool)).length)]))) (Nat.le_of_ble_eq_true (by kernel_rfl)) rfl (by kernel_rfl)
 replace A : HH g h5 [_, _, _, .obj bp0_4 (.cells none 2 (DC 256 (AB.int .u8) p0.t_.Bh ++ ([Ai p0.t_.Az, AH rp0_4_2 p0.t_.Bd.length, AH r1 ((p0.t_.BM ++ ([(Br .u8 (By .u8 x2 (Br .i64 (p0.l_.length : Int) (7 : Int))) (1 : Int)) == 1] : List Bool)).length)]))), _, _, _, _] F := A1
 refine H5 (.tuple []) h5 [(20, h2.size), (10, bp0_4), (7, bp0), (3, bp0)] (g.Bo) H (fun fr => .of (N5 (by kernel_rfl) rfl hx)) (fun fr H => ?_)
 refine CI 11 id (Ah 4 [(81, .ptr (some (bp0, 0)))] 85 1 7 A H fun fr t H => ?_)
 refine AG 1 [(86, .str p1)] H fun fr H => ?_
 obtain ⟨h6, e2, A⟩ := A.pL 9 [.str p1]
 refine BP 87 (AH (some h5.size) (([p1] : List (List UInt8)).length)) e2 H fun fr t H => ?_
 obtain ⟨hb, hm⟩ := BE hm
 obtain ⟨r2, h7, hx, A1⟩ := HH.J2 encS (by decide) A 8 (xs := p0.B9) (ys := ([p1] : List (List UInt8))) rfl (Cl A 0 rfl (n := ([p1] : List (List UInt8)).length) (z := 1) rfl (by decide)) rfl rfl hb
 replace A : HH g h7 [.AK (some h5.size) 9 ([.str p1]), _, _, _, _, _, _, _, .AK r2 9 (AK eS (p0.B9 ++ ([p1] : List (List UInt8))))] F := A1
 replace A := A.k8 1 2 3 4 5 6 7 8
 refine As 88 _ _ H (fun fr => .of (G3 (s := De rp0_7 p0.B9.length) (by kernel_rfl) hx)) fun fr t H => ?_
 obtain ⟨h8, hx, A1⟩ := A.st 1 rfl (o := 7) (new := [AH r2 ((p0.B9 ++ ([p1] : List (List UInt8))).length)]) (ds := [AH rp0_0 p0.l_.length, .bool p0.f_.Fold, .bool p0.f_.BG, Ai p0.EG, .ptr (some (bp0_4, 0)), AH rp0_5 p0.DU.length, .map (some bp0_6), AH r2 ((p0.B9 ++ ([p1] : List (List UInt8))).length)]) (Nat.le_of_ble_eq_true rfl) rfl rfl
 replace A : HH g h8 [_, .obj bp0 (.cells none 2 [_, _, _, _, _, _, _, AH r2 ((p0.B9 ++ ([p1] : List (List UInt8))).length)]), _, _, _, _, _, _] F := A1
 refine Dn 2 [] hx H fun fr t H => ?_
 refine CI 3 id (AP 3 [(4, .int .i32 (IntKind.i32.wrap (p0.t_.BM.length : Int))), (5, .bool true)] H fun fr H => AY ?_)
 obtain ⟨rfl, rfl, rfl, rfl, rfl⟩ := Tl hm
 refine ⟨.inl rfl, .tuple [.int .i32 (IntKind.i32.wrap (p0.t_.BM.length : Int)), .bool true], rH H, ?_⟩
 replace A := A.k8 1 2 3 4 0 5 6 7
 exact ⟨r1, r2, rfl, A⟩
def IL (p0 : List Ao) (s : Int) : Option ((Int) ⊕ ((Unit))) :=
 match s with
 | x1 => Ac (decide (x1 < (p0.length : Int))) ((HO p0 x1).bind fun x2 => none) (some (.inr ()))
def Gg (p0 : List Ao) (p1 : Int) (p2 : Int) : Option ((Option DS) × Int × Int) :=
 Ac ((decide (p2 < 1)) || (decide (p2 > 4096))) (some (none, (0 : Int), (6 : Int))) (Ac (decide ((p0.length : Int) > 256)) (some (none, (0 : Int), (8 : Int))) ((loop (IL p0) (0 : Int)).bind fun _ => some (some (⟨([] : List Eb), p2⟩ : DS), (0 : Int), (0 : Int))))
theorem MU {p0 p1 p2 o0 q1 q2} (hm : Gg p0 p1 p2 = some (o0, q1, q2)) (A : HH g h [] F) (hc : Ba (cfg.still 14) av = [vs AL p0, Ai p1, Ai p2] := by kernel_rfl) : ∃ v h', Bi cfg g h 14 av v h' ∧ ((∃ (bq00 : Nat) (rq00_0 : Option Nat) (q00 : DS), o0 = some q00 ∧ v = .tuple [.ptr (some (bq00, 0)), Ai q1, Ai q2] ∧ HH g h' [.obj bq00 (.cells none 2 [AH rq00_0 q00.l_.length, Ai q00.Cm]), .AK rq00_0 99 (AK (eP AU) q00.l_)] F) ∨ (o0 = none ∧ v = .tuple [.ptr none, Ai q1, Ai q2] ∧ HH g h' [] F)) := by
 refine EN 59 [.tmp 6, .tmp 7, .tmp 8] hc ?_
 clear hc
 unfold Gg at hm
 refine bg 59 [(0, vs AL p0), (1, Ai p1), (2, Ai p2)] fun fr H => ?_
 refine AF 3 (AP 3 [] H fun fr H => AR (Af (id := 0) (by kernel_rfl) ?_))
 refine AF 7 (AG 3 [(18, .bool (decide (p2 < 1)))] H fun fr H => A9 3 (fun fr' h' => h = h' ∧ Has fr' 59 [(0, vs AL p0), (1, Ai p1), (2, Ai p2), (21, .bool ((decide (p2 < 1)) || (decide (p2 > 4096))))]) ?_ ?_)
 ·cases hb : (decide (p2 < 1) : Bool) with
  | true =>
   replace H := H.kn 18 hb
   exact AG 3 [(21, .bool true)] H fun fr H => BK H hb
  | false =>
   replace H := H.kn 18 hb
   exact AG 3 [(21, .bool (decide (p2 > 4096)))] H fun fr H => BK H hb
 intro t fr h' hK
 obtain ⟨e, H⟩ := hK
 subst e
 refine AP 1 [(15, .bool ((decide (p2 < 1)) || (decide (p2 > 4096))))] H fun fr H => Ae 15 H hm (fun hb hm H => ?_) fun hb hm H => ?_
 ·refine AF 3 (AP 3 [(6, .ptr none), (7, Ai 0), (8, Ai 6)] H fun fr H => AY ?_)
  obtain ⟨rfl, rfl, rfl⟩ := Ho hm
  refine ⟨.inl rfl, .tuple [.ptr none, Ai 0, Ai 6], rH H, ?_⟩
  exact .inr ⟨rfl, rfl, A⟩
 refine AF 4 (AP 4 [(22, .bool (decide ((p0.length : Int) > 256)))] H fun fr H => Ae 22 H hm (fun hb hm H => ?_) fun hb hm H => ?_)
 ·refine AF 3 (AP 3 [(6, .ptr none), (7, Ai 0), (8, Ai 8)] H fun fr H => AY ?_)
  obtain ⟨rfl, rfl, rfl⟩ := Ho hm
  refine ⟨.inl rfl, .tuple [.ptr none, Ai 0, Ai 8], rH H, ?_⟩
  exact .inr ⟨rfl, rfl, A⟩
 refine CN 4 id ?_
 obtain ⟨h1, e1, A⟩ := A.pu (.cells none 2 [.slice none 0, Ai p2])
 refine Gf 2 [] 28 (.ptr (some (h.size, 0))) e1 H fun fr t H => ?_
 refine AP 1 [(9, .ptr (some (h.size, 0)))] H fun fr H => AR (AF 3 (AP 3 [(29, vs AL p0), (30, Ai (p0.length : Int)), (31, Ai 0)] H fun fr H => Af (id := 1) (by kernel_rfl) ?_))
 obtain ⟨o1, ho, hm⟩ := bind_some hm
 refine BU (Q' := fun e fr' h' => (e = .exit 1 ∧ () = o1 ∧ Has fr' 59 [(9, .ptr (some (h.size, 0)))] ∧ HH g h' [.obj h.size (.cells none 2 [.slice none 0, Ai p2])] F) ∨ False) ?_ ?_
 ·refine CH (by kernel_rfl) (fun (s : Int) fr' h' => ∃ x1, x1 = s ∧ Has fr' 59 [(1, Ai p1), (9, .ptr (some (h.size, 0))), (29, vs AL p0), (30, Ai (p0.length : Int)), (31, Ai x1)] ∧ HH g h' [.obj h.size (.cells none 2 [.slice none 0, Ai p2])] F) ho ⟨_, rfl, H.ls, A⟩ ?_
  clear ho hm H A
  intro s q fr h2 hI hm
  obtain ⟨x1, rfl, H, A⟩ := hI
  unfold IL at hm
  refine AF 1 (AP 1 [(32, .bool (decide (x1 < (p0.length : Int))))] H fun fr H => AR (Ae 32 H hm (fun hb hm H => ?_) fun hb hm H => ?_))
  ·refine B0 id (AR (Af (id := 2) (by kernel_rfl) ?_))
   refine AF 6 ?_
   obtain ⟨x2, hx, hm⟩ := bind_some hm
   refine BA 1 [(33, Ai x1)] 34 (.BR (AL x2)) h2 H (fun fr => .of (RM (e := AL) (x := x2) Dk (by decide) (by kernel_rfl) hx)) fun fr t H => ?_
   refine As 35 (.agg (AL x2)) h2 H (fun fr => .of (Lp (by kernel_rfl))) fun fr t H => ?_
   obtain ⟨h3, e2, A⟩ := A.pu (.cells none 2 [.str ([] : List UInt8), .str ([] : List UInt8), .bool false, .bool false, .bool false, Ai 0, .bool false, .bool false, .bool false])
   refine BP 11 (.ptr (some (h2.size, 0))) e2 H fun fr t H => ?_
   obtain ⟨h4, hx, A⟩ := A.s0 0 (AL x2) [_, _, _, _, _, _, _, _, _]
   refine Dm 1 [(10, Ai x1)] hx H fun fr t H => ?_
   refine CI 10 id (As 37 _ _ H (fun fr => .of (B3 (by kernel_rfl) (A.F5 0 rfl (o := 0) (n := 9) ⟨Nat.le_of_ble_eq_true rfl, rfl⟩))) fun fr t H => ?_)
   cases hm
  refine Bz (i := 1) (by kernel_rfl) ?_
  exact nr hm fun e => .inl ⟨rfl, e, H.ls, A⟩
 clear ho
 clear A
 intro e fr h5 hQ
 rcases hQ with ⟨rfl, rfl, H, A⟩ | hF
 ·show AW _ _ _ _ _ _ _
  refine AF 4 (AP 4 [(6, .ptr (some (h.size, 0))), (7, Ai 0), (8, Ai 0)] H fun fr H => AY ?_)
  obtain ⟨rfl, rfl, rfl⟩ := Ho hm
  refine ⟨.inl rfl, .tuple [.ptr (some (h.size, 0)), Ai 0, Ai 0], rH H, ?_⟩
  replace A : HH g h5 [.AK none 99 (AK (eP AU) ([] : List Eb)), .obj h.size (.cells none 2 [AH none (([] : List Eb).length), Ai p2])] F := A.KI 99
  replace A := A.k2 1 0
  exact .inl ⟨h.size, none, (⟨([] : List Eb), p2⟩ : DS), rfl, rfl, A⟩
 exact hF.elim
def E9 (p0 : List UInt8) : Option ((List UInt8)) :=
 Ac ((p0 == ([] : List UInt8)) || (([47] : List UInt8) == ([] : List UInt8))) (some p0) ((DK p0 (47 : Int)).bind fun x1 => some x1)
theorem JI {p0 q0} (hm : E9 p0 = some q0) (A : HH g h [] F) (hc : Ba (cfg.still 174) av = [.str p0, .str ([47] : List UInt8)] := by kernel_rfl) : ∃ v h', Bi cfg g h 174 av v h' ∧ v = .str q0 ∧ HH g h' [] F := by
 refine EN 37 [.tmp 4] hc ?_
 clear hc
 unfold E9 at hm
 refine bg 37 [(0, .str p0), (1, .str ([47] : List UInt8))] fun fr H => ?_
 refine AF 1 (AP 1 [] H fun fr H => AR (AF 6 (AG 3 [(9, .bool (p0 == ([] : List UInt8)))] H fun fr H => A9 3 (fun fr' h' => h = h' ∧ Has fr' 37 [(0, .str p0), (1, .str ([47] : List UInt8)), (12, .bool ((p0 == ([] : List UInt8)) || (([47] : List UInt8) == ([] : List UInt8))))]) ?_ ?_)))
 ·cases hb : (p0 == ([] : List UInt8) : Bool) with
  | true =>
   replace H := H.kn 9 hb
   exact AG 3 [(12, .bool true)] H fun fr H => BK H hb
  | false =>
   replace H := H.kn 9 hb
   exact AG 3 [(12, .bool (([47] : List UInt8) == ([] : List UInt8)))] H fun fr H => BK H hb
 intro t fr h' hK
 obtain ⟨e, H⟩ := hK
 subst e
 refine BD id (Ae 12 H hm (fun hb hm H => ?_) fun hb hm H => ?_)
 ·refine AF 2 (AP 2 [(4, .str p0)] H fun fr H => AY ?_)
  obtain rfl := Ag hm
  exact ⟨.inl rfl, _, rH H, rfl, A⟩
 refine B0 id (AR (AF 8 (AP 8 [(21, .bool true)] H fun fr H => IF (x := .tmp 21) (by kernel_rfl) H (fun fr => by kernel_rfl) ?_)))
 refine AF 5 ?_
 obtain ⟨x1, hx, hm⟩ := bind_some hm
 obtain ⟨v1, h1, hr, rfl, A1⟩ := GH (av := [.str p0, Ab 47]) hx (A.cut 0)
 replace A := A.C4 A1
 refine Ap 3 [] 25 hr H fun fr t H => ?_
 refine AP 1 [(4, .str x1)] H fun fr H => AY ?_
 obtain rfl := Ag hm
 exact ⟨.inl rfl, _, rH H, rfl, A⟩
def Ip (p0 : List UInt8) : Option ((List UInt8)) :=
 (E9 p0).bind fun x1 => Ac (!(x1 == ([] : List UInt8))) (some x1) (some p0)
theorem NZ {p0 q0} (hm : Ip p0 = some q0) (A : HH g h [] F) (hc : Ba (cfg.still 169) av = [.str p0] := by kernel_rfl) : ∃ v h', Bi cfg g h 169 av v h' ∧ v = .str q0 ∧ HH g h' [] F := by
 refine EN 10 [.tmp 2] hc ?_
 clear hc
 unfold Ip at hm
 refine bg 10 [(0, .str p0)] fun fr H => ?_
 refine AF 1 (AP 1 [] H fun fr H => AR (AF 3 ?_))
 obtain ⟨x1, hx, hm⟩ := bind_some hm
 obtain ⟨v1, h1, hr, rfl, A1⟩ := JI (av := [.str p0, .str ([47] : List UInt8)]) hx (A.cut 0)
 replace A := A.C4 A1
 refine Ap 1 [] 5 hr H fun fr t H => ?_
 refine B1 1 [(3, .str x1)] 2 H fun fr H => AP 2 [(7, .bool (!(x1 == ([] : List UInt8))))] H fun fr H => Ae 7 H hm (fun hb hm H => ?_) fun hb hm H => ?_
 ·refine AF 2 (AP 2 [(2, .str x1)] H fun fr H => AY ?_)
  obtain rfl := Ag hm
  exact ⟨.inl rfl, _, rH H, rfl, A⟩
 refine CN 2 id (AP 2 [(2, .str p0)] H fun fr H => AY ?_)
 obtain rfl := Ag hm
 exact ⟨.inl rfl, _, rH H, rfl, A⟩
end
end Go.Av.L
