/-
 Models of functions, and that the abstract run tells them. Written by lift2.py.
-/
import Derived.Test.YthnnciphldbmeaaGreatDoorKCfg
import Derived.Test.YthnnciphldbmeaaGreatDoorK0
import Derived.Test.YthnnciphldbmeaaGreatDoorK2
import Derived.Test.YthnnciphldbmeaaGreatDoorK3
import Derived.Test.YthnnciphldbmeaaGreatDoorK6
namespace Go.Av.L
open Go.Av Go.Lib
set_option maxRecDepth 10000
set_option maxHeartbeats 4000000
set_option linter.unusedVariables false
set_option linter.unusedSimpArgs false
variable {g : Gd} {h : AM} {F : List Ck} {av : List AD}
noncomputable section
def FO {SY RY : Type} (Y : SY → (Int × Ch) → Option (SY ⊕ RY)) (p1 : List AK) (p2_0 : BO) (x1w1 : BA) (s : Int × Int × (Nat → Int) × Int × (SY ⊕ RY)) : Option ((Int × Int × (Nat → Int) × Int × (SY ⊕ RY)) ⊕ ((Int × Int × (Nat → Int) × (SY ⊕ RY)) ⊕ (Int × Int × (Nat → Int) × (SY ⊕ RY)))) :=
 match s with
 | (x2, x3, x4, x5, y1) => Af (decide (x5 < (p1.length : Int))) ((GP p1 x5).bind fun x12 => (Bw (⟨p2_0.c_, p2_0.AR, p2_0.AU, p2_0.AX, (⟨x2, x3, x4⟩ : BS)⟩ : BO) x12 x1w1).bind fun (x13, x14, x15, x16) => (SI Y y1 (x5, (⟨x13, x14, x15⟩ : Ch))).bind fun (x17, y4) => Af (!x17) (some (.inr (.inr (x16.n_, x16.An, x16.Aw, y4)))) (some (.inl (x16.n_, x16.An, x16.Aw, IntKind.i64.wrap (x5 + 1), y4)))) (some (.inr (.inl (x2, x3, x4, y1))))
def EM {SY RY : Type} (Y : SY → (Int × Ch) → Option (SY ⊕ RY)) (y : SY ⊕ RY) (p1 : List AK) (p2_0 : BO) : Option (BS × (SY ⊕ RY)) :=
 (HI p1).bind fun x1w1 => (loop (FO Y p1 p2_0 x1w1) (p2_0.Ae.n_, p2_0.Ae.An, p2_0.Ae.Aw, (0 : Int), y)).bind fun o1 => (match o1 with | .inl (x6, x7, x8, y2) => some ((⟨x6, x7, x8⟩ : BS), y2) | .inr (x9, x10, x11, y3) => some ((⟨x9, x10, x11⟩ : BS), y3))
theorem H5 {SY RY : Type} {R : SY ⊕ RY → List Ck → Prop} {Y : SY → (Int × Ch) → Option (SY ⊕ RY)} {y : SY ⊕ RY} {p1 p2_0 l bp1 rp1_0 bp2 bp2_0 rp2_0_14 rp2_0_15 bp2_0_16 rp2_0_16_0 bp2_0_17 u8} {yq : SY ⊕ RY} (hm : EM Y y p1 p2_0 = some (u8, yq)) (hc : BH (cfg.still 89) av = [.KJ l, .ptr (some (bp1, 0)), .ptr (some (bp2, 0))]) (hYR : YR cfg g l (fun x => [Ai x.1, .agg (B3 x.2)]) Y R) (B : R y F) (A : HH g h [.obj bp1 (.cells none 2 [AF rp1_0 p1.length]), .AL rp1_0 44 (AL AA p1), .obj bp2 (.cells none 2 [.ptr (some (bp2_0, 0))]), .obj bp2_0 (.cells none 2 [vs AE p2_0.c_.Ah, vs AE p2_0.c_.Aj, vs AI p2_0.c_.Bj, .bool p2_0.c_.G1, .bool p2_0.c_.BE, Ai p2_0.c_.Bc, .bool p2_0.c_.B4, Ai p2_0.c_.Ay.Cf, Ai p2_0.c_.Ay.Bb, Ai p2_0.c_.Ge, Ai p2_0.c_.Bz, Ai p2_0.c_.Name, Ai p2_0.c_.Head, Ai p2_0.c_.BU, AF rp2_0_14 p2_0.AR.length, AF rp2_0_15 p2_0.AU.length, .ptr (some (bp2_0_16, 0)), .ptr (some (bp2_0_17, 0))]), .AL rp2_0_14 136 (AL (eP AB) p2_0.AR), .AL rp2_0_15 136 (AL (eP AB) p2_0.AU), .obj bp2_0_16 (.cells none 2 [AF rp2_0_16_0 p2_0.AX.l_.length, Ai p2_0.AX.BM]), .AL rp2_0_16_0 142 (AL (eP AJ) p2_0.AX.l_), .obj bp2_0_17 (.cells none 2 ([Ai p2_0.Ae.n_, Ai p2_0.Ae.An] ++ (CW 257 (AD.int .i64) p2_0.Ae.Aw ++ [])))] F) : ∃ v h', BN cfg g h 89 av v h' ∧ v = .tuple [] ∧ ∃ F, R yq F ∧ HH g h' [.obj bp1 (.cells none 2 [AF rp1_0 p1.length]), .AL rp1_0 44 (AL AA p1), .obj bp2 (.cells none 2 [.ptr (some (bp2_0, 0))]), .obj bp2_0 (.cells none 2 [vs AE p2_0.c_.Ah, vs AE p2_0.c_.Aj, vs AI p2_0.c_.Bj, .bool p2_0.c_.G1, .bool p2_0.c_.BE, Ai p2_0.c_.Bc, .bool p2_0.c_.B4, Ai p2_0.c_.Ay.Cf, Ai p2_0.c_.Ay.Bb, Ai p2_0.c_.Ge, Ai p2_0.c_.Bz, Ai p2_0.c_.Name, Ai p2_0.c_.Head, Ai p2_0.c_.BU, AF rp2_0_14 p2_0.AR.length, AF rp2_0_15 p2_0.AU.length, .ptr (some (bp2_0_16, 0)), .ptr (some (bp2_0_17, 0))]), .AL rp2_0_14 136 (AL (eP AB) p2_0.AR), .AL rp2_0_15 136 (AL (eP AB) p2_0.AU), .obj bp2_0_16 (.cells none 2 [AF rp2_0_16_0 p2_0.AX.l_.length, Ai p2_0.AX.BM]), .AL rp2_0_16_0 142 (AL (eP AJ) p2_0.AX.l_), .obj bp2_0_17 (.cells none 2 ([Ai u8.n_, Ai u8.An] ++ (CW 257 (AD.int .i64) u8.Aw ++ [])))] F := by
 refine Dr 36 [] hc ?_
 clear hc
 unfold EM at hm
 refine bg 36 [(0, .KJ l), (1, .ptr (some (bp1, 0))), (2, .ptr (some (bp2, 0)))] fun fr H => ?_
 refine AH 3 (Ek 10 0 0 A H fun fr t H => ?_)
 replace A := A.k9 1 0 2 3 4 5 6 7 8
 obtain ⟨x1w1, hx, hm⟩ := bind_some hm
 obtain ⟨v1, h1, hr, bx1w1, bx1w1_0, rfl, A1⟩ := MD (av := [AF rp1_0 p1.length]) hx (A.cut 1)
 replace A := A.g13 A1
 refine A8 11 hr H fun fr t H => ?_
 refine Bn 1 [(4, .ptr (some (bx1w1, 0)))] 3 H fun fr H => Ek 12 3 0 A H fun fr t H => ?_
 refine AP 2 [(13, Ai (p1.length : Int)), (14, Ai 0)] H fun fr H => Aa (id := 0) (by kernel_rfl) ?_
 obtain ⟨o1, ho, hm⟩ := bind_some hm
 refine BG (Q' := fun e fr' h' => (∃ x6 x7 x8, ∃ (y2 : SY ⊕ RY), e = .exit 0 ∧ .inl (x6, x7, x8, y2) = o1 ∧ Has fr' 36 [] ∧ ∃ F, R y2 F ∧ HH g h' [.obj bx1w1 (.cells none 2 [.map (some bx1w1_0)]), .obj bx1w1_0 (.map 2 (BZ (fun k : List UInt8 => .str k) (fun v : Bool => .bool v) x1w1.DD)), .AL rp1_0 44 (AL AA p1), .obj bp1 (.cells none 2 [AF rp1_0 p1.length]), .obj bp2 (.cells none 2 [.ptr (some (bp2_0, 0))]), .obj bp2_0 (.cells none 2 [vs AE p2_0.c_.Ah, vs AE p2_0.c_.Aj, vs AI p2_0.c_.Bj, .bool p2_0.c_.G1, .bool p2_0.c_.BE, Ai p2_0.c_.Bc, .bool p2_0.c_.B4, Ai p2_0.c_.Ay.Cf, Ai p2_0.c_.Ay.Bb, Ai p2_0.c_.Ge, Ai p2_0.c_.Bz, Ai p2_0.c_.Name, Ai p2_0.c_.Head, Ai p2_0.c_.BU, AF rp2_0_14 p2_0.AR.length, AF rp2_0_15 p2_0.AU.length, .ptr (some (bp2_0_16, 0)), .ptr (some (bp2_0_17, 0))]), .AL rp2_0_14 136 (AL (eP AB) p2_0.AR), .AL rp2_0_15 136 (AL (eP AB) p2_0.AU), .obj bp2_0_16 (.cells none 2 [AF rp2_0_16_0 p2_0.AX.l_.length, Ai p2_0.AX.BM]), .AL rp2_0_16_0 142 (AL (eP AJ) p2_0.AX.l_), .obj bp2_0_17 (.cells none 2 ([Ai x6, Ai x7] ++ (CW 257 (AD.int .i64) x8 ++ [])))] F) ∨ (∃ x9 x10 x11, ∃ (y3 : SY ⊕ RY), e = .ret ∧ .inr (x9, x10, x11, y3) = o1 ∧ Has fr' 36 [] ∧ ∃ F, R y3 F ∧ HH g h' [.obj bx1w1 (.cells none 2 [.map (some bx1w1_0)]), .obj bx1w1_0 (.map 2 (BZ (fun k : List UInt8 => .str k) (fun v : Bool => .bool v) x1w1.DD)), .AL rp1_0 44 (AL AA p1), .obj bp1 (.cells none 2 [AF rp1_0 p1.length]), .obj bp2 (.cells none 2 [.ptr (some (bp2_0, 0))]), .obj bp2_0 (.cells none 2 [vs AE p2_0.c_.Ah, vs AE p2_0.c_.Aj, vs AI p2_0.c_.Bj, .bool p2_0.c_.G1, .bool p2_0.c_.BE, Ai p2_0.c_.Bc, .bool p2_0.c_.B4, Ai p2_0.c_.Ay.Cf, Ai p2_0.c_.Ay.Bb, Ai p2_0.c_.Ge, Ai p2_0.c_.Bz, Ai p2_0.c_.Name, Ai p2_0.c_.Head, Ai p2_0.c_.BU, AF rp2_0_14 p2_0.AR.length, AF rp2_0_15 p2_0.AU.length, .ptr (some (bp2_0_16, 0)), .ptr (some (bp2_0_17, 0))]), .AL rp2_0_14 136 (AL (eP AB) p2_0.AR), .AL rp2_0_15 136 (AL (eP AB) p2_0.AU), .obj bp2_0_16 (.cells none 2 [AF rp2_0_16_0 p2_0.AX.l_.length, Ai p2_0.AX.BM]), .AL rp2_0_16_0 142 (AL (eP AJ) p2_0.AX.l_), .obj bp2_0_17 (.cells none 2 ([Ai x9, Ai x10] ++ (CW 257 (AD.int .i64) x11 ++ [])))] F) ∨ False) ?_ ?_
 ·refine Bv (by kernel_rfl) (fun (s : Int × Int × (Nat → Int) × Int × (SY ⊕ RY)) fr' h' => ∃ x2 x3 x4 x5, ∃ (y1 : SY ⊕ RY), (x2, x3, x4, x5, y1) = s ∧ Has fr' 36 [(0, .KJ l), (2, .ptr (some (bp2, 0))), (4, .ptr (some (bx1w1, 0))), (12, AF rp1_0 p1.length), (13, Ai (p1.length : Int)), (14, Ai x5)] ∧ ∃ F, R y1 F ∧ HH g h' [.obj bx1w1 (.cells none 2 [.map (some bx1w1_0)]), .obj bx1w1_0 (.map 2 (BZ (fun k : List UInt8 => .str k) (fun v : Bool => .bool v) x1w1.DD)), .AL rp1_0 44 (AL AA p1), .obj bp1 (.cells none 2 [AF rp1_0 p1.length]), .obj bp2 (.cells none 2 [.ptr (some (bp2_0, 0))]), .obj bp2_0 (.cells none 2 [vs AE p2_0.c_.Ah, vs AE p2_0.c_.Aj, vs AI p2_0.c_.Bj, .bool p2_0.c_.G1, .bool p2_0.c_.BE, Ai p2_0.c_.Bc, .bool p2_0.c_.B4, Ai p2_0.c_.Ay.Cf, Ai p2_0.c_.Ay.Bb, Ai p2_0.c_.Ge, Ai p2_0.c_.Bz, Ai p2_0.c_.Name, Ai p2_0.c_.Head, Ai p2_0.c_.BU, AF rp2_0_14 p2_0.AR.length, AF rp2_0_15 p2_0.AU.length, .ptr (some (bp2_0_16, 0)), .ptr (some (bp2_0_17, 0))]), .AL rp2_0_14 136 (AL (eP AB) p2_0.AR), .AL rp2_0_15 136 (AL (eP AB) p2_0.AU), .obj bp2_0_16 (.cells none 2 [AF rp2_0_16_0 p2_0.AX.l_.length, Ai p2_0.AX.BM]), .AL rp2_0_16_0 142 (AL (eP AJ) p2_0.AX.l_), .obj bp2_0_17 (.cells none 2 ([Ai x2, Ai x3] ++ (CW 257 (AD.int .i64) x4 ++ [])))] F) ho ⟨p2_0.Ae.n_, p2_0.Ae.An, p2_0.Ae.Aw, (0 : Int), y, rfl, H.ls, ⟨F, B, A⟩⟩ ?_
  clear ho hm H A
  intro s q fr h2 hI hm
  obtain ⟨x2, x3, x4, x5, y1, rfl, H, ⟨F, B, A⟩⟩ := hI
  unfold FO at hm
  refine AH 1 (AP 1 [(15, .bool (decide (x5 < (p1.length : Int))))] H fun fr H => AV (Ak 15 H hm (fun hb hm H => ?_) fun hb hm H => ?_))
  ·refine Br id (AV (Aa (id := 1) (by kernel_rfl) ?_))
   refine AH 6 ?_
   obtain ⟨x12, hx, hm⟩ := bind_some hm
   obtain ⟨i1, er1, _, hx, hq1⟩ := HH.Ll BL (by decide) A 2 (xs := p1) rfl hx
   refine Ax 1 [(16, Ai x5)] 17 (.ptr (some (i1, x5.toNat * 14))) h2 H (fun fr => .of (D7 (s := DP rp1_0 p1.length) (by kernel_rfl) hx)) fun fr t H => ?_
   refine As 18 _ _ H (fun fr => .of (B5 (by kernel_rfl) (IS BL (HH.row A 2 rfl er1) hq1 0 14 (Nat.le_of_ble_eq_true rfl)))) fun fr t H => ?_
   obtain ⟨h3, e1, A⟩ := A.pu (.cells none 2 [.str ([] : List UInt8), .str ([] : List UInt8), Ab 0, Ai 0, Ai 0, Ai 0, .str ([] : List UInt8), .str ([] : List UInt8), Ai 0, Ai 0, Ai 0, Ai 0, .slice none 0, .str ([] : List UInt8)])
   refine A7 6 (.ptr (some (h2.size, 0))) e1 H fun fr t H => ?_
   obtain ⟨h4, hx, A⟩ := A.s0 0 (AA x12) [_, _, _, _, _, _, _, _, _, _, _, _, _, _]
   refine Fs 1 [(5, Ai x5)] hx H fun fr t H => ?_
   refine Cb 12 id (Ek 20 5 0 A H fun fr t H => ?_)
   refine As 21 _ _ H (fun fr => .of (B5 (by kernel_rfl) (A.GQ 0 rfl (o := 0) (n := 14) ⟨Nat.le_of_ble_eq_true rfl, rfl⟩))) fun fr t H => ?_
   replace A : HH g h4 [_, _, _, _, _, _, _, _, _, _, _, _] F := ((((((((A.front 2 rfl).front 2 rfl).front 11 rfl).front 11 rfl).front 11 rfl).front 11 rfl).front 11 rfl).front 11 rfl)
   obtain ⟨⟨x13, x14, x15, x16⟩, hx, hm⟩ := bind_some hm
   obtain ⟨v1, h5, hr, rfl, A1⟩ := Fe (av := [.ptr (some (bp2_0, 0)), .agg (AA x12), .ptr (some (bx1w1, 0))]) hx (A.cut 8)
   replace A : HH g h5 [.obj bp2_0 (.cells none 2 [_, _, _, _, _, _, _, _, _, _, _, _, _, _, _, _, _, _]), .AL rp2_0_14 136 (AL (eP AB) p2_0.AR), .AL rp2_0_15 136 (AL (eP AB) p2_0.AU), .obj bp2_0_16 (.cells none 2 [AF rp2_0_16_0 p2_0.AX.l_.length, Ai p2_0.AX.BM]), .AL rp2_0_16_0 142 (AL (eP AJ) p2_0.AX.l_), .obj bp2_0_17 (.cells none 2 ([Ai x16.n_, Ai x16.An] ++ (CW 257 (AD.int .i64) x16.Aw ++ []))), .obj bx1w1 (.cells none 2 [.map (some bx1w1_0)]), .obj bx1w1_0 (.map 2 (BZ (fun k : List UInt8 => .str k) (fun v : Bool => .bool v) x1w1.DD)), _, _, _, _] F := A.CY (n := 8) A1
   refine BD 1 [] 23 hr H fun fr t H => ?_
   obtain ⟨h6, e2, A⟩ := A.pu (.cells none 2 [.str ([] : List UInt8), .str ([] : List UInt8), Ab 0, Ai 0, Ai 0, Ai 0, .str ([] : List UInt8), .str ([] : List UInt8), Ai 0, Ai 0, Ai 0, Ai 0, .slice none 0, .str ([] : List UInt8)])
   refine JI 4 [(24, .agg (AA x13)), (25, Ai x14), (26, Ai x15)] 7 (.ptr (some (h5.size, 0))) e2 H fun fr t H => ?_
   obtain ⟨h7, hx, A⟩ := A.s0 0 (AA x13) [_, _, _, _, _, _, _, _, _, _, _, _, _, _]
   refine FX hx H fun fr t H => ?_
   refine Bn 2 [(8, Ai x14), (9, Ai x15)] 8 H fun fr H => Ax 2 [(27, .KJ l), (28, Ai x5)] 29 _ _ H (fun fr => .of (B5 (by kernel_rfl) (A.GQ 0 rfl (o := 0) (n := 14) ⟨Nat.le_of_ble_eq_true rfl, rfl⟩))) fun fr t H => ?_
   obtain ⟨⟨x17, y4⟩, hx, hm⟩ := bind_some hm
   obtain ⟨h8, F, hr, B, A⟩ := hYR.SI (pr := []) .nil A B hx
   refine Ax 3 [] 33 (.bool x17) h8 H (fun fr => Steps.round (by kernel_rfl) hr) fun fr t H => ?_
   refine AP 1 [(34, .bool (!x17))] H fun fr H => Ak 34 H hm (fun hb hm H => ?_) fun hb hm H => ?_
   ·refine AY ?_
    replace A : HH g h8 [.obj bx1w1 (.cells none 2 [.map (some bx1w1_0)]), .obj bx1w1_0 (.map 2 (BZ (fun k : List UInt8 => .str k) (fun v : Bool => .bool v) x1w1.DD)), .AL rp1_0 44 (AL AA p1), .obj bp1 (.cells none 2 [AF rp1_0 p1.length]), .obj bp2 (.cells none 2 [.ptr (some (bp2_0, 0))]), .obj bp2_0 (.cells none 2 [vs AE p2_0.c_.Ah, vs AE p2_0.c_.Aj, vs AI p2_0.c_.Bj, .bool p2_0.c_.G1, .bool p2_0.c_.BE, Ai p2_0.c_.Bc, .bool p2_0.c_.B4, Ai p2_0.c_.Ay.Cf, Ai p2_0.c_.Ay.Bb, Ai p2_0.c_.Ge, Ai p2_0.c_.Bz, Ai p2_0.c_.Name, Ai p2_0.c_.Head, Ai p2_0.c_.BU, AF rp2_0_14 p2_0.AR.length, AF rp2_0_15 p2_0.AU.length, .ptr (some (bp2_0_16, 0)), .ptr (some (bp2_0_17, 0))]), .AL rp2_0_14 136 (AL (eP AB) p2_0.AR), .AL rp2_0_15 136 (AL (eP AB) p2_0.AU), .obj bp2_0_16 (.cells none 2 [AF rp2_0_16_0 p2_0.AX.l_.length, Ai p2_0.AX.BM]), .AL rp2_0_16_0 142 (AL (eP AJ) p2_0.AX.l_), .obj bp2_0_17 (.cells none 2 ([Ai x16.n_, Ai x16.An] ++ (CW 257 (AD.int .i64) x16.Aw ++ [])))] F := (HH.H2 (((((((((((A.front 6 rfl).front 6 rfl).front 6 rfl).front 6 rfl).front 6 rfl).front 6 rfl).front 12 rfl).front 12 rfl).front 12 rfl).front 11 rfl).front 11 rfl) 11)
    exact nr hm fun e => Or.inr (.inl ⟨x16.n_, x16.An, x16.Aw, y4, rfl, e, H.ls, ⟨F, B, A⟩⟩)
   refine Fg 2 id (Bk 2 [(0, .KJ l), (2, .ptr (some (bp2, 0))), (4, .ptr (some (bx1w1, 0))), (12, AF rp1_0 p1.length), (13, Ai (p1.length : Int)), (14, Ai (IntKind.i64.wrap (x5 + 1)))] H fun fr H => at_nil ?_)
   replace A : HH g h8 [.obj bx1w1 (.cells none 2 [.map (some bx1w1_0)]), .obj bx1w1_0 (.map 2 (BZ (fun k : List UInt8 => .str k) (fun v : Bool => .bool v) x1w1.DD)), .AL rp1_0 44 (AL AA p1), .obj bp1 (.cells none 2 [AF rp1_0 p1.length]), .obj bp2 (.cells none 2 [.ptr (some (bp2_0, 0))]), .obj bp2_0 (.cells none 2 [vs AE p2_0.c_.Ah, vs AE p2_0.c_.Aj, vs AI p2_0.c_.Bj, .bool p2_0.c_.G1, .bool p2_0.c_.BE, Ai p2_0.c_.Bc, .bool p2_0.c_.B4, Ai p2_0.c_.Ay.Cf, Ai p2_0.c_.Ay.Bb, Ai p2_0.c_.Ge, Ai p2_0.c_.Bz, Ai p2_0.c_.Name, Ai p2_0.c_.Head, Ai p2_0.c_.BU, AF rp2_0_14 p2_0.AR.length, AF rp2_0_15 p2_0.AU.length, .ptr (some (bp2_0_16, 0)), .ptr (some (bp2_0_17, 0))]), .AL rp2_0_14 136 (AL (eP AB) p2_0.AR), .AL rp2_0_15 136 (AL (eP AB) p2_0.AU), .obj bp2_0_16 (.cells none 2 [AF rp2_0_16_0 p2_0.AX.l_.length, Ai p2_0.AX.BM]), .AL rp2_0_16_0 142 (AL (eP AJ) p2_0.AX.l_), .obj bp2_0_17 (.cells none 2 ([Ai x16.n_, Ai x16.An] ++ (CW 257 (AD.int .i64) x16.Aw ++ [])))] F := (HH.H2 (((((((((((A.front 6 rfl).front 6 rfl).front 6 rfl).front 6 rfl).front 6 rfl).front 6 rfl).front 12 rfl).front 12 rfl).front 12 rfl).front 11 rfl).front 11 rfl) 11)
   exact nx hm ⟨x16.n_, x16.An, x16.Aw, IntKind.i64.wrap (x5 + 1), y4, rfl, H.ls, ⟨F, B, A⟩⟩
  refine Bh (i := 0) (by kernel_rfl) ?_
  exact nr hm fun e => .inl ⟨x2, x3, x4, y1, rfl, e, H.ls, ⟨F, B, A⟩⟩
 clear ho
 clear A
 intro e fr h9 hQ
 rcases hQ with ⟨x6, x7, x8, y2, rfl, rfl, H, ⟨F, B, A⟩⟩ | ⟨x9, x10, x11, y3, rfl, rfl, H, ⟨F, B, A⟩⟩ | hF
 ·obtain ⟨rfl, rfl⟩ := C9 hm
  refine ⟨.inr rfl, .tuple [], rH H, ?_⟩
  replace A := A.k9 3 2 4 5 6 7 8 9 10
  exact ⟨rfl, ⟨F, B, A⟩⟩
 ·obtain ⟨rfl, rfl⟩ := C9 hm
  refine ⟨.inl rfl, .tuple [], rH H, ?_⟩
  replace A := A.k9 3 2 4 5 6 7 8 9 10
  exact ⟨rfl, ⟨F, B, A⟩⟩
 exact hF.elim
def Fj (s : (List AK)) (v1 : Int × Ch) : Option (((List AK)) ⊕ (((List AK) × Int × Int))) :=
 match s with
 | x4 => Af (v1.2.e_ != 0) (some (.inr (x4, v1.2.e_, v1.1))) (Af (v1.2.RI == 0) (Fh (Np 168 (x4.length + ([v1.2.m_] : List AK).length)) <| some (.inl (x4 ++ ([v1.2.m_] : List AK)))) (some (.inl x4)))
def GN (p0 : Bq) (p1 : List AK) : Option ((List AK) × Int × Int) :=
 (HD p0).bind fun (w2, x2) => (match w2 with | some x1w1 => Af (x2 != 0) (some (([] : List AK), (0 : Int), x2)) ((Fl x1w1 p1).bind fun _ => (EM (Fj) (.inl ([] : List AK)) p1 x1w1).bind fun (x8, y1) => (match y1 with | .inl x4 => some (x4, (0 : Int), (0 : Int)) | .inr (x5, x6, x7) => some (x5, x7, x6))) | none => Af (x2 != 0) (some (([] : List AK), (0 : Int), x2)) (none))
theorem LO {p0 p1 rp1 q0 q1 q2} (hm : GN p0 p1 = some (q0, q1, q2)) (A : HH g h [.AL rp1 44 (AL AA p1)] F) (hc : BH (cfg.still 19) av = [.agg (AO p0), AF rp1 p1.length] := by kernel_rfl) : ∃ v h', BN cfg g h 19 av v h' ∧ ∃ (rq0 : Option Nat), v = .tuple [AF rq0 q0.length, Ai q1, Ai q2] ∧ HH g h' [.AL rq0 44 (AL AA q0), .AL rp1 44 (AL AA p1)] F := by
 refine Dr 41 [.cell 4 55, .cell 5 3, .cell 6 33] hc ?_
 clear hc
 unfold GN at hm
 refine bg 41 [(0, .agg (AO p0)), (1, AF rp1 p1.length)] fun fr H => ?_
 refine AH 4 ?_
 obtain ⟨h1, e1, A⟩ := A.pu (.cells none 2 (AO p0))
 refine A7 2 (.ptr (some (h.size, 0))) e1 H fun fr t H => ?_
 obtain ⟨h2, e2, A⟩ := A.pu (.cells none 2 [.slice none 0])
 refine A7 4 (.ptr (some (h1.size, 0))) e2 H fun fr t H => ?_
 obtain ⟨h3, e3, A⟩ := A.pu (.cells none 2 [Ai 0])
 refine A7 5 (.ptr (some (h2.size, 0))) e3 H fun fr t H => ?_
 obtain ⟨h4, e4, A⟩ := A.pu (.cells none 2 [Ai 0])
 refine A7 6 (.ptr (some (h3.size, 0))) e4 H fun fr t H => ?_
 refine Cb 7 id (As 13 _ _ H (fun fr => .of (B5 (by kernel_rfl) (A.GQ 3 rfl (o := 0) (n := 14) ⟨Nat.le_of_ble_eq_true rfl, rfl⟩))) fun fr t H => ?_)
 obtain ⟨⟨w2, x2⟩, hx, hm⟩ := bind_some hm
 obtain ⟨v1, h5, hr, hc⟩ := Lz (av := [.agg (AO p0)]) hx (A.cut 0)
 rcases hc with ⟨bx1w1, rx1w1_14, rx1w1_15, bx1w1_16, rx1w1_16_0, bx1w1_17, x1w1, rfl, rfl, A1⟩ | ⟨rfl, rfl, A1⟩
 ·replace A : HH g h5 [.obj bx1w1 (.cells none 2 [vs AE x1w1.c_.Ah, vs AE x1w1.c_.Aj, vs AI x1w1.c_.Bj, .bool x1w1.c_.G1, .bool x1w1.c_.BE, Ai x1w1.c_.Bc, .bool x1w1.c_.B4, Ai x1w1.c_.Ay.Cf, Ai x1w1.c_.Ay.Bb, Ai x1w1.c_.Ge, Ai x1w1.c_.Bz, Ai x1w1.c_.Name, Ai x1w1.c_.Head, Ai x1w1.c_.BU, AF rx1w1_14 x1w1.AR.length, AF rx1w1_15 x1w1.AU.length, .ptr (some (bx1w1_16, 0)), .ptr (some (bx1w1_17, 0))]), .AL rx1w1_14 136 (AL (eP AB) x1w1.AR), .AL rx1w1_15 136 (AL (eP AB) x1w1.AU), .obj bx1w1_16 (.cells none 2 [AF rx1w1_16_0 x1w1.AX.l_.length, Ai x1w1.AX.BM]), .AL rx1w1_16_0 142 (AL (eP AJ) x1w1.AX.l_), .obj bx1w1_17 (.cells none 2 ([Ai x1w1.Ae.n_, Ai x1w1.Ae.An] ++ (CW 257 (AD.int .i64) x1w1.Ae.Aw ++ []))), .obj h3.size (.cells none 2 [Ai (0 : Int)]), .obj h2.size (.cells none 2 [Ai (0 : Int)]), .obj h1.size (.cells none 2 [.slice none 0]), .obj h.size (.cells none 2 (AO p0)), _] F := A.CY (n := 0) A1
  refine A8 14 hr H fun fr t H => ?_
  refine AP 5 [(7, .ptr (some (bx1w1, 0))), (8, Ai x2)] H fun fr H => AV (AH 2 (AP 2 [(18, .bool (x2 != 0))] H fun fr H => Ak 18 H hm (fun hb hm H => ?_) fun hb hm H => ?_))
  ·refine AH 4 ?_
   obtain ⟨h6, hx, A⟩ := A.s8 0 [.slice none 0] [_]
   refine FH 1 [(19, Ai x2)] hx H fun fr t H => ?_
   obtain ⟨h7, hx, A⟩ := A.s7 0 [Ai 0] [_]
   refine Ep hx H fun fr t H => ?_
   obtain ⟨h8, hx, A⟩ := A.s6 0 [Ai x2] [_]
   refine Ep hx H fun fr t H => ?_
   refine BF id (AY ?_)
   obtain ⟨rfl, rfl, rfl⟩ := HY hm
   refine ⟨.inl rfl, .tuple [.slice none 0, Ai 0, Ai x2], B8 (.cell (rT H) (C3 (by kernel_rfl) (A.l1 8 0)) (.cell (rT H) (C3 (by kernel_rfl) (A.l1 7 0)) (.cell (rT H) (C3 (by kernel_rfl) (A.l1 6 0)) .nil))), ?_⟩
   replace A : HH g h8 [.AL none 44 (AL AA ([] : List AK)), _, _, _, _, _, _, _, _, _, _, _] F := A.I5 44
   replace A := A.k2 0 11
   exact ⟨none, rfl, A⟩
  refine Cc 1 id ?_
  obtain ⟨h9, e5, A⟩ := A.pu (.cells none 2 [.slice none 0])
  refine A7 9 (.ptr (some (h5.size, 0))) e5 H fun fr t H => ?_
  refine BF id (AV (AH 3 ?_))
  replace A : HH g h9 [_, _, _, _, _, _, _, .obj h5.size (.cells none 2 [.slice none 0]), _, _, _, _] F := (((((((A.front 11 rfl).front 7 rfl).front 7 rfl).front 7 rfl).front 7 rfl).front 7 rfl).front 7 rfl)
  obtain ⟨⟨⟩, hx, hm⟩ := bind_some hm
  obtain ⟨v1, h10, hr, bqw4_10, bqw4_11, rfl, A1⟩ := J0 (av := [.ptr (some (bx1w1, 0)), AF rp1 p1.length]) hx (A.cut 7)
  replace A : HH g h10 [.obj bqw4_10 (.cells none 2 [AF rp1 p1.length]), .obj bqw4_11 (.cells none 2 [.ptr (some (bx1w1, 0))]), .obj bx1w1 (.cells none 2 [_, _, _, _, _, _, _, _, _, _, _, _, _, _, _, _, _, _]), .AL rx1w1_14 136 (AL (eP AB) x1w1.AR), .AL rx1w1_15 136 (AL (eP AB) x1w1.AU), .obj bx1w1_16 (.cells none 2 [AF rx1w1_16_0 x1w1.AX.l_.length, Ai x1w1.AX.BM]), .AL rx1w1_16_0 142 (AL (eP AJ) x1w1.AX.l_), .obj bx1w1_17 (.cells none 2 ([Ai x1w1.Ae.n_, Ai x1w1.Ae.An] ++ (CW 257 (AD.int .i64) x1w1.Ae.Aw ++ []))), .AL rp1 44 (AL AA p1), _, _, _, _, _] F := A.CY (n := 7) A1
  refine BD 2 [] 22 hr H fun fr t H => ?_
  refine BF id (Aa (id := 0) (by kernel_rfl) ?_)
  replace A : HH g h10 [.AL none 44 (AL AA ([] : List AK)), _, _, _, _, _, _, _, _, _, _, _, _, _, _] F := A.I5 44
  replace A : HH g h10 [_, _, _, _, _, _, _, _, _, _, .obj h5.size (.cells none 2 [AF none (([] : List AK).length)]), _, _, _, _] F := (((((((((((((((A.front 14 rfl).front 14 rfl).front 14 rfl).front 14 rfl).front 14 rfl).front 5 rfl).front 13 rfl).front 13 rfl).front 13 rfl).front 13 rfl).front 13 rfl).front 13 rfl).front 13 rfl).front 14 rfl).front 14 rfl)
  obtain ⟨⟨x8, y1⟩, ho, hm⟩ := bind_some hm
  refine M5 (C := cfg) (x := .tmp 22) (ps := [23, 24]) (f' := 89) (first := []) (cap := [.ptr (some (bqw4_10, 0)), .ptr (some (bqw4_11, 0))]) (Lu := [.obj bqw4_10 (.cells none 2 [AF rp1 p1.length]), .AL rp1 44 (AL AA p1), .obj bqw4_11 (.cells none 2 [.ptr (some (bx1w1, 0))]), .obj bx1w1 (.cells none 2 [vs AE x1w1.c_.Ah, vs AE x1w1.c_.Aj, vs AI x1w1.c_.Bj, .bool x1w1.c_.G1, .bool x1w1.c_.BE, Ai x1w1.c_.Bc, .bool x1w1.c_.B4, Ai x1w1.c_.Ay.Cf, Ai x1w1.c_.Ay.Bb, Ai x1w1.c_.Ge, Ai x1w1.c_.Bz, Ai x1w1.c_.Name, Ai x1w1.c_.Head, Ai x1w1.c_.BU, AF rx1w1_14 x1w1.AR.length, AF rx1w1_15 x1w1.AU.length, .ptr (some (bx1w1_16, 0)), .ptr (some (bx1w1_17, 0))]), .AL rx1w1_14 136 (AL (eP AB) x1w1.AR), .AL rx1w1_15 136 (AL (eP AB) x1w1.AU), .obj bx1w1_16 (.cells none 2 [AF rx1w1_16_0 x1w1.AX.l_.length, Ai x1w1.AX.BM]), .AL rx1w1_16_0 142 (AL (eP AJ) x1w1.AX.l_), .obj bx1w1_17 (.cells none 2 ([Ai x1w1.Ae.n_, Ai x1w1.Ae.An] ++ (CW 257 (AD.int .i64) x1w1.Ae.Aw ++ [])))]) (Lc := [.AL none 44 (AL AA ([] : List AK)), .obj h5.size (.cells none 2 [AF none (([] : List AK).length)]), .obj h3.size (.cells none 2 [Ai 0]), .obj h2.size (.cells none 2 [Ai 0]), .obj h1.size (.cells none 2 [.slice none 0]), .obj h.size (.cells none 2 (AO p0))]) (F := F) (ex := fun x => [Ai x.1, .agg (B3 x.2)]) (Y := Fj) (PL := fun s Lc => ∃ (x4 : List AK), x4 = s ∧ ∃ (r1 : Option Nat), Lc = [.AL r1 44 (AL AA x4), .obj h5.size (.cells none 2 [AF r1 x4.length]), .obj h3.size (.cells none 2 [Ai 0]), .obj h2.size (.cells none 2 [Ai 0]), .obj h1.size (.cells none 2 [.slice none 0]), .obj h.size (.cells none 2 (AO p0))]) (PR := fun r Lc => (∃ (x5 : List AK) (x6 : Int) (x7 : Int), (x5, x6, x7) = r ∧ ∃ (r2 : Option Nat), Lc = [.AL r2 44 (AL AA x5), .obj h5.size (.cells none 2 [AF r2 x5.length]), .obj h3.size (.cells none 2 [Ai x6]), .obj h2.size (.cells none 2 [Ai x7]), .obj h1.size (.cells none 2 [AF r2 x5.length]), .obj h.size (.cells none 2 (AO p0))]) ∨ False) (pe := fun _ => .ret) (s := ([] : List AK)) (y := y1) (PU := fun L => L = [.obj bqw4_10 (.cells none 2 [AF rp1 p1.length]), .AL rp1 44 (AL AA p1), .obj bqw4_11 (.cells none 2 [.ptr (some (bx1w1, 0))]), .obj bx1w1 (.cells none 2 [vs AE x1w1.c_.Ah, vs AE x1w1.c_.Aj, vs AI x1w1.c_.Bj, .bool x1w1.c_.G1, .bool x1w1.c_.BE, Ai x1w1.c_.Bc, .bool x1w1.c_.B4, Ai x1w1.c_.Ay.Cf, Ai x1w1.c_.Ay.Bb, Ai x1w1.c_.Ge, Ai x1w1.c_.Bz, Ai x1w1.c_.Name, Ai x1w1.c_.Head, Ai x1w1.c_.BU, AF rx1w1_14 x1w1.AR.length, AF rx1w1_15 x1w1.AU.length, .ptr (some (bx1w1_16, 0)), .ptr (some (bx1w1_17, 0))]), .AL rx1w1_14 136 (AL (eP AB) x1w1.AR), .AL rx1w1_15 136 (AL (eP AB) x1w1.AU), .obj bx1w1_16 (.cells none 2 [AF rx1w1_16_0 x1w1.AX.l_.length, Ai x1w1.AX.BM]), .AL rx1w1_16_0 142 (AL (eP AJ) x1w1.AX.l_), .obj bx1w1_17 (.cells none 2 ([Ai x8.n_, Ai x8.An] ++ (CW 257 (AD.int .i64) x8.Aw ++ [])))]) (by kernel_rfl) H (fun fr => by kernel_rfl) (by kernel_rfl) (fun _ => rfl) (by kernel_rfl) A ⟨([] : List AK), rfl, none, rfl⟩ ?_ ?_ ?_ ?_ ?_
  ·refine KY H (kn := fun v1 => [(4, .ptr (some (h1.size, 0))), (5, .ptr (some (h2.size, 0))), (6, .ptr (some (h3.size, 0))), (9, .ptr (some (h5.size, 0))), (23, Ai v1.1), (24, .agg (B3 v1.2))]) (fun v1 fr => by kernel_rfl) ?_
   clear ho hm A H
   intro g h11 F s v1 o Lc fr H hP hm A
   obtain ⟨x4, rfl, r1, rfl⟩ := hP
   unfold Fj at hm
   show AW _ _ _ _ _ _ _
   refine AH 1 (Bk 1 [(4, .ptr (some (h1.size, 0))), (5, .ptr (some (h2.size, 0))), (6, .ptr (some (h3.size, 0))), (9, .ptr (some (h5.size, 0))), (10, Ai v1.1), (24, .agg (B3 v1.2))] H fun fr H => Ij 2 id ?_)
   obtain ⟨h12, e6, A⟩ := A.pu (.cells none 2 [.str ([] : List UInt8), .str ([] : List UInt8), Ab 0, Ai 0, Ai 0, Ai 0, .str ([] : List UInt8), .str ([] : List UInt8), Ai 0, Ai 0, Ai 0, Ai 0, .slice none 0, .str ([] : List UInt8), Ai 0, Ai 0])
   refine A7 11 (.ptr (some (h11.size, 0))) e6 H fun fr t H => ?_
   obtain ⟨h13, hx, A1⟩ := A.st 0 rfl (o := 0) (new := [.str v1.2.m_.Name, .str v1.2.m_.Be, Ab v1.2.m_.Kind, Ai v1.2.m_.Mode, Ai v1.2.m_.De, Ai v1.2.m_.ET, .str v1.2.m_.B1, .str v1.2.m_.CI, Ai v1.2.m_.CG, Ai v1.2.m_.Da, Ai v1.2.m_.Time.Cf, Ai v1.2.m_.Time.Bb, vs Ad v1.2.m_.Extra, .str v1.2.m_.Data, Ai v1.2.RI, Ai v1.2.e_]) (ds := [.str v1.2.m_.Name, .str v1.2.m_.Be, Ab v1.2.m_.Kind, Ai v1.2.m_.Mode, Ai v1.2.m_.De, Ai v1.2.m_.ET, .str v1.2.m_.B1, .str v1.2.m_.CI, Ai v1.2.m_.CG, Ai v1.2.m_.Da, Ai v1.2.m_.Time.Cf, Ai v1.2.m_.Time.Bb, vs Ad v1.2.m_.Extra, .str v1.2.m_.Data, Ai v1.2.RI, Ai v1.2.e_]) (Nat.le_of_ble_eq_true rfl) rfl rfl
   replace A : HH g h13 [.obj h11.size (.cells none 2 (B3 v1.2)), .AL r1 44 (AL AA x4), .obj h5.size (.cells none 2 [AF r1 x4.length]), .obj h3.size (.cells none 2 [Ai 0]), .obj h2.size (.cells none 2 [Ai 0]), .obj h1.size (.cells none 2 [.slice none 0]), .obj h.size (.cells none 2 (AO p0))] F := A1
   refine FX hx H fun fr t H => ?_
   refine at_nil ?_
   refine ⟨rfl, _, A, ?_⟩
   clear A
   intro h14 F A
   show AW _ _ _ _ _ _ _
   refine Aa (id := 1) (by kernel_rfl) ?_
   refine AV (AH 3 (AZ 1 [] 26 0 15 A H fun fr t H => ?_))
   refine AP 1 [(27, .bool (v1.2.e_ != 0))] H fun fr H => Ak 27 H hm (fun hb hm H => ?_) fun hb hm H => ?_
   ·refine AV (Kg 9 7 [(0, []), (1, []), (2, []), (3, []), (4, [3]), (5, [3]), (6, [])] ?_)
    refine CO 28 (AF r1 x4.length) h14 [(0, h5.size)] (g.Bm) H (fun fr => .of (DU (by kernel_rfl) (A.l1 2 0))) (fun fr H => ?_)
    refine AG 2 [(29, Ai v1.1), (30, .ptr (some (h11.size, 15)))] H fun fr H => CO 31 (Ai v1.2.e_) h14 [(3, h11.size), (0, h5.size)] (g.Bm) H (fun fr => .of (DU (by kernel_rfl) (A.l1 0 15))) (fun fr H => ?_)
    replace A : HH g h14 [.obj h1.size (.cells none 2 [.slice none 0]), .obj h11.size (.cells none 2 (B3 v1.2)), .AL r1 44 (AL AA x4), .obj h5.size (.cells none 2 [AF r1 x4.length]), .obj h3.size (.cells none 2 [Ai 0]), .obj h2.size (.cells none 2 [Ai 0]), .obj h.size (.cells none 2 (AO p0))] F := (A.front 5 rfl)
    have A1 := A.G4 1 (pr := [h11.size]) (.cons 0 rfl (by simp [Ck.ids]) .nil)
    obtain ⟨h15, hx, A1⟩ := A1.st 0 rfl (o := 0) (new := [AF r1 x4.length]) (ds := [AF r1 x4.length]) (Nat.le_of_ble_eq_true rfl) rfl rfl
    replace A := A.Wm A1
    refine I7 (.tuple []) h15 [(3, h11.size), (0, h5.size)] (h11.size :: g.Bm) H (fun fr => .of (MT (by kernel_rfl) rfl hx)) (fun fr H => ?_)
    replace A := A.k7 5 0 1 2 3 4 6
    have A1 := A.G4 1 (pr := [h11.size]) (.cons 1 rfl (by simp [Ck.ids]) .nil)
    obtain ⟨h16, hx, A1⟩ := A1.st 0 rfl (o := 0) (new := [Ai v1.1]) (ds := [Ai v1.1]) (Nat.le_of_ble_eq_true rfl) rfl rfl
    replace A := A.Wm A1
    refine I7 (.tuple []) h16 [(3, h11.size), (0, h5.size)] (h11.size :: g.Bm) H (fun fr => .of (MT (by kernel_rfl) rfl hx)) (fun fr H => ?_)
    obtain ⟨h17, hx, A⟩ := A.s5 0 [Ai v1.2.e_] [_]
    refine I7 (.tuple []) h17 [(3, h11.size), (0, h5.size)] (g.Bm) H (fun fr => .of (MT (by kernel_rfl) rfl hx)) (fun fr H => ?_)
    refine BF id (AY ?_)
    replace A := A.k6 3 4 5 0 1 6
    have e1 := Option.some.inj hm
    subst e1
    exact ⟨rfl, _, Or.inl ⟨x4, v1.2.e_, v1.1, rfl, r1, rfl⟩, A⟩
   refine Cc 3 id (AZ 1 [] 33 0 14 A H fun fr t H => ?_)
   refine AP 1 [(34, .bool (v1.2.RI == 0))] H fun fr H => Ak 34 H hm (fun hb hm H => ?_) fun hb hm H => ?_
   ·refine ED 6 (Ek 35 2 0 A H fun fr t H => ?_)
    refine Ax 1 [] 37 _ _ H (fun fr => .of (B5 (by kernel_rfl) (A.GQ 0 rfl (o := 0) (n := 14) ⟨Nat.le_of_ble_eq_true rfl, rfl⟩))) fun fr t H => ?_
    obtain ⟨h18, e7, A⟩ := A.pL 44 [.str v1.2.m_.Name, .str v1.2.m_.Be, Ab v1.2.m_.Kind, Ai v1.2.m_.Mode, Ai v1.2.m_.De, Ai v1.2.m_.ET, .str v1.2.m_.B1, .str v1.2.m_.CI, Ai v1.2.m_.CG, Ai v1.2.m_.Da, Ai v1.2.m_.Time.Cf, Ai v1.2.m_.Time.Bb, vs Ad v1.2.m_.Extra, .str v1.2.m_.Data]
    refine A7 38 (AF (some h14.size) (([v1.2.m_] : List AK).length)) e7 H fun fr t H => ?_
    obtain ⟨hb, hm⟩ := BQ hm
    obtain ⟨r3, h19, hx, A1⟩ := HH.Lo BL (by decide) A 2 (xs := x4) (ys := ([v1.2.m_] : List AK)) rfl (DM A 0 rfl (n := ([v1.2.m_] : List AK).length) (z := 14) rfl (by decide)) rfl rfl hb
    replace A : HH g h19 [.AL (some h14.size) 44 ([.str v1.2.m_.Name, .str v1.2.m_.Be, Ab v1.2.m_.Kind, Ai v1.2.m_.Mode, Ai v1.2.m_.De, Ai v1.2.m_.ET, .str v1.2.m_.B1, .str v1.2.m_.CI, Ai v1.2.m_.CG, Ai v1.2.m_.Da, Ai v1.2.m_.Time.Cf, Ai v1.2.m_.Time.Bb, vs Ad v1.2.m_.Extra, .str v1.2.m_.Data]), .obj h11.size (.cells none 2 (B3 v1.2)), .AL r3 44 (AL AA (x4 ++ ([v1.2.m_] : List AK))), .obj h5.size (.cells none 2 [AF r1 x4.length]), .obj h3.size (.cells none 2 [Ai 0]), .obj h2.size (.cells none 2 [Ai 0]), .obj h1.size (.cells none 2 [.slice none 0]), .obj h.size (.cells none 2 (AO p0))] F := A1
    replace A := A.k7 1 2 3 4 5 6 7
    refine As 39 _ _ H (fun fr => .of (IE (s := DP r1 x4.length) (by kernel_rfl) hx)) fun fr t H => ?_
    obtain ⟨h20, hx, A1⟩ := A.st 2 rfl (o := 0) (new := [AF r3 ((x4 ++ ([v1.2.m_] : List AK)).length)]) (ds := [AF r3 ((x4 ++ ([v1.2.m_] : List AK)).length)]) (Nat.le_of_ble_eq_true rfl) rfl rfl
    replace A : HH g h20 [_, _, .obj h5.size (.cells none 2 [AF r3 ((x4 ++ ([v1.2.m_] : List AK)).length)]), _, _, _, _] F := A1
    refine Ep hx H fun fr t H => ?_
    refine at_nil ?_
    replace A := A.k6 1 2 3 4 5 6
    have e1 := Option.some.inj hm
    subst e1
    exact ⟨rfl, _, ⟨(x4 ++ ([v1.2.m_] : List AK)), rfl, r3, rfl⟩, A⟩
   refine HG ?_
   replace A : HH g h14 [.AL r1 44 (AL AA x4), .obj h5.size (.cells none 2 [AF r1 x4.length]), .obj h3.size (.cells none 2 [Ai 0]), .obj h2.size (.cells none 2 [Ai 0]), .obj h1.size (.cells none 2 [.slice none 0]), .obj h.size (.cells none 2 (AO p0))] F := (HH.H2 ((((((A.front 6 rfl).front 6 rfl).front 6 rfl).front 6 rfl).front 6 rfl).front 6 rfl) 6)
   have e1 := Option.some.inj hm
   subst e1
   exact ⟨rfl, _, ⟨x4, rfl, r1, rfl⟩, A⟩
  ·intro h1 l F1 R hYR B A
   obtain ⟨v1, h2, hr, _, F2, B, A⟩ := H5 (av := [.KJ l, .ptr (some (bqw4_10, 0)), .ptr (some (bqw4_11, 0))]) ho (by kernel_rfl) hYR B A
   exact ⟨v1, h2, F2, _, hr, B, rfl, A⟩
  ·clear ho A
   intro s2 h21 Lc Lu ey hP hU A
   subst ey
   obtain ⟨x4, rfl, r1, rfl⟩ := hP
   subst hU
   replace A : HH g h21 [.obj bqw4_10 (.cells none 2 [AF rp1 p1.length]), .AL rp1 44 (AL AA p1), .obj bqw4_11 (.cells none 2 [.ptr (some (bx1w1, 0))]), .obj bx1w1 (.cells none 2 [vs AE x1w1.c_.Ah, vs AE x1w1.c_.Aj, vs AI x1w1.c_.Bj, .bool x1w1.c_.G1, .bool x1w1.c_.BE, Ai x1w1.c_.Bc, .bool x1w1.c_.B4, Ai x1w1.c_.Ay.Cf, Ai x1w1.c_.Ay.Bb, Ai x1w1.c_.Ge, Ai x1w1.c_.Bz, Ai x1w1.c_.Name, Ai x1w1.c_.Head, Ai x1w1.c_.BU, AF rx1w1_14 x1w1.AR.length, AF rx1w1_15 x1w1.AU.length, .ptr (some (bx1w1_16, 0)), .ptr (some (bx1w1_17, 0))]), .AL rx1w1_14 136 (AL (eP AB) x1w1.AR), .AL rx1w1_15 136 (AL (eP AB) x1w1.AU), .obj bx1w1_16 (.cells none 2 [AF rx1w1_16_0 x1w1.AX.l_.length, Ai x1w1.AX.BM]), .AL rx1w1_16_0 142 (AL (eP AJ) x1w1.AX.l_), .obj bx1w1_17 (.cells none 2 ([Ai x8.n_, Ai x8.An] ++ (CW 257 (AD.int .i64) x8.Aw ++ []))), .AL r1 44 (AL AA x4), .obj h5.size (.cells none 2 [AF r1 x4.length]), .obj h3.size (.cells none 2 [Ai 0]), .obj h2.size (.cells none 2 [Ai 0]), .obj h1.size (.cells none 2 [.slice none 0]), .obj h.size (.cells none 2 (AO p0))] F := A
   show AW _ _ _ _ _ _ _
   refine AH 4 (OE (v := AF r1 x4.length) (h1 := h21) [(4, .ptr (some (h1.size, 0))), (5, .ptr (some (h2.size, 0))), (6, .ptr (some (h3.size, 0))), (40, AF r1 x4.length)] H (fun fr => by kernel_rfl) (fun fr => .of (DU (by kernel_rfl) (A.l1 10 0))) ?_)
   intro fr t H
   obtain ⟨h22, hx, A1⟩ := A.st 13 rfl (o := 0) (new := [AF r1 x4.length]) (ds := [AF r1 x4.length]) (Nat.le_of_ble_eq_true rfl) rfl rfl
   replace A : HH g h22 [_, _, _, _, _, _, _, _, _, _, _, _, _, .obj h1.size (.cells none 2 [AF r1 x4.length]), _] F := A1
   refine Ep hx H fun fr t H => ?_
   obtain ⟨h23, hx, A1⟩ := A.st 12 rfl (o := 0) (new := [Ai 0]) (ds := [Ai 0]) (Nat.le_of_ble_eq_true rfl) rfl rfl
   replace A : HH g h23 [_, _, _, _, _, _, _, _, _, _, _, _, _, _, _] F := A1
   refine Ep hx H fun fr t H => ?_
   obtain ⟨h24, hx, A1⟩ := A.st 11 rfl (o := 0) (new := [Ai 0]) (ds := [Ai 0]) (Nat.le_of_ble_eq_true rfl) rfl rfl
   replace A : HH g h24 [_, _, _, _, _, _, _, _, _, _, _, _, _, _, _] F := A1
   refine Ep hx H fun fr t H => ?_
   refine BF id (AY ?_)
   obtain ⟨rfl, rfl, rfl⟩ := HY hm
   refine ⟨.inl rfl, .tuple [AF r1 x4.length, Ai 0, Ai 0], B8 (.cell (rT H) (C3 (by kernel_rfl) (A.l1 13 0)) (.cell (rT H) (C3 (by kernel_rfl) (A.l1 12 0)) (.cell (rT H) (C3 (by kernel_rfl) (A.l1 11 0)) .nil))), ?_⟩
   replace A := A.k2 9 1
   exact ⟨r1, rfl, A⟩
  ·clear ho A
   intro r2 h21 Lc Lu e ey he hP hU A
   subst ey
   subst hU
   rcases hP with ⟨x5, x6, x7, rfl, r2, rfl⟩ | hF
   ·obtain rfl := KA he
    replace A : HH g h21 [.obj bqw4_10 (.cells none 2 [AF rp1 p1.length]), .AL rp1 44 (AL AA p1), .obj bqw4_11 (.cells none 2 [.ptr (some (bx1w1, 0))]), .obj bx1w1 (.cells none 2 [vs AE x1w1.c_.Ah, vs AE x1w1.c_.Aj, vs AI x1w1.c_.Bj, .bool x1w1.c_.G1, .bool x1w1.c_.BE, Ai x1w1.c_.Bc, .bool x1w1.c_.B4, Ai x1w1.c_.Ay.Cf, Ai x1w1.c_.Ay.Bb, Ai x1w1.c_.Ge, Ai x1w1.c_.Bz, Ai x1w1.c_.Name, Ai x1w1.c_.Head, Ai x1w1.c_.BU, AF rx1w1_14 x1w1.AR.length, AF rx1w1_15 x1w1.AU.length, .ptr (some (bx1w1_16, 0)), .ptr (some (bx1w1_17, 0))]), .AL rx1w1_14 136 (AL (eP AB) x1w1.AR), .AL rx1w1_15 136 (AL (eP AB) x1w1.AU), .obj bx1w1_16 (.cells none 2 [AF rx1w1_16_0 x1w1.AX.l_.length, Ai x1w1.AX.BM]), .AL rx1w1_16_0 142 (AL (eP AJ) x1w1.AX.l_), .obj bx1w1_17 (.cells none 2 ([Ai x8.n_, Ai x8.An] ++ (CW 257 (AD.int .i64) x8.Aw ++ []))), .AL r2 44 (AL AA x5), .obj h5.size (.cells none 2 [AF r2 x5.length]), .obj h3.size (.cells none 2 [Ai x6]), .obj h2.size (.cells none 2 [Ai x7]), .obj h1.size (.cells none 2 [AF r2 x5.length]), .obj h.size (.cells none 2 (AO p0))] F := A
    obtain ⟨rfl, rfl, rfl⟩ := HY hm
    refine ⟨.inl rfl, .tuple [AF r2 x5.length, Ai x7, Ai x6], B8 (.cell (rT H) (C3 (by kernel_rfl) (A.l1 13 0)) (.cell (rT H) (C3 (by kernel_rfl) (A.l1 12 0)) (.cell (rT H) (C3 (by kernel_rfl) (A.l1 11 0)) .nil))), ?_⟩
    replace A := A.k2 9 1
    exact ⟨r2, rfl, A⟩
   exact hF.elim
  exact fun _ => ⟨.ret, rfl⟩
 replace A : HH g h5 [.obj h3.size (.cells none 2 [Ai (0 : Int)]), .obj h2.size (.cells none 2 [Ai (0 : Int)]), .obj h1.size (.cells none 2 [.slice none 0]), .obj h.size (.cells none 2 (AO p0)), _] F := A.CY (n := 0) A1
 refine A8 14 hr H fun fr t H => ?_
 refine AP 5 [(7, .ptr none), (8, Ai x2)] H fun fr H => AV (AH 2 (AP 2 [(18, .bool (x2 != 0))] H fun fr H => Ak 18 H hm (fun hb hm H => ?_) fun hb hm H => ?_))
 ·refine AH 4 ?_
  obtain ⟨h25, hx, A⟩ := A.s2 0 [.slice none 0] [_]
  refine FH 1 [(19, Ai x2)] hx H fun fr t H => ?_
  obtain ⟨h26, hx, A⟩ := A.s1 0 [Ai 0] [_]
  refine Ep hx H fun fr t H => ?_
  obtain ⟨h27, hx, A⟩ := A.s0 0 [Ai x2] [_]
  refine Ep hx H fun fr t H => ?_
  refine BF id (AY ?_)
  obtain ⟨rfl, rfl, rfl⟩ := HY hm
  refine ⟨.inl rfl, .tuple [.slice none 0, Ai 0, Ai x2], B8 (.cell (rT H) (C3 (by kernel_rfl) (A.l1 2 0)) (.cell (rT H) (C3 (by kernel_rfl) (A.l1 1 0)) (.cell (rT H) (C3 (by kernel_rfl) (A.l1 0 0)) .nil))), ?_⟩
  replace A : HH g h27 [.AL none 44 (AL AA ([] : List AK)), _, _, _, _, _] F := A.I5 44
  replace A := A.k2 0 5
  exact ⟨none, rfl, A⟩
 refine Cc 1 id ?_
 obtain ⟨h28, e8, A⟩ := A.pu (.cells none 2 [.slice none 0])
 refine A7 9 (.ptr (some (h5.size, 0))) e8 H fun fr t H => ?_
 refine BF id (AV (AH 3 ?_))
 cases hm
def DQ : Option (Bool) :=
 (Ii ([101, 120, 99, 108, 117, 100, 101, 32, 98] : List UInt8)).bind fun (x1, x2, x3) => (GN x1 ([(⟨([97] : List UInt8), ([] : List UInt8), (0 : Int), (0 : Int), (0 : Int), (0 : Int), ([] : List UInt8), ([] : List UInt8), (0 : Int), (0 : Int), (⟨(0 : Int), (0 : Int)⟩ : Ar), ([] : List Am), ([] : List UInt8)⟩ : AK), (⟨([98] : List UInt8), ([] : List UInt8), (0 : Int), (0 : Int), (0 : Int), (0 : Int), ([] : List UInt8), ([] : List UInt8), (0 : Int), (0 : Int), (⟨(0 : Int), (0 : Int)⟩ : Ar), ([] : List Am), ([] : List UInt8)⟩ : AK), (⟨([99] : List UInt8), ([] : List UInt8), (0 : Int), (0 : Int), (0 : Int), (0 : Int), ([] : List UInt8), ([] : List UInt8), (0 : Int), (0 : Int), (⟨(0 : Int), (0 : Int)⟩ : Ar), ([] : List Am), ([] : List UInt8)⟩ : AK)] : List AK)).bind fun (x4, x5, x6) => (Af (((x3 == 0) && (x6 == 0)) && ((x4.length : Int) == 2)) ((GP x4 (0 : Int)).bind fun x8 => some (x8.Name == ([97] : List UInt8))) (some false) : Option (Bool)).bind fun x7 => (Af x7 ((GP x4 (1 : Int)).bind fun x10 => some (x10.Name == ([99] : List UInt8))) (some false) : Option (Bool)).bind fun x9 => some x9
theorem Fv {q0} (hm : DQ = some q0) (A : HH g h [] F) (hc : BH (cfg.still 18) av = [] := by kernel_rfl) : ∃ v h', BN cfg g h 18 av v h' ∧ v = .bool q0 ∧ HH g h' [] F := by
 refine Dr 47 [.tmp 0] hc ?_
 clear hc
 unfold DQ at hm
 refine bg 47 [] fun fr H => ?_
 refine AH 1 (Bn 1 [] 9 H fun fr H => ?_)
 obtain ⟨⟨x1, x2, x3⟩, hx, hm⟩ := bind_some hm
 obtain ⟨v1, h1, hr, rfl, A1⟩ := Ny (av := [.str ([101, 120, 99, 108, 117, 100, 101, 32, 98] : List UInt8)]) hx (A.cut 0)
 replace A := A.E8 A1
 refine A8 8 hr H fun fr t H => ?_
 obtain ⟨h2, e1, A⟩ := A.pu (.cells none 2 [.slice none 0, .slice none 0, .slice none 0, .bool false, .bool false, Ai 0, .bool false, Ai 0, Ai 0, Ai 0, Ai 0, Ai 0, Ai 0, Ai 0])
 refine JI 4 [(9, .agg (AO x1)), (10, Ai x2), (11, Ai x3)] 1 (.ptr (some (h1.size, 0))) e1 H fun fr t H => ?_
 obtain ⟨h3, hx, A⟩ := A.s0 0 (AO x1) [_, _, _, _, _, _, _, _, _, _, _, _, _, _]
 refine FX hx H fun fr t H => ?_
 refine Bn 2 [(3, Ai x3)] 13 H fun fr H => As 13 _ _ H (fun fr => .of (B5 (by kernel_rfl) (A.GQ 0 rfl (o := 0) (n := 14) ⟨Nat.le_of_ble_eq_true rfl, rfl⟩))) fun fr t H => ?_
 refine AG 3 [(14, .agg [.str ([97] : List UInt8), .str ([] : List UInt8), Ab 0, Ai 0, Ai 0, Ai 0, .str ([] : List UInt8), .str ([] : List UInt8), Ai 0, Ai 0, Ai 0, Ai 0, .slice none 0, .str ([] : List UInt8)]), (15, .agg [.str ([98] : List UInt8), .str ([] : List UInt8), Ab 0, Ai 0, Ai 0, Ai 0, .str ([] : List UInt8), .str ([] : List UInt8), Ai 0, Ai 0, Ai 0, Ai 0, .slice none 0, .str ([] : List UInt8)]), (16, .agg [.str ([99] : List UInt8), .str ([] : List UInt8), Ab 0, Ai 0, Ai 0, Ai 0, .str ([] : List UInt8), .str ([] : List UInt8), Ai 0, Ai 0, Ai 0, Ai 0, .slice none 0, .str ([] : List UInt8)])] H fun fr H => ?_
 obtain ⟨h4, e2, A⟩ := A.pL 44 [.str ([97] : List UInt8), .str ([] : List UInt8), Ab 0, Ai 0, Ai 0, Ai 0, .str ([] : List UInt8), .str ([] : List UInt8), Ai 0, Ai 0, Ai 0, Ai 0, vs Ad ([] : List Am), .str ([] : List UInt8), .str ([98] : List UInt8), .str ([] : List UInt8), Ab 0, Ai 0, Ai 0, Ai 0, .str ([] : List UInt8), .str ([] : List UInt8), Ai 0, Ai 0, Ai 0, Ai 0, vs Ad ([] : List Am), .str ([] : List UInt8), .str ([99] : List UInt8), .str ([] : List UInt8), Ab 0, Ai 0, Ai 0, Ai 0, .str ([] : List UInt8), .str ([] : List UInt8), Ai 0, Ai 0, Ai 0, Ai 0, vs Ad ([] : List Am), .str ([] : List UInt8)]
 refine A7 17 (AF (some h3.size) (([(⟨([97] : List UInt8), ([] : List UInt8), (0 : Int), (0 : Int), (0 : Int), (0 : Int), ([] : List UInt8), ([] : List UInt8), (0 : Int), (0 : Int), (⟨(0 : Int), (0 : Int)⟩ : Ar), ([] : List Am), ([] : List UInt8)⟩ : AK), (⟨([98] : List UInt8), ([] : List UInt8), (0 : Int), (0 : Int), (0 : Int), (0 : Int), ([] : List UInt8), ([] : List UInt8), (0 : Int), (0 : Int), (⟨(0 : Int), (0 : Int)⟩ : Ar), ([] : List Am), ([] : List UInt8)⟩ : AK), (⟨([99] : List UInt8), ([] : List UInt8), (0 : Int), (0 : Int), (0 : Int), (0 : Int), ([] : List UInt8), ([] : List UInt8), (0 : Int), (0 : Int), (⟨(0 : Int), (0 : Int)⟩ : Ar), ([] : List Am), ([] : List UInt8)⟩ : AK)] : List AK).length)) e2 H fun fr t H => ?_
 replace A : HH g h4 [.AL (some h3.size) 44 (AL AA ([(⟨([97] : List UInt8), ([] : List UInt8), (0 : Int), (0 : Int), (0 : Int), (0 : Int), ([] : List UInt8), ([] : List UInt8), (0 : Int), (0 : Int), (⟨(0 : Int), (0 : Int)⟩ : Ar), ([] : List Am), ([] : List UInt8)⟩ : AK), (⟨([98] : List UInt8), ([] : List UInt8), (0 : Int), (0 : Int), (0 : Int), (0 : Int), ([] : List UInt8), ([] : List UInt8), (0 : Int), (0 : Int), (⟨(0 : Int), (0 : Int)⟩ : Ar), ([] : List Am), ([] : List UInt8)⟩ : AK), (⟨([99] : List UInt8), ([] : List UInt8), (0 : Int), (0 : Int), (0 : Int), (0 : Int), ([] : List UInt8), ([] : List UInt8), (0 : Int), (0 : Int), (⟨(0 : Int), (0 : Int)⟩ : Ar), ([] : List Am), ([] : List UInt8)⟩ : AK)] : List AK)), _] F := A
 obtain ⟨⟨x4, x5, x6⟩, hx, hm⟩ := bind_some hm
 obtain ⟨v1, h5, hr, rqw4, rfl, A1⟩ := LO (av := [.agg (AO x1), AF (some h3.size) (([(⟨([97] : List UInt8), ([] : List UInt8), (0 : Int), (0 : Int), (0 : Int), (0 : Int), ([] : List UInt8), ([] : List UInt8), (0 : Int), (0 : Int), (⟨(0 : Int), (0 : Int)⟩ : Ar), ([] : List Am), ([] : List UInt8)⟩ : AK), (⟨([98] : List UInt8), ([] : List UInt8), (0 : Int), (0 : Int), (0 : Int), (0 : Int), ([] : List UInt8), ([] : List UInt8), (0 : Int), (0 : Int), (⟨(0 : Int), (0 : Int)⟩ : Ar), ([] : List Am), ([] : List UInt8)⟩ : AK), (⟨([99] : List UInt8), ([] : List UInt8), (0 : Int), (0 : Int), (0 : Int), (0 : Int), ([] : List UInt8), ([] : List UInt8), (0 : Int), (0 : Int), (⟨(0 : Int), (0 : Int)⟩ : Ar), ([] : List Am), ([] : List UInt8)⟩ : AK)] : List AK).length)]) hx (A.cut 1)
 replace A : HH g h5 [.AL rqw4 44 (AL AA x4), .AL (some h3.size) 44 (AL AA ([(⟨([97] : List UInt8), ([] : List UInt8), (0 : Int), (0 : Int), (0 : Int), (0 : Int), ([] : List UInt8), ([] : List UInt8), (0 : Int), (0 : Int), (⟨(0 : Int), (0 : Int)⟩ : Ar), ([] : List Am), ([] : List UInt8)⟩ : AK), (⟨([98] : List UInt8), ([] : List UInt8), (0 : Int), (0 : Int), (0 : Int), (0 : Int), ([] : List UInt8), ([] : List UInt8), (0 : Int), (0 : Int), (⟨(0 : Int), (0 : Int)⟩ : Ar), ([] : List Am), ([] : List UInt8)⟩ : AK), (⟨([99] : List UInt8), ([] : List UInt8), (0 : Int), (0 : Int), (0 : Int), (0 : Int), ([] : List UInt8), ([] : List UInt8), (0 : Int), (0 : Int), (⟨(0 : Int), (0 : Int)⟩ : Ar), ([] : List Am), ([] : List UInt8)⟩ : AK)] : List AK)), _] F := A.CY (n := 1) A1
 refine A8 18 hr H fun fr t H => ?_
 refine Bn 7 [(4, AF rqw4 x4.length), (6, Ai x6)] 26 H fun fr H => AG 3 [(24, .bool (x3 == 0))] H fun fr H => Aq 3 (fun fr' h' => h5 = h' ∧ Has fr' 47 [(4, AF rqw4 x4.length), (27, .bool ((x3 == 0) && (x6 == 0)))]) ?_ ?_
 ·cases hb : (x3 == 0 : Bool) with
  | true =>
   replace H := H.kn 24 hb
   exact AG 3 [(27, .bool (x6 == 0))] H fun fr H => Ap H hb
  | false =>
   replace H := H.kn 24 hb
   exact AG 3 [(27, .bool false)] H fun fr H => Ap H hb
 intro t fr h' hK
 obtain ⟨e, H⟩ := hK
 subst e
 refine AG 1 [(28, .bool ((x3 == 0) && (x6 == 0)))] H fun fr H => Aq 4 (fun fr' h' => h5 = h' ∧ Has fr' 47 [(4, AF rqw4 x4.length), (32, .bool (((x3 == 0) && (x6 == 0)) && ((x4.length : Int) == 2)))]) ?_ ?_
 ·cases hb : ((x3 == 0) && (x6 == 0) : Bool) with
  | true =>
   replace H := H.kn 28 hb
   exact AG 4 [(32, .bool ((x4.length : Int) == 2))] H fun fr H => Ap H hb
  | false =>
   replace H := H.kn 28 hb
   exact AG 4 [(32, .bool false)] H fun fr H => Ap H hb
 intro t fr h' hK
 obtain ⟨e, H⟩ := hK
 subst e
 refine AG 1 [(33, .bool (((x3 == 0) && (x6 == 0)) && ((x4.length : Int) == 2)))] H fun fr H => ?_
 obtain ⟨x7, ho, hm⟩ := bind_some hm
 refine Aq 6 (fun fr' h' => Has fr' 47 [(4, AF rqw4 x4.length), (39, .bool x7)] ∧ HH g h' [.AL rqw4 44 (AL AA x4), .obj h1.size (.cells none 2 (AO x1))] F) ?_ ?_
 ·rcases Ac ho with ⟨hb, hm⟩ | ⟨hb, hm⟩
  ·replace H := H.kn 33 hb
   obtain ⟨x8, hx, hm⟩ := bind_some hm
   obtain ⟨i1, er1, _, hx, hq1⟩ := HH.Ll BL (by decide) A 0 (xs := x4) rfl hx
   refine Ax 1 [] 35 (.ptr (some (i1, (0 : Int).toNat * 14))) h5 H (fun fr => .of (D7 (s := DP rqw4 x4.length) (by kernel_rfl) hx)) fun fr t H => ?_
   refine Ax 1 [] 37 _ _ H (fun fr => .of (DU (by kernel_rfl) (EP BL (HH.row A 0 rfl er1) hq1 (o := 0) rfl))) fun fr t H => ?_
   refine AG 2 [(39, .bool (x8.Name == ([97] : List UInt8)))] H fun fr H => ?_
   obtain rfl := Ag hm
   replace A := A.k2 0 2
   exact at_nil ⟨H.ls, A⟩
  replace H := H.kn 33 hb
  refine AG 6 [(39, .bool false)] H fun fr H => ?_
  obtain rfl := Ag hm
  replace A := A.k2 0 2
  exact at_nil ⟨H.ls, A⟩
 clear A
 intro t fr h6 hK
 obtain ⟨H, A⟩ := hK
 refine AG 1 [(40, .bool x7)] H fun fr H => ?_
 obtain ⟨x9, ho, hm⟩ := bind_some hm
 refine Aq 6 (fun fr' h' => Has fr' 47 [(46, .bool x9)] ∧ HH g h' [.obj h1.size (.cells none 2 (AO x1))] F) ?_ ?_
 ·rcases Ac ho with ⟨hb, hm⟩ | ⟨hb, hm⟩
  ·replace H := H.kn 40 hb
   obtain ⟨x10, hx, hm⟩ := bind_some hm
   obtain ⟨i2, er2, _, hx, hq2⟩ := HH.Ll BL (by decide) A 0 (xs := x4) rfl hx
   refine Ax 1 [] 42 (.ptr (some (i2, (1 : Int).toNat * 14))) h6 H (fun fr => .of (D7 (s := DP rqw4 x4.length) (by kernel_rfl) hx)) fun fr t H => ?_
   refine Ax 1 [] 44 _ _ H (fun fr => .of (DU (by kernel_rfl) (EP BL (HH.row A 0 rfl er2) hq2 (o := 0) rfl))) fun fr t H => ?_
   refine AG 2 [(46, .bool (x10.Name == ([99] : List UInt8)))] H fun fr H => ?_
   obtain rfl := Ag hm
   replace A := A.k1 1
   exact at_nil ⟨H.ls, A⟩
  replace H := H.kn 40 hb
  refine AG 6 [(46, .bool false)] H fun fr H => ?_
  obtain rfl := Ag hm
  replace A := A.k1 1
  exact at_nil ⟨H.ls, A⟩
 clear A
 intro t fr h7 hK
 obtain ⟨H, A⟩ := hK
 refine AP 1 [(0, .bool x9)] H fun fr H => AY ?_
 obtain rfl := Ag hm
 refine ⟨.inl rfl, .bool x9, rH H, ?_⟩
 replace A := A.d0
 exact ⟨rfl, A⟩
def Es (p0 : List UInt8) : Option (Bool) :=
 some ((((((((p0 == ([103, 105, 100] : List UInt8)) || (p0 == ([103, 110, 97, 109, 101] : List UInt8))) || (p0 == ([108, 105, 110, 107, 112, 97, 116, 104] : List UInt8))) || (p0 == ([109, 116, 105, 109, 101] : List UInt8))) || (p0 == ([112, 97, 116, 104] : List UInt8))) || (p0 == ([115, 105, 122, 101] : List UInt8))) || (p0 == ([117, 105, 100] : List UInt8))) || (p0 == ([117, 110, 97, 109, 101] : List UInt8)))
theorem Km {p0 q0} (hm : Es p0 = some q0) (A : HH g h [] F) (hc : BH (cfg.still 38) av = [.str p0] := by kernel_rfl) : ∃ v h', BN cfg g h 38 av v h' ∧ v = .bool q0 ∧ HH g h' [] F := by
 refine Dr 33 [.tmp 2] hc ?_
 clear hc
 unfold Es at hm
 refine bg 33 [(0, .str p0)] fun fr H => ?_
 refine AH 1 (Bn 1 [] 31 H fun fr H => AG 3 [(5, .bool (p0 == ([103, 105, 100] : List UInt8)))] H fun fr H => Aq 3 (fun fr' h' => h = h' ∧ Has fr' 33 [(0, .str p0), (8, .bool ((p0 == ([103, 105, 100] : List UInt8)) || (p0 == ([103, 110, 97, 109, 101] : List UInt8))))]) ?_ ?_)
 ·cases hb : (p0 == ([103, 105, 100] : List UInt8) : Bool) with
  | true =>
   replace H := H.kn 5 hb
   exact AG 3 [(8, .bool true)] H fun fr H => Ap H hb
  | false =>
   replace H := H.kn 5 hb
   exact AG 3 [(8, .bool (p0 == ([103, 110, 97, 109, 101] : List UInt8)))] H fun fr H => Ap H hb
 intro t fr h' hK
 obtain ⟨e, H⟩ := hK
 subst e
 refine AG 1 [(9, .bool ((p0 == ([103, 105, 100] : List UInt8)) || (p0 == ([103, 110, 97, 109, 101] : List UInt8))))] H fun fr H => Aq 3 (fun fr' h' => h = h' ∧ Has fr' 33 [(0, .str p0), (12, .bool (((p0 == ([103, 105, 100] : List UInt8)) || (p0 == ([103, 110, 97, 109, 101] : List UInt8))) || (p0 == ([108, 105, 110, 107, 112, 97, 116, 104] : List UInt8))))]) ?_ ?_
 ·cases hb : ((p0 == ([103, 105, 100] : List UInt8)) || (p0 == ([103, 110, 97, 109, 101] : List UInt8)) : Bool) with
  | true =>
   replace H := H.kn 9 hb
   exact AG 3 [(12, .bool true)] H fun fr H => Ap H hb
  | false =>
   replace H := H.kn 9 hb
   exact AG 3 [(12, .bool (p0 == ([108, 105, 110, 107, 112, 97, 116, 104] : List UInt8)))] H fun fr H => Ap H hb
 intro t fr h' hK
 obtain ⟨e, H⟩ := hK
 subst e
 refine AG 1 [(13, .bool (((p0 == ([103, 105, 100] : List UInt8)) || (p0 == ([103, 110, 97, 109, 101] : List UInt8))) || (p0 == ([108, 105, 110, 107, 112, 97, 116, 104] : List UInt8))))] H fun fr H => Aq 3 (fun fr' h' => h = h' ∧ Has fr' 33 [(0, .str p0), (16, .bool ((((p0 == ([103, 105, 100] : List UInt8)) || (p0 == ([103, 110, 97, 109, 101] : List UInt8))) || (p0 == ([108, 105, 110, 107, 112, 97, 116, 104] : List UInt8))) || (p0 == ([109, 116, 105, 109, 101] : List UInt8))))]) ?_ ?_
 ·cases hb : (((p0 == ([103, 105, 100] : List UInt8)) || (p0 == ([103, 110, 97, 109, 101] : List UInt8))) || (p0 == ([108, 105, 110, 107, 112, 97, 116, 104] : List UInt8)) : Bool) with
  | true =>
   replace H := H.kn 13 hb
   exact AG 3 [(16, .bool true)] H fun fr H => Ap H hb
  | false =>
   replace H := H.kn 13 hb
   exact AG 3 [(16, .bool (p0 == ([109, 116, 105, 109, 101] : List UInt8)))] H fun fr H => Ap H hb
 intro t fr h' hK
 obtain ⟨e, H⟩ := hK
 subst e
 refine AG 1 [(17, .bool ((((p0 == ([103, 105, 100] : List UInt8)) || (p0 == ([103, 110, 97, 109, 101] : List UInt8))) || (p0 == ([108, 105, 110, 107, 112, 97, 116, 104] : List UInt8))) || (p0 == ([109, 116, 105, 109, 101] : List UInt8))))] H fun fr H => Aq 3 (fun fr' h' => h = h' ∧ Has fr' 33 [(0, .str p0), (20, .bool (((((p0 == ([103, 105, 100] : List UInt8)) || (p0 == ([103, 110, 97, 109, 101] : List UInt8))) || (p0 == ([108, 105, 110, 107, 112, 97, 116, 104] : List UInt8))) || (p0 == ([109, 116, 105, 109, 101] : List UInt8))) || (p0 == ([112, 97, 116, 104] : List UInt8))))]) ?_ ?_
 ·cases hb : ((((p0 == ([103, 105, 100] : List UInt8)) || (p0 == ([103, 110, 97, 109, 101] : List UInt8))) || (p0 == ([108, 105, 110, 107, 112, 97, 116, 104] : List UInt8))) || (p0 == ([109, 116, 105, 109, 101] : List UInt8)) : Bool) with
  | true =>
   replace H := H.kn 17 hb
   exact AG 3 [(20, .bool true)] H fun fr H => Ap H hb
  | false =>
   replace H := H.kn 17 hb
   exact AG 3 [(20, .bool (p0 == ([112, 97, 116, 104] : List UInt8)))] H fun fr H => Ap H hb
 intro t fr h' hK
 obtain ⟨e, H⟩ := hK
 subst e
 refine AG 1 [(21, .bool (((((p0 == ([103, 105, 100] : List UInt8)) || (p0 == ([103, 110, 97, 109, 101] : List UInt8))) || (p0 == ([108, 105, 110, 107, 112, 97, 116, 104] : List UInt8))) || (p0 == ([109, 116, 105, 109, 101] : List UInt8))) || (p0 == ([112, 97, 116, 104] : List UInt8))))] H fun fr H => Aq 3 (fun fr' h' => h = h' ∧ Has fr' 33 [(0, .str p0), (24, .bool ((((((p0 == ([103, 105, 100] : List UInt8)) || (p0 == ([103, 110, 97, 109, 101] : List UInt8))) || (p0 == ([108, 105, 110, 107, 112, 97, 116, 104] : List UInt8))) || (p0 == ([109, 116, 105, 109, 101] : List UInt8))) || (p0 == ([112, 97, 116, 104] : List UInt8))) || (p0 == ([115, 105, 122, 101] : List UInt8))))]) ?_ ?_
 ·cases hb : (((((p0 == ([103, 105, 100] : List UInt8)) || (p0 == ([103, 110, 97, 109, 101] : List UInt8))) || (p0 == ([108, 105, 110, 107, 112, 97, 116, 104] : List UInt8))) || (p0 == ([109, 116, 105, 109, 101] : List UInt8))) || (p0 == ([112, 97, 116, 104] : List UInt8)) : Bool) with
  | true =>
   replace H := H.kn 21 hb
   exact AG 3 [(24, .bool true)] H fun fr H => Ap H hb
  | false =>
   replace H := H.kn 21 hb
   exact AG 3 [(24, .bool (p0 == ([115, 105, 122, 101] : List UInt8)))] H fun fr H => Ap H hb
 intro t fr h' hK
 obtain ⟨e, H⟩ := hK
 subst e
 refine AG 1 [(25, .bool ((((((p0 == ([103, 105, 100] : List UInt8)) || (p0 == ([103, 110, 97, 109, 101] : List UInt8))) || (p0 == ([108, 105, 110, 107, 112, 97, 116, 104] : List UInt8))) || (p0 == ([109, 116, 105, 109, 101] : List UInt8))) || (p0 == ([112, 97, 116, 104] : List UInt8))) || (p0 == ([115, 105, 122, 101] : List UInt8))))] H fun fr H => Aq 3 (fun fr' h' => h = h' ∧ Has fr' 33 [(0, .str p0), (28, .bool (((((((p0 == ([103, 105, 100] : List UInt8)) || (p0 == ([103, 110, 97, 109, 101] : List UInt8))) || (p0 == ([108, 105, 110, 107, 112, 97, 116, 104] : List UInt8))) || (p0 == ([109, 116, 105, 109, 101] : List UInt8))) || (p0 == ([112, 97, 116, 104] : List UInt8))) || (p0 == ([115, 105, 122, 101] : List UInt8))) || (p0 == ([117, 105, 100] : List UInt8))))]) ?_ ?_
 ·cases hb : ((((((p0 == ([103, 105, 100] : List UInt8)) || (p0 == ([103, 110, 97, 109, 101] : List UInt8))) || (p0 == ([108, 105, 110, 107, 112, 97, 116, 104] : List UInt8))) || (p0 == ([109, 116, 105, 109, 101] : List UInt8))) || (p0 == ([112, 97, 116, 104] : List UInt8))) || (p0 == ([115, 105, 122, 101] : List UInt8)) : Bool) with
  | true =>
   replace H := H.kn 25 hb
   exact AG 3 [(28, .bool true)] H fun fr H => Ap H hb
  | false =>
   replace H := H.kn 25 hb
   exact AG 3 [(28, .bool (p0 == ([117, 105, 100] : List UInt8)))] H fun fr H => Ap H hb
 intro t fr h' hK
 obtain ⟨e, H⟩ := hK
 subst e
 refine AG 1 [(29, .bool (((((((p0 == ([103, 105, 100] : List UInt8)) || (p0 == ([103, 110, 97, 109, 101] : List UInt8))) || (p0 == ([108, 105, 110, 107, 112, 97, 116, 104] : List UInt8))) || (p0 == ([109, 116, 105, 109, 101] : List UInt8))) || (p0 == ([112, 97, 116, 104] : List UInt8))) || (p0 == ([115, 105, 122, 101] : List UInt8))) || (p0 == ([117, 105, 100] : List UInt8))))] H fun fr H => Aq 3 (fun fr' h' => h = h' ∧ Has fr' 33 [(32, .bool ((((((((p0 == ([103, 105, 100] : List UInt8)) || (p0 == ([103, 110, 97, 109, 101] : List UInt8))) || (p0 == ([108, 105, 110, 107, 112, 97, 116, 104] : List UInt8))) || (p0 == ([109, 116, 105, 109, 101] : List UInt8))) || (p0 == ([112, 97, 116, 104] : List UInt8))) || (p0 == ([115, 105, 122, 101] : List UInt8))) || (p0 == ([117, 105, 100] : List UInt8))) || (p0 == ([117, 110, 97, 109, 101] : List UInt8))))]) ?_ ?_
 ·cases hb : (((((((p0 == ([103, 105, 100] : List UInt8)) || (p0 == ([103, 110, 97, 109, 101] : List UInt8))) || (p0 == ([108, 105, 110, 107, 112, 97, 116, 104] : List UInt8))) || (p0 == ([109, 116, 105, 109, 101] : List UInt8))) || (p0 == ([112, 97, 116, 104] : List UInt8))) || (p0 == ([115, 105, 122, 101] : List UInt8))) || (p0 == ([117, 105, 100] : List UInt8)) : Bool) with
  | true =>
   replace H := H.kn 29 hb
   exact AG 3 [(32, .bool true)] H fun fr H => Ap H hb
  | false =>
   replace H := H.kn 29 hb
   exact AG 3 [(32, .bool (p0 == ([117, 110, 97, 109, 101] : List UInt8)))] H fun fr H => Ap H hb
 intro t fr h' hK
 obtain ⟨e, H⟩ := hK
 subst e
 refine AP 1 [(2, .bool ((((((((p0 == ([103, 105, 100] : List UInt8)) || (p0 == ([103, 110, 97, 109, 101] : List UInt8))) || (p0 == ([108, 105, 110, 107, 112, 97, 116, 104] : List UInt8))) || (p0 == ([109, 116, 105, 109, 101] : List UInt8))) || (p0 == ([112, 97, 116, 104] : List UInt8))) || (p0 == ([115, 105, 122, 101] : List UInt8))) || (p0 == ([117, 105, 100] : List UInt8))) || (p0 == ([117, 110, 97, 109, 101] : List UInt8))))] H fun fr H => AY ?_
 obtain rfl := Ag hm
 exact ⟨.inl rfl, _, rH H, rfl, A⟩
def EH (p0 : BO) (p1 : List AK) : Option ((List AK)) :=
 some p1
theorem Jv {p0 p1 bp0 rp0_14 rp0_15 bp0_16 rp0_16_0 bp0_17 q0_10} (hm : EH p0 p1 = some q0_10) (A : HH g h [.obj bp0 (.cells none 2 [vs AE p0.c_.Ah, vs AE p0.c_.Aj, vs AI p0.c_.Bj, .bool p0.c_.G1, .bool p0.c_.BE, Ai p0.c_.Bc, .bool p0.c_.B4, Ai p0.c_.Ay.Cf, Ai p0.c_.Ay.Bb, Ai p0.c_.Ge, Ai p0.c_.Bz, Ai p0.c_.Name, Ai p0.c_.Head, Ai p0.c_.BU, AF rp0_14 p0.AR.length, AF rp0_15 p0.AU.length, .ptr (some (bp0_16, 0)), .ptr (some (bp0_17, 0))]), .AL rp0_14 136 (AL (eP AB) p0.AR), .AL rp0_15 136 (AL (eP AB) p0.AU), .obj bp0_16 (.cells none 2 [AF rp0_16_0 p0.AX.l_.length, Ai p0.AX.BM]), .AL rp0_16_0 142 (AL (eP AJ) p0.AX.l_), .obj bp0_17 (.cells none 2 ([Ai p0.Ae.n_, Ai p0.Ae.An] ++ (CW 257 (AD.int .i64) p0.Ae.Aw ++ [])))] F) (hc : BH (cfg.still 49) av = [.ptr (some (bp0, 0)), vs AA p1] := by kernel_rfl) : ∃ v h', BN cfg g h 49 av v h' ∧ ∃ (bq0_10 : Nat) (bq0_11 : Nat), v = .func (.func 89) [] [.ptr (some (bq0_10, 0)), .ptr (some (bq0_11, 0))] ∧ HH g h' [.obj bq0_10 (.cells none 2 [vs AA q0_10]), .obj bq0_11 (.cells none 2 [.ptr (some (bp0, 0))]), .obj bp0 (.cells none 2 [vs AE p0.c_.Ah, vs AE p0.c_.Aj, vs AI p0.c_.Bj, .bool p0.c_.G1, .bool p0.c_.BE, Ai p0.c_.Bc, .bool p0.c_.B4, Ai p0.c_.Ay.Cf, Ai p0.c_.Ay.Bb, Ai p0.c_.Ge, Ai p0.c_.Bz, Ai p0.c_.Name, Ai p0.c_.Head, Ai p0.c_.BU, AF rp0_14 p0.AR.length, AF rp0_15 p0.AU.length, .ptr (some (bp0_16, 0)), .ptr (some (bp0_17, 0))]), .AL rp0_14 136 (AL (eP AB) p0.AR), .AL rp0_15 136 (AL (eP AB) p0.AU), .obj bp0_16 (.cells none 2 [AF rp0_16_0 p0.AX.l_.length, Ai p0.AX.BM]), .AL rp0_16_0 142 (AL (eP AJ) p0.AX.l_), .obj bp0_17 (.cells none 2 ([Ai p0.Ae.n_, Ai p0.Ae.An] ++ (CW 257 (AD.int .i64) p0.Ae.Aw ++ [])))] F := by
 refine Dr 6 [.tmp 4] hc ?_
 clear hc
 unfold EH at hm
 refine bg 6 [(0, .ptr (some (bp0, 0))), (1, vs AA p1)] fun fr H => ?_
 refine AH 3 ?_
 obtain ⟨h1, e1, A⟩ := A.pu (.cells none 2 [.ptr (some (bp0, 0))])
 refine A7 2 (.ptr (some (h.size, 0))) e1 H fun fr t H => ?_
 obtain ⟨h2, e2, A⟩ := A.pu (.cells none 2 [vs AA p1])
 refine A7 3 (.ptr (some (h1.size, 0))) e2 H fun fr t H => ?_
 refine Bn 1 [] 2 H fun fr H => AP 2 [(4, .func (.func 89) [] [.ptr (some (h1.size, 0)), .ptr (some (h.size, 0))])] H fun fr H => AY ?_
 obtain rfl := Ag hm
 exact ⟨.inl rfl, _, rH H, _, _, rfl, A⟩
def Ex (p0 : List AK) (s : (List ((List UInt8) × Bool)) × Int) : Option (((List ((List UInt8) × Bool)) × Int) ⊕ (((List ((List UInt8) × Bool))))) :=
 match s with
 | (x2, x3) => Af (decide (x3 < (p0.length : Int))) (((GP p0 x3).bind fun x6 => (FQ x6.Name x6.Kind x6.Data).bind fun (x7, x8) => Af x8 ((DJ (⟨x2⟩ : BA) x7).bind fun x9 => some x9) (some x2) : Option (((List ((List UInt8) × Bool))))).bind fun x5 => some (.inl (x5, IntKind.i64.wrap (x3 + 1)))) (some (.inr x2))
def F9 (p0 : List AK) : Option (BA) :=
 (F6).bind fun x1w1 => (loop (Ex p0) (x1w1.DD, (0 : Int))).bind fun x4 => some (⟨x4⟩ : BA)
theorem Nw {p0 q00} (hm : F9 p0 = some q00) (A : HH g h [] F) (hc : BH (cfg.still 23) av = [vs AA p0] := by kernel_rfl) : ∃ v h', BN cfg g h 23 av v h' ∧ ∃ (bq00 : Nat) (bq00_0 : Nat), v = .ptr (some (bq00, 0)) ∧ HH g h' [.obj bq00 (.cells none 2 [.map (some bq00_0)]), .obj bq00_0 (.map 2 (BZ (fun k : List UInt8 => .str k) (fun v : Bool => .bool v) q00.DD))] F := by
 refine Dr 31 [.tmp 2] hc ?_
 clear hc
 unfold F9 at hm
 refine bg 31 [(0, vs AA p0)] fun fr H => ?_
 refine AH 1 (Bn 1 [] 2 H fun fr H => ?_)
 obtain ⟨x1w1, hx, hm⟩ := bind_some hm
 obtain ⟨v1, h1, hr, bx1w1, bx1w1_0, rfl, A1⟩ := Ke (av := []) hx (A.cut 0)
 replace A := A.XX A1
 refine A8 8 hr H fun fr t H => ?_
 refine AP 1 [(3, .ptr (some (bx1w1, 0)))] H fun fr H => AV (AH 3 (AP 3 [(9, vs AA p0), (10, Ai (p0.length : Int)), (11, Ai 0)] H fun fr H => Aa (id := 0) (by kernel_rfl) ?_))
 obtain ⟨o1, ho, hm⟩ := bind_some hm
 refine BG (Q' := fun e fr' h' => (∃ x4, e = .exit 0 ∧ x4 = o1 ∧ Has fr' 31 [(3, .ptr (some (bx1w1, 0)))] ∧ HH g h' [.obj bx1w1 (.cells none 2 [.map (some bx1w1_0)]), .obj bx1w1_0 (.map 2 (BZ (fun k : List UInt8 => .str k) (fun v : Bool => .bool v) x4))] F) ∨ False) ?_ ?_
 ·refine Bv (by kernel_rfl) (fun (s : (List ((List UInt8) × Bool)) × Int) fr' h' => ∃ x2 x3, (x2, x3) = s ∧ Has fr' 31 [(3, .ptr (some (bx1w1, 0))), (9, vs AA p0), (10, Ai (p0.length : Int)), (11, Ai x3)] ∧ HH g h' [.obj bx1w1 (.cells none 2 [.map (some bx1w1_0)]), .obj bx1w1_0 (.map 2 (BZ (fun k : List UInt8 => .str k) (fun v : Bool => .bool v) x2))] F) ho ⟨_, _, rfl, H.ls, A⟩ ?_
  clear ho hm H A
  intro s q fr h2 hI hm
  obtain ⟨x2, x3, rfl, H, A⟩ := hI
  unfold Ex at hm
  refine AH 1 (AP 1 [(12, .bool (decide (x3 < (p0.length : Int))))] H fun fr H => AV (Ak 12 H hm (fun hb hm H => ?_) fun hb hm H => ?_))
  ·refine Br id (AV ?_)
   obtain ⟨o2, ho, hm⟩ := bind_some hm
   refine BG (Q' := fun e fr' h' => (∃ x5, e = .normal ∧ x5 = o2 ∧ Has fr' 31 [(3, .ptr (some (bx1w1, 0))), (9, vs AA p0), (10, Ai (p0.length : Int)), (11, Ai x3)] ∧ HH g h' [.obj bx1w1 (.cells none 2 [.map (some bx1w1_0)]), .obj bx1w1_0 (.map 2 (BZ (fun k : List UInt8 => .str k) (fun v : Bool => .bool v) x5))] F) ∨ False) ?_ ?_
   ·replace hm := ho
    clear ho
    refine Aa (id := 1) (by kernel_rfl) ?_
    refine AH 4 ?_
    obtain ⟨x6, hx, hm⟩ := bind_some hm
    refine As 13 (.BC (AA x6)) h2 H (fun fr => .of (Ht (e := AA) (x := x6) BL (by decide) (by kernel_rfl) hx)) fun fr t H => ?_
    refine As 14 (.agg (AA x6)) h2 H (fun fr => .of (IQ (by kernel_rfl))) fun fr t H => ?_
    obtain ⟨h3, e1, A⟩ := A.pu (.cells none 2 [.str ([] : List UInt8), .str ([] : List UInt8), Ab 0, Ai 0, Ai 0, Ai 0, .str ([] : List UInt8), .str ([] : List UInt8), Ai 0, Ai 0, Ai 0, Ai 0, .slice none 0, .str ([] : List UInt8)])
    refine A7 5 (.ptr (some (h2.size, 0))) e1 H fun fr t H => ?_
    obtain ⟨h4, hx, A⟩ := A.s0 0 (AA x6) [_, _, _, _, _, _, _, _, _, _, _, _, _, _]
    refine FX hx H fun fr t H => ?_
    refine Cb 12 id (AZ 1 [] 17 0 0 A H fun fr t H => ?_)
    refine AZ 1 [] 19 0 2 A H fun fr t H => ?_
    refine AZ 1 [] 21 0 13 A H fun fr t H => ?_
    obtain ⟨⟨x7, x8⟩, hx, hm⟩ := bind_some hm
    obtain ⟨v1, h5, hr, rfl, A1⟩ := Kf (av := [.str x6.Name, Ab x6.Kind, .str x6.Data]) hx (A.cut 0)
    replace A := A.E8 A1
    refine A8 22 hr H fun fr t H => ?_
    refine Bn 5 [(6, .str x7), (7, .bool x8)] 1 H fun fr H => AP 1 [(25, .bool x8)] H fun fr H => Ak 25 H hm (fun hb hm H => ?_) fun hb hm H => ?_
    ·refine ED 3 ?_
     replace A := A.k3 1 2 0
     obtain ⟨x9, hx, hm⟩ := bind_some hm
     obtain ⟨v1, h6, hr, rfl, A1⟩ := HU (av := [.ptr (some (bx1w1, 0)), .str x7]) hx (A.cut 2)
     replace A := A.g22 A1
     refine Q7 2 [] hr H fun fr t H => ?_
     refine at_nil ?_
     replace A := A.d2
     exact .inl ⟨_, rfl, Ag hm, H.ls, A⟩
    refine HG ?_
    replace A := A.k2 1 2
    exact .inl ⟨_, rfl, Ag hm, H.ls, A⟩
   clear ho
   clear A
   intro e fr h7 hQ
   rcases hQ with ⟨x5, rfl, rfl, H, A⟩ | hF
   ·show AW _ _ _ _ _ _ _
    refine ED 2 (Bk 2 [(3, .ptr (some (bx1w1, 0))), (9, vs AA p0), (10, Ai (p0.length : Int)), (11, Ai (IntKind.i64.wrap (x3 + 1)))] H fun fr H => at_nil ?_)
    exact nx hm ⟨_, _, rfl, H.ls, A⟩
   exact hF.elim
  refine Bh (i := 0) (by kernel_rfl) ?_
  exact nr hm fun e => .inl ⟨_, rfl, e, H.ls, A⟩
 clear ho
 clear A
 intro e fr h8 hQ
 rcases hQ with ⟨x4, rfl, rfl, H, A⟩ | hF
 ·show AW _ _ _ _ _ _ _
  refine AH 2 (AP 2 [(2, .ptr (some (bx1w1, 0)))] H fun fr H => AY ?_)
  obtain rfl := Ag hm
  exact ⟨.inl rfl, _, rH H, _, _, rfl, A⟩
 exact hF.elim
def G7 (p0 : List Am) (p1 : List Am) (s : Int) : Option ((Int) ⊕ ((Unit) ⊕ (Bool))) :=
 match s with
 | x1 => Af (decide (x1 < (p0.length : Int))) ((GP p0 x1).bind fun x3 => (GP p1 x1).bind fun x4 => (TB cfg.P 90 [.str x3.Key, .str x3.Value] [.str x4.Key, .str x4.Value]).bind fun x5 => Af (!x5) (some (.inr (.inr false))) (some (.inl (IntKind.i64.wrap (x1 + 1))))) (some (.inr (.inl ())))
def D9 (p0 : List Am) (p1 : List Am) : Option (Bool) :=
 Af ((p0.length : Int) != (p1.length : Int)) (some false) ((loop (G7 p0 p1) (0 : Int)).bind fun o1 => (match o1 with | .inl _ => some true | .inr x2 => some x2))
theorem K1 {p0 p1 q0} (hm : D9 p0 p1 = some q0) (A : HH g h [] F) (hc : BH (cfg.still 48) av = [vs Ad p0, vs Ad p1] := by kernel_rfl) : ∃ v h', BN cfg g h 48 av v h' ∧ v = .bool q0 ∧ HH g h' [] F := by
 refine Dr 26 [.tmp 4] hc ?_
 clear hc
 unfold D9 at hm
 refine bg 26 [(0, vs Ad p0), (1, vs Ad p1)] fun fr H => ?_
 refine AH 1 (AP 1 [] H fun fr H => AV (AH 5 (AP 5 [(10, .bool ((p0.length : Int) != (p1.length : Int)))] H fun fr H => Ak 10 H hm (fun hb hm H => ?_) fun hb hm H => ?_)))
 ·refine AH 1 (AP 1 [(4, .bool false)] H fun fr H => AY ?_)
  obtain rfl := Ag hm
  exact ⟨.inl rfl, _, rH H, rfl, A⟩
 refine Br id (AV (AH 1 (AP 1 [(5, Ai 0)] H fun fr H => Aa (id := 0) (by kernel_rfl) ?_)))
 obtain ⟨o1, ho, hm⟩ := bind_some hm
 refine BG (Q' := fun e fr' h' => (e = .exit 0 ∧ .inl () = o1 ∧ Has fr' 26 [] ∧ HH g h' [] F) ∨ (∃ x2, e = .ret ∧ .inr x2 = o1 ∧ Has fr' 26 [(4, .bool x2)] ∧ HH g h' [] F) ∨ False) ?_ ?_
 ·refine Bv (by kernel_rfl) (fun (s : Int) fr' h' => ∃ x1, x1 = s ∧ Has fr' 26 [(0, vs Ad p0), (1, vs Ad p1), (5, Ai x1)] ∧ HH g h' [] F) ho ⟨_, rfl, H.ls, A⟩ ?_
  clear ho hm H A
  intro s q fr h1 hI hm
  obtain ⟨x1, rfl, H, A⟩ := hI
  unfold G7 at hm
  refine AV (AH 4 (AP 4 [(14, .bool (decide (x1 < (p0.length : Int))))] H fun fr H => Ak 14 H hm (fun hb hm H => ?_) fun hb hm H => ?_))
  ·refine Br id (AV (Aa (id := 1) (by kernel_rfl) ?_))
   refine AV (FF 6 9 ?_)
   obtain ⟨x3, hx, hm⟩ := bind_some hm
   refine Ax 2 [] 19 (.BC [.str x3.Key, .str x3.Value]) h1 H (fun fr => .of (Ht (e := Ad) (x := x3) Bx (by decide) (by kernel_rfl) hx)) fun fr t H => ?_
   refine As 20 (.agg [.str x3.Key, .str x3.Value]) h1 H (fun fr => .of (IQ (by kernel_rfl))) fun fr t H => ?_
   obtain ⟨x4, hx, hm⟩ := bind_some hm
   refine Ax 2 [] 23 (.BC [.str x4.Key, .str x4.Value]) h1 H (fun fr => .of (Ht (e := Ad) (x := x4) Bx (by decide) (by kernel_rfl) hx)) fun fr t H => ?_
   refine As 24 (.agg [.str x4.Key, .str x4.Value]) h1 H (fun fr => .of (IQ (by kernel_rfl))) fun fr t H => ?_
   obtain ⟨x5, hx, hm⟩ := bind_some hm
   refine As 25 (.bool (!x5)) h1 H (fun fr => .of (WK (by kernel_rfl) hx)) fun fr t H => ?_
   refine BF id (Ak 25 H hm (fun hb hm H => ?_) fun hb hm H => ?_)
   ·refine AH 1 (AP 1 [(4, .bool false)] H fun fr H => AY ?_)
    exact nr hm fun e => Or.inr (.inl ⟨_, rfl, e, H.ls, A⟩)
   refine Fg 3 id (Bk 3 [(0, vs Ad p0), (1, vs Ad p1), (5, Ai (IntKind.i64.wrap (x1 + 1)))] H fun fr H => at_nil ?_)
   exact nx hm ⟨_, rfl, H.ls, A⟩
  refine Bh (i := 0) (by kernel_rfl) ?_
  exact nr hm fun e => .inl ⟨rfl, e, H.ls, A⟩
 clear ho
 clear A
 intro e fr h2 hQ
 rcases hQ with ⟨rfl, rfl, H, A⟩ | ⟨x2, rfl, rfl, H, A⟩ | hF
 ·show AW _ _ _ _ _ _ _
  refine AH 1 (AP 1 [(4, .bool true)] H fun fr H => AY ?_)
  obtain rfl := Ag hm
  exact ⟨.inl rfl, _, rH H, rfl, A⟩
 ·obtain rfl := Ag hm
  exact ⟨.inl rfl, _, rH H, rfl, A⟩
 exact hF.elim
def Ez (p0 : List AK) (s : (List (List UInt8)) × Int) : Option (((List (List UInt8)) × Int) ⊕ (((List (List UInt8))))) :=
 match s with
 | (x1, x2) => Af (decide (x2 < (p0.length : Int))) ((GP p0 x2).bind fun x4 => Fh (Np 16 (x1.length + ([x4.Name] : List (List UInt8)).length)) <| some (.inl ((x1 ++ ([x4.Name] : List (List UInt8))), IntKind.i64.wrap (x2 + 1)))) (some (.inr x1))
def Ev (p0 : List AK) : Option ((List (List UInt8))) :=
 (loop (Ez p0) (([] : List (List UInt8)), (0 : Int))).bind fun x3 => some x3
theorem MG {p0 rp0 q0} (hm : Ev p0 = some q0) (A : HH g h [.AL rp0 44 (AL AA p0)] F) (hc : BH (cfg.still 22) av = [AF rp0 p0.length] := by kernel_rfl) : ∃ v h', BN cfg g h 22 av v h' ∧ ∃ (rq0 : Option Nat), v = AF rq0 q0.length ∧ HH g h' [.AL rq0 9 (AL eS q0), .AL rp0 44 (AL AA p0)] F := by
 refine Dr 19 [.tmp 2] hc ?_
 clear hc
 unfold Ev at hm
 refine bg 19 [(0, AF rp0 p0.length)] fun fr H => ?_
 refine AH 1 (Bn 1 [] 1 H fun fr H => AP 1 [(3, .slice none 0)] H fun fr H => AV (AH 3 (AP 3 [(6, AF rp0 p0.length), (7, Ai (p0.length : Int)), (8, Ai 0)] H fun fr H => Aa (id := 0) (by kernel_rfl) ?_)))
 replace A : HH g h [.AL none 9 (AL eS ([] : List (List UInt8))), _] F := A.I5 9
 obtain ⟨o1, ho, hm⟩ := bind_some hm
 refine BG (Q' := fun e fr' h' => (∃ x3, e = .exit 0 ∧ x3 = o1 ∧ ∃ r2, Has fr' 19 [(3, AF r2 x3.length)] ∧ HH g h' [.AL r2 9 (AL eS x3), .AL rp0 44 (AL AA p0)] F) ∨ False) ?_ ?_
 ·refine Bv (by kernel_rfl) (fun (s : (List (List UInt8)) × Int) fr' h' => ∃ x1 x2, (x1, x2) = s ∧ ∃ r1, Has fr' 19 [(3, AF r1 x1.length), (6, AF rp0 p0.length), (7, Ai (p0.length : Int)), (8, Ai x2)] ∧ HH g h' [.AL r1 9 (AL eS x1), .AL rp0 44 (AL AA p0)] F) ho ⟨_, _, rfl, none, H.ls, A⟩ ?_
  clear ho hm H A
  intro s q fr h1 hI hm
  obtain ⟨x1, x2, rfl, r1, H, A⟩ := hI
  unfold Ez at hm
  refine AH 1 (AP 1 [(9, .bool (decide (x2 < (p0.length : Int))))] H fun fr H => AV (Ak 9 H hm (fun hb hm H => ?_) fun hb hm H => ?_))
  ·refine Br id (AV (Aa (id := 1) (by kernel_rfl) ?_))
   refine AH 4 ?_
   obtain ⟨x4, hx, hm⟩ := bind_some hm
   obtain ⟨i1, er1, _, hx, hq1⟩ := HH.Ll BL (by decide) A 1 (xs := p0) rfl hx
   refine As 10 (.ptr (some (i1, x2.toNat * 14))) h1 H (fun fr => .of (D7 (s := DP rp0 p0.length) (by kernel_rfl) hx)) fun fr t H => ?_
   refine As 11 _ _ H (fun fr => .of (B5 (by kernel_rfl) (IS BL (HH.row A 1 rfl er1) hq1 0 14 (Nat.le_of_ble_eq_true rfl)))) fun fr t H => ?_
   obtain ⟨h2, e1, A⟩ := A.pu (.cells none 2 [.str ([] : List UInt8), .str ([] : List UInt8), Ab 0, Ai 0, Ai 0, Ai 0, .str ([] : List UInt8), .str ([] : List UInt8), Ai 0, Ai 0, Ai 0, Ai 0, .slice none 0, .str ([] : List UInt8)])
   refine A7 5 (.ptr (some (h1.size, 0))) e1 H fun fr t H => ?_
   obtain ⟨h3, hx, A⟩ := A.s0 0 (AA x4) [_, _, _, _, _, _, _, _, _, _, _, _, _, _]
   refine FX hx H fun fr t H => ?_
   refine Ij 6 id (AZ 2 [(12, AF r1 x1.length)] 14 0 0 A H fun fr t H => ?_)
   obtain ⟨h4, e2, A⟩ := A.pL 9 [.str x4.Name]
   refine A7 15 (AF (some h3.size) (([x4.Name] : List (List UInt8)).length)) e2 H fun fr t H => ?_
   obtain ⟨hb, hm⟩ := BQ hm
   obtain ⟨r3, h5, hx, A1⟩ := HH.Lo encS (by decide) A 2 (xs := x1) (ys := ([x4.Name] : List (List UInt8))) rfl (DM A 0 rfl (n := ([x4.Name] : List (List UInt8)).length) (z := 1) rfl (by decide)) rfl rfl hb
   replace A : HH g h5 [.AL (some h3.size) 9 ([.str x4.Name]), _, .AL r3 9 (AL eS (x1 ++ ([x4.Name] : List (List UInt8)))), _] F := A1
   replace A := A.k3 1 2 3
   refine As 16 _ _ H (fun fr => .of (IE (s := DP r1 x1.length) (by kernel_rfl) hx)) fun fr t H => ?_
   refine Bk 1 [(3, AF r3 ((x1 ++ ([x4.Name] : List (List UInt8))).length)), (6, AF rp0 p0.length), (7, Ai (p0.length : Int)), (8, Ai x2)] H fun fr H => Ij 2 id (Bk 2 [(3, AF r3 ((x1 ++ ([x4.Name] : List (List UInt8))).length)), (6, AF rp0 p0.length), (7, Ai (p0.length : Int)), (8, Ai (IntKind.i64.wrap (x2 + 1)))] H fun fr H => at_nil ?_)
   replace A := A.k2 1 2
   exact nx hm ⟨_, _, rfl, _, H.ls, A⟩
  refine Bh (i := 0) (by kernel_rfl) ?_
  exact nr hm fun e => .inl ⟨_, rfl, e, _, H.ls, A⟩
 clear ho
 clear A
 intro e fr h6 hQ
 rcases hQ with ⟨x3, rfl, rfl, r2, H, A⟩ | hF
 ·show AW _ _ _ _ _ _ _
  refine AH 2 (AP 2 [(2, AF r2 x3.length)] H fun fr H => AY ?_)
  obtain rfl := Ag hm
  exact ⟨.inl rfl, _, rH H, _, rfl, A⟩
 exact hF.elim
end
end Go.Av.L
