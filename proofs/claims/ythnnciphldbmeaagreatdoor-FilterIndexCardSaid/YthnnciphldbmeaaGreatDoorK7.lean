/-
 Models of functions, and that the abstract run tells them. Written by lift2.py.
-/
import Derived.Test.YthnnciphldbmeaaGreatDoorKCfg
import Derived.Test.YthnnciphldbmeaaGreatDoorK0
import Derived.Test.YthnnciphldbmeaaGreatDoorK3
import Derived.Test.YthnnciphldbmeaaGreatDoorK6
namespace Go.Av.L
open Go.Av Go.Lib
set_option maxRecDepth 10000
set_option maxHeartbeats 4000000
set_option linter.unusedVariables false
set_option linter.unusedSimpArgs false
variable {g : Gd} {h : AH} {F : List Ck} {av : List AA}
noncomputable section
def E1 {SY RY : Type} (Y : SY → (Int × Fa) → Option (SY ⊕ RY)) (p1 : List AN) (p2_0 : Bw) (x1w1 : Ay) (s : Int × Int × (Nat → Int) × Int × (SY ⊕ RY)) : Option ((Int × Int × (Nat → Int) × Int × (SY ⊕ RY)) ⊕ ((Int × Int × (Nat → Int) × (SY ⊕ RY)) ⊕ (Int × Int × (Nat → Int) × (SY ⊕ RY)))) :=
 match s with
 | (x2, x3, x4, x5, y1) => Aa (decide (x5 < (p1.length : Int))) ((Fc p1 x5).bind fun x12 => (Du (⟨p2_0.c_, p2_0.AZ, p2_0.Ac, p2_0.Af, (⟨x2, x3, x4⟩ : Bt)⟩ : Bw) x12 x1w1).bind fun (x13, x14, x15, x16) => (T0 Y y1 (x5, (⟨x13, x14, x15⟩ : Fa))).bind fun (x17, y4) => Aa (!x17) (some (.inr (.inr (x16.n_, x16.An, x16.BI, y4)))) (some (.inl (x16.n_, x16.An, x16.BI, IntKind.i64.wrap (x5 + 1), y4)))) (some (.inr (.inl (x2, x3, x4, y1))))
def EB {SY RY : Type} (Y : SY → (Int × Fa) → Option (SY ⊕ RY)) (y : SY ⊕ RY) (p1 : List AN) (p2_0 : Bw) : Option (Bt × (SY ⊕ RY)) :=
 (HA p1).bind fun x1w1 => (loop (E1 Y p1 p2_0 x1w1) (p2_0.Am.n_, p2_0.Am.An, p2_0.Am.BI, (0 : Int), y)).bind fun o1 => (match o1 with | .inl (x6, x7, x8, y2) => some ((⟨x6, x7, x8⟩ : Bt), y2) | .inr (x9, x10, x11, y3) => some ((⟨x9, x10, x11⟩ : Bt), y3))
theorem H2 {SY RY : Type} {R : SY ⊕ RY → List Ck → Prop} {Y : SY → (Int × Fa) → Option (SY ⊕ RY)} {y : SY ⊕ RY} {p1 p2_0 l bp1 rp1_0 bp2 bp2_0 rp2_0_14 rp2_0_15 bp2_0_16 rp2_0_16_0 bp2_0_17 u8} {yq : SY ⊕ RY} (hm : EB Y y p1 p2_0 = some (u8, yq)) (hc : BF (cfg.still 89) av = [.Lx l, .ptr (some (bp1, 0)), .ptr (some (bp2, 0))]) (hYR : YR cfg g l (fun x => [Ai x.1, .agg (Ds x.2)]) Y R) (B : R y F) (A : HH g h [.obj bp1 (.cells none 2 [AF rp1_0 p1.length]), .AI rp1_0 44 (AI AD p1), .obj bp2 (.cells none 2 [.ptr (some (bp2_0, 0))]), .obj bp2_0 (.cells none 2 [vs AE p2_0.c_.Ak, vs AE p2_0.c_.Al, vs AJ p2_0.c_.Br, .bool p2_0.c_.I0, .bool p2_0.c_.Be, Ai p2_0.c_.Bv, .bool p2_0.c_.CR, Ai p2_0.c_.BK.DF, Ai p2_0.c_.BK.Bn, Ai p2_0.c_.IH, Ai p2_0.c_.CO, Ai p2_0.c_.Name, Ai p2_0.c_.Head, Ai p2_0.c_.Bl, AF rp2_0_14 p2_0.AZ.length, AF rp2_0_15 p2_0.Ac.length, .ptr (some (bp2_0_16, 0)), .ptr (some (bp2_0_17, 0))]), .AI rp2_0_14 136 (AI (eP AB) p2_0.AZ), .AI rp2_0_15 136 (AI (eP AB) p2_0.Ac), .obj bp2_0_16 (.cells none 2 [AF rp2_0_16_0 p2_0.Af.l_.length, Ai p2_0.Af.Bd]), .AI rp2_0_16_0 142 (AI (eP AL) p2_0.Af.l_), .obj bp2_0_17 (.cells none 2 ([Ai p2_0.Am.n_, Ai p2_0.Am.An] ++ (Cj 257 (AA.int .i64) p2_0.Am.BI ++ [])))] F) : ∃ v h', BL cfg g h 89 av v h' ∧ v = .tuple [] ∧ ∃ F, R yq F ∧ HH g h' [.obj bp1 (.cells none 2 [AF rp1_0 p1.length]), .AI rp1_0 44 (AI AD p1), .obj bp2 (.cells none 2 [.ptr (some (bp2_0, 0))]), .obj bp2_0 (.cells none 2 [vs AE p2_0.c_.Ak, vs AE p2_0.c_.Al, vs AJ p2_0.c_.Br, .bool p2_0.c_.I0, .bool p2_0.c_.Be, Ai p2_0.c_.Bv, .bool p2_0.c_.CR, Ai p2_0.c_.BK.DF, Ai p2_0.c_.BK.Bn, Ai p2_0.c_.IH, Ai p2_0.c_.CO, Ai p2_0.c_.Name, Ai p2_0.c_.Head, Ai p2_0.c_.Bl, AF rp2_0_14 p2_0.AZ.length, AF rp2_0_15 p2_0.Ac.length, .ptr (some (bp2_0_16, 0)), .ptr (some (bp2_0_17, 0))]), .AI rp2_0_14 136 (AI (eP AB) p2_0.AZ), .AI rp2_0_15 136 (AI (eP AB) p2_0.Ac), .obj bp2_0_16 (.cells none 2 [AF rp2_0_16_0 p2_0.Af.l_.length, Ai p2_0.Af.Bd]), .AI rp2_0_16_0 142 (AI (eP AL) p2_0.Af.l_), .obj bp2_0_17 (.cells none 2 ([Ai u8.n_, Ai u8.An] ++ (Cj 257 (AA.int .i64) u8.BI ++ [])))] F := by
 refine Dr 36 [] hc ?_
 clear hc
 unfold EB at hm
 refine bg 36 [(0, .Lx l), (1, .ptr (some (bp1, 0))), (2, .ptr (some (bp2, 0)))] fun fr H => ?_
 refine AG 3 (FK 10 0 0 A H fun fr t H => ?_)
 replace A := A.k9 1 0 2 3 4 5 6 7 8
 obtain ⟨x1w1, hx, hm⟩ := bind_some hm
 obtain ⟨v1, h1, hr, bx1w1, bx1w1_0, rfl, A1⟩ := MT (av := [AF rp1_0 p1.length]) hx (A.cut 1)
 replace A := A.g13 A1
 refine BA 11 hr H fun fr t H => ?_
 refine Bc 1 [(4, .ptr (some (bx1w1, 0)))] 3 H fun fr H => FK 12 3 0 A H fun fr t H => ?_
 refine AO 2 [(13, Ai (p1.length : Int)), (14, Ai 0)] H fun fr H => AV (id := 0) (by kernel_rfl) ?_
 obtain ⟨o1, ho, hm⟩ := bind_some hm
 refine Ax (Q' := fun e fr' h' => (∃ x6 x7 x8, ∃ (y2 : SY ⊕ RY), e = .exit 0 ∧ .inl (x6, x7, x8, y2) = o1 ∧ Has fr' 36 [] ∧ ∃ F, R y2 F ∧ HH g h' [.obj bx1w1 (.cells none 2 [.map (some bx1w1_0)]), .obj bx1w1_0 (.map 2 (BS (fun k : List UInt8 => .str k) (fun v : Bool => .bool v) x1w1.Cf)), .AI rp1_0 44 (AI AD p1), .obj bp1 (.cells none 2 [AF rp1_0 p1.length]), .obj bp2 (.cells none 2 [.ptr (some (bp2_0, 0))]), .obj bp2_0 (.cells none 2 [vs AE p2_0.c_.Ak, vs AE p2_0.c_.Al, vs AJ p2_0.c_.Br, .bool p2_0.c_.I0, .bool p2_0.c_.Be, Ai p2_0.c_.Bv, .bool p2_0.c_.CR, Ai p2_0.c_.BK.DF, Ai p2_0.c_.BK.Bn, Ai p2_0.c_.IH, Ai p2_0.c_.CO, Ai p2_0.c_.Name, Ai p2_0.c_.Head, Ai p2_0.c_.Bl, AF rp2_0_14 p2_0.AZ.length, AF rp2_0_15 p2_0.Ac.length, .ptr (some (bp2_0_16, 0)), .ptr (some (bp2_0_17, 0))]), .AI rp2_0_14 136 (AI (eP AB) p2_0.AZ), .AI rp2_0_15 136 (AI (eP AB) p2_0.Ac), .obj bp2_0_16 (.cells none 2 [AF rp2_0_16_0 p2_0.Af.l_.length, Ai p2_0.Af.Bd]), .AI rp2_0_16_0 142 (AI (eP AL) p2_0.Af.l_), .obj bp2_0_17 (.cells none 2 ([Ai x6, Ai x7] ++ (Cj 257 (AA.int .i64) x8 ++ [])))] F) ∨ (∃ x9 x10 x11, ∃ (y3 : SY ⊕ RY), e = .ret ∧ .inr (x9, x10, x11, y3) = o1 ∧ Has fr' 36 [] ∧ ∃ F, R y3 F ∧ HH g h' [.obj bx1w1 (.cells none 2 [.map (some bx1w1_0)]), .obj bx1w1_0 (.map 2 (BS (fun k : List UInt8 => .str k) (fun v : Bool => .bool v) x1w1.Cf)), .AI rp1_0 44 (AI AD p1), .obj bp1 (.cells none 2 [AF rp1_0 p1.length]), .obj bp2 (.cells none 2 [.ptr (some (bp2_0, 0))]), .obj bp2_0 (.cells none 2 [vs AE p2_0.c_.Ak, vs AE p2_0.c_.Al, vs AJ p2_0.c_.Br, .bool p2_0.c_.I0, .bool p2_0.c_.Be, Ai p2_0.c_.Bv, .bool p2_0.c_.CR, Ai p2_0.c_.BK.DF, Ai p2_0.c_.BK.Bn, Ai p2_0.c_.IH, Ai p2_0.c_.CO, Ai p2_0.c_.Name, Ai p2_0.c_.Head, Ai p2_0.c_.Bl, AF rp2_0_14 p2_0.AZ.length, AF rp2_0_15 p2_0.Ac.length, .ptr (some (bp2_0_16, 0)), .ptr (some (bp2_0_17, 0))]), .AI rp2_0_14 136 (AI (eP AB) p2_0.AZ), .AI rp2_0_15 136 (AI (eP AB) p2_0.Ac), .obj bp2_0_16 (.cells none 2 [AF rp2_0_16_0 p2_0.Af.l_.length, Ai p2_0.Af.Bd]), .AI rp2_0_16_0 142 (AI (eP AL) p2_0.Af.l_), .obj bp2_0_17 (.cells none 2 ([Ai x9, Ai x10] ++ (Cj 257 (AA.int .i64) x11 ++ [])))] F) ∨ False) ?_ ?_
 ·refine Bh (by kernel_rfl) (fun (s : Int × Int × (Nat → Int) × Int × (SY ⊕ RY)) fr' h' => ∃ x2 x3 x4 x5, ∃ (y1 : SY ⊕ RY), (x2, x3, x4, x5, y1) = s ∧ Has fr' 36 [(0, .Lx l), (2, .ptr (some (bp2, 0))), (4, .ptr (some (bx1w1, 0))), (12, AF rp1_0 p1.length), (13, Ai (p1.length : Int)), (14, Ai x5)] ∧ ∃ F, R y1 F ∧ HH g h' [.obj bx1w1 (.cells none 2 [.map (some bx1w1_0)]), .obj bx1w1_0 (.map 2 (BS (fun k : List UInt8 => .str k) (fun v : Bool => .bool v) x1w1.Cf)), .AI rp1_0 44 (AI AD p1), .obj bp1 (.cells none 2 [AF rp1_0 p1.length]), .obj bp2 (.cells none 2 [.ptr (some (bp2_0, 0))]), .obj bp2_0 (.cells none 2 [vs AE p2_0.c_.Ak, vs AE p2_0.c_.Al, vs AJ p2_0.c_.Br, .bool p2_0.c_.I0, .bool p2_0.c_.Be, Ai p2_0.c_.Bv, .bool p2_0.c_.CR, Ai p2_0.c_.BK.DF, Ai p2_0.c_.BK.Bn, Ai p2_0.c_.IH, Ai p2_0.c_.CO, Ai p2_0.c_.Name, Ai p2_0.c_.Head, Ai p2_0.c_.Bl, AF rp2_0_14 p2_0.AZ.length, AF rp2_0_15 p2_0.Ac.length, .ptr (some (bp2_0_16, 0)), .ptr (some (bp2_0_17, 0))]), .AI rp2_0_14 136 (AI (eP AB) p2_0.AZ), .AI rp2_0_15 136 (AI (eP AB) p2_0.Ac), .obj bp2_0_16 (.cells none 2 [AF rp2_0_16_0 p2_0.Af.l_.length, Ai p2_0.Af.Bd]), .AI rp2_0_16_0 142 (AI (eP AL) p2_0.Af.l_), .obj bp2_0_17 (.cells none 2 ([Ai x2, Ai x3] ++ (Cj 257 (AA.int .i64) x4 ++ [])))] F) ho ⟨p2_0.Am.n_, p2_0.Am.An, p2_0.Am.BI, (0 : Int), y, rfl, H.ls, ⟨F, B, A⟩⟩ ?_
  clear ho hm H A
  intro s q fr h2 hI hm
  obtain ⟨x2, x3, x4, x5, y1, rfl, H, ⟨F, B, A⟩⟩ := hI
  unfold E1 at hm
  refine AG 1 (AO 1 [(15, .bool (decide (x5 < (p1.length : Int))))] H fun fr H => AQ (Ad 15 H hm (fun hb hm H => ?_) fun hb hm H => ?_))
  ·refine Bf id (AQ (AV (id := 1) (by kernel_rfl) ?_))
   refine AG 6 ?_
   obtain ⟨x12, hx, hm⟩ := bind_some hm
   obtain ⟨i1, er1, _, hx, hq1⟩ := HH.Kn Bg (by decide) A 2 (xs := p1) rfl hx
   refine Ap 1 [(16, Ai x5)] 17 (.ptr (some (i1, x5.toNat * 14))) h2 H (fun fr => .of (Dc (s := Cs rp1_0 p1.length) (by kernel_rfl) hx)) fun fr t H => ?_
   refine Aq 18 _ _ H (fun fr => .of (CG (by kernel_rfl) (KE Bg (HH.row A 2 rfl er1) hq1 0 14 (Nat.le_of_ble_eq_true rfl)))) fun fr t H => ?_
   obtain ⟨h3, e1, A⟩ := A.pu (.cells none 2 [.str ([] : List UInt8), .str ([] : List UInt8), Ab 0, Ai 0, Ai 0, Ai 0, .str ([] : List UInt8), .str ([] : List UInt8), Ai 0, Ai 0, Ai 0, Ai 0, .slice none 0, .str ([] : List UInt8)])
   refine BB 6 (.ptr (some (h2.size, 0))) e1 H fun fr t H => ?_
   obtain ⟨h4, hx, A⟩ := A.s0 0 (AD x12) [_, _, _, _, _, _, _, _, _, _, _, _, _, _]
   refine Fk 1 [(5, Ai x5)] hx H fun fr t H => ?_
   refine CX 12 id (FK 20 5 0 A H fun fr t H => ?_)
   refine Aq 21 _ _ H (fun fr => .of (CG (by kernel_rfl) (A.HG 0 rfl (o := 0) (n := 14) ⟨Nat.le_of_ble_eq_true rfl, rfl⟩))) fun fr t H => ?_
   replace A : HH g h4 [_, _, _, _, _, _, _, _, _, _, _, _] F := ((((((((A.front 2 rfl).front 2 rfl).front 11 rfl).front 11 rfl).front 11 rfl).front 11 rfl).front 11 rfl).front 11 rfl)
   obtain ⟨⟨x13, x14, x15, x16⟩, hx, hm⟩ := bind_some hm
   obtain ⟨v1, h5, hr, rfl, A1⟩ := Ht (av := [.ptr (some (bp2_0, 0)), .agg (AD x12), .ptr (some (bx1w1, 0))]) hx (A.cut 8)
   replace A : HH g h5 [.obj bp2_0 (.cells none 2 [_, _, _, _, _, _, _, _, _, _, _, _, _, _, _, _, _, _]), .AI rp2_0_14 136 (AI (eP AB) p2_0.AZ), .AI rp2_0_15 136 (AI (eP AB) p2_0.Ac), .obj bp2_0_16 (.cells none 2 [AF rp2_0_16_0 p2_0.Af.l_.length, Ai p2_0.Af.Bd]), .AI rp2_0_16_0 142 (AI (eP AL) p2_0.Af.l_), .obj bp2_0_17 (.cells none 2 ([Ai x16.n_, Ai x16.An] ++ (Cj 257 (AA.int .i64) x16.BI ++ []))), .obj bx1w1 (.cells none 2 [.map (some bx1w1_0)]), .obj bx1w1_0 (.map 2 (BS (fun k : List UInt8 => .str k) (fun v : Bool => .bool v) x1w1.Cf)), _, _, _, _] F := A.CY (n := 8) A1
   refine A0 1 [] 23 hr H fun fr t H => ?_
   obtain ⟨h6, e2, A⟩ := A.pu (.cells none 2 [.str ([] : List UInt8), .str ([] : List UInt8), Ab 0, Ai 0, Ai 0, Ai 0, .str ([] : List UInt8), .str ([] : List UInt8), Ai 0, Ai 0, Ai 0, Ai 0, .slice none 0, .str ([] : List UInt8)])
   refine KB 4 [(24, .agg (AD x13)), (25, Ai x14), (26, Ai x15)] 7 (.ptr (some (h5.size, 0))) e2 H fun fr t H => ?_
   obtain ⟨h7, hx, A⟩ := A.s0 0 (AD x13) [_, _, _, _, _, _, _, _, _, _, _, _, _, _]
   refine F4 hx H fun fr t H => ?_
   refine Bc 2 [(8, Ai x14), (9, Ai x15)] 8 H fun fr H => Ap 2 [(27, .Lx l), (28, Ai x5)] 29 _ _ H (fun fr => .of (CG (by kernel_rfl) (A.HG 0 rfl (o := 0) (n := 14) ⟨Nat.le_of_ble_eq_true rfl, rfl⟩))) fun fr t H => ?_
   obtain ⟨⟨x17, y4⟩, hx, hm⟩ := bind_some hm
   obtain ⟨h8, F, hr, B, A⟩ := hYR.T0 (pr := []) .nil A B hx
   refine Ap 3 [] 33 (.bool x17) h8 H (fun fr => Steps.round (by kernel_rfl) hr) fun fr t H => ?_
   refine AO 1 [(34, .bool (!x17))] H fun fr H => Ad 34 H hm (fun hb hm H => ?_) fun hb hm H => ?_
   ·refine AU ?_
    replace A : HH g h8 [.obj bx1w1 (.cells none 2 [.map (some bx1w1_0)]), .obj bx1w1_0 (.map 2 (BS (fun k : List UInt8 => .str k) (fun v : Bool => .bool v) x1w1.Cf)), .AI rp1_0 44 (AI AD p1), .obj bp1 (.cells none 2 [AF rp1_0 p1.length]), .obj bp2 (.cells none 2 [.ptr (some (bp2_0, 0))]), .obj bp2_0 (.cells none 2 [vs AE p2_0.c_.Ak, vs AE p2_0.c_.Al, vs AJ p2_0.c_.Br, .bool p2_0.c_.I0, .bool p2_0.c_.Be, Ai p2_0.c_.Bv, .bool p2_0.c_.CR, Ai p2_0.c_.BK.DF, Ai p2_0.c_.BK.Bn, Ai p2_0.c_.IH, Ai p2_0.c_.CO, Ai p2_0.c_.Name, Ai p2_0.c_.Head, Ai p2_0.c_.Bl, AF rp2_0_14 p2_0.AZ.length, AF rp2_0_15 p2_0.Ac.length, .ptr (some (bp2_0_16, 0)), .ptr (some (bp2_0_17, 0))]), .AI rp2_0_14 136 (AI (eP AB) p2_0.AZ), .AI rp2_0_15 136 (AI (eP AB) p2_0.Ac), .obj bp2_0_16 (.cells none 2 [AF rp2_0_16_0 p2_0.Af.l_.length, Ai p2_0.Af.Bd]), .AI rp2_0_16_0 142 (AI (eP AL) p2_0.Af.l_), .obj bp2_0_17 (.cells none 2 ([Ai x16.n_, Ai x16.An] ++ (Cj 257 (AA.int .i64) x16.BI ++ [])))] F := (HH.JS (((((((((((A.front 6 rfl).front 6 rfl).front 6 rfl).front 6 rfl).front 6 rfl).front 6 rfl).front 12 rfl).front 12 rfl).front 12 rfl).front 11 rfl).front 11 rfl) 11)
    exact nr hm fun e => Or.inr (.inl ⟨x16.n_, x16.An, x16.BI, y4, rfl, e, H.ls, ⟨F, B, A⟩⟩)
   refine Fh 2 id (BV 2 [(0, .Lx l), (2, .ptr (some (bp2, 0))), (4, .ptr (some (bx1w1, 0))), (12, AF rp1_0 p1.length), (13, Ai (p1.length : Int)), (14, Ai (IntKind.i64.wrap (x5 + 1)))] H fun fr H => at_nil ?_)
   replace A : HH g h8 [.obj bx1w1 (.cells none 2 [.map (some bx1w1_0)]), .obj bx1w1_0 (.map 2 (BS (fun k : List UInt8 => .str k) (fun v : Bool => .bool v) x1w1.Cf)), .AI rp1_0 44 (AI AD p1), .obj bp1 (.cells none 2 [AF rp1_0 p1.length]), .obj bp2 (.cells none 2 [.ptr (some (bp2_0, 0))]), .obj bp2_0 (.cells none 2 [vs AE p2_0.c_.Ak, vs AE p2_0.c_.Al, vs AJ p2_0.c_.Br, .bool p2_0.c_.I0, .bool p2_0.c_.Be, Ai p2_0.c_.Bv, .bool p2_0.c_.CR, Ai p2_0.c_.BK.DF, Ai p2_0.c_.BK.Bn, Ai p2_0.c_.IH, Ai p2_0.c_.CO, Ai p2_0.c_.Name, Ai p2_0.c_.Head, Ai p2_0.c_.Bl, AF rp2_0_14 p2_0.AZ.length, AF rp2_0_15 p2_0.Ac.length, .ptr (some (bp2_0_16, 0)), .ptr (some (bp2_0_17, 0))]), .AI rp2_0_14 136 (AI (eP AB) p2_0.AZ), .AI rp2_0_15 136 (AI (eP AB) p2_0.Ac), .obj bp2_0_16 (.cells none 2 [AF rp2_0_16_0 p2_0.Af.l_.length, Ai p2_0.Af.Bd]), .AI rp2_0_16_0 142 (AI (eP AL) p2_0.Af.l_), .obj bp2_0_17 (.cells none 2 ([Ai x16.n_, Ai x16.An] ++ (Cj 257 (AA.int .i64) x16.BI ++ [])))] F := (HH.JS (((((((((((A.front 6 rfl).front 6 rfl).front 6 rfl).front 6 rfl).front 6 rfl).front 6 rfl).front 12 rfl).front 12 rfl).front 12 rfl).front 11 rfl).front 11 rfl) 11)
   exact nx hm ⟨x16.n_, x16.An, x16.BI, IntKind.i64.wrap (x5 + 1), y4, rfl, H.ls, ⟨F, B, A⟩⟩
  refine BU (i := 0) (by kernel_rfl) ?_
  exact nr hm fun e => .inl ⟨x2, x3, x4, y1, rfl, e, H.ls, ⟨F, B, A⟩⟩
 clear ho
 clear A
 intro e fr h9 hQ
 rcases hQ with ⟨x6, x7, x8, y2, rfl, rfl, H, ⟨F, B, A⟩⟩ | ⟨x9, x10, x11, y3, rfl, rfl, H, ⟨F, B, A⟩⟩ | hF
 ·obtain ⟨rfl, rfl⟩ := Cw hm
  refine ⟨.inr rfl, .tuple [], rH H, ?_⟩
  replace A := A.k9 3 2 4 5 6 7 8 9 10
  exact ⟨rfl, ⟨F, B, A⟩⟩
 ·obtain ⟨rfl, rfl⟩ := Cw hm
  refine ⟨.inl rfl, .tuple [], rH H, ?_⟩
  replace A := A.k9 3 2 4 5 6 7 8 9 10
  exact ⟨rfl, ⟨F, B, A⟩⟩
 exact hF.elim
def FU (s : (List AN)) (v1 : Int × Fa) : Option (((List AN)) ⊕ (((List AN) × Int × Int))) :=
 match s with
 | x4 => Aa (v1.2.e_ != 0) (some (.inr (x4, v1.2.e_, v1.1))) (Aa (v1.2.Vk == 0) (Em (Nd 168 (x4.length + ([v1.2.m_] : List AN).length)) <| some (.inl (x4 ++ ([v1.2.m_] : List AN)))) (some (.inl x4)))
def GG (p0 : B1) (p1 : List AN) : Option ((List AN) × Int × Int) :=
 (KY p0).bind fun (w2, x2) => (match w2 with | some x1w1 => Aa (x2 != 0) (some (([] : List AN), (0 : Int), x2)) ((FN x1w1 p1).bind fun _ => (EB (FU) (.inl ([] : List AN)) p1 x1w1).bind fun (x8, y1) => (match y1 with | .inl x4 => some (x4, (0 : Int), (0 : Int)) | .inr (x5, x6, x7) => some (x5, x7, x6))) | none => Aa (x2 != 0) (some (([] : List AN), (0 : Int), x2)) (none))
theorem Lg {p0 p1 rp1 q0 q1 q2} (hm : GG p0 p1 = some (q0, q1, q2)) (A : HH g h [.AI rp1 44 (AI AD p1)] F) (hc : BF (cfg.still 19) av = [.agg (AS p0), AF rp1 p1.length] := by kernel_rfl) : ∃ v h', BL cfg g h 19 av v h' ∧ ∃ (rq0 : Option Nat), v = .tuple [AF rq0 q0.length, Ai q1, Ai q2] ∧ HH g h' [.AI rq0 44 (AI AD q0), .AI rp1 44 (AI AD p1)] F := by
 refine Dr 41 [.cell 4 55, .cell 5 3, .cell 6 33] hc ?_
 clear hc
 unfold GG at hm
 refine bg 41 [(0, .agg (AS p0)), (1, AF rp1 p1.length)] fun fr H => ?_
 refine AG 4 ?_
 obtain ⟨h1, e1, A⟩ := A.pu (.cells none 2 (AS p0))
 refine BB 2 (.ptr (some (h.size, 0))) e1 H fun fr t H => ?_
 obtain ⟨h2, e2, A⟩ := A.pu (.cells none 2 [.slice none 0])
 refine BB 4 (.ptr (some (h1.size, 0))) e2 H fun fr t H => ?_
 obtain ⟨h3, e3, A⟩ := A.pu (.cells none 2 [Ai 0])
 refine BB 5 (.ptr (some (h2.size, 0))) e3 H fun fr t H => ?_
 obtain ⟨h4, e4, A⟩ := A.pu (.cells none 2 [Ai 0])
 refine BB 6 (.ptr (some (h3.size, 0))) e4 H fun fr t H => ?_
 refine CX 7 id (Aq 13 _ _ H (fun fr => .of (CG (by kernel_rfl) (A.HG 3 rfl (o := 0) (n := 14) ⟨Nat.le_of_ble_eq_true rfl, rfl⟩))) fun fr t H => ?_)
 obtain ⟨⟨w2, x2⟩, hx, hm⟩ := bind_some hm
 obtain ⟨v1, h5, hr, hc⟩ := PS (av := [.agg (AS p0)]) hx (A.cut 0)
 rcases hc with ⟨bx1w1, rx1w1_14, rx1w1_15, bx1w1_16, rx1w1_16_0, bx1w1_17, x1w1, rfl, rfl, A1⟩ | ⟨rfl, rfl, A1⟩
 ·replace A : HH g h5 [.obj bx1w1 (.cells none 2 [vs AE x1w1.c_.Ak, vs AE x1w1.c_.Al, vs AJ x1w1.c_.Br, .bool x1w1.c_.I0, .bool x1w1.c_.Be, Ai x1w1.c_.Bv, .bool x1w1.c_.CR, Ai x1w1.c_.BK.DF, Ai x1w1.c_.BK.Bn, Ai x1w1.c_.IH, Ai x1w1.c_.CO, Ai x1w1.c_.Name, Ai x1w1.c_.Head, Ai x1w1.c_.Bl, AF rx1w1_14 x1w1.AZ.length, AF rx1w1_15 x1w1.Ac.length, .ptr (some (bx1w1_16, 0)), .ptr (some (bx1w1_17, 0))]), .AI rx1w1_14 136 (AI (eP AB) x1w1.AZ), .AI rx1w1_15 136 (AI (eP AB) x1w1.Ac), .obj bx1w1_16 (.cells none 2 [AF rx1w1_16_0 x1w1.Af.l_.length, Ai x1w1.Af.Bd]), .AI rx1w1_16_0 142 (AI (eP AL) x1w1.Af.l_), .obj bx1w1_17 (.cells none 2 ([Ai x1w1.Am.n_, Ai x1w1.Am.An] ++ (Cj 257 (AA.int .i64) x1w1.Am.BI ++ []))), .obj h3.size (.cells none 2 [Ai (0 : Int)]), .obj h2.size (.cells none 2 [Ai (0 : Int)]), .obj h1.size (.cells none 2 [.slice none 0]), .obj h.size (.cells none 2 (AS p0)), _] F := A.CY (n := 0) A1
  refine BA 14 hr H fun fr t H => ?_
  refine AO 5 [(7, .ptr (some (bx1w1, 0))), (8, Ai x2)] H fun fr H => AQ (AG 2 (AO 2 [(18, .bool (x2 != 0))] H fun fr H => Ad 18 H hm (fun hb hm H => ?_) fun hb hm H => ?_))
  ·refine AG 4 ?_
   obtain ⟨h6, hx, A⟩ := A.s8 0 [.slice none 0] [_]
   refine FJ 1 [(19, Ai x2)] hx H fun fr t H => ?_
   obtain ⟨h7, hx, A⟩ := A.s7 0 [Ai 0] [_]
   refine GK hx H fun fr t H => ?_
   obtain ⟨h8, hx, A⟩ := A.s6 0 [Ai x2] [_]
   refine GK hx H fun fr t H => ?_
   refine BJ id (AU ?_)
   obtain ⟨rfl, rfl, rfl⟩ := IY hm
   refine ⟨.inl rfl, .tuple [.slice none 0, Ai 0, Ai x2], CK (.cell (rT H) (Fl (by kernel_rfl) (A.l1 8 0)) (.cell (rT H) (Fl (by kernel_rfl) (A.l1 7 0)) (.cell (rT H) (Fl (by kernel_rfl) (A.l1 6 0)) .nil))), ?_⟩
   replace A : HH g h8 [.AI none 44 (AI AD ([] : List AN)), _, _, _, _, _, _, _, _, _, _, _] F := A.Kk 44
   replace A := A.k2 0 11
   exact ⟨none, rfl, A⟩
  refine Ce 1 id ?_
  obtain ⟨h9, e5, A⟩ := A.pu (.cells none 2 [.slice none 0])
  refine BB 9 (.ptr (some (h5.size, 0))) e5 H fun fr t H => ?_
  refine BJ id (AQ (AG 3 ?_))
  replace A : HH g h9 [_, _, _, _, _, _, _, .obj h5.size (.cells none 2 [.slice none 0]), _, _, _, _] F := (((((((A.front 11 rfl).front 7 rfl).front 7 rfl).front 7 rfl).front 7 rfl).front 7 rfl).front 7 rfl)
  obtain ⟨⟨⟩, hx, hm⟩ := bind_some hm
  obtain ⟨v1, h10, hr, bqw4_10, bqw4_11, rfl, A1⟩ := Ju (av := [.ptr (some (bx1w1, 0)), AF rp1 p1.length]) hx (A.cut 7)
  replace A : HH g h10 [.obj bqw4_10 (.cells none 2 [AF rp1 p1.length]), .obj bqw4_11 (.cells none 2 [.ptr (some (bx1w1, 0))]), .obj bx1w1 (.cells none 2 [_, _, _, _, _, _, _, _, _, _, _, _, _, _, _, _, _, _]), .AI rx1w1_14 136 (AI (eP AB) x1w1.AZ), .AI rx1w1_15 136 (AI (eP AB) x1w1.Ac), .obj bx1w1_16 (.cells none 2 [AF rx1w1_16_0 x1w1.Af.l_.length, Ai x1w1.Af.Bd]), .AI rx1w1_16_0 142 (AI (eP AL) x1w1.Af.l_), .obj bx1w1_17 (.cells none 2 ([Ai x1w1.Am.n_, Ai x1w1.Am.An] ++ (Cj 257 (AA.int .i64) x1w1.Am.BI ++ []))), .AI rp1 44 (AI AD p1), _, _, _, _, _] F := A.CY (n := 7) A1
  refine A0 2 [] 22 hr H fun fr t H => ?_
  refine BJ id (AV (id := 0) (by kernel_rfl) ?_)
  replace A : HH g h10 [.AI none 44 (AI AD ([] : List AN)), _, _, _, _, _, _, _, _, _, _, _, _, _, _] F := A.Kk 44
  replace A : HH g h10 [_, _, _, _, _, _, _, _, _, _, .obj h5.size (.cells none 2 [AF none (([] : List AN).length)]), _, _, _, _] F := (((((((((((((((A.front 14 rfl).front 14 rfl).front 14 rfl).front 14 rfl).front 14 rfl).front 5 rfl).front 13 rfl).front 13 rfl).front 13 rfl).front 13 rfl).front 13 rfl).front 13 rfl).front 13 rfl).front 14 rfl).front 14 rfl)
  obtain ⟨⟨x8, y1⟩, ho, hm⟩ := bind_some hm
  refine PO (C := cfg) (x := .tmp 22) (ps := [23, 24]) (f' := 89) (first := []) (cap := [.ptr (some (bqw4_10, 0)), .ptr (some (bqw4_11, 0))]) (Lu := [.obj bqw4_10 (.cells none 2 [AF rp1 p1.length]), .AI rp1 44 (AI AD p1), .obj bqw4_11 (.cells none 2 [.ptr (some (bx1w1, 0))]), .obj bx1w1 (.cells none 2 [vs AE x1w1.c_.Ak, vs AE x1w1.c_.Al, vs AJ x1w1.c_.Br, .bool x1w1.c_.I0, .bool x1w1.c_.Be, Ai x1w1.c_.Bv, .bool x1w1.c_.CR, Ai x1w1.c_.BK.DF, Ai x1w1.c_.BK.Bn, Ai x1w1.c_.IH, Ai x1w1.c_.CO, Ai x1w1.c_.Name, Ai x1w1.c_.Head, Ai x1w1.c_.Bl, AF rx1w1_14 x1w1.AZ.length, AF rx1w1_15 x1w1.Ac.length, .ptr (some (bx1w1_16, 0)), .ptr (some (bx1w1_17, 0))]), .AI rx1w1_14 136 (AI (eP AB) x1w1.AZ), .AI rx1w1_15 136 (AI (eP AB) x1w1.Ac), .obj bx1w1_16 (.cells none 2 [AF rx1w1_16_0 x1w1.Af.l_.length, Ai x1w1.Af.Bd]), .AI rx1w1_16_0 142 (AI (eP AL) x1w1.Af.l_), .obj bx1w1_17 (.cells none 2 ([Ai x1w1.Am.n_, Ai x1w1.Am.An] ++ (Cj 257 (AA.int .i64) x1w1.Am.BI ++ [])))]) (Lc := [.AI none 44 (AI AD ([] : List AN)), .obj h5.size (.cells none 2 [AF none (([] : List AN).length)]), .obj h3.size (.cells none 2 [Ai 0]), .obj h2.size (.cells none 2 [Ai 0]), .obj h1.size (.cells none 2 [.slice none 0]), .obj h.size (.cells none 2 (AS p0))]) (F := F) (ex := fun x => [Ai x.1, .agg (Ds x.2)]) (Y := FU) (PL := fun s Lc => ∃ (x4 : List AN), x4 = s ∧ ∃ (r1 : Option Nat), Lc = [.AI r1 44 (AI AD x4), .obj h5.size (.cells none 2 [AF r1 x4.length]), .obj h3.size (.cells none 2 [Ai 0]), .obj h2.size (.cells none 2 [Ai 0]), .obj h1.size (.cells none 2 [.slice none 0]), .obj h.size (.cells none 2 (AS p0))]) (PR := fun r Lc => (∃ (x5 : List AN) (x6 : Int) (x7 : Int), (x5, x6, x7) = r ∧ ∃ (r2 : Option Nat), Lc = [.AI r2 44 (AI AD x5), .obj h5.size (.cells none 2 [AF r2 x5.length]), .obj h3.size (.cells none 2 [Ai x6]), .obj h2.size (.cells none 2 [Ai x7]), .obj h1.size (.cells none 2 [AF r2 x5.length]), .obj h.size (.cells none 2 (AS p0))]) ∨ False) (pe := fun _ => .ret) (s := ([] : List AN)) (y := y1) (PU := fun L => L = [.obj bqw4_10 (.cells none 2 [AF rp1 p1.length]), .AI rp1 44 (AI AD p1), .obj bqw4_11 (.cells none 2 [.ptr (some (bx1w1, 0))]), .obj bx1w1 (.cells none 2 [vs AE x1w1.c_.Ak, vs AE x1w1.c_.Al, vs AJ x1w1.c_.Br, .bool x1w1.c_.I0, .bool x1w1.c_.Be, Ai x1w1.c_.Bv, .bool x1w1.c_.CR, Ai x1w1.c_.BK.DF, Ai x1w1.c_.BK.Bn, Ai x1w1.c_.IH, Ai x1w1.c_.CO, Ai x1w1.c_.Name, Ai x1w1.c_.Head, Ai x1w1.c_.Bl, AF rx1w1_14 x1w1.AZ.length, AF rx1w1_15 x1w1.Ac.length, .ptr (some (bx1w1_16, 0)), .ptr (some (bx1w1_17, 0))]), .AI rx1w1_14 136 (AI (eP AB) x1w1.AZ), .AI rx1w1_15 136 (AI (eP AB) x1w1.Ac), .obj bx1w1_16 (.cells none 2 [AF rx1w1_16_0 x1w1.Af.l_.length, Ai x1w1.Af.Bd]), .AI rx1w1_16_0 142 (AI (eP AL) x1w1.Af.l_), .obj bx1w1_17 (.cells none 2 ([Ai x8.n_, Ai x8.An] ++ (Cj 257 (AA.int .i64) x8.BI ++ [])))]) (by kernel_rfl) H (fun fr => by kernel_rfl) (by kernel_rfl) (fun _ => rfl) (by kernel_rfl) A ⟨([] : List AN), rfl, none, rfl⟩ ?_ ?_ ?_ ?_ ?_
  ·refine MN H (kn := fun v1 => [(4, .ptr (some (h1.size, 0))), (5, .ptr (some (h2.size, 0))), (6, .ptr (some (h3.size, 0))), (9, .ptr (some (h5.size, 0))), (23, Ai v1.1), (24, .agg (Ds v1.2))]) (fun v1 fr => by kernel_rfl) ?_
   clear ho hm A H
   intro g h11 F s v1 o Lc fr H hP hm A
   obtain ⟨x4, rfl, r1, rfl⟩ := hP
   unfold FU at hm
   show AW _ _ _ _ _ _ _
   refine AG 1 (BV 1 [(4, .ptr (some (h1.size, 0))), (5, .ptr (some (h2.size, 0))), (6, .ptr (some (h3.size, 0))), (9, .ptr (some (h5.size, 0))), (10, Ai v1.1), (24, .agg (Ds v1.2))] H fun fr H => Ke 2 id ?_)
   obtain ⟨h12, e6, A⟩ := A.pu (.cells none 2 [.str ([] : List UInt8), .str ([] : List UInt8), Ab 0, Ai 0, Ai 0, Ai 0, .str ([] : List UInt8), .str ([] : List UInt8), Ai 0, Ai 0, Ai 0, Ai 0, .slice none 0, .str ([] : List UInt8), Ai 0, Ai 0])
   refine BB 11 (.ptr (some (h11.size, 0))) e6 H fun fr t H => ?_
   obtain ⟨h13, hx, A1⟩ := A.st 0 rfl (o := 0) (new := [.str v1.2.m_.Name, .str v1.2.m_.FE, Ab v1.2.m_.Kind, Ai v1.2.m_.Mode, Ai v1.2.m_.Tb, Ai v1.2.m_.TQ, .str v1.2.m_.FF, .str v1.2.m_.F3, Ai v1.2.m_.JJ, Ai v1.2.m_.JU, Ai v1.2.m_.Time.DF, Ai v1.2.m_.Time.Bn, vs As v1.2.m_.Extra, .str v1.2.m_.Data, Ai v1.2.Vk, Ai v1.2.e_]) (ds := [.str v1.2.m_.Name, .str v1.2.m_.FE, Ab v1.2.m_.Kind, Ai v1.2.m_.Mode, Ai v1.2.m_.Tb, Ai v1.2.m_.TQ, .str v1.2.m_.FF, .str v1.2.m_.F3, Ai v1.2.m_.JJ, Ai v1.2.m_.JU, Ai v1.2.m_.Time.DF, Ai v1.2.m_.Time.Bn, vs As v1.2.m_.Extra, .str v1.2.m_.Data, Ai v1.2.Vk, Ai v1.2.e_]) (Nat.le_of_ble_eq_true rfl) rfl rfl
   replace A : HH g h13 [.obj h11.size (.cells none 2 (Ds v1.2)), .AI r1 44 (AI AD x4), .obj h5.size (.cells none 2 [AF r1 x4.length]), .obj h3.size (.cells none 2 [Ai 0]), .obj h2.size (.cells none 2 [Ai 0]), .obj h1.size (.cells none 2 [.slice none 0]), .obj h.size (.cells none 2 (AS p0))] F := A1
   refine F4 hx H fun fr t H => ?_
   refine at_nil ?_
   refine ⟨rfl, _, A, ?_⟩
   clear A
   intro h14 F A
   show AW _ _ _ _ _ _ _
   refine AV (id := 1) (by kernel_rfl) ?_
   refine AQ (AG 3 (Ag 1 [] 26 0 15 A H fun fr t H => ?_))
   refine AO 1 [(27, .bool (v1.2.e_ != 0))] H fun fr H => Ad 27 H hm (fun hb hm H => ?_) fun hb hm H => ?_
   ·refine AQ (L0 9 7 [(0, []), (1, []), (2, []), (3, []), (4, [3]), (5, [3]), (6, [])] ?_)
    refine DE 28 (AF r1 x4.length) h14 [(0, h5.size)] (g.Bq) H (fun fr => .of (Da (by kernel_rfl) (A.l1 2 0))) (fun fr H => ?_)
    refine AK 2 [(29, Ai v1.1), (30, .ptr (some (h11.size, 15)))] H fun fr H => DE 31 (Ai v1.2.e_) h14 [(3, h11.size), (0, h5.size)] (g.Bq) H (fun fr => .of (Da (by kernel_rfl) (A.l1 0 15))) (fun fr H => ?_)
    replace A : HH g h14 [.obj h1.size (.cells none 2 [.slice none 0]), .obj h11.size (.cells none 2 (Ds v1.2)), .AI r1 44 (AI AD x4), .obj h5.size (.cells none 2 [AF r1 x4.length]), .obj h3.size (.cells none 2 [Ai 0]), .obj h2.size (.cells none 2 [Ai 0]), .obj h.size (.cells none 2 (AS p0))] F := (A.front 5 rfl)
    have A1 := A.J1 1 (pr := [h11.size]) (.cons 0 rfl (by simp [Ck.ids]) .nil)
    obtain ⟨h15, hx, A1⟩ := A1.st 0 rfl (o := 0) (new := [AF r1 x4.length]) (ds := [AF r1 x4.length]) (Nat.le_of_ble_eq_true rfl) rfl rfl
    replace A := A.YO A1
    refine Kv (.tuple []) h15 [(3, h11.size), (0, h5.size)] (h11.size :: g.Bq) H (fun fr => .of (OU (by kernel_rfl) rfl hx)) (fun fr H => ?_)
    replace A := A.k7 5 0 1 2 3 4 6
    have A1 := A.J1 1 (pr := [h11.size]) (.cons 1 rfl (by simp [Ck.ids]) .nil)
    obtain ⟨h16, hx, A1⟩ := A1.st 0 rfl (o := 0) (new := [Ai v1.1]) (ds := [Ai v1.1]) (Nat.le_of_ble_eq_true rfl) rfl rfl
    replace A := A.YO A1
    refine Kv (.tuple []) h16 [(3, h11.size), (0, h5.size)] (h11.size :: g.Bq) H (fun fr => .of (OU (by kernel_rfl) rfl hx)) (fun fr H => ?_)
    obtain ⟨h17, hx, A⟩ := A.s5 0 [Ai v1.2.e_] [_]
    refine Kv (.tuple []) h17 [(3, h11.size), (0, h5.size)] (g.Bq) H (fun fr => .of (OU (by kernel_rfl) rfl hx)) (fun fr H => ?_)
    refine BJ id (AU ?_)
    replace A := A.k6 3 4 5 0 1 6
    have e1 := Option.some.inj hm
    subst e1
    exact ⟨rfl, _, Or.inl ⟨x4, v1.2.e_, v1.1, rfl, r1, rfl⟩, A⟩
   refine Ce 3 id (Ag 1 [] 33 0 14 A H fun fr t H => ?_)
   refine AO 1 [(34, .bool (v1.2.Vk == 0))] H fun fr H => Ad 34 H hm (fun hb hm H => ?_) fun hb hm H => ?_
   ·refine Cy 6 (FK 35 2 0 A H fun fr t H => ?_)
    refine Ap 1 [] 37 _ _ H (fun fr => .of (CG (by kernel_rfl) (A.HG 0 rfl (o := 0) (n := 14) ⟨Nat.le_of_ble_eq_true rfl, rfl⟩))) fun fr t H => ?_
    obtain ⟨h18, e7, A⟩ := A.pL 44 [.str v1.2.m_.Name, .str v1.2.m_.FE, Ab v1.2.m_.Kind, Ai v1.2.m_.Mode, Ai v1.2.m_.Tb, Ai v1.2.m_.TQ, .str v1.2.m_.FF, .str v1.2.m_.F3, Ai v1.2.m_.JJ, Ai v1.2.m_.JU, Ai v1.2.m_.Time.DF, Ai v1.2.m_.Time.Bn, vs As v1.2.m_.Extra, .str v1.2.m_.Data]
    refine BB 38 (AF (some h14.size) (([v1.2.m_] : List AN).length)) e7 H fun fr t H => ?_
    obtain ⟨hb, hm⟩ := BE hm
    obtain ⟨r3, h19, hx, A1⟩ := HH.Ko Bg (by decide) A 2 (xs := x4) (ys := ([v1.2.m_] : List AN)) rfl (Cu A 0 rfl (n := ([v1.2.m_] : List AN).length) (z := 14) rfl (by decide)) rfl rfl hb
    replace A : HH g h19 [.AI (some h14.size) 44 ([.str v1.2.m_.Name, .str v1.2.m_.FE, Ab v1.2.m_.Kind, Ai v1.2.m_.Mode, Ai v1.2.m_.Tb, Ai v1.2.m_.TQ, .str v1.2.m_.FF, .str v1.2.m_.F3, Ai v1.2.m_.JJ, Ai v1.2.m_.JU, Ai v1.2.m_.Time.DF, Ai v1.2.m_.Time.Bn, vs As v1.2.m_.Extra, .str v1.2.m_.Data]), .obj h11.size (.cells none 2 (Ds v1.2)), .AI r3 44 (AI AD (x4 ++ ([v1.2.m_] : List AN))), .obj h5.size (.cells none 2 [AF r1 x4.length]), .obj h3.size (.cells none 2 [Ai 0]), .obj h2.size (.cells none 2 [Ai 0]), .obj h1.size (.cells none 2 [.slice none 0]), .obj h.size (.cells none 2 (AS p0))] F := A1
    replace A := A.k7 1 2 3 4 5 6 7
    refine Aq 39 _ _ H (fun fr => .of (Hh (s := Cs r1 x4.length) (by kernel_rfl) hx)) fun fr t H => ?_
    obtain ⟨h20, hx, A1⟩ := A.st 2 rfl (o := 0) (new := [AF r3 ((x4 ++ ([v1.2.m_] : List AN)).length)]) (ds := [AF r3 ((x4 ++ ([v1.2.m_] : List AN)).length)]) (Nat.le_of_ble_eq_true rfl) rfl rfl
    replace A : HH g h20 [_, _, .obj h5.size (.cells none 2 [AF r3 ((x4 ++ ([v1.2.m_] : List AN)).length)]), _, _, _, _] F := A1
    refine GK hx H fun fr t H => ?_
    refine at_nil ?_
    replace A := A.k6 1 2 3 4 5 6
    have e1 := Option.some.inj hm
    subst e1
    exact ⟨rfl, _, ⟨(x4 ++ ([v1.2.m_] : List AN)), rfl, r3, rfl⟩, A⟩
   refine FL ?_
   replace A : HH g h14 [.AI r1 44 (AI AD x4), .obj h5.size (.cells none 2 [AF r1 x4.length]), .obj h3.size (.cells none 2 [Ai 0]), .obj h2.size (.cells none 2 [Ai 0]), .obj h1.size (.cells none 2 [.slice none 0]), .obj h.size (.cells none 2 (AS p0))] F := (HH.JS ((((((A.front 6 rfl).front 6 rfl).front 6 rfl).front 6 rfl).front 6 rfl).front 6 rfl) 6)
   have e1 := Option.some.inj hm
   subst e1
   exact ⟨rfl, _, ⟨x4, rfl, r1, rfl⟩, A⟩
  ·intro h1 l F1 R hYR B A
   obtain ⟨v1, h2, hr, _, F2, B, A⟩ := H2 (av := [.Lx l, .ptr (some (bqw4_10, 0)), .ptr (some (bqw4_11, 0))]) ho (by kernel_rfl) hYR B A
   exact ⟨v1, h2, F2, _, hr, B, rfl, A⟩
  ·clear ho A
   intro s2 h21 Lc Lu ey hP hU A
   subst ey
   obtain ⟨x4, rfl, r1, rfl⟩ := hP
   subst hU
   replace A : HH g h21 [.obj bqw4_10 (.cells none 2 [AF rp1 p1.length]), .AI rp1 44 (AI AD p1), .obj bqw4_11 (.cells none 2 [.ptr (some (bx1w1, 0))]), .obj bx1w1 (.cells none 2 [vs AE x1w1.c_.Ak, vs AE x1w1.c_.Al, vs AJ x1w1.c_.Br, .bool x1w1.c_.I0, .bool x1w1.c_.Be, Ai x1w1.c_.Bv, .bool x1w1.c_.CR, Ai x1w1.c_.BK.DF, Ai x1w1.c_.BK.Bn, Ai x1w1.c_.IH, Ai x1w1.c_.CO, Ai x1w1.c_.Name, Ai x1w1.c_.Head, Ai x1w1.c_.Bl, AF rx1w1_14 x1w1.AZ.length, AF rx1w1_15 x1w1.Ac.length, .ptr (some (bx1w1_16, 0)), .ptr (some (bx1w1_17, 0))]), .AI rx1w1_14 136 (AI (eP AB) x1w1.AZ), .AI rx1w1_15 136 (AI (eP AB) x1w1.Ac), .obj bx1w1_16 (.cells none 2 [AF rx1w1_16_0 x1w1.Af.l_.length, Ai x1w1.Af.Bd]), .AI rx1w1_16_0 142 (AI (eP AL) x1w1.Af.l_), .obj bx1w1_17 (.cells none 2 ([Ai x8.n_, Ai x8.An] ++ (Cj 257 (AA.int .i64) x8.BI ++ []))), .AI r1 44 (AI AD x4), .obj h5.size (.cells none 2 [AF r1 x4.length]), .obj h3.size (.cells none 2 [Ai 0]), .obj h2.size (.cells none 2 [Ai 0]), .obj h1.size (.cells none 2 [.slice none 0]), .obj h.size (.cells none 2 (AS p0))] F := A
   show AW _ _ _ _ _ _ _
   refine AG 4 (Rc (v := AF r1 x4.length) (h1 := h21) [(4, .ptr (some (h1.size, 0))), (5, .ptr (some (h2.size, 0))), (6, .ptr (some (h3.size, 0))), (40, AF r1 x4.length)] H (fun fr => by kernel_rfl) (fun fr => .of (Da (by kernel_rfl) (A.l1 10 0))) ?_)
   intro fr t H
   obtain ⟨h22, hx, A1⟩ := A.st 13 rfl (o := 0) (new := [AF r1 x4.length]) (ds := [AF r1 x4.length]) (Nat.le_of_ble_eq_true rfl) rfl rfl
   replace A : HH g h22 [_, _, _, _, _, _, _, _, _, _, _, _, _, .obj h1.size (.cells none 2 [AF r1 x4.length]), _] F := A1
   refine GK hx H fun fr t H => ?_
   obtain ⟨h23, hx, A1⟩ := A.st 12 rfl (o := 0) (new := [Ai 0]) (ds := [Ai 0]) (Nat.le_of_ble_eq_true rfl) rfl rfl
   replace A : HH g h23 [_, _, _, _, _, _, _, _, _, _, _, _, _, _, _] F := A1
   refine GK hx H fun fr t H => ?_
   obtain ⟨h24, hx, A1⟩ := A.st 11 rfl (o := 0) (new := [Ai 0]) (ds := [Ai 0]) (Nat.le_of_ble_eq_true rfl) rfl rfl
   replace A : HH g h24 [_, _, _, _, _, _, _, _, _, _, _, _, _, _, _] F := A1
   refine GK hx H fun fr t H => ?_
   refine BJ id (AU ?_)
   obtain ⟨rfl, rfl, rfl⟩ := IY hm
   refine ⟨.inl rfl, .tuple [AF r1 x4.length, Ai 0, Ai 0], CK (.cell (rT H) (Fl (by kernel_rfl) (A.l1 13 0)) (.cell (rT H) (Fl (by kernel_rfl) (A.l1 12 0)) (.cell (rT H) (Fl (by kernel_rfl) (A.l1 11 0)) .nil))), ?_⟩
   replace A := A.k2 9 1
   exact ⟨r1, rfl, A⟩
  ·clear ho A
   intro r2 h21 Lc Lu e ey he hP hU A
   subst ey
   subst hU
   rcases hP with ⟨x5, x6, x7, rfl, r2, rfl⟩ | hF
   ·obtain rfl := Mz he
    replace A : HH g h21 [.obj bqw4_10 (.cells none 2 [AF rp1 p1.length]), .AI rp1 44 (AI AD p1), .obj bqw4_11 (.cells none 2 [.ptr (some (bx1w1, 0))]), .obj bx1w1 (.cells none 2 [vs AE x1w1.c_.Ak, vs AE x1w1.c_.Al, vs AJ x1w1.c_.Br, .bool x1w1.c_.I0, .bool x1w1.c_.Be, Ai x1w1.c_.Bv, .bool x1w1.c_.CR, Ai x1w1.c_.BK.DF, Ai x1w1.c_.BK.Bn, Ai x1w1.c_.IH, Ai x1w1.c_.CO, Ai x1w1.c_.Name, Ai x1w1.c_.Head, Ai x1w1.c_.Bl, AF rx1w1_14 x1w1.AZ.length, AF rx1w1_15 x1w1.Ac.length, .ptr (some (bx1w1_16, 0)), .ptr (some (bx1w1_17, 0))]), .AI rx1w1_14 136 (AI (eP AB) x1w1.AZ), .AI rx1w1_15 136 (AI (eP AB) x1w1.Ac), .obj bx1w1_16 (.cells none 2 [AF rx1w1_16_0 x1w1.Af.l_.length, Ai x1w1.Af.Bd]), .AI rx1w1_16_0 142 (AI (eP AL) x1w1.Af.l_), .obj bx1w1_17 (.cells none 2 ([Ai x8.n_, Ai x8.An] ++ (Cj 257 (AA.int .i64) x8.BI ++ []))), .AI r2 44 (AI AD x5), .obj h5.size (.cells none 2 [AF r2 x5.length]), .obj h3.size (.cells none 2 [Ai x6]), .obj h2.size (.cells none 2 [Ai x7]), .obj h1.size (.cells none 2 [AF r2 x5.length]), .obj h.size (.cells none 2 (AS p0))] F := A
    obtain ⟨rfl, rfl, rfl⟩ := IY hm
    refine ⟨.inl rfl, .tuple [AF r2 x5.length, Ai x7, Ai x6], CK (.cell (rT H) (Fl (by kernel_rfl) (A.l1 13 0)) (.cell (rT H) (Fl (by kernel_rfl) (A.l1 12 0)) (.cell (rT H) (Fl (by kernel_rfl) (A.l1 11 0)) .nil))), ?_⟩
    replace A := A.k2 9 1
    exact ⟨r2, rfl, A⟩
   exact hF.elim
  exact fun _ => ⟨.ret, rfl⟩
 replace A : HH g h5 [.obj h3.size (.cells none 2 [Ai (0 : Int)]), .obj h2.size (.cells none 2 [Ai (0 : Int)]), .obj h1.size (.cells none 2 [.slice none 0]), .obj h.size (.cells none 2 (AS p0)), _] F := A.CY (n := 0) A1
 refine BA 14 hr H fun fr t H => ?_
 refine AO 5 [(7, .ptr none), (8, Ai x2)] H fun fr H => AQ (AG 2 (AO 2 [(18, .bool (x2 != 0))] H fun fr H => Ad 18 H hm (fun hb hm H => ?_) fun hb hm H => ?_))
 ·refine AG 4 ?_
  obtain ⟨h25, hx, A⟩ := A.s2 0 [.slice none 0] [_]
  refine FJ 1 [(19, Ai x2)] hx H fun fr t H => ?_
  obtain ⟨h26, hx, A⟩ := A.s1 0 [Ai 0] [_]
  refine GK hx H fun fr t H => ?_
  obtain ⟨h27, hx, A⟩ := A.s0 0 [Ai x2] [_]
  refine GK hx H fun fr t H => ?_
  refine BJ id (AU ?_)
  obtain ⟨rfl, rfl, rfl⟩ := IY hm
  refine ⟨.inl rfl, .tuple [.slice none 0, Ai 0, Ai x2], CK (.cell (rT H) (Fl (by kernel_rfl) (A.l1 2 0)) (.cell (rT H) (Fl (by kernel_rfl) (A.l1 1 0)) (.cell (rT H) (Fl (by kernel_rfl) (A.l1 0 0)) .nil))), ?_⟩
  replace A : HH g h27 [.AI none 44 (AI AD ([] : List AN)), _, _, _, _, _] F := A.Kk 44
  replace A := A.k2 0 5
  exact ⟨none, rfl, A⟩
 refine Ce 1 id ?_
 obtain ⟨h28, e8, A⟩ := A.pu (.cells none 2 [.slice none 0])
 refine BB 9 (.ptr (some (h5.size, 0))) e8 H fun fr t H => ?_
 refine BJ id (AQ (AG 3 ?_))
 cases hm
def C8 : Option (Bool) :=
 (IW ([101, 120, 99, 108, 117, 100, 101, 32, 98] : List UInt8)).bind fun (x1, x2, x3) => (GG x1 ([(⟨([97] : List UInt8), ([] : List UInt8), (0 : Int), (0 : Int), (0 : Int), (0 : Int), ([] : List UInt8), ([] : List UInt8), (0 : Int), (0 : Int), (⟨(0 : Int), (0 : Int)⟩ : Ar), ([] : List Ao), ([] : List UInt8)⟩ : AN), (⟨([98] : List UInt8), ([] : List UInt8), (0 : Int), (0 : Int), (0 : Int), (0 : Int), ([] : List UInt8), ([] : List UInt8), (0 : Int), (0 : Int), (⟨(0 : Int), (0 : Int)⟩ : Ar), ([] : List Ao), ([] : List UInt8)⟩ : AN), (⟨([99] : List UInt8), ([] : List UInt8), (0 : Int), (0 : Int), (0 : Int), (0 : Int), ([] : List UInt8), ([] : List UInt8), (0 : Int), (0 : Int), (⟨(0 : Int), (0 : Int)⟩ : Ar), ([] : List Ao), ([] : List UInt8)⟩ : AN)] : List AN)).bind fun (x4, x5, x6) => (Aa (((x3 == 0) && (x6 == 0)) && ((x4.length : Int) == 2)) ((Fc x4 (0 : Int)).bind fun x8 => some (x8.Name == ([97] : List UInt8))) (some false) : Option (Bool)).bind fun x7 => (Aa x7 ((Fc x4 (1 : Int)).bind fun x10 => some (x10.Name == ([99] : List UInt8))) (some false) : Option (Bool)).bind fun x9 => some x9
theorem Fe {q0} (hm : C8 = some q0) (A : HH g h [] F) (hc : BF (cfg.still 18) av = [] := by kernel_rfl) : ∃ v h', BL cfg g h 18 av v h' ∧ v = .bool q0 ∧ HH g h' [] F := by
 refine Dr 47 [.tmp 0] hc ?_
 clear hc
 unfold C8 at hm
 refine bg 47 [] fun fr H => ?_
 refine AG 1 (Bc 1 [] 9 H fun fr H => ?_)
 obtain ⟨⟨x1, x2, x3⟩, hx, hm⟩ := bind_some hm
 obtain ⟨v1, h1, hr, rfl, A1⟩ := N6 (av := [.str ([101, 120, 99, 108, 117, 100, 101, 32, 98] : List UInt8)]) hx (A.cut 0)
 replace A := A.EX A1
 refine BA 8 hr H fun fr t H => ?_
 obtain ⟨h2, e1, A⟩ := A.pu (.cells none 2 [.slice none 0, .slice none 0, .slice none 0, .bool false, .bool false, Ai 0, .bool false, Ai 0, Ai 0, Ai 0, Ai 0, Ai 0, Ai 0, Ai 0])
 refine KB 4 [(9, .agg (AS x1)), (10, Ai x2), (11, Ai x3)] 1 (.ptr (some (h1.size, 0))) e1 H fun fr t H => ?_
 obtain ⟨h3, hx, A⟩ := A.s0 0 (AS x1) [_, _, _, _, _, _, _, _, _, _, _, _, _, _]
 refine F4 hx H fun fr t H => ?_
 refine Bc 2 [(3, Ai x3)] 13 H fun fr H => Aq 13 _ _ H (fun fr => .of (CG (by kernel_rfl) (A.HG 0 rfl (o := 0) (n := 14) ⟨Nat.le_of_ble_eq_true rfl, rfl⟩))) fun fr t H => ?_
 refine AK 3 [(14, .agg [.str ([97] : List UInt8), .str ([] : List UInt8), Ab 0, Ai 0, Ai 0, Ai 0, .str ([] : List UInt8), .str ([] : List UInt8), Ai 0, Ai 0, Ai 0, Ai 0, .slice none 0, .str ([] : List UInt8)]), (15, .agg [.str ([98] : List UInt8), .str ([] : List UInt8), Ab 0, Ai 0, Ai 0, Ai 0, .str ([] : List UInt8), .str ([] : List UInt8), Ai 0, Ai 0, Ai 0, Ai 0, .slice none 0, .str ([] : List UInt8)]), (16, .agg [.str ([99] : List UInt8), .str ([] : List UInt8), Ab 0, Ai 0, Ai 0, Ai 0, .str ([] : List UInt8), .str ([] : List UInt8), Ai 0, Ai 0, Ai 0, Ai 0, .slice none 0, .str ([] : List UInt8)])] H fun fr H => ?_
 obtain ⟨h4, e2, A⟩ := A.pL 44 [.str ([97] : List UInt8), .str ([] : List UInt8), Ab 0, Ai 0, Ai 0, Ai 0, .str ([] : List UInt8), .str ([] : List UInt8), Ai 0, Ai 0, Ai 0, Ai 0, vs As ([] : List Ao), .str ([] : List UInt8), .str ([98] : List UInt8), .str ([] : List UInt8), Ab 0, Ai 0, Ai 0, Ai 0, .str ([] : List UInt8), .str ([] : List UInt8), Ai 0, Ai 0, Ai 0, Ai 0, vs As ([] : List Ao), .str ([] : List UInt8), .str ([99] : List UInt8), .str ([] : List UInt8), Ab 0, Ai 0, Ai 0, Ai 0, .str ([] : List UInt8), .str ([] : List UInt8), Ai 0, Ai 0, Ai 0, Ai 0, vs As ([] : List Ao), .str ([] : List UInt8)]
 refine BB 17 (AF (some h3.size) (([(⟨([97] : List UInt8), ([] : List UInt8), (0 : Int), (0 : Int), (0 : Int), (0 : Int), ([] : List UInt8), ([] : List UInt8), (0 : Int), (0 : Int), (⟨(0 : Int), (0 : Int)⟩ : Ar), ([] : List Ao), ([] : List UInt8)⟩ : AN), (⟨([98] : List UInt8), ([] : List UInt8), (0 : Int), (0 : Int), (0 : Int), (0 : Int), ([] : List UInt8), ([] : List UInt8), (0 : Int), (0 : Int), (⟨(0 : Int), (0 : Int)⟩ : Ar), ([] : List Ao), ([] : List UInt8)⟩ : AN), (⟨([99] : List UInt8), ([] : List UInt8), (0 : Int), (0 : Int), (0 : Int), (0 : Int), ([] : List UInt8), ([] : List UInt8), (0 : Int), (0 : Int), (⟨(0 : Int), (0 : Int)⟩ : Ar), ([] : List Ao), ([] : List UInt8)⟩ : AN)] : List AN).length)) e2 H fun fr t H => ?_
 replace A : HH g h4 [.AI (some h3.size) 44 (AI AD ([(⟨([97] : List UInt8), ([] : List UInt8), (0 : Int), (0 : Int), (0 : Int), (0 : Int), ([] : List UInt8), ([] : List UInt8), (0 : Int), (0 : Int), (⟨(0 : Int), (0 : Int)⟩ : Ar), ([] : List Ao), ([] : List UInt8)⟩ : AN), (⟨([98] : List UInt8), ([] : List UInt8), (0 : Int), (0 : Int), (0 : Int), (0 : Int), ([] : List UInt8), ([] : List UInt8), (0 : Int), (0 : Int), (⟨(0 : Int), (0 : Int)⟩ : Ar), ([] : List Ao), ([] : List UInt8)⟩ : AN), (⟨([99] : List UInt8), ([] : List UInt8), (0 : Int), (0 : Int), (0 : Int), (0 : Int), ([] : List UInt8), ([] : List UInt8), (0 : Int), (0 : Int), (⟨(0 : Int), (0 : Int)⟩ : Ar), ([] : List Ao), ([] : List UInt8)⟩ : AN)] : List AN)), _] F := A
 obtain ⟨⟨x4, x5, x6⟩, hx, hm⟩ := bind_some hm
 obtain ⟨v1, h5, hr, rqw4, rfl, A1⟩ := Lg (av := [.agg (AS x1), AF (some h3.size) (([(⟨([97] : List UInt8), ([] : List UInt8), (0 : Int), (0 : Int), (0 : Int), (0 : Int), ([] : List UInt8), ([] : List UInt8), (0 : Int), (0 : Int), (⟨(0 : Int), (0 : Int)⟩ : Ar), ([] : List Ao), ([] : List UInt8)⟩ : AN), (⟨([98] : List UInt8), ([] : List UInt8), (0 : Int), (0 : Int), (0 : Int), (0 : Int), ([] : List UInt8), ([] : List UInt8), (0 : Int), (0 : Int), (⟨(0 : Int), (0 : Int)⟩ : Ar), ([] : List Ao), ([] : List UInt8)⟩ : AN), (⟨([99] : List UInt8), ([] : List UInt8), (0 : Int), (0 : Int), (0 : Int), (0 : Int), ([] : List UInt8), ([] : List UInt8), (0 : Int), (0 : Int), (⟨(0 : Int), (0 : Int)⟩ : Ar), ([] : List Ao), ([] : List UInt8)⟩ : AN)] : List AN).length)]) hx (A.cut 1)
 replace A : HH g h5 [.AI rqw4 44 (AI AD x4), .AI (some h3.size) 44 (AI AD ([(⟨([97] : List UInt8), ([] : List UInt8), (0 : Int), (0 : Int), (0 : Int), (0 : Int), ([] : List UInt8), ([] : List UInt8), (0 : Int), (0 : Int), (⟨(0 : Int), (0 : Int)⟩ : Ar), ([] : List Ao), ([] : List UInt8)⟩ : AN), (⟨([98] : List UInt8), ([] : List UInt8), (0 : Int), (0 : Int), (0 : Int), (0 : Int), ([] : List UInt8), ([] : List UInt8), (0 : Int), (0 : Int), (⟨(0 : Int), (0 : Int)⟩ : Ar), ([] : List Ao), ([] : List UInt8)⟩ : AN), (⟨([99] : List UInt8), ([] : List UInt8), (0 : Int), (0 : Int), (0 : Int), (0 : Int), ([] : List UInt8), ([] : List UInt8), (0 : Int), (0 : Int), (⟨(0 : Int), (0 : Int)⟩ : Ar), ([] : List Ao), ([] : List UInt8)⟩ : AN)] : List AN)), _] F := A.CY (n := 1) A1
 refine BA 18 hr H fun fr t H => ?_
 refine Bc 7 [(4, AF rqw4 x4.length), (6, Ai x6)] 26 H fun fr H => AK 3 [(24, .bool (x3 == 0))] H fun fr H => A9 3 (fun fr' h' => h5 = h' ∧ Has fr' 47 [(4, AF rqw4 x4.length), (27, .bool ((x3 == 0) && (x6 == 0)))]) ?_ ?_
 ·cases hb : (x3 == 0 : Bool) with
  | true =>
   replace H := H.kn 24 hb
   exact AK 3 [(27, .bool (x6 == 0))] H fun fr H => BH H hb
  | false =>
   replace H := H.kn 24 hb
   exact AK 3 [(27, .bool false)] H fun fr H => BH H hb
 intro t fr h' hK
 obtain ⟨e, H⟩ := hK
 subst e
 refine AK 1 [(28, .bool ((x3 == 0) && (x6 == 0)))] H fun fr H => A9 4 (fun fr' h' => h5 = h' ∧ Has fr' 47 [(4, AF rqw4 x4.length), (32, .bool (((x3 == 0) && (x6 == 0)) && ((x4.length : Int) == 2)))]) ?_ ?_
 ·cases hb : ((x3 == 0) && (x6 == 0) : Bool) with
  | true =>
   replace H := H.kn 28 hb
   exact AK 4 [(32, .bool ((x4.length : Int) == 2))] H fun fr H => BH H hb
  | false =>
   replace H := H.kn 28 hb
   exact AK 4 [(32, .bool false)] H fun fr H => BH H hb
 intro t fr h' hK
 obtain ⟨e, H⟩ := hK
 subst e
 refine AK 1 [(33, .bool (((x3 == 0) && (x6 == 0)) && ((x4.length : Int) == 2)))] H fun fr H => ?_
 obtain ⟨x7, ho, hm⟩ := bind_some hm
 refine A9 6 (fun fr' h' => Has fr' 47 [(4, AF rqw4 x4.length), (39, .bool x7)] ∧ HH g h' [.AI rqw4 44 (AI AD x4), .obj h1.size (.cells none 2 (AS x1))] F) ?_ ?_
 ·rcases AX ho with ⟨hb, hm⟩ | ⟨hb, hm⟩
  ·replace H := H.kn 33 hb
   obtain ⟨x8, hx, hm⟩ := bind_some hm
   obtain ⟨i1, er1, _, hx, hq1⟩ := HH.Kn Bg (by decide) A 0 (xs := x4) rfl hx
   refine Ap 1 [] 35 (.ptr (some (i1, (0 : Int).toNat * 14))) h5 H (fun fr => .of (Dc (s := Cs rqw4 x4.length) (by kernel_rfl) hx)) fun fr t H => ?_
   refine Ap 1 [] 37 _ _ H (fun fr => .of (Da (by kernel_rfl) (DD Bg (HH.row A 0 rfl er1) hq1 (o := 0) rfl))) fun fr t H => ?_
   refine AK 2 [(39, .bool (x8.Name == ([97] : List UInt8)))] H fun fr H => ?_
   obtain rfl := AY hm
   replace A := A.k2 0 2
   exact at_nil ⟨H.ls, A⟩
  replace H := H.kn 33 hb
  refine AK 6 [(39, .bool false)] H fun fr H => ?_
  obtain rfl := AY hm
  replace A := A.k2 0 2
  exact at_nil ⟨H.ls, A⟩
 clear A
 intro t fr h6 hK
 obtain ⟨H, A⟩ := hK
 refine AK 1 [(40, .bool x7)] H fun fr H => ?_
 obtain ⟨x9, ho, hm⟩ := bind_some hm
 refine A9 6 (fun fr' h' => Has fr' 47 [(46, .bool x9)] ∧ HH g h' [.obj h1.size (.cells none 2 (AS x1))] F) ?_ ?_
 ·rcases AX ho with ⟨hb, hm⟩ | ⟨hb, hm⟩
  ·replace H := H.kn 40 hb
   obtain ⟨x10, hx, hm⟩ := bind_some hm
   obtain ⟨i2, er2, _, hx, hq2⟩ := HH.Kn Bg (by decide) A 0 (xs := x4) rfl hx
   refine Ap 1 [] 42 (.ptr (some (i2, (1 : Int).toNat * 14))) h6 H (fun fr => .of (Dc (s := Cs rqw4 x4.length) (by kernel_rfl) hx)) fun fr t H => ?_
   refine Ap 1 [] 44 _ _ H (fun fr => .of (Da (by kernel_rfl) (DD Bg (HH.row A 0 rfl er2) hq2 (o := 0) rfl))) fun fr t H => ?_
   refine AK 2 [(46, .bool (x10.Name == ([99] : List UInt8)))] H fun fr H => ?_
   obtain rfl := AY hm
   replace A := A.k1 1
   exact at_nil ⟨H.ls, A⟩
  replace H := H.kn 40 hb
  refine AK 6 [(46, .bool false)] H fun fr H => ?_
  obtain rfl := AY hm
  replace A := A.k1 1
  exact at_nil ⟨H.ls, A⟩
 clear A
 intro t fr h7 hK
 obtain ⟨H, A⟩ := hK
 refine AO 1 [(0, .bool x9)] H fun fr H => AU ?_
 obtain rfl := AY hm
 refine ⟨.inl rfl, .bool x9, rH H, ?_⟩
 replace A := A.d0
 exact ⟨rfl, A⟩
def CD (p0 : List UInt8) (s : Int) : Option ((Int) ⊕ ((Int))) :=
 match s with
 | x4 => (Aa (decide (x4 < (p0.length : Int))) ((RD p0 x4).bind fun x7 => some (x7 != 47)) (some false) : Option (Bool)).bind fun x6 => Aa x6 (some (.inl (IntKind.i64.wrap (x4 + 1)))) (some (.inr x4))
def CC (p0 : List UInt8) (s : (List (List UInt8)) × Int) : Option (((List (List UInt8)) × Int) ⊕ (((List (List UInt8))))) :=
 match s with
 | (x1, x2) => Aa (decide (x2 < (p0.length : Int))) ((loop (CD p0) x2).bind fun x5 => (Aa (decide (x5 > x2)) ((Jx p0 (some x2) (some x5)).bind fun x9 => Em (Nd 16 (x1.length + ([x9] : List (List UInt8)).length)) <| some (x1 ++ ([x9] : List (List UInt8)))) (some x1) : Option (((List (List UInt8))))).bind fun x8 => some (.inl (x8, IntKind.i64.wrap (x5 + 1)))) (some (.inr x1))
def Bp (p0 : List UInt8) : Option ((List (List UInt8))) :=
 (loop (CC p0) (([] : List (List UInt8)), (0 : Int))).bind fun x3 => some x3
theorem Ct {p0 q0} (hm : Bp p0 = some q0) (A : HH g h [] F) (hc : BF (cfg.still 58) av = [.str p0] := by kernel_rfl) : ∃ v h', BL cfg g h 58 av v h' ∧ v = vs eS q0 ∧ HH g h' [] F := by
 refine Xk 37 [.tmp 2] hc ?_
 clear hc
 unfold Bp at hm
 refine bg 37 [(0, .str p0)] fun fr H => ?_
 refine AG 1 (Bc 1 [] 2 H fun fr H => ?_)
 obtain ⟨h1, e1, A⟩ := A.pL 9 []
 refine BB 6 (AF (some h.size) (([] : List (List UInt8)).length)) e1 H fun fr t H => ?_
 refine Bc 1 [(3, AF (some h.size) (([] : List (List UInt8)).length))] 1 H fun fr H => AO 1 [(4, Ai 0)] H fun fr H => AQ (AV (id := 0) (by kernel_rfl) ?_)
 replace A : HH g h1 [.AI (some h.size) 9 (AI eS ([] : List (List UInt8)))] F := A
 obtain ⟨o1, ho, hm⟩ := bind_some hm
 refine Ax (Q' := fun e fr' h' => (∃ x3, e = .exit 0 ∧ x3 = o1 ∧ ∃ r2, Has fr' 37 [(3, AF r2 x3.length)] ∧ HH g h' [.AI r2 9 (AI eS x3)] F) ∨ False) ?_ ?_
 ·refine Bh (by kernel_rfl) (fun (s : (List (List UInt8)) × Int) fr' h' => ∃ x1 x2, (x1, x2) = s ∧ ∃ r1, Has fr' 37 [(0, .str p0), (3, AF r1 x1.length), (4, Ai x2)] ∧ HH g h' [.AI r1 9 (AI eS x1)] F) ho ⟨_, _, rfl, some h.size, H.ls, A⟩ ?_
  clear ho hm H A
  intro s q fr h2 hI hm
  obtain ⟨x1, x2, rfl, r1, H, A⟩ := hI
  unfold CC at hm
  refine AQ (AG 4 (AO 4 [(10, .bool (decide (x2 < (p0.length : Int))))] H fun fr H => Ad 10 H hm (fun hb hm H => ?_) fun hb hm H => ?_))
  ·refine Bf id (AV (id := 1) (by kernel_rfl) ?_)
   refine AG 2 (AO 2 [(5, Ai x2)] H fun fr H => AQ (AV (id := 2) (by kernel_rfl) ?_))
   obtain ⟨o2, ho, hm⟩ := bind_some hm
   refine Ax (Q' := fun e fr' h' => (∃ x5, e = .exit 2 ∧ x5 = o2 ∧ Has fr' 37 [(0, .str p0), (3, AF r1 x1.length), (4, Ai x2), (5, Ai x5)] ∧ HH g h' [.AI r1 9 (AI eS x1)] F) ∨ False) ?_ ?_
   ·refine Bh (by kernel_rfl) (fun (s : Int) fr' h' => ∃ x4, x4 = s ∧ Has fr' 37 [(0, .str p0), (3, AF r1 x1.length), (4, Ai x2), (5, Ai x4)] ∧ HH g h' [.AI r1 9 (AI eS x1)] F) ho ⟨_, rfl, H.ls, A⟩ ?_
    clear ho hm H A
    intro s q fr h3 hI hm
    obtain ⟨x4, rfl, H, A⟩ := hI
    unfold CD at hm
    refine AQ (AG 10 (AK 5 [(16, .bool (decide (x4 < (p0.length : Int))))] H fun fr H => ?_))
    obtain ⟨x6, ho, hm⟩ := bind_some hm
    refine A9 5 (fun fr' h' => Has fr' 37 [(0, .str p0), (3, AF r1 x1.length), (4, Ai x2), (5, Ai x4), (21, .bool x6)] ∧ HH g h' [.AI r1 9 (AI eS x1)] F) ?_ ?_
    ·rcases AX ho with ⟨hb, hm⟩ | ⟨hb, hm⟩
     ·replace H := H.kn 16 hb
      obtain ⟨x7, hx, hm⟩ := bind_some hm
      refine Ap 2 [] 19 (Ab x7) h3 H (fun fr => .of (JG (by kernel_rfl) hx)) fun fr t H => ?_
      refine AK 2 [(21, .bool (x7 != 47))] H fun fr H => ?_
      obtain rfl := AY hm
      exact at_nil ⟨H.ls, A⟩
     replace H := H.kn 16 hb
     refine AK 5 [(21, .bool false)] H fun fr H => ?_
     obtain rfl := AY hm
     exact at_nil ⟨H.ls, A⟩
    clear A
    intro t fr h4 hK
    obtain ⟨H, A⟩ := hK
    refine BJ id (Ad 21 H hm (fun hb hm H => ?_) fun hb hm H => ?_)
    ·refine Bf id (AV (id := 3) (by kernel_rfl) ?_)
     refine Cy 3 (BV 3 [(0, .str p0), (3, AF r1 x1.length), (4, Ai x2), (5, Ai (IntKind.i64.wrap (x4 + 1)))] H fun fr H => at_nil ?_)
     exact nx hm ⟨_, rfl, H.ls, A⟩
    refine BU (i := 2) (by kernel_rfl) ?_
    exact nr hm fun e => .inl ⟨_, rfl, e, H.ls, A⟩
   clear ho
   clear A
   intro e fr h5 hQ
   rcases hQ with ⟨x5, rfl, rfl, H, A⟩ | hF
   ·show AW _ _ _ _ _ _ _
    refine AQ ?_
    obtain ⟨o3, ho, hm⟩ := bind_some hm
    refine Ax (Q' := fun e fr' h' => (∃ x8, e = .normal ∧ x8 = o3 ∧ ∃ r3, Has fr' 37 [(0, .str p0), (3, AF r3 x8.length), (5, Ai x5)] ∧ HH g h' [.AI r3 9 (AI eS x8)] F) ∨ False) ?_ ?_
    ·replace hm := ho
     clear ho
     refine AG 3 (AO 3 [(26, .bool (decide (x5 > x2)))] H fun fr H => Ad 26 H hm (fun hb hm H => ?_) fun hb hm H => ?_)
     ·refine Cy 8 ?_
      obtain ⟨x9, hx, hm⟩ := bind_some hm
      refine Ap 4 [(27, AF r1 x1.length)] 31 (.str x9) h5 H (fun fr => .of (Ib (k := .i64) (k' := .i64) (lo := (some x2)) (hi := (some x5)) (by kernel_rfl) hx)) fun fr t H => ?_
      obtain ⟨h6, e2, A⟩ := A.pL 9 [.str x9]
      refine BB 32 (AF (some h5.size) (([x9] : List (List UInt8)).length)) e2 H fun fr t H => ?_
      obtain ⟨hb, hm⟩ := BE hm
      obtain ⟨r4, h7, hx, A1⟩ := HH.Ko encS (by decide) A 1 (xs := x1) (ys := ([x9] : List (List UInt8))) rfl (Cu A 0 rfl (n := ([x9] : List (List UInt8)).length) (z := 1) rfl (by decide)) rfl rfl hb
      replace A : HH g h7 [.AI (some h5.size) 9 ([.str x9]), .AI r4 9 (AI eS (x1 ++ ([x9] : List (List UInt8))))] F := A1
      replace A := A.k1 1
      refine Aq 33 _ _ H (fun fr => .of (Hh (s := Cs r1 x1.length) (by kernel_rfl) hx)) fun fr t H => ?_
      refine BV 1 [(0, .str p0), (3, AF r4 ((x1 ++ ([x9] : List (List UInt8))).length)), (5, Ai x5)] H fun fr H => at_nil ?_
      exact .inl ⟨_, rfl, AY hm, _, H.ls, A⟩
     exact FL (.inl ⟨_, rfl, AY hm, _, H.ls, A⟩)
    clear ho
    clear A
    intro e fr h8 hQ
    rcases hQ with ⟨x8, rfl, rfl, r3, H, A⟩ | hF
    ·show AW _ _ _ _ _ _ _
     refine Cy 3 (AK 3 [(4, Ai (IntKind.i64.wrap (x5 + 1)))] H fun fr H => at_nil ?_)
     exact nx hm ⟨_, _, rfl, _, H.ls, A⟩
    exact hF.elim
   exact hF.elim
  refine BU (i := 0) (by kernel_rfl) ?_
  exact nr hm fun e => .inl ⟨_, rfl, e, _, H.ls, A⟩
 clear ho
 clear A
 intro e fr h9 hQ
 rcases hQ with ⟨x3, rfl, rfl, r2, H, A⟩ | hF
 ·show AW _ _ _ _ _ _ _
  refine AG 2 (AO 2 [(2, AF r2 x3.length)] H fun fr H => AU ?_)
  obtain rfl := AY hm
  refine ⟨.inl rfl, AF r2 x3.length, rH H, ?_⟩
  obtain ⟨h10, hz0, A1⟩ := (A.front 0 rfl).Xc (n := x3.length) (z := 1) (encS.J9 _) (by decide)
  replace A : HH g h10 [] F := A1
  refine ⟨vs eS x3, h10, by first | rfl | (simp only [I1, I4, JC, I5, JB, I2, I9, I7, I3, JA, I8, GY, GN, GQ, GW, GJ, GP, GL, Option.map_some, hz0] <;> rfl), ?_⟩
  exact ⟨rfl, A⟩
 exact hF.elim
def EP (p0 : List UInt8) (p1 : Int) (p2 : List UInt8) : Option ((List (List UInt8)) × Bool) :=
 (Bp p0).bind fun x1 => (Aa ((p1 != 48) || ((x1.length : Int) == 0)) (some true) ((Fc x1 (IntKind.i64.wrap ((x1.length : Int) - 1))).bind fun x3 => some (!(x3 == ([67, 65, 67, 72, 69, 68, 73, 82, 46, 84, 65, 71] : List UInt8)))) : Option (Bool)).bind fun x2 => (Aa (x2 || (decide ((p2.length : Int) < 43))) (some true) ((Jx p2 none (some (43 : Int))).bind fun x5 => some (!(x5 == ([83, 105, 103, 110, 97, 116, 117, 114, 101, 58, 32, 56, 97, 52, 55, 55, 102, 53, 57, 55, 100, 50, 56, 100, 49, 55, 50, 55, 56, 57, 102, 48, 54, 56, 56, 54, 56, 48, 54, 98, 99, 53, 53] : List UInt8)))) : Option (Bool)).bind fun x4 => Aa x4 (some (([] : List (List UInt8)), false)) ((Qb x1 none (some (IntKind.i64.wrap ((x1.length : Int) - 1)))).bind fun x6 => some (x6, true))
theorem Ly {p0 p1 p2 q0 q1} (hm : EP p0 p1 p2 = some (q0, q1)) (A : HH g h [] F) (hc : BF (cfg.still 51) av = [.str p0, Ab p1, .str p2] := by kernel_rfl) : ∃ v h', BL cfg g h 51 av v h' ∧ v = .tuple [vs eS q0, .bool q1] ∧ HH g h' [] F := by
 refine Xk 44 [.tmp 6, .tmp 7] hc ?_
 clear hc
 unfold EP at hm
 refine bg 44 [(0, .str p0), (1, Ab p1), (2, .str p2)] fun fr H => ?_
 refine AG 2 (Bc 2 [] 3 H fun fr H => ?_)
 obtain ⟨x1, hx, hm⟩ := bind_some hm
 obtain ⟨v1, h1, hr, rfl, A1⟩ := Ct (av := [.str p0]) hx (A.cut 0)
 replace A := A.EX A1
 refine A0 1 [] 11 hr H fun fr t H => ?_
 refine Bc 1 [(8, vs eS x1)] 1 H fun fr H => AO 1 [(9, .str ([83, 105, 103, 110, 97, 116, 117, 114, 101, 58, 32, 56, 97, 52, 55, 55, 102, 53, 57, 55, 100, 50, 56, 100, 49, 55, 50, 55, 56, 57, 102, 48, 54, 56, 56, 54, 56, 48, 54, 98, 99, 53, 53] : List UInt8))] H fun fr H => AQ (AG 27 (AK 3 [(14, .bool (p1 != 48))] H fun fr H => A9 4 (fun fr' h' => h1 = h' ∧ Has fr' 44 [(2, .str p2), (8, vs eS x1), (9, .str ([83, 105, 103, 110, 97, 116, 117, 114, 101, 58, 32, 56, 97, 52, 55, 55, 102, 53, 57, 55, 100, 50, 56, 100, 49, 55, 50, 55, 56, 57, 102, 48, 54, 56, 56, 54, 56, 48, 54, 98, 99, 53, 53] : List UInt8)), (18, .bool ((p1 != 48) || ((x1.length : Int) == 0)))]) ?_ ?_))
 ·cases hb : (p1 != 48 : Bool) with
  | true =>
   replace H := H.kn 14 hb
   exact AK 4 [(18, .bool true)] H fun fr H => BH H hb
  | false =>
   replace H := H.kn 14 hb
   exact AK 4 [(18, .bool ((x1.length : Int) == 0))] H fun fr H => BH H hb
 intro t fr h' hK
 obtain ⟨e, H⟩ := hK
 subst e
 refine AK 1 [(19, .bool ((p1 != 48) || ((x1.length : Int) == 0)))] H fun fr H => ?_
 obtain ⟨x2, ho, hm⟩ := bind_some hm
 refine A9 8 (fun fr' h' => Has fr' 44 [(2, .str p2), (8, vs eS x1), (9, .str ([83, 105, 103, 110, 97, 116, 117, 114, 101, 58, 32, 56, 97, 52, 55, 55, 102, 53, 57, 55, 100, 50, 56, 100, 49, 55, 50, 55, 56, 57, 102, 48, 54, 56, 56, 54, 56, 48, 54, 98, 99, 53, 53] : List UInt8)), (27, .bool x2)] ∧ HH g h' [] F) ?_ ?_
 ·rcases AX ho with ⟨hb, hm⟩ | ⟨hb, hm⟩
  ·replace H := H.kn 19 hb
   refine AK 8 [(27, .bool true)] H fun fr H => ?_
   obtain rfl := AY hm
   exact at_nil ⟨H.ls, A⟩
  replace H := H.kn 19 hb
  obtain ⟨x3, hx, hm⟩ := bind_some hm
  refine Ap 4 [] 24 (.A8 [.str x3]) h1 H (fun fr => .of (GC (e := eS) (x := x3) encS (by decide) (by kernel_rfl) hx)) fun fr t H => ?_
  refine Aq 25 (.str x3) h1 H (fun fr => .of (G0 (by kernel_rfl))) fun fr t H => ?_
  refine AK 2 [(27, .bool (!(x3 == ([67, 65, 67, 72, 69, 68, 73, 82, 46, 84, 65, 71] : List UInt8))))] H fun fr H => ?_
  obtain rfl := AY hm
  exact at_nil ⟨H.ls, A⟩
 clear A
 intro t fr h2 hK
 obtain ⟨H, A⟩ := hK
 refine AK 1 [(28, .bool x2)] H fun fr H => A9 4 (fun fr' h' => h2 = h' ∧ Has fr' 44 [(2, .str p2), (8, vs eS x1), (9, .str ([83, 105, 103, 110, 97, 116, 117, 114, 101, 58, 32, 56, 97, 52, 55, 55, 102, 53, 57, 55, 100, 50, 56, 100, 49, 55, 50, 55, 56, 57, 102, 48, 54, 56, 56, 54, 56, 48, 54, 98, 99, 53, 53] : List UInt8)), (32, .bool (x2 || (decide ((p2.length : Int) < 43))))]) ?_ ?_
 ·cases hb : (x2 : Bool) with
  | true =>
   replace H := H.kn 28 hb
   exact AK 4 [(32, .bool true)] H fun fr H => BH H hb
  | false =>
   replace H := H.kn 28 hb
   exact AK 4 [(32, .bool (decide ((p2.length : Int) < 43)))] H fun fr H => BH H hb
 intro t fr h' hK
 obtain ⟨e, H⟩ := hK
 subst e
 refine AK 1 [(33, .bool (x2 || (decide ((p2.length : Int) < 43))))] H fun fr H => ?_
 obtain ⟨x4, ho, hm⟩ := bind_some hm
 refine A9 5 (fun fr' h' => Has fr' 44 [(8, vs eS x1), (38, .bool x4)] ∧ HH g h' [] F) ?_ ?_
 ·rcases AX ho with ⟨hb, hm⟩ | ⟨hb, hm⟩
  ·replace H := H.kn 33 hb
   refine AK 5 [(38, .bool true)] H fun fr H => ?_
   obtain rfl := AY hm
   exact at_nil ⟨H.ls, A⟩
  replace H := H.kn 33 hb
  obtain ⟨x5, hx, hm⟩ := bind_some hm
  refine Ap 1 [] 35 (.str x5) h2 H (fun fr => .of (Ib (k := .i64) (k' := .i64) (lo := none) (hi := (some (43 : Int))) (by kernel_rfl) hx)) fun fr t H => ?_
  refine AK 3 [(38, .bool (!(x5 == ([83, 105, 103, 110, 97, 116, 117, 114, 101, 58, 32, 56, 97, 52, 55, 55, 102, 53, 57, 55, 100, 50, 56, 100, 49, 55, 50, 55, 56, 57, 102, 48, 54, 56, 56, 54, 56, 48, 54, 98, 99, 53, 53] : List UInt8))))] H fun fr H => ?_
  obtain rfl := AY hm
  exact at_nil ⟨H.ls, A⟩
 clear A
 intro t fr h3 hK
 obtain ⟨H, A⟩ := hK
 refine BJ id (Ad 38 H hm (fun hb hm H => ?_) fun hb hm H => ?_)
 ·refine AG 2 (AO 2 [(6, .slice none 0), (7, .bool false)] H fun fr H => AU ?_)
  obtain ⟨rfl, rfl⟩ := Cw hm
  refine ⟨.inl rfl, .tuple [.slice none 0, .bool false], rH H, ?_⟩
  refine ⟨.tuple [vs eS ([] : List (List UInt8)), .bool false], h3, by first | rfl | (simp only [I1, I4, JC, I5, JB, I2, I9, I7, I3, JA, I8, GY, GN, GQ, GW, GJ, GP, GL, Option.map_some] <;> rfl), ?_⟩
  exact ⟨rfl, A⟩
 refine Ce 7 id ?_
 obtain ⟨x6, hx, hm⟩ := bind_some hm
 refine Ap 4 [] 43 (vs eS x6) h3 H (fun fr => .of (S7 (e := eS) encS (k := .i64) (k' := .i64) (lo := none) (hi := (some (IntKind.i64.wrap ((x1.length : Int) - 1)))) (by kernel_rfl) hx)) fun fr t H => ?_
 refine AO 2 [(6, vs eS x6), (7, .bool true)] H fun fr H => AU ?_
 obtain ⟨rfl, rfl⟩ := Cw hm
 refine ⟨.inl rfl, .tuple [vs eS x6, .bool true], rH H, ?_⟩
 refine ⟨.tuple [vs eS x6, .bool true], h3, by first | rfl | (simp only [I1, I4, JC, I5, JB, I2, I9, I7, I3, JA, I8, GY, GN, GQ, GW, GJ, GP, GL, Option.map_some] <;> rfl), ?_⟩
 exact ⟨rfl, A⟩
def D2 (p0 : List (List UInt8)) (s : (List UInt8) × Int) : Option (((List UInt8) × Int) ⊕ (((List UInt8)))) :=
 match s with
 | (x1, x2) => Aa (decide (x2 < (p0.length : Int))) (((Fc p0 x2).bind fun x5 => Aa (x5 == ([] : List UInt8)) (some x1) ((Aa (!(x1 == ([] : List UInt8))) (Em (decide (x1.length + ([47] : List UInt8).length ≤ 9223372036854775807)) <| some (x1 ++ ([47] : List UInt8))) (some x1) : Option (((List UInt8)))).bind fun x6 => (Fc p0 x2).bind fun x7 => Em (decide (x6.length + x7.length ≤ 9223372036854775807)) <| some (x6 ++ x7)) : Option (((List UInt8)))).bind fun x4 => some (.inl (x4, IntKind.i64.wrap (x2 + 1)))) (some (.inr x1))
def DN (p0 : List (List UInt8)) : Option ((List UInt8)) :=
 (loop (D2 p0) (([] : List UInt8), (0 : Int))).bind fun x3 => some x3
theorem Hn {p0 q0} (hm : DN p0 = some q0) (A : HH g h [] F) (hc : BF (cfg.still 53) av = [vs eS p0] := by kernel_rfl) : ∃ v h', BL cfg g h 53 av v h' ∧ v = .str q0 ∧ HH g h' [] F := by
 refine Dr 27 [.tmp 2] hc ?_
 clear hc
 unfold DN at hm
 refine bg 27 [(0, vs eS p0)] fun fr H => ?_
 refine AG 1 (Bc 1 [] 1 H fun fr H => AO 1 [(3, .str ([] : List UInt8))] H fun fr H => AQ (AG 1 (AO 1 [(4, Ai 0)] H fun fr H => AV (id := 0) (by kernel_rfl) ?_)))
 obtain ⟨o1, ho, hm⟩ := bind_some hm
 refine Ax (Q' := fun e fr' h' => (∃ x3, e = .exit 0 ∧ x3 = o1 ∧ Has fr' 27 [(3, .str x3)] ∧ HH g h' [] F) ∨ False) ?_ ?_
 ·refine Bh (by kernel_rfl) (fun (s : (List UInt8) × Int) fr' h' => ∃ x1 x2, (x1, x2) = s ∧ Has fr' 27 [(0, vs eS p0), (3, .str x1), (4, Ai x2)] ∧ HH g h' [] F) ho ⟨_, _, rfl, H.ls, A⟩ ?_
  clear ho hm H A
  intro s q fr h1 hI hm
  obtain ⟨x1, x2, rfl, H, A⟩ := hI
  unfold D2 at hm
  refine AQ (AG 4 (AO 4 [(8, .bool (decide (x2 < (p0.length : Int))))] H fun fr H => Ad 8 H hm (fun hb hm H => ?_) fun hb hm H => ?_))
  ·refine Bf id (AQ ?_)
   obtain ⟨o2, ho, hm⟩ := bind_some hm
   refine Ax (Q' := fun e fr' h' => (∃ x4, e = .normal ∧ x4 = o2 ∧ Has fr' 27 [(0, vs eS p0), (3, .str x4), (4, Ai x2)] ∧ HH g h' [] F) ∨ False) ?_ ?_
   ·replace hm := ho
    clear ho
    refine AV (id := 1) (by kernel_rfl) ?_
    refine AQ (AG 5 ?_)
    obtain ⟨x5, hx, hm⟩ := bind_some hm
    refine Ap 2 [] 13 (.A8 [.str x5]) h1 H (fun fr => .of (GC (e := eS) (x := x5) encS (by decide) (by kernel_rfl) hx)) fun fr t H => ?_
    refine Aq 14 (.str x5) h1 H (fun fr => .of (G0 (by kernel_rfl))) fun fr t H => ?_
    refine AO 1 [(15, .bool (x5 == ([] : List UInt8)))] H fun fr H => Ad 15 H hm (fun hb hm H => ?_) fun hb hm H => ?_
    ·refine BU (i := 1) (by kernel_rfl) ?_
     exact .inl ⟨_, rfl, AY hm, H.ls, A⟩
    refine Bf id (AQ ?_)
    obtain ⟨o3, ho, hm⟩ := bind_some hm
    refine Ax (Q' := fun e fr' h' => (∃ x6, e = .normal ∧ x6 = o3 ∧ Has fr' 27 [(0, vs eS p0), (3, .str x6), (4, Ai x2)] ∧ HH g h' [] F) ∨ False) ?_ ?_
    ·replace hm := ho
     clear ho
     refine AG 2 (AO 2 [(17, .bool (!(x1 == ([] : List UInt8))))] H fun fr H => Ad 17 H hm (fun hb hm H => ?_) fun hb hm H => ?_)
     ·refine Cy 3 (AK 1 [(18, .str x1)] H fun fr H => ?_)
      obtain ⟨hb, hm⟩ := BE hm
      refine Aq 19 (.str (x1 ++ ([47] : List UInt8))) h1 H (fun fr => .of (Wj (by kernel_rfl) hb)) fun fr t H => ?_
      refine BV 1 [(0, vs eS p0), (3, .str (x1 ++ ([47] : List UInt8))), (4, Ai x2)] H fun fr H => at_nil ?_
      exact .inl ⟨_, rfl, AY hm, H.ls, A⟩
     exact FL (.inl ⟨_, rfl, AY hm, H.ls, A⟩)
    clear ho
    clear A
    intro e fr h2 hQ
    rcases hQ with ⟨x6, rfl, rfl, H, A⟩ | hF
    ·show AW _ _ _ _ _ _ _
     refine Cy 7 ?_
     obtain ⟨x7, hx, hm⟩ := bind_some hm
     refine Ap 3 [(20, .str x6)] 23 (.A8 [.str x7]) h2 H (fun fr => .of (GC (e := eS) (x := x7) encS (by decide) (by kernel_rfl) hx)) fun fr t H => ?_
     refine Aq 24 (.str x7) h2 H (fun fr => .of (G0 (by kernel_rfl))) fun fr t H => ?_
     obtain ⟨hb, hm⟩ := BE hm
     refine Aq 25 (.str (x6 ++ x7)) h2 H (fun fr => .of (Wj (by kernel_rfl) hb)) fun fr t H => ?_
     refine BV 1 [(0, vs eS p0), (3, .str (x6 ++ x7)), (4, Ai x2)] H fun fr H => at_nil ?_
     exact .inl ⟨_, rfl, AY hm, H.ls, A⟩
    exact hF.elim
   clear ho
   clear A
   intro e fr h3 hQ
   rcases hQ with ⟨x4, rfl, rfl, H, A⟩ | hF
   ·show AW _ _ _ _ _ _ _
    refine Cy 3 (BV 3 [(0, vs eS p0), (3, .str x4), (4, Ai (IntKind.i64.wrap (x2 + 1)))] H fun fr H => at_nil ?_)
    exact nx hm ⟨_, _, rfl, H.ls, A⟩
   exact hF.elim
  refine BU (i := 0) (by kernel_rfl) ?_
  exact nr hm fun e => .inl ⟨_, rfl, e, H.ls, A⟩
 clear ho
 clear A
 intro e fr h4 hQ
 rcases hQ with ⟨x3, rfl, rfl, H, A⟩ | hF
 ·show AW _ _ _ _ _ _ _
  refine AG 2 (AO 2 [(2, .str x3)] H fun fr H => AU ?_)
  obtain rfl := AY hm
  exact ⟨.inl rfl, _, rH H, rfl, A⟩
 exact hF.elim
def CL (p0 : List (List UInt8)) (x2 : List UInt8) (s : (List (List UInt8)) × Bool × Int) : Option (((List (List UInt8)) × Bool × Int) ⊕ (((List (List UInt8)) × Bool))) :=
 match s with
 | (x3, x4, x5) => Aa (decide (x5 < (p0.length : Int))) ((((Aa (!x4) ((Fc p0 x5).bind fun x13 => some (Op.bytesLess x2 x13 || x2 == x13)) (some false) : Option (Bool)).bind fun x12 => Aa x12 (Em (Nd 16 (x3.length + ([x2] : List (List UInt8)).length)) <| some ((x3 ++ ([x2] : List (List UInt8))), true)) (some (x3, x4)) : Option (((List (List UInt8)) × Bool))).bind fun (x10, x11) => (Fc p0 x5).bind fun x14 => Aa (!(x14 == x2)) ((Fc p0 x5).bind fun x15 => Em (Nd 16 (x10.length + ([x15] : List (List UInt8)).length)) <| some ((x10 ++ ([x15] : List (List UInt8))), x11)) (some (x10, x11)) : Option (((List (List UInt8)) × Bool))).bind fun (x8, x9) => some (.inl (x8, x9, IntKind.i64.wrap (x5 + 1)))) (some (.inr (x3, x4)))
def DH (p0 : List (List UInt8)) (p1 : List UInt8) : Option ((List (List UInt8))) :=
 (Bp p1).bind fun x1 => (DN x1).bind fun x2 => (loop (CL p0 x2) (([] : List (List UInt8)), false, (0 : Int))).bind fun (x6, x7) => (Aa (!x7) (Em (Nd 16 (x6.length + ([x2] : List (List UInt8)).length)) <| some (x6 ++ ([x2] : List (List UInt8)))) (some x6) : Option (((List (List UInt8))))).bind fun x16 => some x16
theorem KA {p0 p1 rp0 q0} (hm : DH p0 p1 = some q0) (A : HH g h [.AI rp0 9 (AI eS p0)] F) (hc : BF (cfg.still 52) av = [AF rp0 p0.length, .str p1] := by kernel_rfl) : ∃ v h', BL cfg g h 52 av v h' ∧ ∃ (rq0 : Option Nat), v = AF rq0 q0.length ∧ HH g h' [.AI rq0 9 (AI eS q0), .AI rp0 9 (AI eS p0)] F := by
 refine Dr 53 [.tmp 4] hc ?_
 clear hc
 unfold DH at hm
 refine bg 53 [(0, AF rp0 p0.length), (1, .str p1)] fun fr H => ?_
 refine AG 1 (Bc 1 [] 4 H fun fr H => ?_)
 obtain ⟨x1, hx, hm⟩ := bind_some hm
 obtain ⟨v1, h1, hr, rfl, A1⟩ := Ct (av := [.str p1]) hx (A.cut 0)
 replace A := A.EX A1
 refine A0 1 [] 10 hr H fun fr t H => ?_
 obtain ⟨x2, hx, hm⟩ := bind_some hm
 obtain ⟨v1, h2, hr, rfl, A1⟩ := Hn (av := [vs eS x1]) hx (A.cut 0)
 replace A := A.EX A1
 refine BA 11 hr H fun fr t H => ?_
 refine Bc 1 [(5, .str x2)] 2 H fun fr H => ?_
 obtain ⟨h3, e1, A⟩ := A.pL 9 []
 refine BB 12 (AF (some h2.size) (([] : List (List UInt8)).length)) e1 H fun fr t H => ?_
 refine Bc 1 [(6, AF (some h2.size) (([] : List (List UInt8)).length))] 1 H fun fr H => AO 1 [(7, .bool false)] H fun fr H => AQ (AG 1 (AO 1 [(8, Ai 0)] H fun fr H => AV (id := 0) (by kernel_rfl) ?_))
 replace A : HH g h3 [.AI (some h2.size) 9 (AI eS ([] : List (List UInt8))), _] F := A
 obtain ⟨o1, ho, hm⟩ := bind_some hm
 refine Ax (Q' := fun e fr' h' => (∃ x6 x7, e = .exit 0 ∧ (x6, x7) = o1 ∧ ∃ r2, Has fr' 53 [(5, .str x2), (6, AF r2 x6.length), (7, .bool x7)] ∧ HH g h' [.AI r2 9 (AI eS x6), .AI rp0 9 (AI eS p0)] F) ∨ False) ?_ ?_
 ·refine Bh (by kernel_rfl) (fun (s : (List (List UInt8)) × Bool × Int) fr' h' => ∃ x3 x4 x5, (x3, x4, x5) = s ∧ ∃ r1, Has fr' 53 [(0, AF rp0 p0.length), (5, .str x2), (6, AF r1 x3.length), (7, .bool x4), (8, Ai x5)] ∧ HH g h' [.AI r1 9 (AI eS x3), .AI rp0 9 (AI eS p0)] F) ho ⟨_, _, _, rfl, some h2.size, H.ls, A⟩ ?_
  clear ho hm H A
  intro s q fr h4 hI hm
  obtain ⟨x3, x4, x5, rfl, r1, H, A⟩ := hI
  unfold CL at hm
  refine AQ (AG 4 (AO 4 [(16, .bool (decide (x5 < (p0.length : Int))))] H fun fr H => Ad 16 H hm (fun hb hm H => ?_) fun hb hm H => ?_))
  ·refine Bf id (AQ ?_)
   obtain ⟨o2, ho, hm⟩ := bind_some hm
   refine Ax (Q' := fun e fr' h' => (∃ x8 x9, e = .normal ∧ (x8, x9) = o2 ∧ ∃ r3, Has fr' 53 [(0, AF rp0 p0.length), (5, .str x2), (6, AF r3 x8.length), (7, .bool x9), (8, Ai x5)] ∧ HH g h' [.AI r3 9 (AI eS x8), .AI rp0 9 (AI eS p0)] F) ∨ False) ?_ ?_
   ·replace hm := ho
    clear ho
    refine AV (id := 1) (by kernel_rfl) ?_
    refine AQ ?_
    obtain ⟨o3, ho, hm⟩ := bind_some hm
    refine Ax (Q' := fun e fr' h' => (∃ x10 x11, e = .normal ∧ (x10, x11) = o3 ∧ ∃ r4, Has fr' 53 [(0, AF rp0 p0.length), (5, .str x2), (6, AF r4 x10.length), (7, .bool x11), (8, Ai x5)] ∧ HH g h' [.AI r4 9 (AI eS x10), .AI rp0 9 (AI eS p0)] F) ∨ False) ?_ ?_
    ·replace hm := ho
     clear ho
     refine AG 10 (AK 3 [(21, .bool (!x4))] H fun fr H => ?_)
     obtain ⟨x12, ho, hm⟩ := bind_some hm
     refine A9 7 (fun fr' h' => Has fr' 53 [(0, AF rp0 p0.length), (5, .str x2), (6, AF r1 x3.length), (7, .bool x4), (8, Ai x5), (28, .bool x12)] ∧ HH g h' [.AI r1 9 (AI eS x3), .AI rp0 9 (AI eS p0)] F) ?_ ?_
     ·rcases AX ho with ⟨hb, hm⟩ | ⟨hb, hm⟩
      ·replace H := H.kn 21 hb
       obtain ⟨x13, hx, hm⟩ := bind_some hm
       obtain ⟨i1, er1, _, hx, hq1⟩ := HH.Kn encS (by decide) A 1 (xs := p0) rfl hx
       refine Ap 3 [(22, .str x2)] 25 (.ptr (some (i1, x5.toNat * 1))) h4 H (fun fr => .of (Dc (s := Cs rp0 p0.length) (by kernel_rfl) hx)) fun fr t H => ?_
       refine Aq 26 _ _ H (fun fr => .of (Da (by kernel_rfl) (DD encS (HH.row A 1 rfl er1) hq1 (o := 0) rfl))) fun fr t H => ?_
       refine AK 2 [(28, .bool (Op.bytesLess x2 x13 || x2 == x13))] H fun fr H => ?_
       obtain rfl := AY hm
       exact at_nil ⟨H.ls, A⟩
      replace H := H.kn 21 hb
      refine AK 7 [(28, .bool false)] H fun fr H => ?_
      obtain rfl := AY hm
      exact at_nil ⟨H.ls, A⟩
     clear A
     intro t fr h5 hK
     obtain ⟨H, A⟩ := hK
     refine BJ id (Ad 28 H hm (fun hb hm H => ?_) fun hb hm H => ?_)
     ·refine AG 5 (AK 2 [(29, AF r1 x3.length), (30, .str x2)] H fun fr H => ?_)
      obtain ⟨h6, e2, A⟩ := A.pL 9 [.str x2]
      refine BB 31 (AF (some h5.size) (([x2] : List (List UInt8)).length)) e2 H fun fr t H => ?_
      obtain ⟨hb, hm⟩ := BE hm
      obtain ⟨r5, h7, hx, A1⟩ := HH.Ko encS (by decide) A 1 (xs := x3) (ys := ([x2] : List (List UInt8))) rfl (Cu A 0 rfl (n := ([x2] : List (List UInt8)).length) (z := 1) rfl (by decide)) rfl rfl hb
      replace A : HH g h7 [.AI (some h5.size) 9 ([.str x2]), .AI r5 9 (AI eS (x3 ++ ([x2] : List (List UInt8)))), _] F := A1
      replace A := A.k2 1 2
      refine Aq 32 _ _ H (fun fr => .of (Hh (s := Cs r1 x3.length) (by kernel_rfl) hx)) fun fr t H => ?_
      refine BV 1 [(0, AF rp0 p0.length), (5, .str x2), (6, AF r5 ((x3 ++ ([x2] : List (List UInt8))).length)), (8, Ai x5)] H fun fr H => Ke 1 id (AK 1 [(7, .bool true)] H fun fr H => at_nil ?_)
      exact .inl ⟨_, _, rfl, AY hm, _, H.ls, A⟩
     exact FL (.inl ⟨_, _, rfl, AY hm, _, H.ls, A⟩)
    clear ho
    clear A
    intro e fr h8 hQ
    rcases hQ with ⟨x10, x11, rfl, rfl, r4, H, A⟩ | hF
    ·show AW _ _ _ _ _ _ _
     refine AG 6 ?_
     obtain ⟨x14, hx, hm⟩ := bind_some hm
     obtain ⟨i2, er2, _, hx, hq2⟩ := HH.Kn encS (by decide) A 1 (xs := p0) rfl hx
     refine Ap 2 [] 35 (.ptr (some (i2, x5.toNat * 1))) h8 H (fun fr => .of (Dc (s := Cs rp0 p0.length) (by kernel_rfl) hx)) fun fr t H => ?_
     refine Aq 36 _ _ H (fun fr => .of (Da (by kernel_rfl) (DD encS (HH.row A 1 rfl er2) hq2 (o := 0) rfl))) fun fr t H => ?_
     refine AO 2 [(38, .bool (!(x14 == x2)))] H fun fr H => Ad 38 H hm (fun hb hm H => ?_) fun hb hm H => ?_
     ·refine Cy 8 ?_
      obtain ⟨x15, hx, hm⟩ := bind_some hm
      obtain ⟨i3, er3, _, hx, hq3⟩ := HH.Kn encS (by decide) A 1 (xs := p0) rfl hx
      refine Ap 3 [(39, AF r4 x10.length)] 42 (.ptr (some (i3, x5.toNat * 1))) h8 H (fun fr => .of (Dc (s := Cs rp0 p0.length) (by kernel_rfl) hx)) fun fr t H => ?_
      refine Aq 43 _ _ H (fun fr => .of (Da (by kernel_rfl) (DD encS (HH.row A 1 rfl er3) hq3 (o := 0) rfl))) fun fr t H => ?_
      obtain ⟨h9, e3, A⟩ := A.pL 9 [.str x15]
      refine BB 44 (AF (some h8.size) (([x15] : List (List UInt8)).length)) e3 H fun fr t H => ?_
      obtain ⟨hb, hm⟩ := BE hm
      obtain ⟨r6, h10, hx, A1⟩ := HH.Ko encS (by decide) A 1 (xs := x10) (ys := ([x15] : List (List UInt8))) rfl (Cu A 0 rfl (n := ([x15] : List (List UInt8)).length) (z := 1) rfl (by decide)) rfl rfl hb
      replace A : HH g h10 [.AI (some h8.size) 9 ([.str x15]), .AI r6 9 (AI eS (x10 ++ ([x15] : List (List UInt8)))), _] F := A1
      replace A := A.k2 1 2
      refine Aq 45 _ _ H (fun fr => .of (Hh (s := Cs r4 x10.length) (by kernel_rfl) hx)) fun fr t H => ?_
      refine BV 1 [(0, AF rp0 p0.length), (5, .str x2), (6, AF r6 ((x10 ++ ([x15] : List (List UInt8))).length)), (7, .bool x11), (8, Ai x5)] H fun fr H => at_nil ?_
      exact .inl ⟨_, _, rfl, AY hm, _, H.ls, A⟩
     exact FL (.inl ⟨_, _, rfl, AY hm, _, H.ls, A⟩)
    exact hF.elim
   clear ho
   clear A
   intro e fr h11 hQ
   rcases hQ with ⟨x8, x9, rfl, rfl, r3, H, A⟩ | hF
   ·show AW _ _ _ _ _ _ _
    refine Cy 3 (BV 3 [(0, AF rp0 p0.length), (5, .str x2), (6, AF r3 x8.length), (7, .bool x9), (8, Ai (IntKind.i64.wrap (x5 + 1)))] H fun fr H => at_nil ?_)
    exact nx hm ⟨_, _, _, rfl, _, H.ls, A⟩
   exact hF.elim
  refine BU (i := 0) (by kernel_rfl) ?_
  exact nr hm fun e => .inl ⟨_, _, rfl, e, _, H.ls, A⟩
 clear ho
 clear A
 intro e fr h12 hQ
 rcases hQ with ⟨x6, x7, rfl, rfl, r2, H, A⟩ | hF
 ·show AW _ _ _ _ _ _ _
  refine AQ ?_
  obtain ⟨o4, ho, hm⟩ := bind_some hm
  refine Ax (Q' := fun e fr' h' => (∃ x16, e = .normal ∧ x16 = o4 ∧ ∃ r7, Has fr' 53 [(6, AF r7 x16.length)] ∧ HH g h' [.AI r7 9 (AI eS x16), .AI rp0 9 (AI eS p0)] F) ∨ False) ?_ ?_
  ·replace hm := ho
   clear ho
   refine AG 2 (AO 2 [(47, .bool (!x7))] H fun fr H => Ad 47 H hm (fun hb hm H => ?_) fun hb hm H => ?_)
   ·refine Cy 5 (AK 2 [(48, AF r2 x6.length), (49, .str x2)] H fun fr H => ?_)
    obtain ⟨h13, e4, A⟩ := A.pL 9 [.str x2]
    refine BB 50 (AF (some h12.size) (([x2] : List (List UInt8)).length)) e4 H fun fr t H => ?_
    obtain ⟨hb, hm⟩ := BE hm
    obtain ⟨r8, h14, hx, A1⟩ := HH.Ko encS (by decide) A 1 (xs := x6) (ys := ([x2] : List (List UInt8))) rfl (Cu A 0 rfl (n := ([x2] : List (List UInt8)).length) (z := 1) rfl (by decide)) rfl rfl hb
    replace A : HH g h14 [.AI (some h12.size) 9 ([.str x2]), .AI r8 9 (AI eS (x6 ++ ([x2] : List (List UInt8)))), _] F := A1
    replace A := A.k2 1 2
    refine Aq 51 _ _ H (fun fr => .of (Hh (s := Cs r2 x6.length) (by kernel_rfl) hx)) fun fr t H => ?_
    refine BV 1 [(6, AF r8 ((x6 ++ ([x2] : List (List UInt8))).length))] H fun fr H => at_nil ?_
    exact .inl ⟨_, rfl, AY hm, _, H.ls, A⟩
   exact FL (.inl ⟨_, rfl, AY hm, _, H.ls, A⟩)
  clear ho
  clear A
  intro e fr h15 hQ
  rcases hQ with ⟨x16, rfl, rfl, r7, H, A⟩ | hF
  ·show AW _ _ _ _ _ _ _
   refine AG 2 (AO 2 [(4, AF r7 x16.length)] H fun fr H => AU ?_)
   obtain rfl := AY hm
   exact ⟨.inl rfl, _, rH H, _, rfl, A⟩
  exact hF.elim
 exact hF.elim
end
end Go.Av.L
