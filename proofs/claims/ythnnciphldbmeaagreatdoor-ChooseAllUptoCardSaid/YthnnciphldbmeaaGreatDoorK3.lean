/-
 Models of functions, and that the abstract run tells them. Written by lift2.py.
-/
import Derived.Test.YthnnciphldbmeaaGreatDoorKCfg
import Derived.Test.YthnnciphldbmeaaGreatDoorK0
import Derived.Test.YthnnciphldbmeaaGreatDoorK1
import Derived.Test.YthnnciphldbmeaaGreatDoorK2
namespace Go.Av.L
open Go.Av Go.Lib
set_option maxRecDepth 10000
set_option maxHeartbeats 4000000
set_option linter.unusedVariables false
set_option linter.unusedSimpArgs false
variable {g : Gd} {h : AH} {F : List Ck} {av : List AA}
noncomputable section
def GG (p0 : List AO) (p1 : EB) (p2 : Int) (x1 : BX) (x2 : List UInt8) (x15 : Int) (s : (List Int) × (List Bool) × (List ((List UInt8) × Int)) × (List (List UInt8)) × Int) : Option (((List Int) × (List Bool) × (List ((List UInt8) × Int)) × (List (List UInt8)) × Int) ⊕ (((List Int) × (List Bool) × (List ((List UInt8) × Int)) × (List (List UInt8))) ⊕ ((List Int) × (List Bool) × (List ((List UInt8) × Int)) × (List (List UInt8)) × Int))) :=
 match s with
 | (x25, x26, x27, x28, x29) => Ae (decide (x29 < (x2.length : Int))) ((HR x2 x29).bind fun x39 => (HR x28 x15).bind fun x40 => (DW (⟨p0, p1, p2, (⟨x1.BO, x1.Aq, x25, x26⟩ : BX), x2, x27, x28⟩ : Bz) x40 (x39.toNat : Int)).bind fun x41 => (Ce (⟨p0, p1, p2, (⟨x1.BO, x1.Aq, x25, x26⟩ : BX), x2, x27, x28⟩ : Bz) x41).bind fun (x42, x43, x44, x45, x46) => Ae (!x43) (some (.inr (.inr (x25, x44, x45, x46, (7 : Int))))) (Fl (OU 4 (x25.length + ([x42] : List Int).length)) <| some (.inl ((x25 ++ ([x42] : List Int)), x44, x45, x46, IntKind.i64.wrap (x29 + 1))))) (some (.inr (.inl (x25, x26, x27, x28))))
def GI (p0 : List AO) (p1 : EB) (p2 : Int) (x1 : BX) (x2 : List UInt8) (s : (List Int) × (List Bool) × (List ((List UInt8) × Int)) × (List (List UInt8)) × Int) : Option (((List Int) × (List Bool) × (List ((List UInt8) × Int)) × (List (List UInt8)) × Int) ⊕ (((List Int) × (List Bool) × (List ((List UInt8) × Int)) × (List (List UInt8))) ⊕ ((List Int) × (List Bool) × (List ((List UInt8) × Int)) × (List (List UInt8)) × Int))) :=
 match s with
 | (x11, x12, x13, x14, x15) => Ae (decide (x15 < (x14.length : Int))) ((loop (GG p0 p1 p2 x1 x2 x15) (x11, x12, x13, x14, (0 : Int))).bind fun o2 => (match o2 with | .inl (x30, x31, x32, x33) => some (.inl (x30, x31, x32, x33, IntKind.i64.wrap (x15 + 1))) | .inr (x34, x35, x36, x37, x38) => some (.inr (.inr (x34, x35, x36, x37, x38))))) (some (.inr (.inl (x11, x12, x13, x14))))
def Fh (p0 : List AO) (p1 : EB) (p2 : Int) : Option ((Option BX) × Int) :=
 Ae ((decide (p2 < 1)) || (decide (p2 > 4096))) (some (none, (6 : Int))) (Ae (decide ((p0.length : Int) > 1024)) (some (none, (8 : Int))) ((Dh (⟨p0, p1, p2, (⟨Oe, (0 : Int), ([] : List Int), ([] : List Bool)⟩ : BX), ([] : List UInt8), ([] : List ((List UInt8) × Int)), ([] : List (List UInt8))⟩ : Bz)).bind fun (x1, x2) => Fl (XF 1 (IntKind.i64.wrap ((B7 .i64 (p0.length : Int) (3 : Int)) + 1))) <| (HR (List.replicate (IntKind.i64.wrap ((B7 .i64 (p0.length : Int) (3 : Int)) + 1)).toNat (0 : UInt8)) (0 : Int)).bind fun x3 => (Ch (⟨p0, p1, p2, (⟨x1.BO, x1.Aq, ([] : List Int), ([] : List Bool)⟩ : BX), x2, ([] : List ((List UInt8) × Int)), ([] : List (List UInt8))⟩ : Bz) ((List.replicate (IntKind.i64.wrap ((B7 .i64 (p0.length : Int) (3 : Int)) + 1)).toNat (0 : UInt8)).set (0 : Int).toNat (1 : UInt8))).bind fun (x4, x5) => (Ce (⟨p0, p1, p2, (⟨x1.BO, x1.Aq, ([] : List Int), ([] : List Bool)⟩ : BX), x2, ([] : List ((List UInt8) × Int)), ([] : List (List UInt8))⟩ : Bz) x4).bind fun (x6, x7, x8, x9, x10) => (loop (GI p0 p1 p2 x1 x2) (([] : List Int), x8, x9, x10, (0 : Int))).bind fun o1 => (match o1 with | .inl (x16, x17, x18, x19) => some (some (⟨x1.BO, x1.Aq, x16, x17⟩ : BX), (0 : Int)) | .inr (x20, x21, x22, x23, x24) => some (none, x24))))
theorem Js {p0 p1 p2 rp0 o0 q1} (hm : Fh p0 p1 p2 = some (o0, q1)) (A : HH g h [.AL rp0 264 (AL AM p0)] F) (hc : BI (cfg.still 130) av = [AI rp0 p0.length, .agg [.bool p1.Fold, .bool p1.Ax], Ai p2] := by kernel_rfl) : ∃ v h', BL cfg g h 130 av v h' ∧ ((∃ (q0 : BX), o0 = some q0 ∧ v = .tuple [.A7 (Cl 256 (AA.int .u8) q0.BO ++ [Ai q0.Aq, vs (eI .i32) q0.BN, vs eB q0.A8]), Ai q1] ∧ HH g h' [.AL rp0 264 (AL AM p0)] F) ∨ (o0 = none ∧ v = .tuple [.ptr none, Ai q1] ∧ HH g h' [.AL rp0 264 (AL AM p0)] F)) := by
 refine Xp 104 [.tmp 6, .tmp 7] hc ?_
 clear hc
 unfold Fh at hm
 refine bg 104 [(0, AI rp0 p0.length), (1, .agg [.bool p1.Fold, .bool p1.Ax]), (2, Ai p2)] fun fr H => ?_
 refine AG 3 ?_
 obtain ⟨h1, e1, A⟩ := A.pu (.cells none 2 [.bool p1.Fold, .bool p1.Ax])
 refine BC 4 (.ptr (some (h.size, 0))) e1 H fun fr t H => ?_
 refine AN 2 [] H fun fr H => AQ (AX (id := 0) (by kernel_rfl) ?_)
 refine AG 7 (AF 3 [(18, .bool (decide (p2 < 1)))] H fun fr H => An 3 (fun fr' h' => h1 = h' ∧ Has fr' 104 [(0, AI rp0 p0.length), (2, Ai p2), (4, .ptr (some (h.size, 0))), (21, .bool ((decide (p2 < 1)) || (decide (p2 > 4096))))]) ?_ ?_)
 ·cases hb : (decide (p2 < 1) : Bool) with
  | true =>
   replace H := H.kn 18 hb
   exact AF 3 [(21, .bool true)] H fun fr H => AY H hb
  | false =>
   replace H := H.kn 18 hb
   exact AF 3 [(21, .bool (decide (p2 > 4096)))] H fun fr H => AY H hb
 intro t fr h' hK
 obtain ⟨e, H⟩ := hK
 subst e
 refine AN 1 [(15, .bool ((decide (p2 < 1)) || (decide (p2 > 4096))))] H fun fr H => Ak 15 H hm (fun hb hm H => ?_) fun hb hm H => ?_
 ·refine AG 2 (AN 2 [(6, .ptr none), (7, Ai 6)] H fun fr H => AS ?_)
  obtain ⟨rfl, rfl⟩ := DG hm
  refine ⟨.inl rfl, .tuple [.ptr none, Ai 6], rH H, ?_⟩
  replace A := A.k1 1
  refine ⟨.tuple [.ptr none, Ai 6], h1, by first | rfl | (simp only [Oh, On, PA, Ot, O7, O5, Oa, Od, Oz, O9, OW, Oi, O8, Fz, Fw, Fu, F7, F5, F9, Fs, Option.map_some] <;> rfl), ?_⟩
  exact .inr ⟨rfl, rfl, A⟩
 refine AG 4 (AN 4 [(22, .bool (decide ((p0.length : Int) > 1024)))] H fun fr H => Ak 22 H hm (fun hb hm H => ?_) fun hb hm H => ?_)
 ·refine AG 2 (AN 2 [(6, .ptr none), (7, Ai 8)] H fun fr H => AS ?_)
  obtain ⟨rfl, rfl⟩ := DG hm
  refine ⟨.inl rfl, .tuple [.ptr none, Ai 8], rH H, ?_⟩
  replace A := A.k1 1
  refine ⟨.tuple [.ptr none, Ai 8], h1, by first | rfl | (simp only [Oh, On, PA, Ot, O7, O5, Oa, Od, Oz, O9, OW, Oi, O8, Fz, Fw, Fu, F7, F5, F9, Fs, Option.map_some] <;> rfl), ?_⟩
  exact .inr ⟨rfl, rfl, A⟩
 refine Cm 9 id (As 1 [(26, AI rp0 p0.length)] 27 _ _ H (fun fr => .of (Bs (by kernel_rfl) (A.GA 0 rfl (o := 0) (n := 2) ⟨Nat.le_of_ble_eq_true rfl, rfl⟩))) fun fr t H => ?_)
 obtain ⟨h2, e2, A⟩ := A.pu (.cells none 2 (Cl 256 (AA.int .u8) Oe ++ [Ai 0, .slice none 0, .slice none 0]))
 refine Gy 2 [(28, Ai p2)] 30 (.ptr (some (h1.size, 0))) e2 H fun fr t H => ?_
 obtain ⟨h3, e3⟩ : ∃ x, x = h2.push (.map 2 []) := ⟨_, rfl⟩
 replace A : HH g h3 [.obj h2.size (.map 2 (BR (fun k : List UInt8 => .str k) (fun v : Int => .int .i32 v) ([] : List ((List UInt8) × Int)))), .obj h1.size (.cells none 2 (Cl 256 (AA.int .u8) Oe ++ [Ai 0, .slice none 0, .slice none 0])), .obj h.size (.cells none 2 [.bool p1.Fold, .bool p1.Ax]), _] F := (A.push _).to e3
 refine BC 31 (.map (some h2.size)) e3 H fun fr t H => ?_
 obtain ⟨h4, e4, A⟩ := A.pu (.cells none 2 [AI rp0 p0.length, .bool p1.Fold, .bool p1.Ax, Ai p2, .ptr (some (h1.size, 0)), .slice none 0, .map (some h2.size), .slice none 0])
 refine Gy 1 [] 33 (.ptr (some (h3.size, 0))) e4 H fun fr t H => ?_
 refine BT 1 [(8, .ptr (some (h3.size, 0)))] 2 H fun fr H => ?_
 replace A : HH g h4 [.AL none 21 (AL (eI .i32) ([] : List Int)), .obj h3.size (.cells none 2 [AI rp0 p0.length, .bool p1.Fold, .bool p1.Ax, Ai p2, .ptr (some (h1.size, 0)), .slice none 0, .map (some h2.size), .slice none 0]), _, .obj h1.size (.cells none 2 (Cl 256 (AA.int .u8) Oe ++ [Ai 0, AI none (([] : List Int).length), .slice none 0])), _, _] F := A.MV 21
 replace A : HH g h4 [.AL none 4 (AL eB ([] : List Bool)), _, _, _, .obj h1.size (.cells none 2 (Cl 256 (AA.int .u8) Oe ++ [Ai 0, AI none (([] : List Int).length), AI none (([] : List Bool).length)])), _, _] F := A.MV 4
 replace A : HH g h4 [.AL none 5 (AL eY ([] : List UInt8)), _, _, .obj h3.size (.cells none 2 [_, _, _, _, _, AI none (([] : List UInt8).length), _, _]), _, _, _, _] F := A.MV 5
 replace A : HH g h4 [.AL none 9 (AL eS ([] : List (List UInt8))), _, _, _, .obj h3.size (.cells none 2 [_, _, _, _, _, _, _, AI none (([] : List (List UInt8)).length)]), _, _, _, _] F := A.MV 9
 replace A := A.k9 4 8 6 3 2 1 5 0 7
 obtain ⟨⟨x1, x2⟩, hx, hm⟩ := bind_some hm
 obtain ⟨v1, h5, hr, r1, rfl, A1⟩ := HM (av := [.ptr (some (h3.size, 0))]) hx (A.cut 8)
 replace A : HH g h5 [.obj h3.size (.cells none 2 [_, _, _, _, _, AI r1 x2.length, _, _]), .AL rp0 264 (AL AM p0), .obj h1.size (.cells none 2 (Cl 256 (AA.int .u8) x1.BO ++ [Ai x1.Aq, AI none (([] : List Int).length), AI none (([] : List Bool).length)])), .AL none 21 (AL (eI .i32) ([] : List Int)), .AL none 4 (AL eB ([] : List Bool)), .AL r1 5 (AL eY x2), .obj h2.size (.map 2 (BR (fun k : List UInt8 => .str k) (fun v : Int => .int .i32 v) ([] : List ((List UInt8) × Int)))), .AL none 9 (AL eS ([] : List (List UInt8))), _] F := A.CL (n := 8) A1
 refine SG 1 [] hr H fun fr t H => ?_
 refine Cj 6 id ?_
 obtain ⟨hb, hm⟩ := BZ hm
 obtain ⟨h6, e5, A⟩ := A.pL 5 (AL eY (List.replicate (IntKind.i64.wrap ((B7 .i64 (p0.length : Int) (3 : Int)) + 1)).toNat (0 : UInt8)))
 refine As 4 [] 40 (AI (some h5.size) (List.replicate (IntKind.i64.wrap ((B7 .i64 (p0.length : Int) (3 : Int)) + 1)).toNat (0 : UInt8)).length) h6 H (fun fr => .of (Tj (e := eY) HC (x := (0 : UInt8)) (by kernel_rfl) hb (congrArg some e5.symm))) fun fr t H => ?_
 refine BT 1 [(9, AI (some h5.size) ((List.replicate (IntKind.i64.wrap ((B7 .i64 (p0.length : Int) (3 : Int)) + 1)).toNat (0 : UInt8)).length))] 3 H fun fr H => ?_
 obtain ⟨x3, hx, hm⟩ := bind_some hm
 obtain ⟨i1, er1, _, hx, hq1⟩ := HH.NP HC (by decide) A 0 (xs := (List.replicate (IntKind.i64.wrap ((B7 .i64 (p0.length : Int) (3 : Int)) + 1)).toNat (0 : UInt8))) rfl hx
 refine As 1 [] 42 (.ptr (some (i1, (0 : Int).toNat * 1))) h6 H (fun fr => .of (Fa (s := D2 (some h5.size) ((List.replicate (IntKind.i64.wrap ((B7 .i64 (p0.length : Int) (3 : Int)) + 1)).toNat (0 : UInt8)).length)) (by kernel_rfl) hx)) fun fr t H => ?_
 obtain ⟨h7, hx, A1⟩ := HH.WW HC A 0 rfl er1 hq1 (y := (1 : UInt8)) (o := 0) (new := [Ab 1]) rfl rfl (Nat.le_of_ble_eq_true rfl)
 have hl1 : ((List.replicate (IntKind.i64.wrap ((B7 .i64 (p0.length : Int) (3 : Int)) + 1)).toNat (0 : UInt8)).set (0 : Int).toNat (1 : UInt8)).length = (List.replicate (IntKind.i64.wrap ((B7 .i64 (p0.length : Int) (3 : Int)) + 1)).toNat (0 : UInt8)).length := List.length_set
 have el : AI (some h5.size) (List.replicate (IntKind.i64.wrap ((B7 .i64 (p0.length : Int) (3 : Int)) + 1)).toNat (0 : UInt8)).length = AI (some h5.size) ((List.replicate (IntKind.i64.wrap ((B7 .i64 (p0.length : Int) (3 : Int)) + 1)).toNat (0 : UInt8)).set (0 : Int).toNat (1 : UInt8)).length := congrArg _ List.length_set.symm
 try rw [el] at H
 try rw [el] at A1
 replace A : HH g h7 [.AL (some h5.size) 5 (AL eY ((List.replicate (IntKind.i64.wrap ((B7 .i64 (p0.length : Int) (3 : Int)) + 1)).toNat (0 : UInt8)).set (0 : Int).toNat (1 : UInt8))), _, _, _, _, _, _, _, _, _] F := A1
 refine Jo hx H fun fr t H => ?_
 refine Cj 5 id ?_
 replace A : HH g h7 [_, _, _, _, _, _, _, _, _, _] F := (((((((((A.front 0 rfl).front 8 rfl).front 8 rfl).front 8 rfl).front 8 rfl).front 8 rfl).front 8 rfl).front 8 rfl).front 8 rfl)
 obtain ⟨⟨x4, x5⟩, hx, hm⟩ := bind_some hm
 obtain ⟨v1, h8, hr, hl2, rfl, A1⟩ := Ey (av := [.ptr (some (h3.size, 0)), AI (some h5.size) (((List.replicate (IntKind.i64.wrap ((B7 .i64 (p0.length : Int) (3 : Int)) + 1)).toNat (0 : UInt8)).set (0 : Int).toNat (1 : UInt8)).length)]) hx (A.cut 9)
 have hl3 : x5.length = (List.replicate (IntKind.i64.wrap ((B7 .i64 (p0.length : Int) (3 : Int)) + 1)).toNat (0 : UInt8)).length := hl2.trans hl1
 have el : AI (some h5.size) ((List.replicate (IntKind.i64.wrap ((B7 .i64 (p0.length : Int) (3 : Int)) + 1)).toNat (0 : UInt8)).set (0 : Int).toNat (1 : UInt8)).length = AI (some h5.size) x5.length := congrArg _ hl2.symm
 try rw [el] at H
 try rw [el] at hr
 try rw [el] at A1
 replace A : HH g h8 [.obj h3.size (.cells none 2 [_, _, _, _, _, _, _, _]), .AL rp0 264 (AL AM p0), .obj h1.size (.cells none 2 (Cl 256 (AA.int .u8) x1.BO ++ [Ai x1.Aq, AI none (([] : List Int).length), AI none (([] : List Bool).length)])), .AL none 21 (AL (eI .i32) ([] : List Int)), .AL none 4 (AL eB ([] : List Bool)), .AL r1 5 (AL eY x2), .obj h2.size (.map 2 (BR (fun k : List UInt8 => .str k) (fun v : Int => .int .i32 v) ([] : List ((List UInt8) × Int)))), .AL none 9 (AL eS ([] : List (List UInt8))), .AL (some h5.size) 5 (AL eY x5), _] F := A.CL (n := 9) A1
 refine BH 3 [(43, .ptr (some (h3.size, 0)))] 46 hr H fun fr t H => ?_
 obtain ⟨⟨x6, x7, x8, x9, x10⟩, hx, hm⟩ := bind_some hm
 obtain ⟨v1, h9, hr, r2, r3, rfl, A1⟩ := Ez (av := [.ptr (some (h3.size, 0)), .str x4]) hx (A.cut 8)
 replace A : HH g h9 [.obj h3.size (.cells none 2 [_, _, _, _, _, _, _, AI r3 x10.length]), .AL rp0 264 (AL AM p0), .obj h1.size (.cells none 2 (Cl 256 (AA.int .u8) x1.BO ++ [Ai x1.Aq, AI none (([] : List Int).length), AI r2 x8.length])), .AL none 21 (AL (eI .i32) ([] : List Int)), .AL r2 4 (AL eB x8), .AL r1 5 (AL eY x2), .obj h2.size (.map 2 (BR (fun k : List UInt8 => .str k) (fun v : Int => .int .i32 v) x9)), .AL r3 9 (AL eS x10), _, _] F := A.CL (n := 8) A1
 refine Uf hr H fun fr t H => ?_
 refine BB id (AQ (AG 1 (AN 1 [(10, Ai 0)] H fun fr H => AX (id := 1) (by kernel_rfl) ?_)))
 replace A := A.k9 0 1 2 3 4 5 6 7 9
 obtain ⟨o1, ho, hm⟩ := bind_some hm
 refine BM (Q' := fun e fr' h' => (∃ x16 x17 x18 x19, e = .exit 1 ∧ .inl (x16, x17, x18, x19) = o1 ∧ ∃ r7 r8 r9, Has fr' 104 [(8, .ptr (some (h3.size, 0)))] ∧ HH g h' [.obj h3.size (.cells none 2 [AI rp0 p0.length, .bool p1.Fold, .bool p1.Ax, Ai p2, .ptr (some (h1.size, 0)), AI r1 x2.length, .map (some h2.size), AI r9 x19.length]), .AL rp0 264 (AL AM p0), .obj h1.size (.cells none 2 (Cl 256 (AA.int .u8) x1.BO ++ [Ai x1.Aq, AI r7 x16.length, AI r8 x17.length])), .AL r7 21 (AL (eI .i32) x16), .AL r8 4 (AL eB x17), .AL r1 5 (AL eY x2), .obj h2.size (.map 2 (BR (fun k : List UInt8 => .str k) (fun v : Int => .int .i32 v) x18)), .AL r9 9 (AL eS x19), .obj h.size (.cells none 2 [.bool p1.Fold, .bool p1.Ax])] F) ∨ (∃ x20 x21 x22 x23 x24, e = .ret ∧ .inr (x20, x21, x22, x23, x24) = o1 ∧ ∃ r10 r11 r12, Has fr' 104 [(6, .ptr none), (7, Ai x24)] ∧ HH g h' [.obj h3.size (.cells none 2 [AI rp0 p0.length, .bool p1.Fold, .bool p1.Ax, Ai p2, .ptr (some (h1.size, 0)), AI r1 x2.length, .map (some h2.size), AI r12 x23.length]), .AL rp0 264 (AL AM p0), .obj h1.size (.cells none 2 (Cl 256 (AA.int .u8) x1.BO ++ [Ai x1.Aq, AI r10 x20.length, AI r11 x21.length])), .AL r10 21 (AL (eI .i32) x20), .AL r11 4 (AL eB x21), .AL r1 5 (AL eY x2), .obj h2.size (.map 2 (BR (fun k : List UInt8 => .str k) (fun v : Int => .int .i32 v) x22)), .AL r12 9 (AL eS x23), .obj h.size (.cells none 2 [.bool p1.Fold, .bool p1.Ax])] F) ∨ False) ?_ ?_
 ·refine B8 (by kernel_rfl) (fun (s : (List Int) × (List Bool) × (List ((List UInt8) × Int)) × (List (List UInt8)) × Int) fr' h' => ∃ x11 x12 x13 x14 x15, (x11, x12, x13, x14, x15) = s ∧ ∃ r4 r5 r6, Has fr' 104 [(8, .ptr (some (h3.size, 0))), (10, Ai x15)] ∧ HH g h' [.obj h3.size (.cells none 2 [AI rp0 p0.length, .bool p1.Fold, .bool p1.Ax, Ai p2, .ptr (some (h1.size, 0)), AI r1 x2.length, .map (some h2.size), AI r6 x14.length]), .AL rp0 264 (AL AM p0), .obj h1.size (.cells none 2 (Cl 256 (AA.int .u8) x1.BO ++ [Ai x1.Aq, AI r4 x11.length, AI r5 x12.length])), .AL r4 21 (AL (eI .i32) x11), .AL r5 4 (AL eB x12), .AL r1 5 (AL eY x2), .obj h2.size (.map 2 (BR (fun k : List UInt8 => .str k) (fun v : Int => .int .i32 v) x13)), .AL r6 9 (AL eS x14), .obj h.size (.cells none 2 [.bool p1.Fold, .bool p1.Ax])] F) ho ⟨_, _, _, _, _, rfl, none, _, _, H.ls, A⟩ ?_
  clear ho hm H A
  intro s q fr h10 hI hm
  obtain ⟨x11, x12, x13, x14, x15, rfl, r4, r5, r6, H, A⟩ := hI
  unfold GI at hm
  refine AQ (AG 7 (AR 4 [(48, Ai x15)] 52 0 7 A H fun fr t H => ?_))
  refine AN 2 [(54, .bool (decide (x15 < (x14.length : Int))))] H fun fr H => Ak 54 H hm (fun hb hm H => ?_) fun hb hm H => ?_
  ·refine Be id (AQ (AX (id := 2) (by kernel_rfl) ?_))
   refine AG 6 (AR 3 [] 60 0 5 A H fun fr t H => ?_)
   refine AN 2 [(61, Ai (x2.length : Int)), (62, Ai 0)] H fun fr H => AX (id := 3) (by kernel_rfl) ?_
   obtain ⟨o2, ho, hm⟩ := bind_some hm
   refine BM (Q' := fun e fr' h' => (∃ x30 x31 x32 x33, e = .exit 3 ∧ .inl (x30, x31, x32, x33) = o2 ∧ ∃ r16 r17 r18, Has fr' 104 [(8, .ptr (some (h3.size, 0))), (10, Ai x15)] ∧ HH g h' [.obj h3.size (.cells none 2 [AI rp0 p0.length, .bool p1.Fold, .bool p1.Ax, Ai p2, .ptr (some (h1.size, 0)), AI r1 x2.length, .map (some h2.size), AI r18 x33.length]), .AL rp0 264 (AL AM p0), .obj h1.size (.cells none 2 (Cl 256 (AA.int .u8) x1.BO ++ [Ai x1.Aq, AI r16 x30.length, AI r17 x31.length])), .AL r16 21 (AL (eI .i32) x30), .AL r17 4 (AL eB x31), .AL r1 5 (AL eY x2), .obj h2.size (.map 2 (BR (fun k : List UInt8 => .str k) (fun v : Int => .int .i32 v) x32)), .AL r18 9 (AL eS x33), .obj h.size (.cells none 2 [.bool p1.Fold, .bool p1.Ax])] F) ∨ (∃ x34 x35 x36 x37 x38, e = .ret ∧ .inr (x34, x35, x36, x37, x38) = o2 ∧ ∃ r19 r20 r21, Has fr' 104 [(6, .ptr none), (7, Ai x38)] ∧ HH g h' [.obj h3.size (.cells none 2 [AI rp0 p0.length, .bool p1.Fold, .bool p1.Ax, Ai p2, .ptr (some (h1.size, 0)), AI r1 x2.length, .map (some h2.size), AI r21 x37.length]), .AL rp0 264 (AL AM p0), .obj h1.size (.cells none 2 (Cl 256 (AA.int .u8) x1.BO ++ [Ai x1.Aq, AI r19 x34.length, AI r20 x35.length])), .AL r19 21 (AL (eI .i32) x34), .AL r20 4 (AL eB x35), .AL r1 5 (AL eY x2), .obj h2.size (.map 2 (BR (fun k : List UInt8 => .str k) (fun v : Int => .int .i32 v) x36)), .AL r21 9 (AL eS x37), .obj h.size (.cells none 2 [.bool p1.Fold, .bool p1.Ax])] F) ∨ False) ?_ ?_
   ·refine B8 (by kernel_rfl) (fun (s : (List Int) × (List Bool) × (List ((List UInt8) × Int)) × (List (List UInt8)) × Int) fr' h' => ∃ x25 x26 x27 x28 x29, (x25, x26, x27, x28, x29) = s ∧ ∃ r13 r14 r15, Has fr' 104 [(8, .ptr (some (h3.size, 0))), (10, Ai x15), (60, AI r1 x2.length), (61, Ai (x2.length : Int)), (62, Ai x29)] ∧ HH g h' [.obj h3.size (.cells none 2 [AI rp0 p0.length, .bool p1.Fold, .bool p1.Ax, Ai p2, .ptr (some (h1.size, 0)), AI r1 x2.length, .map (some h2.size), AI r15 x28.length]), .AL rp0 264 (AL AM p0), .obj h1.size (.cells none 2 (Cl 256 (AA.int .u8) x1.BO ++ [Ai x1.Aq, AI r13 x25.length, AI r14 x26.length])), .AL r13 21 (AL (eI .i32) x25), .AL r14 4 (AL eB x26), .AL r1 5 (AL eY x2), .obj h2.size (.map 2 (BR (fun k : List UInt8 => .str k) (fun v : Int => .int .i32 v) x27)), .AL r15 9 (AL eS x28), .obj h.size (.cells none 2 [.bool p1.Fold, .bool p1.Ax])] F) ho ⟨_, _, _, _, _, rfl, _, _, _, H.ls, A⟩ ?_
    clear ho hm H A
    intro s q fr h11 hI hm
    obtain ⟨x25, x26, x27, x28, x29, rfl, r13, r14, r15, H, A⟩ := hI
    unfold GG at hm
    refine AG 1 (AN 1 [(63, .bool (decide (x29 < (x2.length : Int))))] H fun fr H => AQ (Ak 63 H hm (fun hb hm H => ?_) fun hb hm H => ?_))
    ·refine Be id (AQ (AX (id := 4) (by kernel_rfl) ?_))
     refine AG 3 ?_
     obtain ⟨x39, hx, hm⟩ := bind_some hm
     obtain ⟨i2, er2, _, hx, hq2⟩ := HH.NP HC (by decide) A 5 (xs := x2) rfl hx
     refine Az 64 (.ptr (some (i2, x29.toNat * 1))) h11 H (fun fr => .of (Fa (s := D2 r1 x2.length) (by kernel_rfl) hx)) fun fr t H => ?_
     refine Az 65 _ _ H (fun fr => .of (Dj (by kernel_rfl) (FU HC (HH.row A 5 rfl er2) hq2 (o := 0) rfl))) fun fr t H => ?_
     refine BT 1 [(12, Ab (x39.toNat : Int))] 17 H fun fr H => AR 5 [(67, .ptr (some (h3.size, 0))), (68, .ptr (some (h3.size, 0)))] 72 0 7 A H fun fr t H => ?_
     obtain ⟨x40, hx, hm⟩ := bind_some hm
     obtain ⟨i3, er3, _, hx, hq3⟩ := HH.NP encS (by decide) A 7 (xs := x28) rfl hx
     refine As 1 [] 74 (.ptr (some (i3, x15.toNat * 1))) h11 H (fun fr => .of (Fa (s := D2 r15 x28.length) (by kernel_rfl) hx)) fun fr t H => ?_
     refine Az 75 _ _ H (fun fr => .of (Dj (by kernel_rfl) (FU encS (HH.row A 7 rfl er3) hq3 (o := 0) rfl))) fun fr t H => ?_
     obtain ⟨x41, hx, hm⟩ := bind_some hm
     obtain ⟨v1, h12, hr, rfl, A1⟩ := HA (av := [.ptr (some (h3.size, 0)), .str x40, Ab (x39.toNat : Int)]) hx (A.cut 8)
     replace A : HH g h12 [.obj h3.size (.cells none 2 [_, _, _, _, _, _, _, _]), .AL rp0 264 (AL AM p0), .obj h1.size (.cells none 2 (Cl 256 (AA.int .u8) x1.BO ++ [Ai x1.Aq, AI r13 x25.length, AI r14 x26.length])), .AL r13 21 (AL (eI .i32) x25), .AL r14 4 (AL eB x26), .AL r1 5 (AL eY x2), .obj h2.size (.map 2 (BR (fun k : List UInt8 => .str k) (fun v : Int => .int .i32 v) x27)), .AL r15 9 (AL eS x28), _] F := A.CL (n := 8) A1
     refine BH 1 [] 77 hr H fun fr t H => ?_
     obtain ⟨⟨x42, x43, x44, x45, x46⟩, hx, hm⟩ := bind_some hm
     obtain ⟨v1, h13, hr, r22, r23, rfl, A1⟩ := Ez (av := [.ptr (some (h3.size, 0)), .str x41]) hx (A.cut 8)
     replace A : HH g h13 [.obj h3.size (.cells none 2 [_, _, _, _, _, _, _, AI r23 x46.length]), .AL rp0 264 (AL AM p0), .obj h1.size (.cells none 2 (Cl 256 (AA.int .u8) x1.BO ++ [Ai x1.Aq, AI r13 x25.length, AI r22 x44.length])), .AL r13 21 (AL (eI .i32) x25), .AL r22 4 (AL eB x44), .AL r1 5 (AL eY x2), .obj h2.size (.map 2 (BR (fun k : List UInt8 => .str k) (fun v : Int => .int .i32 v) x45)), .AL r23 9 (AL eS x46), _] F := A.CL (n := 8) A1
     refine Ay 78 hr H fun fr t H => ?_
     refine AN 5 [(13, .int .i32 x42), (14, .bool x43)] H fun fr H => AQ (AG 2 (AN 2 [(82, .bool (!x43))] H fun fr H => Ak 82 H hm (fun hb hm H => ?_) fun hb hm H => ?_))
     ·refine AG 2 (AN 2 [(6, .ptr none), (7, Ai 7)] H fun fr H => AS ?_)
      exact nr hm fun e => Or.inr (.inl ⟨_, _, _, _, _, rfl, e, _, _, _, H.ls, A⟩)
     refine Be id (Jk 19 17 [(0, []), (1, []), (2, []), (3, []), (4, []), (5, []), (6, []), (7, []), (8, []), (9, []), (10, []), (11, []), (12, []), (13, [3]), (14, []), (15, []), (16, [])] ?_)
     refine AF 3 [(85, .ptr (some (h3.size, 4)))] H fun fr H => B0 86 (.ptr (some (h1.size, 0))) h13 [(3, h3.size)] (g.BU) H (fun fr => .of (Dj (by kernel_rfl) (A.l1 0 4))) (fun fr H => ?_)
     refine AF 3 [(89, .ptr (some (h3.size, 4)))] H fun fr H => B0 90 (.ptr (some (h1.size, 0))) h13 [(7, h3.size), (3, h3.size)] (g.BU) H (fun fr => .of (Dj (by kernel_rfl) (A.l1 0 4))) (fun fr H => ?_)
     refine AF 2 [(92, .ptr (some (h1.size, 257)))] H fun fr H => B0 93 (AI r13 x25.length) h13 [(10, h1.size), (7, h3.size), (3, h3.size)] (g.BU) H (fun fr => .of (Dj (by kernel_rfl) (A.NX 2 rfl (o := 257) (by kernel_rfl)))) (fun fr H => ?_)
     refine AF 1 [(94, .int .i32 x42)] H fun fr H => ?_
     obtain ⟨h14, e6, A⟩ := A.pL 21 [.int .i32 x42]
     refine B0 95 (AI (some h13.size) (([x42] : List Int).length)) h14 [(12, h13.size), (10, h1.size), (7, h3.size), (3, h3.size)] (g.BU) H (fun fr => .of (Qk (by kernel_rfl) (congrArg some e6.symm))) (fun fr H => ?_)
     replace A : HH g h14 [_, .AL (some h13.size) 21 ([.int .i32 x42]), _, _, _, _, _, _, _, _] F := (A.front 4 rfl)
     have A1 := A.Gm 1 (pr := [h3.size]) (.cons 1 rfl (by simp [Ck.ids]) .nil)
     obtain ⟨hb, hm⟩ := BZ hm
     obtain ⟨r24, h15, hx, A1⟩ := HH.NQ (encI .i32) (by decide) A1 0 (xs := x25) (ys := ([x42] : List Int)) rfl (EI A 1 rfl (n := ([x42] : List Int).length) (z := 1) rfl (by decide)) rfl rfl hb
     replace A := A.XK A1
     replace A := A.k9 0 2 3 4 5 6 7 8 9
     refine B0 96 (AI r24 ((x25 ++ ([x42] : List Int)).length)) h15 [(12, h13.size), (10, h1.size), (7, h3.size), (3, h3.size)] (h3.size :: g.BU) H (fun fr => .of (KF (s := D2 r13 x25.length) (by kernel_rfl) hx)) (fun fr H => ?_)
     refine AF 2 [(98, .ptr (some (h1.size, 257)))] H fun fr H => ?_
     obtain ⟨h16, hx, A1⟩ := A.st 3 rfl (o := 257) (new := [AI r24 ((x25 ++ ([x42] : List Int)).length)]) (ds := (Cl 256 (AA.int .u8) x1.BO ++ ([Ai x1.Aq, AI r24 ((x25 ++ ([x42] : List Int)).length), AI r22 x44.length]))) (Nat.le_of_ble_eq_true (by kernel_rfl)) rfl (by kernel_rfl)
     replace A : HH g h16 [_, _, _, .obj h1.size (.cells none 2 (Cl 256 (AA.int .u8) x1.BO ++ ([Ai x1.Aq, AI r24 ((x25 ++ ([x42] : List Int)).length), AI r22 x44.length]))), _, _, _, _, _] F := A1
     refine K2 (.tuple []) h16 [(12, h13.size), (10, h1.size), (7, h3.size), (3, h3.size)] (g.BU) H (fun fr => .of (RG (by kernel_rfl) rfl hx)) (fun fr H => ?_)
     refine KY 2 id (Bi 2 [(8, .ptr (some (h3.size, 0))), (10, Ai x15), (60, AI r1 x2.length), (61, Ai (x2.length : Int)), (62, Ai (IntKind.i64.wrap (x29 + 1)))] H fun fr H => at_nil ?_)
     replace A := A.k9 1 2 3 0 4 5 6 7 8
     exact nx hm ⟨_, _, _, _, _, rfl, _, _, _, H.ls, A⟩
    refine Bn (i := 3) (by kernel_rfl) ?_
    exact nr hm fun e => .inl ⟨_, _, _, _, rfl, e, _, _, _, H.ls, A⟩
   clear ho
   clear A
   intro e fr h17 hQ
   rcases hQ with ⟨x30, x31, x32, x33, rfl, rfl, r16, r17, r18, H, A⟩ | ⟨x34, x35, x36, x37, x38, rfl, rfl, r19, r20, r21, H, A⟩ | hF
   ·show AW _ _ _ _ _ _ _
    refine EW 3 (Bi 3 [(8, .ptr (some (h3.size, 0))), (10, Ai (IntKind.i64.wrap (x15 + 1)))] H fun fr H => at_nil ?_)
    exact nx hm ⟨_, _, _, _, _, rfl, _, _, _, H.ls, A⟩
   ·exact nr hm fun e => Or.inr (.inl ⟨_, _, _, _, _, rfl, e, _, _, _, H.ls, A⟩)
   exact hF.elim
  refine Bn (i := 1) (by kernel_rfl) ?_
  exact nr hm fun e => .inl ⟨_, _, _, _, rfl, e, _, _, _, H.ls, A⟩
 clear ho
 clear A
 intro e fr h18 hQ
 rcases hQ with ⟨x16, x17, x18, x19, rfl, rfl, r7, r8, r9, H, A⟩ | ⟨x20, x21, x22, x23, x24, rfl, rfl, r10, r11, r12, H, A⟩ | hF
 ·show AW _ _ _ _ _ _ _
  refine AG 6 (AR 3 [] 103 0 4 A H fun fr t H => ?_)
  refine AN 2 [(6, .ptr (some (h1.size, 0))), (7, Ai 0)] H fun fr H => AS ?_
  obtain ⟨rfl, rfl⟩ := DG hm
  refine ⟨.inl rfl, .tuple [.ptr (some (h1.size, 0)), Ai 0], rH H, ?_⟩
  replace A := A.k4 2 3 4 1
  obtain ⟨h19, A1, hy0⟩ := (A.front 0 rfl).Ws
  replace A : HH g h19 [_, _, _] F := A1
  obtain ⟨h20, hz1, A1⟩ := (A.front 0 rfl).WV (n := x16.length) (z := 1) ((encI .i32).Ju _) (by decide)
  replace A : HH g h20 [_, _] F := A1
  obtain ⟨h21, hz2, A1⟩ := (A.front 0 rfl).WV (n := x17.length) (z := 1) (WH.Ju _) (by decide)
  replace A : HH g h21 [_] F := A1
  have hz0 := hy0 (Cl 256 (AA.int .u8) x1.BO ++ [Ai x1.Aq, vs (eI .i32) x16, vs eB x17]) h21 (by simp only [Oh, On, PA, Ot, O7, O5, Oa, Od, Oz, O9, OW, Oi, O8, Fz, Fw, Fu, F7, F5, F9, Fs, Option.map_some, Qp, Q2, hz1, hz2] <;> rfl)
  refine ⟨.tuple [.A7 (Cl 256 (AA.int .u8) x1.BO ++ [Ai x1.Aq, vs (eI .i32) x16, vs eB x17]), Ai 0], h21, by first | rfl | (simp only [Oh, On, PA, Ot, O7, O5, Oa, Od, Oz, O9, OW, Oi, O8, Fz, Fw, Fu, F7, F5, F9, Fs, Option.map_some, Qp, Q2, hz0, hz1, hz2] <;> rfl), ?_⟩
  exact .inl ⟨(⟨x1.BO, x1.Aq, x16, x17⟩ : BX), rfl, rfl, A⟩
 ·obtain ⟨rfl, rfl⟩ := DG hm
  refine ⟨.inl rfl, .tuple [.ptr none, Ai x24], rH H, ?_⟩
  replace A := A.k1 1
  refine ⟨.tuple [.ptr none, Ai x24], h18, by first | rfl | (simp only [Oh, On, PA, Ot, O7, O5, Oa, Od, Oz, O9, OW, Oi, O8, Fz, Fw, Fu, F7, F5, F9, Fs, Option.map_some] <;> rfl), ?_⟩
  exact .inr ⟨rfl, rfl, A⟩
 exact hF.elim
def JH (p0 : AP) (p1 : Int) : Option ((Option Ag) × Int × Int) :=
 (IH p0.Text).bind fun (x1, x2, x3) => Ae (x3 != 0) (some (none, x2, x3)) ((Fh x1 (⟨p0.Fold, p0.Ax⟩ : EB) p1).bind fun (w5, x5) => (match w5 with | some x4 => Ae (x5 != 0) (some (none, (0 : Int), x5)) (some (some (⟨p0, x4⟩ : Ag), (0 : Int), (0 : Int))) | none => Ae (x5 != 0) (some (none, (0 : Int), x5)) (none)))
theorem OD {p0 p1 o0 q1 q2} (hm : JH p0 p1 = some (o0, q1, q2)) (A : HH g h [] F) (hc : BI (cfg.still 68) av = [.agg (AE p0), Ai p1] := by kernel_rfl) : ∃ v h', BL cfg g h 68 av v h' ∧ ((∃ (q0 : Ag), o0 = some q0 ∧ v = .tuple [.A7 (AB q0), Ai q1, Ai q2] ∧ HH g h' [] F) ∨ (o0 = none ∧ v = .tuple [.ptr none, Ai q1, Ai q2] ∧ HH g h' [] F)) := by
 refine Xp 40 [.tmp 4, .tmp 5, .tmp 6] hc ?_
 clear hc
 unfold JH at hm
 refine bg 40 [(0, .agg (AE p0)), (1, Ai p1)] fun fr H => ?_
 refine AG 4 ?_
 obtain ⟨h1, e1, A⟩ := A.pu (.cells none 2 (AE p0))
 refine BC 2 (.ptr (some (h.size, 0))) e1 H fun fr t H => ?_
 refine BT 3 [] 10 H fun fr H => AR 1 [] 13 0 0 A H fun fr t H => ?_
 obtain ⟨⟨x1, x2, x3⟩, hx, hm⟩ := bind_some hm
 obtain ⟨v1, h2, hr, rqw1, rfl, A1⟩ := LQ (av := [.str p0.Text]) hx (A.cut 0)
 replace A : HH g h2 [.AL rqw1 264 (AL AM x1), .obj h.size (.cells none 2 (AE p0))] F := A.CL (n := 0) A1
 refine Ay 14 hr H fun fr t H => ?_
 refine AN 7 [(7, AI rqw1 x1.length), (8, Ai x2), (9, Ai x3)] H fun fr H => AQ (AG 2 (AN 2 [(19, .bool (x3 != 0))] H fun fr H => Ak 19 H hm (fun hb hm H => ?_) fun hb hm H => ?_))
 ·refine AG 5 (AN 5 [(4, .ptr none), (5, Ai x2), (6, Ai x3)] H fun fr H => AS ?_)
  obtain ⟨rfl, rfl, rfl⟩ := Li hm
  refine ⟨.inl rfl, .tuple [.ptr none, Ai x2, Ai x3], rH H, ?_⟩
  replace A := A.d0
  refine ⟨.tuple [.ptr none, Ai x2, Ai x3], h2, by first | rfl | (simp only [Oh, On, PA, Ot, O7, O5, Oa, Od, Oz, O9, OW, Oi, O8, Fz, Fw, Fu, F7, F5, F9, Fs, Option.map_some] <;> rfl), ?_⟩
  exact .inr ⟨rfl, rfl, A⟩
 refine Cm 13 id (AR 2 [(23, AI rqw1 x1.length)] 25 1 2 A H fun fr t H => ?_)
 refine AR 1 [] 27 1 3 A H fun fr t H => ?_
 obtain ⟨⟨w5, x5⟩, hx, hm⟩ := bind_some hm
 obtain ⟨v1, h3, hr, hc⟩ := Js (av := [AI rqw1 x1.length, .agg [.bool p0.Fold, .bool p0.Ax], Ai p1]) hx (A.cut 1)
 rcases hc with ⟨x4, rfl, rfl, A1⟩ | ⟨rfl, rfl, A1⟩
 ·replace A := A.g11 A1
  refine BH 2 [] 30 hr H fun fr t H => ?_
  refine Bi 5 [(2, .ptr (some (h.size, 0))), (9, Ai x5), (10, .A7 (Cl 256 (AA.int .u8) x4.BO ++ [Ai x4.Aq, vs (eI .i32) x4.BN, vs eB x4.A8]))] H fun fr H => BB id (AQ (AG 2 (AN 2 [(34, .bool (x5 != 0))] H fun fr H => Ak 34 H hm (fun hb hm H => ?_) fun hb hm H => ?_)))
  ·refine AG 4 (AN 4 [(4, .ptr none), (5, Ai 0), (6, Ai x5)] H fun fr H => AS ?_)
   obtain ⟨rfl, rfl, rfl⟩ := Li hm
   refine ⟨.inl rfl, .tuple [.ptr none, Ai 0, Ai x5], rH H, ?_⟩
   replace A := A.d0
   refine ⟨.tuple [.ptr none, Ai 0, Ai x5], h3, by first | rfl | (simp only [Oh, On, PA, Ot, O7, O5, Oa, Od, Oz, O9, OW, Oi, O8, Fz, Fw, Fu, F7, F5, F9, Fs, Option.map_some] <;> rfl), ?_⟩
   exact .inr ⟨rfl, rfl, A⟩
  refine Cm 7 id (Az 36 _ _ H (fun fr => .of (Bs (by kernel_rfl) (A.GA 1 rfl (o := 0) (n := 4) ⟨Nat.le_of_ble_eq_true rfl, rfl⟩))) fun fr t H => ?_)
  obtain ⟨h4, e2, A⟩ := A.pu (.cells none 2 [.str p0.Text, .bool p0.Bh, .bool p0.Fold, .bool p0.Ax, .A7 (Cl 256 (AA.int .u8) x4.BO ++ [Ai x4.Aq, vs (eI .i32) x4.BN, vs eB x4.A8])])
  refine Gy 2 [] 39 (.ptr (some (h3.size, 0))) e2 H fun fr t H => ?_
  refine AN 3 [(4, .ptr (some (h3.size, 0))), (5, Ai 0), (6, Ai 0)] H fun fr H => AS ?_
  obtain ⟨rfl, rfl, rfl⟩ := Li hm
  refine ⟨.inl rfl, .tuple [.ptr (some (h3.size, 0)), Ai 0, Ai 0], rH H, ?_⟩
  replace A : HH g h4 [.obj h3.size (.cells none 2 [.str p0.Text, .bool p0.Bh, .bool p0.Fold, .bool p0.Ax, .A7 (Cl 256 (AA.int .u8) x4.BO ++ [Ai x4.Aq, vs (eI .i32) x4.BN, vs eB x4.A8])])] F := (HH.KS (A.front 0 rfl) 1)
  obtain ⟨h5, A1, hy0⟩ := (A.front 0 rfl).Ws
  replace A : HH g h5 [] F := A1
  have hz0 := hy0 [.str p0.Text, .bool p0.Bh, .bool p0.Fold, .bool p0.Ax, .A7 (Cl 256 (AA.int .u8) x4.BO ++ [Ai x4.Aq, vs (eI .i32) x4.BN, vs eB x4.A8])] h5 (by simp only [Oh, On, PA, Ot, O7, O5, Oa, Od, Oz, O9, OW, Oi, O8, Fz, Fw, Fu, F7, F5, F9, Fs, Option.map_some, AB] <;> rfl)
  refine ⟨.tuple [.A7 [.str p0.Text, .bool p0.Bh, .bool p0.Fold, .bool p0.Ax, .A7 (Cl 256 (AA.int .u8) x4.BO ++ [Ai x4.Aq, vs (eI .i32) x4.BN, vs eB x4.A8])], Ai 0, Ai 0], h5, by first | rfl | (simp only [Oh, On, PA, Ot, O7, O5, Oa, Od, Oz, O9, OW, Oi, O8, Fz, Fw, Fu, F7, F5, F9, Fs, Option.map_some, AB, hz0] <;> rfl), ?_⟩
  exact .inl ⟨(⟨p0, x4⟩ : Ag), rfl, rfl, A⟩
 replace A := A.g11 A1
 refine BH 2 [] 30 hr H fun fr t H => ?_
 refine Bi 5 [(2, .ptr (some (h.size, 0))), (9, Ai x5), (10, .ptr none)] H fun fr H => BB id (AQ (AG 2 (AN 2 [(34, .bool (x5 != 0))] H fun fr H => Ak 34 H hm (fun hb hm H => ?_) fun hb hm H => ?_)))
 ·refine AG 4 (AN 4 [(4, .ptr none), (5, Ai 0), (6, Ai x5)] H fun fr H => AS ?_)
  obtain ⟨rfl, rfl, rfl⟩ := Li hm
  refine ⟨.inl rfl, .tuple [.ptr none, Ai 0, Ai x5], rH H, ?_⟩
  replace A := A.d0
  refine ⟨.tuple [.ptr none, Ai 0, Ai x5], h3, by first | rfl | (simp only [Oh, On, PA, Ot, O7, O5, Oa, Od, Oz, O9, OW, Oi, O8, Fz, Fw, Fu, F7, F5, F9, Fs, Option.map_some] <;> rfl), ?_⟩
  exact .inr ⟨rfl, rfl, A⟩
 refine Cm 7 id (Az 36 _ _ H (fun fr => .of (Bs (by kernel_rfl) (A.GA 1 rfl (o := 0) (n := 4) ⟨Nat.le_of_ble_eq_true rfl, rfl⟩))) fun fr t H => ?_)
 obtain ⟨h6, e3, A⟩ := A.pu (.cells none 2 [.str p0.Text, .bool p0.Bh, .bool p0.Fold, .bool p0.Ax, .ptr none])
 refine Gy 2 [] 39 (.ptr (some (h3.size, 0))) e3 H fun fr t H => ?_
 refine AN 3 [(4, .ptr (some (h3.size, 0))), (5, Ai 0), (6, Ai 0)] H fun fr H => AS ?_
 cases hm
def Hn (p0 : List AP) (p1 : Int) (s : (List Ag) × Int) : Option (((List Ag) × Int) ⊕ (((List Ag)) ⊕ (Int))) :=
 match s with
 | (x1, x2) => Ae (decide (x2 < (p0.length : Int))) ((HR p0 x2).bind fun x5 => (JH x5 p1).bind fun (w2, x7, x8) => (match w2 with | some x6 => Ae (x8 != 0) (some (.inr (.inr x8))) (Fl (OU 8 (x1.length + ([x6] : List Ag).length)) <| some (.inl ((x1 ++ ([x6] : List Ag)), IntKind.i64.wrap (x2 + 1)))) | none => Ae (x8 != 0) (some (.inr (.inr x8))) (none))) (some (.inr (.inl x1)))
def Fi (p0 : List AP) (p1 : Int) : Option ((List Ag) × Int) :=
 (loop (Hn p0 p1) (([] : List Ag), (0 : Int))).bind fun o1 => (match o1 with | .inl x3 => some (x3, (0 : Int)) | .inr x4 => some (([] : List Ag), x4))
theorem IW {p0 p1 q0 q1} (hm : Fi p0 p1 = some (q0, q1)) (A : HH g h [] F) (hc : BI (cfg.still 31) av = [vs AE p0, Ai p1] := by kernel_rfl) : ∃ v h', BL cfg g h 31 av v h' ∧ ∃ (rq0 : Option Nat), v = .tuple [AI rq0 q0.length, Ai q1] ∧ HH g h' [.AL rq0 136 (AL (eP AB) q0)] F := by
 refine D5 34 [.tmp 4, .tmp 5] hc ?_
 clear hc
 unfold Fi at hm
 refine bg 34 [(0, vs AE p0), (1, Ai p1)] fun fr H => ?_
 refine AG 2 (BT 2 [] 1 H fun fr H => AN 1 [(6, .slice none 0)] H fun fr H => AQ (AG 3 (AN 3 [(12, vs AE p0), (13, Ai (p0.length : Int)), (14, Ai 0)] H fun fr H => AX (id := 0) (by kernel_rfl) ?_)))
 replace A : HH g h [.AL none 136 (AL (eP AB) ([] : List Ag))] F := A.MV 136
 obtain ⟨o1, ho, hm⟩ := bind_some hm
 refine BM (Q' := fun e fr' h' => (∃ x3, e = .exit 0 ∧ .inl x3 = o1 ∧ ∃ r2, Has fr' 34 [(6, AI r2 x3.length)] ∧ HH g h' [.AL r2 136 (AL (eP AB) x3)] F) ∨ (∃ x4, e = .ret ∧ .inr x4 = o1 ∧ Has fr' 34 [(4, .slice none 0), (5, Ai x4)] ∧ HH g h' [] F) ∨ False) ?_ ?_
 ·refine B8 (by kernel_rfl) (fun (s : (List Ag) × Int) fr' h' => ∃ x1 x2, (x1, x2) = s ∧ ∃ r1, Has fr' 34 [(1, Ai p1), (6, AI r1 x1.length), (12, vs AE p0), (13, Ai (p0.length : Int)), (14, Ai x2)] ∧ HH g h' [.AL r1 136 (AL (eP AB) x1)] F) ho ⟨_, _, rfl, none, H.ls, A⟩ ?_
  clear ho hm H A
  intro s q fr h1 hI hm
  obtain ⟨x1, x2, rfl, r1, H, A⟩ := hI
  unfold Hn at hm
  refine AG 1 (AN 1 [(15, .bool (decide (x2 < (p0.length : Int))))] H fun fr H => AQ (Ak 15 H hm (fun hb hm H => ?_) fun hb hm H => ?_))
  ·refine Be id (AQ (AX (id := 1) (by kernel_rfl) ?_))
   refine AG 4 ?_
   obtain ⟨x5, hx, hm⟩ := bind_some hm
   refine Az 16 (.A7 (AE x5)) h1 H (fun fr => .of (I3 (e := AE) (x := x5) B9 (by decide) (by kernel_rfl) hx)) fun fr t H => ?_
   refine Az 17 (.agg (AE x5)) h1 H (fun fr => .of (IQ (by kernel_rfl))) fun fr t H => ?_
   obtain ⟨h2, e1, A⟩ := A.pu (.cells none 2 [.str ([] : List UInt8), .bool false, .bool false, .bool false])
   refine BC 8 (.ptr (some (h1.size, 0))) e1 H fun fr t H => ?_
   obtain ⟨h3, hx, A⟩ := A.s0 0 (AE x5) [_, _, _, _]
   refine Ev hx H fun fr t H => ?_
   refine Cj 10 id (Az 19 _ _ H (fun fr => .of (Bs (by kernel_rfl) (A.GA 0 rfl (o := 0) (n := 4) ⟨Nat.le_of_ble_eq_true rfl, rfl⟩))) fun fr t H => ?_)
   obtain ⟨⟨w2, x7, x8⟩, hx, hm⟩ := bind_some hm
   obtain ⟨v1, h4, hr, hc⟩ := OD (av := [.agg (AE x5), Ai p1]) hx (A.cut 0)
   rcases hc with ⟨x6, rfl, rfl, A1⟩ | ⟨rfl, rfl, A1⟩
   ·replace A := A.EV A1
    refine BH 1 [] 21 hr H fun fr t H => ?_
    refine AN 7 [(9, .A7 (AB x6)), (11, Ai x8)] H fun fr H => AQ (AG 2 (AN 2 [(26, .bool (x8 != 0))] H fun fr H => Ak 26 H hm (fun hb hm H => ?_) fun hb hm H => ?_))
    ·refine AG 3 (AN 3 [(4, .slice none 0), (5, Ai x8)] H fun fr H => AS ?_)
     replace A := A.d0
     exact nr hm fun e => Or.inr (.inl ⟨_, rfl, e, H.ls, A⟩)
    refine FH 5 id (AF 2 [(28, AI r1 x1.length), (29, .A7 (AB x6))] H fun fr H => ?_)
    obtain ⟨h5, e2, A⟩ := A.pL 136 [.A7 (AB x6)]
    refine BC 30 (AI (some h4.size) (([x6] : List Ag).length)) e2 H fun fr t H => ?_
    obtain ⟨hb, hm⟩ := BZ hm
    obtain ⟨r3, h6, hx, A1⟩ := HH.NQ (P8 _) (by decide) A 2 (xs := x1) (ys := ([x6] : List Ag)) rfl (EI A 0 rfl (n := ([x6] : List Ag).length) (z := 1) rfl (by decide)) rfl rfl hb
    replace A : HH g h6 [.AL (some h4.size) 136 ([.A7 (AB x6)]), _, .AL r3 136 (AL (eP AB) (x1 ++ ([x6] : List Ag)))] F := A1
    replace A := A.k2 1 2
    refine Az 31 _ _ H (fun fr => .of (KF (s := D2 r1 x1.length) (by kernel_rfl) hx)) fun fr t H => ?_
    refine Bi 1 [(1, Ai p1), (6, AI r3 ((x1 ++ ([x6] : List Ag)).length)), (12, vs AE p0), (13, Ai (p0.length : Int)), (14, Ai x2)] H fun fr H => KY 2 id (Bi 2 [(1, Ai p1), (6, AI r3 ((x1 ++ ([x6] : List Ag)).length)), (12, vs AE p0), (13, Ai (p0.length : Int)), (14, Ai (IntKind.i64.wrap (x2 + 1)))] H fun fr H => at_nil ?_)
    replace A := A.k1 1
    exact nx hm ⟨_, _, rfl, _, H.ls, A⟩
   replace A := A.EV A1
   refine BH 1 [] 21 hr H fun fr t H => ?_
   refine AN 7 [(9, .ptr none), (11, Ai x8)] H fun fr H => AQ (AG 2 (AN 2 [(26, .bool (x8 != 0))] H fun fr H => Ak 26 H hm (fun hb hm H => ?_) fun hb hm H => ?_))
   ·refine AG 3 (AN 3 [(4, .slice none 0), (5, Ai x8)] H fun fr H => AS ?_)
    replace A := A.d0
    exact nr hm fun e => Or.inr (.inl ⟨_, rfl, e, H.ls, A⟩)
   refine FH 5 id (AF 2 [(28, AI r1 x1.length), (29, .ptr none)] H fun fr H => ?_)
   cases hm
  refine Bn (i := 0) (by kernel_rfl) ?_
  exact nr hm fun e => .inl ⟨_, rfl, e, _, H.ls, A⟩
 clear ho
 clear A
 intro e fr h7 hQ
 rcases hQ with ⟨x3, rfl, rfl, r2, H, A⟩ | ⟨x4, rfl, rfl, H, A⟩ | hF
 ·show AW _ _ _ _ _ _ _
  refine AG 3 (AN 3 [(4, AI r2 x3.length), (5, Ai 0)] H fun fr H => AS ?_)
  obtain ⟨rfl, rfl⟩ := DG hm
  exact ⟨.inl rfl, _, rH H, _, rfl, A⟩
 ·obtain ⟨rfl, rfl⟩ := DG hm
  refine ⟨.inl rfl, .tuple [.slice none 0, Ai x4], rH H, ?_⟩
  replace A : HH g h7 [.AL none 136 (AL (eP AB) ([] : List Ag))] F := A.MV 136
  exact ⟨none, rfl, A⟩
 exact hF.elim
def G2 (p0 : Bb) : Option ((Option Bg) × Int) :=
 (Ie p0).bind fun x1 => Ae (!x1) (some (none, (6 : Int))) (Ae ((decide ((IntKind.i64.wrap ((p0.Ah.length : Int) + (p0.Aj.length : Int))) > 256)) || (decide ((p0.Bl.length : Int) > 256))) (some (none, (8 : Int))) ((H0 p0).bind fun x2 => (Fi p0.Ah p0.Bd).bind fun (x3, x4) => Ae (x4 != 0) (some (none, x4)) ((Fi p0.Aj p0.Bd).bind fun (x5, x6) => Ae (x6 != 0) (some (none, x6)) ((Kz x2.Bl p0.Bd p0.Name).bind fun (w8, x8, x9) => (match w8 with | some x7w7 => Ae (x9 != 0) (some (none, x9)) ((JB p0.HG (mx (p0.Ah.length : Int) (1 : Int))).bind fun (w12, x11) => (match w12 with | some x10w11 => some (some (⟨x2, x3, x5, x7w7, x10w11⟩ : Bg), x11) | none => none)) | none => Ae (x9 != 0) (some (none, x9)) ((JB p0.HG (mx (p0.Ah.length : Int) (1 : Int))).bind fun (w15, x13) => (match w15 with | some x12w14 => none | none => none)))))))
theorem LY {p0 o0 q1} (hm : G2 p0 = some (o0, q1)) (A : HH g h [] F) (hc : BI (cfg.still 8) av = [.agg (Ao p0)] := by kernel_rfl) : ∃ v h', BL cfg g h 8 av v h' ∧ ((∃ (bq00 : Nat) (rq00_14 : Option Nat) (rq00_15 : Option Nat) (bq00_16 : Nat) (rq00_16_0 : Option Nat) (bq00_17 : Nat) (q00 : Bg), o0 = some q00 ∧ v = .tuple [.ptr (some (bq00, 0)), Ai q1] ∧ HH g h' [.obj bq00 (.cells none 2 [vs AE q00.c_.Ah, vs AE q00.c_.Aj, vs AJ q00.c_.Bl, .bool q00.c_.Ho, .bool q00.c_.BP, Ai q00.c_.Bm, .bool q00.c_.CC, Ai q00.c_.BD.DF, Ai q00.c_.BD.Bp, Ai q00.c_.HG, Ai q00.c_.B3, Ai q00.c_.Name, Ai q00.c_.Head, Ai q00.c_.Bd, AI rq00_14 q00.AZ.length, AI rq00_15 q00.Ac.length, .ptr (some (bq00_16, 0)), .ptr (some (bq00_17, 0))]), .AL rq00_14 136 (AL (eP AB) q00.AZ), .AL rq00_15 136 (AL (eP AB) q00.Ac), .obj bq00_16 (.cells none 2 [AI rq00_16_0 q00.Ad.l_.length, Ai q00.Ad.Ba]), .AL rq00_16_0 142 (AL (eP AK) q00.Ad.l_), .obj bq00_17 (.cells none 2 ([Ai q00.Ap.n_, Ai q00.Ap.Aq] ++ (Cl 257 (AA.int .i64) q00.Ap.BJ ++ [])))] F) ∨ (o0 = none ∧ v = .tuple [.ptr none, Ai q1] ∧ HH g h' [] F)) := by
 refine D5 92 [.tmp 2, .tmp 3] hc ?_
 clear hc
 unfold G2 at hm
 refine bg 92 [(0, .agg (Ao p0))] fun fr H => ?_
 refine AG 3 ?_
 obtain ⟨h1, e1, A⟩ := A.pu (.cells none 2 (Ao p0))
 refine BC 1 (.ptr (some (h.size, 0))) e1 H fun fr t H => ?_
 refine AN 2 [] H fun fr H => AQ (AX (id := 0) (by kernel_rfl) ?_)
 refine AG 4 (Az 7 _ _ H (fun fr => .of (Bs (by kernel_rfl) (A.GA 0 rfl (o := 0) (n := 14) ⟨Nat.le_of_ble_eq_true rfl, rfl⟩))) fun fr t H => ?_)
 obtain ⟨x1, hx, hm⟩ := bind_some hm
 obtain ⟨v1, h2, hr, rfl, A1⟩ := NR (av := [.agg (Ao p0)]) hx (A.cut 0)
 replace A : HH g h2 [.obj h.size (.cells none 2 (Ao p0))] F := A.CL (n := 0) A1
 refine Ay 8 hr H fun fr t H => ?_
 refine AN 2 [(6, .bool (!x1))] H fun fr H => Ak 6 H hm (fun hb hm H => ?_) fun hb hm H => ?_
 ·refine AG 2 (AN 2 [(2, .ptr none), (3, Ai 6)] H fun fr H => AS ?_)
  obtain ⟨rfl, rfl⟩ := DG hm
  refine ⟨.inl rfl, .tuple [.ptr none, Ai 6], rH H, ?_⟩
  replace A := A.d0
  exact .inr ⟨rfl, rfl, A⟩
 refine AG 15 (AR 1 [] 12 0 0 A H fun fr t H => ?_)
 refine AR 2 [(13, Ai (p0.Ah.length : Int))] 15 0 1 A H fun fr t H => ?_
 refine AF 4 [(19, .bool (decide ((IntKind.i64.wrap ((p0.Ah.length : Int) + (p0.Aj.length : Int))) > 256)))] H fun fr H => An 5 (fun fr' h' => h2 = h' ∧ Has fr' 92 [(1, .ptr (some (h.size, 0))), (24, .bool ((decide ((IntKind.i64.wrap ((p0.Ah.length : Int) + (p0.Aj.length : Int))) > 256)) || (decide ((p0.Bl.length : Int) > 256))))]) ?_ ?_
 ·cases hb : (decide ((IntKind.i64.wrap ((p0.Ah.length : Int) + (p0.Aj.length : Int))) > 256) : Bool) with
  | true =>
   replace H := H.kn 19 hb
   exact AF 5 [(24, .bool true)] H fun fr H => AY H hb
  | false =>
   replace H := H.kn 19 hb
   refine AR 1 [] 21 0 2 A H fun fr t H => ?_
   exact AF 3 [(24, .bool (decide ((p0.Bl.length : Int) > 256)))] H fun fr H => AY H hb
 intro t fr h' hK
 obtain ⟨e, H⟩ := hK
 subst e
 refine AN 1 [(10, .bool ((decide ((IntKind.i64.wrap ((p0.Ah.length : Int) + (p0.Aj.length : Int))) > 256)) || (decide ((p0.Bl.length : Int) > 256))))] H fun fr H => Ak 10 H hm (fun hb hm H => ?_) fun hb hm H => ?_
 ·refine AG 2 (AN 2 [(2, .ptr none), (3, Ai 8)] H fun fr H => AS ?_)
  obtain ⟨rfl, rfl⟩ := DG hm
  refine ⟨.inl rfl, .tuple [.ptr none, Ai 8], rH H, ?_⟩
  replace A := A.d0
  exact .inr ⟨rfl, rfl, A⟩
 refine Cm 5 id (Az 25 _ _ H (fun fr => .of (Bs (by kernel_rfl) (A.GA 0 rfl (o := 0) (n := 14) ⟨Nat.le_of_ble_eq_true rfl, rfl⟩))) fun fr t H => ?_)
 obtain ⟨x2, hx, hm⟩ := bind_some hm
 obtain ⟨v1, h3, hr, rfl, A1⟩ := Ml (av := [.agg (Ao p0)]) hx (A.cut 0)
 replace A := A.EV A1
 refine Ay 26 hr H fun fr t H => ?_
 obtain ⟨h4, e2, A⟩ := A.pu (.cells none 2 [vs AE x2.Ah, vs AE x2.Aj, vs AJ x2.Bl, .bool x2.Ho, .bool x2.BP, Ai x2.Bm, .bool x2.CC, Ai x2.BD.DF, Ai x2.BD.Bp, Ai x2.HG, Ai x2.B3, Ai x2.Name, Ai x2.Head, Ai x2.Bd, .slice none 0, .slice none 0, .ptr none, .ptr none])
 refine Gy 1 [] 28 (.ptr (some (h3.size, 0))) e2 H fun fr t H => ?_
 refine BT 1 [(4, .ptr (some (h3.size, 0)))] 1 H fun fr H => AN 1 [] H fun fr H => AQ (AG 13 (AR 2 [(30, .ptr (some (h3.size, 0)))] 32 1 0 A H fun fr t H => ?_))
 refine AR 1 [] 34 1 13 A H fun fr t H => ?_
 obtain ⟨⟨x3, x4⟩, hx, hm⟩ := bind_some hm
 obtain ⟨v1, h5, hr, rqw3, rfl, A1⟩ := IW (av := [vs AE p0.Ah, Ai p0.Bd]) hx (A.cut 0)
 replace A : HH g h5 [.AL rqw3 136 (AL (eP AB) x3), .obj h3.size (.cells none 2 [vs AE x2.Ah, vs AE x2.Aj, vs AJ x2.Bl, .bool x2.Ho, .bool x2.BP, Ai x2.Bm, .bool x2.CC, Ai x2.BD.DF, Ai x2.BD.Bp, Ai x2.HG, Ai x2.B3, Ai x2.Name, Ai x2.Head, Ai x2.Bd, .slice none 0, .slice none 0, .ptr none, .ptr none]), _] F := A.CL (n := 0) A1
 refine Ay 35 hr H fun fr t H => ?_
 obtain ⟨h6, hx, A⟩ := A.s1 14 [AI rqw3 x3.length] [_, _, _, _, _, _, _, _, _, _, _, _, _, _, _, _, _, _]
 refine E8 5 [(37, Ai x4)] hx H fun fr t H => ?_
 refine BT 1 [(5, Ai x4)] 2 H fun fr H => AN 2 [(41, .bool (x4 != 0))] H fun fr H => Ak 41 H hm (fun hb hm H => ?_) fun hb hm H => ?_
 ·refine AG 3 (AN 3 [(2, .ptr none), (3, Ai x4)] H fun fr H => AS ?_)
  obtain ⟨rfl, rfl⟩ := DG hm
  refine ⟨.inl rfl, .tuple [.ptr none, Ai x4], rH H, ?_⟩
  replace A := A.d0
  exact .inr ⟨rfl, rfl, A⟩
 refine Be id (AQ (AG 13 (AR 2 [(44, .ptr (some (h3.size, 0)))] 46 2 1 A H fun fr t H => ?_)))
 refine AR 1 [] 48 2 13 A H fun fr t H => ?_
 obtain ⟨⟨x5, x6⟩, hx, hm⟩ := bind_some hm
 obtain ⟨v1, h7, hr, rqw5, rfl, A1⟩ := IW (av := [vs AE p0.Aj, Ai p0.Bd]) hx (A.cut 0)
 replace A := A.XJ A1
 refine Ay 49 hr H fun fr t H => ?_
 obtain ⟨h8, hx, A⟩ := A.s2 15 [AI rqw5 x5.length] [_, _, _, _, _, _, _, _, _, _, _, _, _, _, _, _, _, _]
 refine E8 5 [(51, Ai x6)] hx H fun fr t H => ?_
 refine Bi 1 [(1, .ptr (some (h.size, 0))), (4, .ptr (some (h3.size, 0))), (5, Ai x6)] H fun fr H => Cj 2 id (AN 2 [(55, .bool (x6 != 0))] H fun fr H => Ak 55 H hm (fun hb hm H => ?_) fun hb hm H => ?_)
 ·refine AG 3 (AN 3 [(2, .ptr none), (3, Ai x6)] H fun fr H => AS ?_)
  obtain ⟨rfl, rfl⟩ := DG hm
  refine ⟨.inl rfl, .tuple [.ptr none, Ai x6], rH H, ?_⟩
  replace A := A.d0
  exact .inr ⟨rfl, rfl, A⟩
 refine Be id (AQ (AQ (EZ 13 19 ?_)))
 refine AR 5 [(58, .ptr (some (h3.size, 0)))] 63 2 2 A H fun fr t H => ?_
 refine AR 1 [] 65 3 13 A H fun fr t H => ?_
 refine AR 1 [] 67 3 11 A H fun fr t H => ?_
 obtain ⟨⟨w8, x8, x9⟩, hx, hm⟩ := bind_some hm
 obtain ⟨v1, h9, hr, hc⟩ := QX (av := [vs AJ x2.Bl, Ai p0.Bd, Ai p0.Name]) hx (A.cut 0)
 rcases hc with ⟨bx7w7, rx7w7_0, x7w7, rfl, rfl, A1⟩ | ⟨rfl, rfl, A1⟩
 ·replace A := A.XM A1
  refine Ay 68 hr H fun fr t H => ?_
  obtain ⟨h10, hx, A⟩ := A.s4 16 [.ptr (some (bx7w7, 0))] [_, _, _, _, _, _, _, _, _, _, _, _, _, _, _, _, _, _]
  refine E8 6 [(71, Ai x9)] hx H fun fr t H => ?_
  refine Bi 1 [(1, .ptr (some (h.size, 0))), (4, .ptr (some (h3.size, 0))), (5, Ai x9)] H fun fr H => Cj 2 id (AN 2 [(75, .bool (x9 != 0))] H fun fr H => Ak 75 H hm (fun hb hm H => ?_) fun hb hm H => ?_)
  ·refine AG 3 (AN 3 [(2, .ptr none), (3, Ai x9)] H fun fr H => AS ?_)
   obtain ⟨rfl, rfl⟩ := DG hm
   refine ⟨.inl rfl, .tuple [.ptr none, Ai x9], rH H, ?_⟩
   replace A := A.d0
   exact .inr ⟨rfl, rfl, A⟩
  refine Cm 15 id (AR 2 [(78, .ptr (some (h3.size, 0)))] 80 5 9 A H fun fr t H => ?_)
  refine AR 1 [] 82 5 0 A H fun fr t H => ?_
  obtain ⟨⟨w12, x11⟩, hx, hm⟩ := bind_some hm
  obtain ⟨v1, h11, hr, hc⟩ := MU (av := [Ai p0.HG, Ai (mx (p0.Ah.length : Int) (1 : Int))]) hx (A.cut 0)
  rcases hc with ⟨bx10w11, x10w11, rfl, rfl, A1⟩ | ⟨rfl, rfl, A1⟩
  ·replace A := A.XJ A1
   refine BH 2 [] 85 hr H fun fr t H => ?_
   obtain ⟨h12, hx, A⟩ := A.s5 17 [.ptr (some (bx10w11, 0))] [_, _, _, _, _, _, _, _, _, _, _, _, _, _, _, _, _, _]
   refine E8 5 [(87, Ai x11)] hx H fun fr t H => ?_
   refine Bi 1 [(4, .ptr (some (h3.size, 0))), (5, Ai x11)] H fun fr H => Cj 4 id (AN 4 [(2, .ptr (some (h3.size, 0))), (3, Ai x11)] H fun fr H => AS ?_)
   obtain ⟨rfl, rfl⟩ := DG hm
   refine ⟨.inl rfl, .tuple [.ptr (some (h3.size, 0)), Ai x11], rH H, ?_⟩
   replace A := A.k6 5 4 3 1 2 0
   exact .inl ⟨h3.size, rqw3, rqw5, bx7w7, rx7w7_0, bx10w11, (⟨x2, x3, x5, x7w7, x10w11⟩ : Bg), rfl, rfl, A⟩
  replace A := A.EV A1
  refine BH 2 [] 85 hr H fun fr t H => ?_
  obtain ⟨h13, hx, A⟩ := A.s4 17 [.ptr none] [_, _, _, _, _, _, _, _, _, _, _, _, _, _, _, _, _, _]
  refine E8 5 [(87, Ai x11)] hx H fun fr t H => ?_
  refine Bi 1 [(4, .ptr (some (h3.size, 0))), (5, Ai x11)] H fun fr H => Cj 4 id (AN 4 [(2, .ptr (some (h3.size, 0))), (3, Ai x11)] H fun fr H => AS ?_)
  cases hm
 replace A := A.EV A1
 refine Ay 68 hr H fun fr t H => ?_
 obtain ⟨h14, hx, A⟩ := A.s2 16 [.ptr none] [_, _, _, _, _, _, _, _, _, _, _, _, _, _, _, _, _, _]
 refine E8 6 [(71, Ai x9)] hx H fun fr t H => ?_
 refine Bi 1 [(1, .ptr (some (h.size, 0))), (4, .ptr (some (h3.size, 0))), (5, Ai x9)] H fun fr H => Cj 2 id (AN 2 [(75, .bool (x9 != 0))] H fun fr H => Ak 75 H hm (fun hb hm H => ?_) fun hb hm H => ?_)
 ·refine AG 3 (AN 3 [(2, .ptr none), (3, Ai x9)] H fun fr H => AS ?_)
  obtain ⟨rfl, rfl⟩ := DG hm
  refine ⟨.inl rfl, .tuple [.ptr none, Ai x9], rH H, ?_⟩
  replace A := A.d0
  exact .inr ⟨rfl, rfl, A⟩
 refine Cm 15 id (AR 2 [(78, .ptr (some (h3.size, 0)))] 80 3 9 A H fun fr t H => ?_)
 refine AR 1 [] 82 3 0 A H fun fr t H => ?_
 obtain ⟨⟨w15, x13⟩, hx, hm⟩ := bind_some hm
 obtain ⟨v1, h15, hr, hc⟩ := MU (av := [Ai p0.HG, Ai (mx (p0.Ah.length : Int) (1 : Int))]) hx (A.cut 0)
 rcases hc with ⟨bx12w14, x12w14, rfl, rfl, A1⟩ | ⟨rfl, rfl, A1⟩
 ·replace A := A.XJ A1
  refine BH 2 [] 85 hr H fun fr t H => ?_
  obtain ⟨h16, hx, A⟩ := A.s3 17 [.ptr (some (bx12w14, 0))] [_, _, _, _, _, _, _, _, _, _, _, _, _, _, _, _, _, _]
  refine E8 5 [(87, Ai x13)] hx H fun fr t H => ?_
  refine Bi 1 [(4, .ptr (some (h3.size, 0))), (5, Ai x13)] H fun fr H => Cj 4 id (AN 4 [(2, .ptr (some (h3.size, 0))), (3, Ai x13)] H fun fr H => AS ?_)
  cases hm
 replace A := A.EV A1
 refine BH 2 [] 85 hr H fun fr t H => ?_
 obtain ⟨h17, hx, A⟩ := A.s2 17 [.ptr none] [_, _, _, _, _, _, _, _, _, _, _, _, _, _, _, _, _, _]
 refine E8 5 [(87, Ai x13)] hx H fun fr t H => ?_
 refine Bi 1 [(4, .ptr (some (h3.size, 0))), (5, Ai x13)] H fun fr H => Cj 4 id (AN 4 [(2, .ptr (some (h3.size, 0))), (3, Ai x13)] H fun fr H => AS ?_)
 cases hm
def IV (p0 : List UInt8) : Option ((List UInt8)) :=
 (Dp p0).bind fun x1 => Ae (!(x1 == ([] : List UInt8))) (some x1) (some p0)
theorem NN {p0 q0} (hm : IV p0 = some q0) (A : HH g h [] F) (hc : BI (cfg.still 199) av = [.str p0] := by kernel_rfl) : ∃ v h', BL cfg g h 199 av v h' ∧ v = .str q0 ∧ HH g h' [] F := by
 refine D5 10 [.tmp 2] hc ?_
 clear hc
 unfold IV at hm
 refine bg 10 [(0, .str p0)] fun fr H => ?_
 refine AG 1 (AN 1 [] H fun fr H => AQ (AG 3 ?_))
 obtain ⟨x1, hx, hm⟩ := bind_some hm
 obtain ⟨v1, h1, hr, rfl, A1⟩ := GJ (av := [.str p0, .str ([47] : List UInt8)]) hx (A.cut 0)
 replace A := A.EV A1
 refine BH 1 [] 5 hr H fun fr t H => ?_
 refine BT 1 [(3, .str x1)] 2 H fun fr H => AN 2 [(7, .bool (!(x1 == ([] : List UInt8))))] H fun fr H => Ak 7 H hm (fun hb hm H => ?_) fun hb hm H => ?_
 ·refine AG 2 (AN 2 [(2, .str x1)] H fun fr H => AS ?_)
  obtain rfl := Aa hm
  exact ⟨.inl rfl, _, rH H, rfl, A⟩
 refine Cm 2 id (AN 2 [(2, .str p0)] H fun fr H => AS ?_)
 obtain rfl := Aa hm
 exact ⟨.inl rfl, _, rH H, rfl, A⟩
def Eo (p0 : Ag) (p1 : List UInt8) : Option (Ag × (List UInt8)) :=
 some (p0, p1)
theorem It {p0 p1 q0_10 q0_11} (hm : Eo p0 p1 = some (q0_10, q0_11)) (A : HH g h [] F) (hc : BI (cfg.still 200) av = [.A7 (AB p0), .str p1] := by kernel_rfl) : ∃ v h', BL cfg g h 200 av v h' ∧ ∃ (bq0_10 : Nat) (bq0_11 : Nat), v = .func (.func 263) [] [.ptr (some (bq0_10, 0)), .ptr (some (bq0_11, 0))] ∧ HH g h' [.obj bq0_10 (.cells none 2 [.A7 (AB q0_10)]), .obj bq0_11 (.cells none 2 [.str q0_11])] F := by
 refine D5 6 [.tmp 4] hc ?_
 clear hc
 unfold Eo at hm
 refine bg 6 [(0, .A7 (AB p0)), (1, .str p1)] fun fr H => ?_
 refine AG 3 ?_
 obtain ⟨h1, e1, A⟩ := A.pu (.cells none 2 [.A7 (AB p0)])
 refine BC 2 (.ptr (some (h.size, 0))) e1 H fun fr t H => ?_
 obtain ⟨h2, e2, A⟩ := A.pu (.cells none 2 [.str p1])
 refine BC 3 (.ptr (some (h1.size, 0))) e2 H fun fr t H => ?_
 refine BT 1 [] 2 H fun fr H => AN 2 [(4, .func (.func 263) [] [.ptr (some (h.size, 0)), .ptr (some (h1.size, 0))])] H fun fr H => AS ?_
 obtain ⟨rfl, rfl⟩ := DG hm
 refine ⟨.inl rfl, .func (.func 263) [] [.ptr (some (h.size, 0)), .ptr (some (h1.size, 0))], rH H, ?_⟩
 replace A : HH g h2 [.obj h.size (.cells none 2 [.A7 (AB p0)]), .obj h1.size (.cells none 2 [.str p1])] F := ((A.front 0 rfl).front 1 rfl)
 exact ⟨h.size, h1.size, rfl, A⟩
def EP {SY RY : Type} (Y : SY → Int → Option (SY ⊕ RY)) (p2 : List UInt8) (s : Int × (SY ⊕ RY)) : Option ((Int × (SY ⊕ RY)) ⊕ (((SY ⊕ RY)) ⊕ ((SY ⊕ RY)))) :=
 match s with
 | (x2, y2) => Ae (decide (x2 < (p2.length : Int))) ((Nb p2 x2).bind fun x3 => (Ae (x3 == 47) ((TS Y y2 (IntKind.i64.wrap (x2 + 1))).bind fun (x5, y6) => some (!x5, y6)) (some (false, y2)) : Option (Bool × (SY ⊕ RY))).bind fun (x4, y5) => Ae x4 (some (.inr (.inr y5))) (some (.inl (IntKind.i64.wrap (x2 + 1), y5)))) (some (.inr (.inl y2)))
def DQ {SY RY : Type} (Y : SY → Int → Option (SY ⊕ RY)) (y : SY ⊕ RY) (p1 : Ag) (p2 : List UInt8) : Option ((SY ⊕ RY)) :=
 (TS Y y (0 : Int)).bind fun (x1, y1) => Ae ((!x1) || p1.r_.Bh) (some y1) ((loop (EP Y p2) ((0 : Int), y1)).bind fun o1 => (match o1 with | .inl y3 => some y3 | .inr y4 => some y4))
theorem Gz {SY RY : Type} {R : SY ⊕ RY → List Ck → Prop} {Y : SY → Int → Option (SY ⊕ RY)} {y : SY ⊕ RY} {p1 p2 l bp1 bp2} {yq : SY ⊕ RY} (hm : DQ Y y p1 p2 = some yq) (hc : BI (cfg.still 263) av = [.Mi l, .ptr (some (bp1, 0)), .ptr (some (bp2, 0))]) (hYR : YR cfg g l (fun x => [Ai x]) Y R) (B : R y F) (A : HH g h [.obj bp1 (.cells none 2 [.A7 (AB p1)]), .obj bp2 (.cells none 2 [.str p2])] F) : ∃ v h', BL cfg g h 263 av v h' ∧ v = .tuple [] ∧ ∃ F, R yq F ∧ HH g h' [.obj bp1 (.cells none 2 [.A7 (AB p1)]), .obj bp2 (.cells none 2 [.str p2])] F := by
 refine D5 32 [] hc ?_
 clear hc
 unfold DQ at hm
 refine bg 32 [(0, .Mi l), (1, .ptr (some (bp1, 0))), (2, .ptr (some (bp2, 0)))] fun fr H => ?_
 refine AQ (AG 10 ?_)
 obtain ⟨⟨x1, y1⟩, hx, hm⟩ := bind_some hm
 obtain ⟨h1, F, hr, B, A⟩ := hYR.TS (pr := []) .nil A B hx
 refine As 1 [] 6 (.bool x1) h1 H (fun fr => Steps.round (by kernel_rfl) hr) fun fr t H => ?_
 refine AF 2 [(8, .bool (!x1))] H fun fr H => An 6 (fun fr' h' => h1 = h' ∧ Has fr' 32 [(0, .Mi l), (2, .ptr (some (bp2, 0))), (14, .bool ((!x1) || p1.r_.Bh))]) ?_ ?_
 ·cases hb : (!x1 : Bool) with
  | true =>
   replace H := H.kn 8 hb
   exact AF 6 [(14, .bool true)] H fun fr H => AY H hb
  | false =>
   replace H := H.kn 8 hb
   refine Eu 9 0 0 A H fun fr t H => ?_
   refine As 3 [] 13 (.bool p1.r_.Bh) h1 H (fun fr => .of (IQ (by kernel_rfl))) fun fr t H => ?_
   exact AF 1 [(14, .bool p1.r_.Bh)] H fun fr H => AY H hb
 intro t fr h' hK
 obtain ⟨e, H⟩ := hK
 subst e
 refine BB id (Ak 14 H hm (fun hb hm H => ?_) fun hb hm H => ?_)
 ·refine AS ?_
  obtain rfl := Aa hm
  exact ⟨.inl rfl, _, rH H, rfl, ⟨F, B, A⟩⟩
 refine Cm 3 id (Eu 15 1 0 A H fun fr t H => ?_)
 refine AN 2 [(16, Ai (p2.length : Int)), (17, Ai 0)] H fun fr H => AX (id := 0) (by kernel_rfl) ?_
 obtain ⟨o1, ho, hm⟩ := bind_some hm
 refine BM (Q' := fun e fr' h' => (∃ (y3 : SY ⊕ RY), e = .exit 0 ∧ .inl y3 = o1 ∧ Has fr' 32 [] ∧ ∃ F, R y3 F ∧ HH g h' [.obj bp1 (.cells none 2 [.A7 (AB p1)]), .obj bp2 (.cells none 2 [.str p2])] F) ∨ (∃ (y4 : SY ⊕ RY), e = .ret ∧ .inr y4 = o1 ∧ Has fr' 32 [] ∧ ∃ F, R y4 F ∧ HH g h' [.obj bp1 (.cells none 2 [.A7 (AB p1)]), .obj bp2 (.cells none 2 [.str p2])] F) ∨ False) ?_ ?_
 ·refine B8 (by kernel_rfl) (fun (s : Int × (SY ⊕ RY)) fr' h' => ∃ x2, ∃ (y2 : SY ⊕ RY), (x2, y2) = s ∧ Has fr' 32 [(0, .Mi l), (2, .ptr (some (bp2, 0))), (16, Ai (p2.length : Int)), (17, Ai x2)] ∧ ∃ F, R y2 F ∧ HH g h' [.obj bp1 (.cells none 2 [.A7 (AB p1)]), .obj bp2 (.cells none 2 [.str p2])] F) ho ⟨(0 : Int), y1, rfl, H.ls, ⟨F, B, A⟩⟩ ?_
  clear ho hm H A
  intro s q fr h2 hI hm
  obtain ⟨x2, y2, rfl, H, ⟨F, B, A⟩⟩ := hI
  unfold EP at hm
  refine AG 1 (AN 1 [(18, .bool (decide (x2 < (p2.length : Int))))] H fun fr H => AQ (Ak 18 H hm (fun hb hm H => ?_) fun hb hm H => ?_))
  ·refine Be id (AQ (AX (id := 1) (by kernel_rfl) ?_))
   refine AG 2 (BT 2 [(4, Ai x2)] 11 H fun fr H => Eu 20 1 0 A H fun fr t H => ?_)
   obtain ⟨x3, hx, hm⟩ := bind_some hm
   refine As 1 [] 22 (Ab x3) h2 H (fun fr => .of (G4 (by kernel_rfl) hx)) fun fr t H => ?_
   refine AF 2 [(24, .bool (x3 == 47))] H fun fr H => ?_
   obtain ⟨⟨x4, y5⟩, ho, hm⟩ := bind_some hm
   refine An 6 (fun fr' h' => Has fr' 32 [(0, .Mi l), (2, .ptr (some (bp2, 0))), (16, Ai (p2.length : Int)), (17, Ai x2), (30, .bool x4)] ∧ ∃ F, R y5 F ∧ HH g h' [.obj bp1 (.cells none 2 [.A7 (AB p1)]), .obj bp2 (.cells none 2 [.str p2])] F) ?_ ?_
   ·rcases AU ho with ⟨hb, hm⟩ | ⟨hb, hm⟩
    ·replace H := H.kn 24 hb
     obtain ⟨⟨x5, y6⟩, hx, hm⟩ := bind_some hm
     obtain ⟨h4, F, hr, B, A⟩ := hYR.TS (pr := []) .nil A B hx
     refine As 3 [] 28 (.bool x5) h4 H (fun fr => Steps.round (by kernel_rfl) hr) fun fr t H => ?_
     refine AF 2 [(30, .bool (!x5))] H fun fr H => ?_
     obtain ⟨rfl, rfl⟩ := DG hm
     exact at_nil ⟨H.ls, ⟨F, B, A⟩⟩
    replace H := H.kn 24 hb
    refine AF 6 [(30, .bool false)] H fun fr H => ?_
    obtain ⟨rfl, rfl⟩ := DG hm
    exact at_nil ⟨H.ls, ⟨F, B, A⟩⟩
   clear A
   intro t fr h3 hK
   obtain ⟨H, ⟨F, B, A⟩⟩ := hK
   refine BB id (Ak 30 H hm (fun hb hm H => ?_) fun hb hm H => ?_)
   ·refine AS ?_
    exact nr hm fun e => Or.inr (.inl ⟨y5, rfl, e, H.ls, ⟨F, B, A⟩⟩)
   refine FH 2 id (Bi 2 [(0, .Mi l), (2, .ptr (some (bp2, 0))), (16, Ai (p2.length : Int)), (17, Ai (IntKind.i64.wrap (x2 + 1)))] H fun fr H => at_nil ?_)
   exact nx hm ⟨IntKind.i64.wrap (x2 + 1), y5, rfl, H.ls, ⟨F, B, A⟩⟩
  refine Bn (i := 0) (by kernel_rfl) ?_
  exact nr hm fun e => .inl ⟨y2, rfl, e, H.ls, ⟨F, B, A⟩⟩
 clear ho
 clear A
 intro e fr h5 hQ
 rcases hQ with ⟨y3, rfl, rfl, H, ⟨F, B, A⟩⟩ | ⟨y4, rfl, rfl, H, ⟨F, B, A⟩⟩ | hF
 ·obtain rfl := Aa hm
  refine ⟨.inr rfl, .tuple [], rH H, ?_⟩
  exact ⟨rfl, ⟨F, B, A⟩⟩
 ·obtain rfl := Aa hm
  exact ⟨.inl rfl, _, rH H, rfl, ⟨F, B, A⟩⟩
 exact hF.elim
def EA (p0 : Int) (p1 : Bool) (p2 : List Int) : Option ((List Int)) :=
 Ae p1 (Fl (OU 8 (p2.length + ([p0] : List Int).length)) <| some (p2 ++ ([p0] : List Int))) (some p2)
theorem H7 {p0 p1 p2 bp2 rp2_0 u1} (hm : EA p0 p1 p2 = some u1) (A : HH g h [.obj bp2 (.cells none 2 [AI rp2_0 p2.length]), .AL rp2_0 3 (AL (eI .i64) p2)] F) (hc : BI (cfg.still 265) av = [Ai p0, .bool p1, .ptr (some (bp2, 0))] := by kernel_rfl) : ∃ v h', BL cfg g h 265 av v h' ∧ ∃ (r'1 : Option Nat), v = .tuple [] ∧ HH g h' [.obj bp2 (.cells none 2 [AI r'1 u1.length]), .AL r'1 3 (AL (eI .i64) u1)] F := by
 refine D5 10 [] hc ?_
 clear hc
 unfold EA at hm
 refine bg 10 [(0, Ai p0), (1, .bool p1), (2, .ptr (some (bp2, 0)))] fun fr H => ?_
 refine AG 1 (AN 1 [(5, .bool p1)] H fun fr H => Ak 5 H hm (fun hb hm H => ?_) fun hb hm H => ?_)
 ·refine EW 5 (Eu 6 0 0 A H fun fr t H => ?_)
  refine AF 1 [(7, Ai p0)] H fun fr H => ?_
  obtain ⟨h1, e1, A⟩ := A.pL 3 [Ai p0]
  refine BC 8 (AI (some h.size) (([p0] : List Int).length)) e1 H fun fr t H => ?_
  obtain ⟨hb, hm⟩ := BZ hm
  obtain ⟨r1, h2, hx, A1⟩ := HH.NQ (encI .i64) (by decide) A 2 (xs := p2) (ys := ([p0] : List Int)) rfl (EI A 0 rfl (n := ([p0] : List Int).length) (z := 1) rfl (by decide)) rfl rfl hb
  replace A : HH g h2 [.AL (some h.size) 3 ([Ai p0]), _, .AL r1 3 (AL (eI .i64) (p2 ++ ([p0] : List Int)))] F := A1
  replace A := A.k2 1 2
  refine Az 9 _ _ H (fun fr => .of (KF (s := D2 rp2_0 p2.length) (by kernel_rfl) hx)) fun fr t H => ?_
  obtain ⟨h3, hx, A1⟩ := A.st 0 rfl (o := 0) (new := [AI r1 ((p2 ++ ([p0] : List Int)).length)]) (ds := [AI r1 ((p2 ++ ([p0] : List Int)).length)]) (Nat.le_of_ble_eq_true rfl) rfl rfl
  replace A : HH g h3 [.obj bp2 (.cells none 2 [AI r1 ((p2 ++ ([p0] : List Int)).length)]), _] F := A1
  refine Jo hx H fun fr t H => ?_
  refine at_nil ?_
  obtain rfl := Aa hm
  refine ⟨.inr rfl, .tuple [], rH H, ?_⟩
  exact ⟨r1, rfl, A⟩
 refine IG ?_
 obtain rfl := Aa hm
 refine ⟨.inr rfl, .tuple [], rH H, ?_⟩
 exact ⟨rp2_0, rfl, A⟩
def FA (p0 : BX) (p1 : List UInt8) (s : (List Int) × Int × Int) : Option (((List Int) × Int × Int) ⊕ (((List Int)))) :=
 match s with
 | (x1, x2, x3) => (HR p0.A8 x2).bind fun x5 => (EA x3 x5 x1).bind fun x6 => Ae (x3 == (p1.length : Int)) (some (.inr x6)) ((Nb p1 x3).bind fun x7 => (Rk 256 p0.BO x7).bind fun x8 => (HR p0.BN (IntKind.i64.wrap ((IntKind.i64.wrap ((IntKind.i64.wrap x2) * p0.Aq)) + (IntKind.i64.wrap x8)))).bind fun x9 => Ae (x9 == (-1)) (some (.inr x6)) (some (.inl (x6, x9, IntKind.i64.wrap (x3 + 1)))))
def D8 (p0 : BX) (p1 : List UInt8) (p2_10 : List Int) : Option ((List Int)) :=
 (loop (FA p0 p1) (p2_10, (0 : Int), (0 : Int))).bind fun x4 => some x4
theorem H5 {p0 p1 p2_10 bp2_10 rp2_10_0 u1} (hm : D8 p0 p1 p2_10 = some u1) (A : HH g h [.obj bp2_10 (.cells none 2 [AI rp2_10_0 p2_10.length]), .AL rp2_10_0 3 (AL (eI .i64) p2_10)] F) (hc : BI (cfg.still 264) av = [.A7 (Cl 256 (AA.int .u8) p0.BO ++ [Ai p0.Aq, vs (eI .i32) p0.BN, vs eB p0.A8]), .str p1, .func (.func 265) [] [.ptr (some (bp2_10, 0))]] := by kernel_rfl) : ∃ v h', BL cfg g h 264 av v h' ∧ ∃ (r'1 : Option Nat), v = .tuple [] ∧ HH g h' [.obj bp2_10 (.cells none 2 [AI r'1 u1.length]), .AL r'1 3 (AL (eI .i64) u1)] F := by
 refine D5 49 [] hc ?_
 clear hc
 unfold D8 at hm
 refine bg 49 [(0, .A7 (Cl 256 (AA.int .u8) p0.BO ++ [Ai p0.Aq, vs (eI .i32) p0.BN, vs eB p0.A8])), (1, .str p1), (2, .func (.func 265) [] [.ptr (some (bp2_10, 0))])] fun fr H => ?_
 refine AG 1 (BT 1 [(6, .int .i32 0)] 1 H fun fr H => AN 1 [(7, Ai 0)] H fun fr H => AX (id := 0) (by kernel_rfl) ?_)
 obtain ⟨o1, ho, hm⟩ := bind_some hm
 refine BM (Q' := fun e fr' h' => (∃ x4, e = .ret ∧ x4 = o1 ∧ ∃ r2, Has fr' 49 [] ∧ HH g h' [.obj bp2_10 (.cells none 2 [AI r2 x4.length]), .AL r2 3 (AL (eI .i64) x4)] F) ∨ False) ?_ ?_
 ·refine B8 (by kernel_rfl) (fun (s : (List Int) × Int × Int) fr' h' => ∃ x1 x2 x3, (x1, x2, x3) = s ∧ ∃ r1, Has fr' 49 [(0, .A7 (Cl 256 (AA.int .u8) p0.BO ++ [Ai p0.Aq, vs (eI .i32) p0.BN, vs eB p0.A8])), (1, .str p1), (2, .func (.func 265) [] [.ptr (some (bp2_10, 0))]), (6, .int .i32 x2), (7, Ai x3)] ∧ HH g h' [.obj bp2_10 (.cells none 2 [AI r1 x1.length]), .AL r1 3 (AL (eI .i64) x1)] F) ho ⟨_, _, _, rfl, rp2_10_0, H.ls, A⟩ ?_
  clear ho hm H A
  intro s q fr h1 hI hm
  obtain ⟨x1, x2, x3, rfl, r1, H, A⟩ := hI
  unfold FA at hm
  refine AQ (AX (id := 1) (by kernel_rfl) ?_)
  refine AG 10 (As 5 [(10, .func (.func 265) [] [.ptr (some (bp2_10, 0))]), (11, Ai x3)] 15 (vs eB p0.A8) h1 H (fun fr => .of (IQ (by kernel_rfl))) fun fr t H => ?_)
  obtain ⟨x5, hx, hm⟩ := bind_some hm
  refine As 1 [] 17 (.A7 [.bool x5]) h1 H (fun fr => .of (I3 (e := eB) (x := x5) WH (by decide) (by kernel_rfl) hx)) fun fr t H => ?_
  refine Az 18 (.bool x5) h1 H (fun fr => .of (IQ (by kernel_rfl))) fun fr t H => ?_
  obtain ⟨x6, hx, hm⟩ := bind_some hm
  obtain ⟨v1, h2, hr, r3, rfl, A1⟩ := H7 (av := [Ai x3, .bool x5, .ptr (some (bp2_10, 0))]) hx (A.cut 2)
  replace A := A.g22 A1
  refine Uf hr H fun fr t H => ?_
  refine BB id (AQ (AG 4 (AN 4 [(23, .bool (x3 == (p1.length : Int)))] H fun fr H => Ak 23 H hm (fun hb hm H => ?_) fun hb hm H => ?_)))
  ·refine AS ?_
   exact nr hm fun e => .inl ⟨_, rfl, e, _, H.ls, A⟩
  refine Be id (AQ (EZ 5 24 ?_))
  refine As 3 [] 27 (vs (eI .i32) p0.BN) h2 H (fun fr => .of (IQ (by kernel_rfl))) fun fr t H => ?_
  refine As 5 [(29, Ai (IntKind.i64.wrap x2))] 33 (Ai p0.Aq) h2 H (fun fr => .of (IQ (by kernel_rfl))) fun fr t H => ?_
  obtain ⟨x7, hx, hm⟩ := bind_some hm
  refine As 4 [(34, Ai (IntKind.i64.wrap ((IntKind.i64.wrap x2) * p0.Aq))), (35, .A7 (Cl 256 (AA.int .u8) p0.BO ++ [Ai p0.Aq, vs (eI .i32) p0.BN, vs eB p0.A8]))] 38 (Ab x7) h2 H (fun fr => .of (G4 (by kernel_rfl) hx)) fun fr t H => ?_
  obtain ⟨x8, hq1, hm⟩ := bind_some hm
  obtain ⟨tl1, hd1⟩ := UB (AA.int .u8) [Ai p0.Aq, vs (eI .i32) p0.BN, vs eB p0.A8] hq1
  refine As 2 [] 41 (.A7 ([Ab x8] ++ tl1)) h2 H (fun fr => .of (Vq (X := p0.BO) (by kernel_rfl) hq1 hd1)) fun fr t H => ?_
  refine Az 42 (Ab x8) h2 H (fun fr => .of (IQ (by kernel_rfl))) fun fr t H => ?_
  obtain ⟨x9, hx, hm⟩ := bind_some hm
  refine As 2 [] 45 (.A7 [.int .i32 x9]) h2 H (fun fr => .of (I3 (e := (eI .i32)) (x := x9) (encI .i32) (by decide) (by kernel_rfl) hx)) fun fr t H => ?_
  refine Az 46 (.int .i32 x9) h2 H (fun fr => .of (IQ (by kernel_rfl))) fun fr t H => ?_
  refine Bi 1 [(0, .A7 (Cl 256 (AA.int .u8) p0.BO ++ [Ai p0.Aq, vs (eI .i32) p0.BN, vs eB p0.A8])), (1, .str p1), (2, .func (.func 265) [] [.ptr (some (bp2_10, 0))]), (6, .int .i32 x9), (7, Ai x3)] H fun fr H => Cj 2 id (AN 2 [(48, .bool (x9 == (-1)))] H fun fr H => Ak 48 H hm (fun hb hm H => ?_) fun hb hm H => ?_)
  ·refine AS ?_
   exact nr hm fun e => .inl ⟨_, rfl, e, _, H.ls, A⟩
  refine FH 3 id (Bi 3 [(0, .A7 (Cl 256 (AA.int .u8) p0.BO ++ [Ai p0.Aq, vs (eI .i32) p0.BN, vs eB p0.A8])), (1, .str p1), (2, .func (.func 265) [] [.ptr (some (bp2_10, 0))]), (6, .int .i32 x9), (7, Ai (IntKind.i64.wrap (x3 + 1)))] H fun fr H => at_nil ?_)
  exact nx hm ⟨_, _, _, rfl, _, H.ls, A⟩
 clear ho
 clear A
 intro e fr h3 hQ
 rcases hQ with ⟨x4, rfl, rfl, r2, H, A⟩ | hF
 ·obtain rfl := Aa hm
  exact ⟨.inl rfl, _, rH H, _, rfl, A⟩
 exact hF.elim
def GF (p0 : BX) (p1 : List UInt8) : Option ((List Int)) :=
 (D8 p0 p1 ([] : List Int)).bind fun x1 => some x1
theorem Kp {p0 p1 q0} (hm : GF p0 p1 = some q0) (A : HH g h [] F) (hc : BI (cfg.still 201) av = [.A7 (Cl 256 (AA.int .u8) p0.BO ++ [Ai p0.Aq, vs (eI .i32) p0.BN, vs eB p0.A8]), .str p1] := by kernel_rfl) : ∃ v h', BL cfg g h 201 av v h' ∧ ∃ (rq0 : Option Nat), v = AI rq0 q0.length ∧ HH g h' [.AL rq0 3 (AL (eI .i64) q0)] F := by
 refine D5 11 [.tmp 4] hc ?_
 clear hc
 unfold GF at hm
 refine bg 11 [(0, .A7 (Cl 256 (AA.int .u8) p0.BO ++ [Ai p0.Aq, vs (eI .i32) p0.BN, vs eB p0.A8])), (1, .str p1)] fun fr H => ?_
 refine AG 1 (BT 1 [] 1 H fun fr H => ?_)
 obtain ⟨h1, e1, A⟩ := A.pu (.cells none 2 [.slice none 0])
 refine BC 5 (.ptr (some (h.size, 0))) e1 H fun fr t H => ?_
 refine Cj 4 id ?_
 replace A : HH g h1 [.AL none 3 (AL (eI .i64) ([] : List Int)), .obj h.size (.cells none 2 [AI none (([] : List Int).length)])] F := A.MV 3
 replace A := A.k2 1 0
 obtain ⟨x1, hx, hm⟩ := bind_some hm
 obtain ⟨v1, h2, hr, r1, rfl, A1⟩ := H5 (av := [.A7 (Cl 256 (AA.int .u8) p0.BO ++ [Ai p0.Aq, vs (eI .i32) p0.BN, vs eB p0.A8]), .str p1, .func (.func 265) [] [.ptr (some (h.size, 0))]]) hx (A.cut 2)
 replace A := A.g22 A1
 refine SG 3 [] hr H fun fr t H => ?_
 refine Cj 2 id (Eu 10 0 0 A H fun fr t H => ?_)
 refine AN 1 [(4, AI r1 x1.length)] H fun fr H => AS ?_
 obtain rfl := Aa hm
 refine ⟨.inl rfl, AI r1 x1.length, rH H, ?_⟩
 replace A := A.k1 1
 exact ⟨r1, rfl, A⟩
def Dr (p0 : List UInt8) : Option ((List UInt8)) :=
 some p0
theorem JS {p0 q0_11} (hm : Dr p0 = some q0_11) (A : HH g h [] F) (hc : BI (cfg.still 157) av = [.str p0, .str ([47] : List UInt8), Ai (0 : Int)] := by kernel_rfl) : ∃ v h', BL cfg g h 157 av v h' ∧ ∃ (bq0_10 : Nat) (bq0_11 : Nat) (bq0_12 : Nat), v = .func (.func 227) [] [.ptr (some (bq0_10, 0)), .ptr (some (bq0_11, 0)), .ptr (some (bq0_12, 0))] ∧ HH g h' [.obj bq0_10 (.cells none 2 [.str ([47] : List UInt8)]), .obj bq0_11 (.cells none 2 [.str q0_11]), .obj bq0_12 (.cells none 2 [Ai (0 : Int)])] F := by
 refine D5 8 [.tmp 6] hc ?_
 clear hc
 unfold Dr at hm
 refine bg 8 [(0, .str p0), (1, .str ([47] : List UInt8)), (2, Ai (0 : Int))] fun fr H => ?_
 refine AG 4 ?_
 obtain ⟨h1, e1, A⟩ := A.pu (.cells none 2 [.str p0])
 refine BC 3 (.ptr (some (h.size, 0))) e1 H fun fr t H => ?_
 obtain ⟨h2, e2, A⟩ := A.pu (.cells none 2 [.str ([47] : List UInt8)])
 refine BC 4 (.ptr (some (h1.size, 0))) e2 H fun fr t H => ?_
 obtain ⟨h3, e3, A⟩ := A.pu (.cells none 2 [Ai 0])
 refine BC 5 (.ptr (some (h2.size, 0))) e3 H fun fr t H => ?_
 refine BT 1 [] 2 H fun fr H => AN 2 [(6, .func (.func 227) [] [.ptr (some (h1.size, 0)), .ptr (some (h.size, 0)), .ptr (some (h2.size, 0))])] H fun fr H => AS ?_
 obtain rfl := Aa hm
 refine ⟨.inl rfl, .func (.func 227) [] [.ptr (some (h1.size, 0)), .ptr (some (h.size, 0)), .ptr (some (h2.size, 0))], rH H, ?_⟩
 replace A : HH g h3 [.obj h1.size (.cells none 2 [.str ([47] : List UInt8)]), .obj h.size (.cells none 2 [.str p0]), .obj h2.size (.cells none 2 [Ai 0])] F := (((A.front 0 rfl).front 2 rfl).front 2 rfl)
 exact ⟨h1.size, h.size, h2.size, rfl, A⟩
def EF (p0 : List UInt8) : Option ((List UInt8)) :=
 (Dr p0).bind fun x1_11 => some x1_11
theorem Jg {p0 q0_11} (hm : EF p0 = some q0_11) (A : HH g h [] F) (hc : BI (cfg.still 96) av = [.str p0, .str ([47] : List UInt8)] := by kernel_rfl) : ∃ v h', BL cfg g h 96 av v h' ∧ ∃ (bq0_10 : Nat) (bq0_11 : Nat) (bq0_12 : Nat), v = .func (.func 227) [] [.ptr (some (bq0_10, 0)), .ptr (some (bq0_11, 0)), .ptr (some (bq0_12, 0))] ∧ HH g h' [.obj bq0_10 (.cells none 2 [.str ([47] : List UInt8)]), .obj bq0_11 (.cells none 2 [.str q0_11]), .obj bq0_12 (.cells none 2 [Ai (0 : Int)])] F := by
 refine D5 8 [.tmp 4] hc ?_
 clear hc
 unfold EF at hm
 refine bg 8 [(0, .str p0), (1, .str ([47] : List UInt8))] fun fr H => ?_
 refine AG 1 (BT 1 [] 4 H fun fr H => ?_)
 obtain ⟨x1_11, hx, hm⟩ := bind_some hm
 obtain ⟨v1, h1, hr, bqw1_10, bqw1_11, bqw1_12, rfl, A1⟩ := JS (av := [.str p0, .str ([47] : List UInt8), Ai 0]) hx (A.cut 0)
 replace A := A.YG A1
 refine BH 2 [] 7 hr H fun fr t H => ?_
 refine AN 1 [(4, .func (.func 227) [] [.ptr (some (bqw1_10, 0)), .ptr (some (bqw1_11, 0)), .ptr (some (bqw1_12, 0))])] H fun fr H => AS ?_
 obtain rfl := Aa hm
 exact ⟨.inl rfl, _, rH H, _, _, _, rfl, A⟩
def EM (p0 : List UInt8) : Option (Bool) :=
 some (!(p0 == p0))
theorem IE {p0 q0} (hm : EM p0 = some q0) (A : HH g h [] F) (hc : BI (cfg.still 278) av = [.str p0] := by kernel_rfl) : ∃ v h', BL cfg g h 278 av v h' ∧ v = .bool q0 ∧ HH g h' [] F := by
 refine D5 6 [.tmp 2] hc ?_
 clear hc
 unfold EM at hm
 refine bg 6 [(0, .str p0)] fun fr H => ?_
 refine AG 1 (BT 1 [] 4 H fun fr H => AN 4 [(2, .bool (!(p0 == p0)))] H fun fr H => AS ?_)
 obtain rfl := Aa hm
 exact ⟨.inl rfl, _, rH H, rfl, A⟩
def DS (p0 : List UInt8) : Option (Bool) :=
 some (!(p0 == p0))
theorem G1 {p0 q0} (hm : DS p0 = some q0) (A : HH g h [] F) (hc : BI (cfg.still 266) av = [.str p0] := by kernel_rfl) : ∃ v h', BL cfg g h 266 av v h' ∧ v = .bool q0 ∧ HH g h' [] F := by
 refine D5 6 [.tmp 2] hc ?_
 clear hc
 unfold DS at hm
 refine bg 6 [(0, .str p0)] fun fr H => ?_
 refine AG 1 (BT 1 [] 4 H fun fr H => AN 4 [(2, .bool (!(p0 == p0)))] H fun fr H => AS ?_)
 obtain rfl := Aa hm
 exact ⟨.inl rfl, _, rH H, rfl, A⟩
def Gt (p0 : List UInt8) : Option (Bool) :=
 some (p0 == ([] : List UInt8))
theorem NL {p0 q0} (hm : Gt p0 = some q0) (A : HH g h [] F) (hc : BI (cfg.still 100) av = [.str p0] := by kernel_rfl) : ∃ v h', BL cfg g h 100 av v h' ∧ v = .bool q0 ∧ HH g h' [] F := by
 refine D5 5 [.tmp 2] hc ?_
 clear hc
 unfold Gt at hm
 refine bg 5 [(0, .str p0)] fun fr H => ?_
 refine AG 1 (BT 1 [] 3 H fun fr H => AN 3 [(2, .bool (p0 == ([] : List UInt8)))] H fun fr H => AS ?_)
 obtain rfl := Aa hm
 exact ⟨.inl rfl, _, rH H, rfl, A⟩
end
end Go.Av.L
