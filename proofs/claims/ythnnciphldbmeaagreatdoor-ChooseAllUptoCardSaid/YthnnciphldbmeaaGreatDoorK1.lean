/-
 Models of functions, and that the abstract run tells them. Written by lift2.py.
-/
import Derived.Test.YthnnciphldbmeaaGreatDoorKCfg
import Derived.Test.YthnnciphldbmeaaGreatDoorK0
namespace Go.Av.L
open Go.Av Go.Lib
set_option maxRecDepth 10000
set_option maxHeartbeats 4000000
set_option linter.unusedVariables false
set_option linter.unusedSimpArgs false
variable {g : Gd} {h : AH} {F : List Ck} {av : List AA}
noncomputable section
def Ix (s : (List AP) × Bool × Bool × Int × Bool × Int × Int × Int × Int × Int × Int × Int × (List UInt8) × Bool × Bool × Bool × (List UInt8) × Int × (List ((List UInt8) × Bool))) : Option (((List AP) × Bool × Bool × Int × Bool × Int × Int × Int × Int × Int × Int × Int × (List UInt8) × Bool × Bool × Bool × (List UInt8) × Int × (List ((List UInt8) × Bool))) ⊕ (((List AP) × Bool × Bool × Int × Bool × Int × Int × Int × Int × Int × Int × Int × (List UInt8) × Bool × Bool × Bool × (List UInt8) × Int × (List ((List UInt8) × Bool))) ⊕ ((List AP) × Bool × Bool × Int × Bool × Int × Int × Int × Int × Int × Int × Int × (List UInt8) × Bool × Bool × Bool × (List UInt8) × Int × (List ((List UInt8) × Bool)) × Int × Int))) :=
 match s with
 | (x2, x3, x4, x5, x6, x7, x8, x9, x10, x11, x12, x13, x14, x15, x16, x17, x18, x19, x20) => Ae (!(x18 == ([] : List UInt8))) (Fl (decide (x18.length ≤ 4294967280)) <| (Da (⟨(⟨([] : List AP), x2, ([] : List A0), x3, x4, x5, x6, (⟨x7, x8⟩ : Aw), x9, x10, x11, x12, x13⟩ : Bb), (⟨x14, x15, x16, x17⟩ : AP), (Lib.cut x18 ([10] : List UInt8)).2.1, IntKind.i64.wrap (x19 + (IntKind.i64.wrap ((x18.length : Int) - (((Lib.cut x18 ([10] : List UInt8)).2.1).length : Int)))), x20⟩ : Bx) ((Lib.cut x18 ([10] : List UInt8)).1) x19).bind fun (x61, x62, x63, x64) => (Fe).bind fun x65 => (SZ cfg.P 128 [Ai x61.e_, Ai x61.at_] [Ai x65.e_, Ai x65.at_]).bind fun x66 => Ae (!x66) (some (.inr (.inr (x63, x62.c_.Ho, x62.c_.BP, x62.c_.Bm, x62.c_.CC, x62.c_.BD.DF, x62.c_.BD.Bp, x62.c_.HG, x62.c_.B3, x62.c_.Name, x62.c_.Head, x62.c_.Bd, x62.Ar.Text, x62.Ar.Bh, x62.Ar.Fold, x62.Ar.Ax, x62.GK, x62.at_, x64, x61.at_, x61.e_)))) (some (.inl (x63, x62.c_.Ho, x62.c_.BP, x62.c_.Bm, x62.c_.CC, x62.c_.BD.DF, x62.c_.BD.Bp, x62.c_.HG, x62.c_.B3, x62.c_.Name, x62.c_.Head, x62.c_.Bd, x62.Ar.Text, x62.Ar.Bh, x62.Ar.Fold, x62.Ar.Ax, x62.GK, x62.at_, x64)))) (some (.inr (.inl (x2, x3, x4, x5, x6, x7, x8, x9, x10, x11, x12, x13, x14, x15, x16, x17, x18, x19, x20))))
def IU (p0 : List UInt8) : Option (Bb × Int × Int) :=
 Ae (decide ((p0.length : Int) > 65536)) (some ((⟨([] : List AP), ([] : List AP), ([] : List A0), false, false, (0 : Int), false, (⟨(0 : Int), (0 : Int)⟩ : Aw), (0 : Int), (0 : Int), (0 : Int), (0 : Int), (0 : Int)⟩ : Bb), (0 : Int), (12 : Int))) ((FE).bind fun _ => (loop (Ix) (([] : List AP), false, false, (0 : Int), false, (0 : Int), (0 : Int), (0 : Int), (0 : Int), (4096 : Int), (65536 : Int), (4096 : Int), ([] : List UInt8), false, false, true, p0, (0 : Int), ([] : List ((List UInt8) × Bool)))).bind fun o1 => (match o1 with | .inl (x21, x22, x23, x24, x25, x26, x27, x28, x29, x30, x31, x32, x33, x34, x35, x36, x37, x38, x39) => some ((⟨([] : List AP), x21, ([] : List A0), x22, x23, x24, x25, (⟨x26, x27⟩ : Aw), x28, x29, x30, x31, x32⟩ : Bb), (0 : Int), (0 : Int)) | .inr (x40, x41, x42, x43, x44, x45, x46, x47, x48, x49, x50, x51, x52, x53, x54, x55, x56, x57, x58, x59, x60) => some ((⟨([] : List AP), ([] : List AP), ([] : List A0), false, false, (0 : Int), false, (⟨(0 : Int), (0 : Int)⟩ : Aw), (0 : Int), (0 : Int), (0 : Int), (0 : Int), (0 : Int)⟩ : Bb), x59, x60)))
theorem NI {p0 q0 q1 q2} (hm : IU p0 = some (q0, q1, q2)) (A : HH g h [] F) (hc : BI (cfg.still 28) av = [.str p0] := by kernel_rfl) : ∃ v h', BL cfg g h 28 av v h' ∧ v = .tuple [.agg (Ao q0), Ai q1, Ai q2] ∧ HH g h' [] F := by
 refine Vz 77 [.cell 2 29, .tmp 3, .tmp 4] hc ?_
 clear hc
 unfold IU at hm
 refine bg 77 [(0, .str p0)] fun fr H => ?_
 refine AG 3 ?_
 obtain ⟨h1, e1, A⟩ := A.pu (.cells none 2 [.slice none 0, .slice none 0, .slice none 0, .bool false, .bool false, Ai 0, .bool false, Ai 0, Ai 0, Ai 0, Ai 0, Ai 0, Ai 0, Ai 0])
 refine BC 2 (.ptr (some (h.size, 0))) e1 H fun fr t H => ?_
 refine AN 2 [] H fun fr H => AQ (AG 3 (AN 3 [(14, .bool (decide ((p0.length : Int) > 65536)))] H fun fr H => Ak 14 H hm (fun hb hm H => ?_) fun hb hm H => ?_))
 ·refine AG 4 ?_
  obtain ⟨h2, hx, A⟩ := A.s0 0 [.slice none 0, .slice none 0, .slice none 0, .bool false, .bool false, Ai 0, .bool false, Ai 0, Ai 0, Ai 0, Ai 0, Ai 0, Ai 0, Ai 0] [_, _, _, _, _, _, _, _, _, _, _, _, _, _]
  refine EL 1 [] hx H fun fr t H => ?_
  refine AN 2 [(3, Ai 0), (4, Ai 12)] H fun fr H => AS ?_
  obtain ⟨rfl, rfl, rfl⟩ := Li hm
  refine ⟨.inl rfl, .tuple [.agg [.slice none 0, .slice none 0, .slice none 0, .bool false, .bool false, Ai 0, .bool false, Ai 0, Ai 0, Ai 0, Ai 0, Ai 0, Ai 0, Ai 0], Ai 0, Ai 12], CA (.cell (rT H) (BS (by kernel_rfl) (by kernel_rfl) (A.la 0 0 14)) (.tmp (rT H) (.tmp (rT H) .nil))), ?_⟩
  refine ⟨.tuple [.agg [vs AE ([] : List AP), vs AE ([] : List AP), vs AJ ([] : List A0), .bool false, .bool false, Ai 0, .bool false, Ai 0, Ai 0, Ai 0, Ai 0, Ai 0, Ai 0, Ai 0], Ai 0, Ai 12], h2, by first | rfl | (simp only [Hw, H6, Hs, Hv, Hz, H2, Hu, Hx, Ht, H4, Hr, F9, Fs, Fz, Fw, Fu, F7, F5, Option.map_some] <;> rfl), ?_⟩
  replace A := A.d0
  exact ⟨rfl, A⟩
 refine Cm 7 id ?_
 obtain ⟨⟨⟩, hx, hm⟩ := bind_some hm
 obtain ⟨v1, h3, hr, rfl, A1⟩ := Iw (av := []) hx (A.cut 0)
 replace A : HH g h3 [.obj h.size (.cells none 2 [.slice none 0, .slice none 0, .slice none 0, .bool false, .bool false, Ai (0 : Int), .bool false, Ai (0 : Int), Ai (0 : Int), Ai (0 : Int), Ai (0 : Int), Ai (0 : Int), Ai (0 : Int), Ai (0 : Int)])] F := A.CL (n := 0) A1
 refine Ay 16 hr H fun fr t H => ?_
 refine AF 2 [(17, .agg [.str ([] : List UInt8), .bool false, .bool false, .bool true]), (18, .str p0)] H fun fr H => ?_
 obtain ⟨h4, e2⟩ : ∃ x, x = h3.push (.map 2 []) := ⟨_, rfl⟩
 replace A : HH g h4 [.obj h3.size (.map 2 (BR (fun k : List UInt8 => .str k) (fun v : Bool => .bool v) ([] : List ((List UInt8) × Bool)))), _] F := (A.push _).to e2
 refine BC 19 (.map (some h3.size)) e2 H fun fr t H => ?_
 obtain ⟨h5, e3, A⟩ := A.pu (.cells none 2 [.slice none 0, .slice none 0, .slice none 0, .bool false, .bool false, Ai 0, .bool false, Ai 0, Ai 0, Ai 0, Ai 0, Ai 4096, Ai 65536, Ai 4096, .str ([] : List UInt8), .bool false, .bool false, .bool true, .str p0, Ai 0, .map (some h3.size)])
 refine Gy 1 [] 21 (.ptr (some (h4.size, 0))) e3 H fun fr t H => ?_
 refine BT 1 [(5, .ptr (some (h4.size, 0)))] 2 H fun fr H => ?_
 obtain ⟨h6, e4⟩ : ∃ x, x = h5.push (.map 2 LA.NJ) := ⟨_, rfl⟩
 replace A : HH g h6 [.obj h5.size (.map 2 LA.NJ), .obj h4.size (.cells none 2 [.slice none 0, .slice none 0, .slice none 0, .bool false, .bool false, Ai 0, .bool false, Ai 0, Ai 0, Ai 0, Ai 0, Ai 4096, Ai 65536, Ai 4096, .str ([] : List UInt8), .bool false, .bool false, .bool true, .str p0, Ai 0, .map (some h3.size)]), _, _] F := (A.push _).to e4
 have hr : ∀ g, BL cfg g h5 60 [] (.map (some h5.size)) h6 := fun g => by rw [e4]; exact Vl (C := cfg) (f := 60) (j := 0) (n := 0) (es := LA.NJ) (by kernel_rfl) (l := exts) rfl (by kernel_rfl) (by kernel_rfl) (by kernel_rfl)
 refine Az 22 _ _ H (fun fr => Steps.call (by kernel_rfl) (hr _)) fun fr t H => ?_
 refine AN 1 [(6, .map (some h5.size))] H fun fr H => AQ (AX (id := 0) (by kernel_rfl) ?_)
 replace A : HH g h6 [.AL none 31 (AL AE ([] : List AP)), _, _, _, _] F := A.MV 31
 replace A : HH g h6 [_, _, _, .obj h4.size (.cells none 2 [AI none (([] : List AP).length), _, _, _, _, _, _, _, _, _, _, _, _, _, _, _, _, _, _, _, _]), _, _] F := A.MV 31
 replace A : HH g h6 [.AL none 135 (AL AJ ([] : List A0)), _, _, _, .obj h4.size (.cells none 2 [_, AI none (([] : List AP).length), _, _, _, _, _, _, _, _, _, _, _, _, _, _, _, _, _, _, _]), _, _] F := A.MV 135
 obtain ⟨o1, ho, hm⟩ := bind_some hm
 refine BM (Q' := fun e fr' h' => (∃ x21 x22 x23 x24 x25 x26 x27 x28 x29 x30 x31 x32 x33 x34 x35 x36 x37 x38 x39, e = .exit 0 ∧ .inl (x21, x22, x23, x24, x25, x26, x27, x28, x29, x30, x31, x32, x33, x34, x35, x36, x37, x38, x39) = o1 ∧ ∃ r2, Has fr' 77 [(2, .ptr (some (h.size, 0))), (5, .ptr (some (h4.size, 0)))] ∧ HH g h' [.AL none 135 (AL AJ ([] : List A0)), .AL r2 31 (AL AE x21), .AL none 31 (AL AE ([] : List AP)), .obj h5.size (.map 2 LA.NJ), .obj h4.size (.cells none 2 [AI none (([] : List AP).length), AI r2 x21.length, AI none (([] : List A0).length), .bool x22, .bool x23, Ai x24, .bool x25, Ai x26, Ai x27, Ai x28, Ai x29, Ai x30, Ai x31, Ai x32, .str x33, .bool x34, .bool x35, .bool x36, .str x37, Ai x38, .map (some h3.size)]), .obj h3.size (.map 2 (BR (fun k : List UInt8 => .str k) (fun v : Bool => .bool v) x39)), .obj h.size (.cells none 2 [.slice none 0, .slice none 0, .slice none 0, .bool false, .bool false, Ai 0, .bool false, Ai 0, Ai 0, Ai 0, Ai 0, Ai 0, Ai 0, Ai 0])] F) ∨ (∃ x40 x41 x42 x43 x44 x45 x46 x47 x48 x49 x50 x51 x52 x53 x54 x55 x56 x57 x58 x59 x60, e = .ret ∧ .inr (x40, x41, x42, x43, x44, x45, x46, x47, x48, x49, x50, x51, x52, x53, x54, x55, x56, x57, x58, x59, x60) = o1 ∧ ∃ r3, Has fr' 77 [(2, .ptr (some (h.size, 0))), (3, Ai x59), (4, Ai x60)] ∧ HH g h' [.AL none 135 (AL AJ ([] : List A0)), .AL r3 31 (AL AE x40), .AL none 31 (AL AE ([] : List AP)), .obj h5.size (.map 2 LA.NJ), .obj h4.size (.cells none 2 [AI none (([] : List AP).length), AI r3 x40.length, AI none (([] : List A0).length), .bool x41, .bool x42, Ai x43, .bool x44, Ai x45, Ai x46, Ai x47, Ai x48, Ai x49, Ai x50, Ai x51, .str x52, .bool x53, .bool x54, .bool x55, .str x56, Ai x57, .map (some h3.size)]), .obj h3.size (.map 2 (BR (fun k : List UInt8 => .str k) (fun v : Bool => .bool v) x58)), .obj h.size (.cells none 2 [.slice none 0, .slice none 0, .slice none 0, .bool false, .bool false, Ai 0, .bool false, Ai 0, Ai 0, Ai 0, Ai 0, Ai 0, Ai 0, Ai 0])] F) ∨ False) ?_ ?_
 ·refine B8 (by kernel_rfl) (fun (s : (List AP) × Bool × Bool × Int × Bool × Int × Int × Int × Int × Int × Int × Int × (List UInt8) × Bool × Bool × Bool × (List UInt8) × Int × (List ((List UInt8) × Bool))) fr' h' => ∃ x2 x3 x4 x5 x6 x7 x8 x9 x10 x11 x12 x13 x14 x15 x16 x17 x18 x19 x20, (x2, x3, x4, x5, x6, x7, x8, x9, x10, x11, x12, x13, x14, x15, x16, x17, x18, x19, x20) = s ∧ ∃ r1, Has fr' 77 [(2, .ptr (some (h.size, 0))), (5, .ptr (some (h4.size, 0))), (6, .map (some h5.size))] ∧ HH g h' [.AL none 135 (AL AJ ([] : List A0)), .AL r1 31 (AL AE x2), .AL none 31 (AL AE ([] : List AP)), .obj h5.size (.map 2 LA.NJ), .obj h4.size (.cells none 2 [AI none (([] : List AP).length), AI r1 x2.length, AI none (([] : List A0).length), .bool x3, .bool x4, Ai x5, .bool x6, Ai x7, Ai x8, Ai x9, Ai x10, Ai x11, Ai x12, Ai x13, .str x14, .bool x15, .bool x16, .bool x17, .str x18, Ai x19, .map (some h3.size)]), .obj h3.size (.map 2 (BR (fun k : List UInt8 => .str k) (fun v : Bool => .bool v) x20)), .obj h.size (.cells none 2 [.slice none 0, .slice none 0, .slice none 0, .bool false, .bool false, Ai 0, .bool false, Ai 0, Ai 0, Ai 0, Ai 0, Ai 0, Ai 0, Ai 0])] F) ho ⟨_, _, _, _, _, _, _, _, _, _, _, _, _, _, _, _, _, _, _, rfl, none, H.ls, A⟩ ?_
  clear ho hm H A
  intro s q fr h7 hI hm
  obtain ⟨x2, x3, x4, x5, x6, x7, x8, x9, x10, x11, x12, x13, x14, x15, x16, x17, x18, x19, x20, rfl, r1, H, A⟩ := hI
  unfold Ix at hm
  refine AQ (AG 5 (AR 3 [] 26 4 18 A H fun fr t H => ?_))
  refine AN 1 [(27, .bool (!(x18 == ([] : List UInt8))))] H fun fr H => Ak 27 H hm (fun hb hm H => ?_) fun hb hm H => ?_
  ·refine Be id (AX (id := 1) (by kernel_rfl) ?_)
   refine AG 12 (AR 3 [] 32 4 18 A H fun fr t H => ?_)
   obtain ⟨hb, hm⟩ := BZ hm
   refine Az 33 (.tuple [.str ((Lib.cut x18 ([10] : List UInt8)).1), .str ((Lib.cut x18 ([10] : List UInt8)).2.1), .bool ((Lib.cut x18 ([10] : List UInt8)).2.2)]) h7 H (fun fr => Steps.call (by kernel_rfl) (Sd (C := cfg) (f := 61) (a := 0) (by kernel_rfl) (l := exts) rfl (by kernel_rfl) hb)) fun fr t H => ?_
   refine BT 7 [(7, .str ((Lib.cut x18 ([10] : List UInt8)).1)), (8, .str ((Lib.cut x18 ([10] : List UInt8)).2.1))] 5 H fun fr H => AR 3 [] 40 4 19 A H fun fr t H => ?_
   refine AN 1 [(10, Ai x19)] H fun fr H => AQ (EZ 8 16 ?_)
   refine AR 3 [(41, .ptr (some (h4.size, 0)))] 44 4 19 A H fun fr t H => ?_
   refine AR 3 [] 48 4 18 A H fun fr t H => ?_
   obtain ⟨h8, hx, A⟩ := A.s4 19 [Ai (IntKind.i64.wrap (x19 + (IntKind.i64.wrap ((x18.length : Int) - (((Lib.cut x18 ([10] : List UInt8)).2.1).length : Int)))))] [_, _, _, _, _, _, _, _, _, _, _, _, _, _, _, _, _, _, _, _, _]
   refine E8 7 [] hx H fun fr t H => ?_
   refine Cj 5 id ?_
   obtain ⟨h9, hx, A⟩ := A.s4 18 [.str ((Lib.cut x18 ([10] : List UInt8)).2.1)] [_, _, _, _, _, _, _, _, _, _, _, _, _, _, _, _, _, _, _, _, _]
   refine E8 4 [] hx H fun fr t H => ?_
   refine Cj 7 id ?_
   replace A := A.k7 4 2 1 0 5 3 6
   obtain ⟨⟨x61, x62, x63, x64⟩, hx, hm⟩ := bind_some hm
   obtain ⟨v1, h10, hr, r4, rfl, A1⟩ := G9 (av := [.ptr (some (h4.size, 0)), .str ((Lib.cut x18 ([10] : List UInt8)).1), Ai x19, .map (some h5.size)]) hx (A.cut 6)
   replace A : HH g h10 [.obj h4.size (.cells none 2 [_, AI r4 x63.length, _, .bool x62.c_.Ho, .bool x62.c_.BP, Ai x62.c_.Bm, .bool x62.c_.CC, Ai x62.c_.BD.DF, Ai x62.c_.BD.Bp, Ai x62.c_.HG, Ai x62.c_.B3, Ai x62.c_.Name, Ai x62.c_.Head, Ai x62.c_.Bd, .str x62.Ar.Text, .bool x62.Ar.Bh, .bool x62.Ar.Fold, .bool x62.Ar.Ax, .str x62.GK, Ai x62.at_, _]), .AL none 31 (AL AE ([] : List AP)), .AL r4 31 (AL AE x63), .AL none 135 (AL AJ ([] : List A0)), .obj h3.size (.map 2 (BR (fun k : List UInt8 => .str k) (fun v : Bool => .bool v) x64)), .obj h5.size (.map 2 LA.NJ), _] F := A.CL (n := 6) A1
   refine BH 4 [] 64 hr H fun fr t H => ?_
   obtain ⟨h11, e5, A⟩ := A.pu (.cells none 2 [Ai 0, Ai 0])
   refine BC 11 (.ptr (some (h10.size, 0))) e5 H fun fr t H => ?_
   obtain ⟨h12, hx, A⟩ := A.s0 0 [Ai x61.e_, Ai x61.at_] [_, _]
   refine Ev hx H fun fr t H => ?_
   refine BB id (AQ (Jk 11 3 [(0, []), (1, [0]), (2, [])] ?_))
   refine B0 65 (.agg [Ai x61.e_, Ai x61.at_]) h12 [(0, h10.size)] (g.BU) H (fun fr => .of (Bs (by kernel_rfl) (A.la 0 0 2))) (fun fr H => ?_)
   have A1 := A.Gm 0 (pr := [h10.size]) (.cons 0 rfl (by simp [Ck.ids]) .nil)
   obtain ⟨x65, hx, hm⟩ := bind_some hm
   obtain ⟨v1, h13, hr, rfl, A1⟩ := Gu (av := []) hx A1
   replace A := A.VX A1
   refine B0 66 (.agg [Ai x65.e_, Ai x65.at_]) h13 [(0, h10.size)] (h10.size :: g.BU) H (fun fr => Steps.call (by kernel_rfl) hr) (fun fr H => ?_)
   obtain ⟨x66, hx, hm⟩ := bind_some hm
   refine B0 67 (.bool (!x66)) h13 [(0, h10.size)] (g.BU) H (fun fr => .of (Vb (by kernel_rfl) hx)) (fun fr H => ?_)
   refine BB id (Ak 67 H hm (fun hb hm H => ?_) fun hb hm H => ?_)
   ·refine AQ (Jk 12 8 [(0, []), (1, []), (2, []), (3, []), (4, []), (5, [2, 4]), (6, []), (7, [])] ?_)
    refine AF 2 [(68, .agg [.slice none 0, .slice none 0, .slice none 0, .bool false, .bool false, Ai 0, .bool false, Ai 0, Ai 0, Ai 0, Ai 0, Ai 0, Ai 0, Ai 0]), (69, .ptr (some (h10.size, 1)))] H fun fr H => B0 70 (Ai x61.at_) h13 [(2, h10.size)] (g.BU) H (fun fr => .of (Dj (by kernel_rfl) (A.l1 0 1))) (fun fr H => ?_)
    refine AF 1 [(71, .ptr (some (h10.size, 0)))] H fun fr H => B0 72 (Ai x61.e_) h13 [(4, h10.size), (2, h10.size)] (g.BU) H (fun fr => .of (Dj (by kernel_rfl) (A.l1 0 0))) (fun fr H => ?_)
    replace A := A.k8 7 0 1 2 3 4 5 6
    have A1 := A.Gm 1 (pr := [h10.size, h10.size]) (.cons 0 rfl (by simp [Ck.ids]) (.cons 0 rfl (by simp [Ck.ids]) .nil))
    obtain ⟨h14, hx, A1⟩ := A1.st 0 rfl (o := 0) (new := [.slice none 0, .slice none 0, .slice none 0, .bool false, .bool false, Ai 0, .bool false, Ai 0, Ai 0, Ai 0, Ai 0, Ai 0, Ai 0, Ai 0]) (ds := [.slice none 0, .slice none 0, .slice none 0, .bool false, .bool false, Ai 0, .bool false, Ai 0, Ai 0, Ai 0, Ai 0, Ai 0, Ai 0, Ai 0]) (Nat.le_of_ble_eq_true rfl) rfl rfl
    replace A := A.XK A1
    refine K2 (.tuple []) h14 [(4, h10.size), (2, h10.size)] (h10.size :: h10.size :: g.BU) H (fun fr => .of (Nr (by kernel_rfl) (Lj hx rfl))) (fun fr H => ?_)
    refine AN 2 [(3, Ai x61.at_), (4, Ai x61.e_)] H fun fr H => AS ?_
    replace A := A.k7 5 4 3 7 2 6 0
    exact nr hm fun e => Or.inr (.inl ⟨_, _, _, _, _, _, _, _, _, _, _, _, _, _, _, _, _, _, _, _, _, rfl, e, _, H.ls, A⟩)
   refine IG ?_
   replace A := A.k7 4 3 2 6 1 5 7
   exact nx hm ⟨_, _, _, _, _, _, _, _, _, _, _, _, _, _, _, _, _, _, _, rfl, _, H.ls, A⟩
  refine Bn (i := 0) (by kernel_rfl) ?_
  exact nr hm fun e => .inl ⟨_, _, _, _, _, _, _, _, _, _, _, _, _, _, _, _, _, _, _, rfl, e, _, H.ls, A⟩
 clear ho
 clear A
 intro e fr h15 hQ
 rcases hQ with ⟨x21, x22, x23, x24, x25, x26, x27, x28, x29, x30, x31, x32, x33, x34, x35, x36, x37, x38, x39, rfl, rfl, r2, H, A⟩ | ⟨x40, x41, x42, x43, x44, x45, x46, x47, x48, x49, x50, x51, x52, x53, x54, x55, x56, x57, x58, x59, x60, rfl, rfl, r3, H, A⟩ | hF
 ·show AW _ _ _ _ _ _ _
  refine AG 7 (As 3 [] 76 _ _ H (fun fr => .of (Bs (by kernel_rfl) (A.GA 4 rfl (o := 0) (n := 14) ⟨Nat.le_of_ble_eq_true rfl, rfl⟩))) fun fr t H => ?_)
  obtain ⟨h16, hx, A⟩ := A.s6 0 [AI none (([] : List AP).length), AI r2 x21.length, AI none (([] : List A0).length), .bool x22, .bool x23, Ai x24, .bool x25, Ai x26, Ai x27, Ai x28, Ai x29, Ai x30, Ai x31, Ai x32] [_, _, _, _, _, _, _, _, _, _, _, _, _, _]
  refine Ev hx H fun fr t H => ?_
  refine AN 2 [(3, Ai 0), (4, Ai 0)] H fun fr H => AS ?_
  obtain ⟨rfl, rfl, rfl⟩ := Li hm
  refine ⟨.inl rfl, .tuple [.agg [AI none (([] : List AP).length), AI r2 x21.length, AI none (([] : List A0).length), .bool x22, .bool x23, Ai x24, .bool x25, Ai x26, Ai x27, Ai x28, Ai x29, Ai x30, Ai x31, Ai x32], Ai 0, Ai 0], CA (.cell (rT H) (BS (by kernel_rfl) (by kernel_rfl) (A.la 6 0 14)) (.tmp (rT H) (.tmp (rT H) .nil))), ?_⟩
  obtain ⟨h17, hz0, A1⟩ := (A.front 2 rfl).WV (n := ([] : List AP).length) (z := 4) (B9.Ju _) (by decide)
  replace A : HH g h17 [_, _, _, _, _, _] F := A1
  obtain ⟨h18, hz1, A1⟩ := (A.front 1 rfl).WV (n := x21.length) (z := 4) (B9.Ju _) (by decide)
  replace A : HH g h18 [_, _, _, _, _] F := A1
  obtain ⟨h19, hz2, A1⟩ := (A.front 0 rfl).WV (n := ([] : List A0).length) (z := 9) (EK.Ju _) (by decide)
  replace A : HH g h19 [_, _, _, _] F := A1
  refine ⟨.tuple [.agg [vs AE ([] : List AP), vs AE x21, vs AJ ([] : List A0), .bool x22, .bool x23, Ai x24, .bool x25, Ai x26, Ai x27, Ai x28, Ai x29, Ai x30, Ai x31, Ai x32], Ai 0, Ai 0], h19, by first | rfl | (simp only [Hw, H6, Hs, Hv, Hz, H2, Hu, Hx, Ht, H4, Hr, F9, Fs, Fz, Fw, Fu, F7, F5, Option.map_some, hz0, hz1, hz2] <;> rfl), ?_⟩
  replace A := A.d0
  exact ⟨rfl, A⟩
 ·obtain ⟨rfl, rfl, rfl⟩ := Li hm
  refine ⟨.inl rfl, .tuple [.agg [.slice none 0, .slice none 0, .slice none 0, .bool false, .bool false, Ai 0, .bool false, Ai 0, Ai 0, Ai 0, Ai 0, Ai 0, Ai 0, Ai 0], Ai x59, Ai x60], CA (.cell (rT H) (BS (by kernel_rfl) (by kernel_rfl) (A.la 6 0 14)) (.tmp (rT H) (.tmp (rT H) .nil))), ?_⟩
  refine ⟨.tuple [.agg [vs AE ([] : List AP), vs AE ([] : List AP), vs AJ ([] : List A0), .bool false, .bool false, Ai 0, .bool false, Ai 0, Ai 0, Ai 0, Ai 0, Ai 0, Ai 0, Ai 0], Ai x59, Ai x60], h15, by first | rfl | (simp only [Hw, H6, Hs, Hv, Hz, H2, Hu, Hx, Ht, H4, Hr, F9, Fs, Fz, Fw, Fu, F7, F5, Option.map_some] <;> rfl), ?_⟩
  replace A := A.d0
  exact ⟨rfl, A⟩
 exact hF.elim
def JP (p0 : Aw) : Option (Bool) :=
 some ((((decide (p0.DF ≥ (-9007199254740991))) && (decide (p0.DF ≤ 9007199254740991))) && (decide (p0.Bp ≥ 0))) && (decide (p0.Bp < 1000000000)))
theorem Nj {p0 q0} (hm : JP p0 = some q0) (A : HH g h [] F) (hc : BI (cfg.still 65) av = [.agg [Ai p0.DF, Ai p0.Bp]] := by kernel_rfl) : ∃ v h', BL cfg g h 65 av v h' ∧ v = .bool q0 ∧ HH g h' [] F := by
 refine D5 21 [.tmp 2] hc ?_
 clear hc
 unfold JP at hm
 refine bg 21 [(0, .agg [Ai p0.DF, Ai p0.Bp])] fun fr H => ?_
 refine AG 2 ?_
 obtain ⟨h1, e1, A⟩ := A.pu (.cells none 2 [Ai p0.DF, Ai p0.Bp])
 refine BC 1 (.ptr (some (h.size, 0))) e1 H fun fr t H => ?_
 refine BT 1 [] 19 H fun fr H => AR 1 [] 4 0 0 A H fun fr t H => ?_
 refine AF 2 [(6, .bool (decide (p0.DF ≥ (-9007199254740991))))] H fun fr H => An 4 (fun fr' h' => h1 = h' ∧ Has fr' 21 [(1, .ptr (some (h.size, 0))), (10, .bool ((decide (p0.DF ≥ (-9007199254740991))) && (decide (p0.DF ≤ 9007199254740991))))]) ?_ ?_
 ·cases hb : (decide (p0.DF ≥ (-9007199254740991)) : Bool) with
  | true =>
   replace H := H.kn 6 hb
   refine AR 1 [] 8 0 0 A H fun fr t H => ?_
   exact AF 2 [(10, .bool (decide (p0.DF ≤ 9007199254740991)))] H fun fr H => AY H hb
  | false =>
   replace H := H.kn 6 hb
   exact AF 4 [(10, .bool false)] H fun fr H => AY H hb
 intro t fr h' hK
 obtain ⟨e, H⟩ := hK
 subst e
 refine AF 1 [(11, .bool ((decide (p0.DF ≥ (-9007199254740991))) && (decide (p0.DF ≤ 9007199254740991))))] H fun fr H => An 4 (fun fr' h' => h1 = h' ∧ Has fr' 21 [(1, .ptr (some (h.size, 0))), (15, .bool (((decide (p0.DF ≥ (-9007199254740991))) && (decide (p0.DF ≤ 9007199254740991))) && (decide (p0.Bp ≥ 0))))]) ?_ ?_
 ·cases hb : ((decide (p0.DF ≥ (-9007199254740991))) && (decide (p0.DF ≤ 9007199254740991)) : Bool) with
  | true =>
   replace H := H.kn 11 hb
   refine AR 1 [] 13 0 1 A H fun fr t H => ?_
   exact AF 2 [(15, .bool (decide (p0.Bp ≥ 0)))] H fun fr H => AY H hb
  | false =>
   replace H := H.kn 11 hb
   exact AF 4 [(15, .bool false)] H fun fr H => AY H hb
 intro t fr h' hK
 obtain ⟨e, H⟩ := hK
 subst e
 refine AF 1 [(16, .bool (((decide (p0.DF ≥ (-9007199254740991))) && (decide (p0.DF ≤ 9007199254740991))) && (decide (p0.Bp ≥ 0))))] H fun fr H => An 4 (fun fr' h' => h1 = h' ∧ Has fr' 21 [(20, .bool ((((decide (p0.DF ≥ (-9007199254740991))) && (decide (p0.DF ≤ 9007199254740991))) && (decide (p0.Bp ≥ 0))) && (decide (p0.Bp < 1000000000))))]) ?_ ?_
 ·cases hb : (((decide (p0.DF ≥ (-9007199254740991))) && (decide (p0.DF ≤ 9007199254740991))) && (decide (p0.Bp ≥ 0)) : Bool) with
  | true =>
   replace H := H.kn 16 hb
   refine AR 1 [] 18 0 1 A H fun fr t H => ?_
   exact AF 2 [(20, .bool (decide (p0.Bp < 1000000000)))] H fun fr H => AY H hb
  | false =>
   replace H := H.kn 16 hb
   exact AF 4 [(20, .bool false)] H fun fr H => AY H hb
 intro t fr h' hK
 obtain ⟨e, H⟩ := hK
 subst e
 refine AN 1 [(2, .bool ((((decide (p0.DF ≥ (-9007199254740991))) && (decide (p0.DF ≤ 9007199254740991))) && (decide (p0.Bp ≥ 0))) && (decide (p0.Bp < 1000000000))))] H fun fr H => AS ?_
 obtain rfl := Aa hm
 refine ⟨.inl rfl, .bool ((((decide (p0.DF ≥ (-9007199254740991))) && (decide (p0.DF ≤ 9007199254740991))) && (decide (p0.Bp ≥ 0))) && (decide (p0.Bp < 1000000000))), rH H, ?_⟩
 replace A := A.d0
 exact ⟨rfl, A⟩
def Ie (p0 : Bb) : Option (Bool) :=
 (DC p0.Name (1 : Int) (4096 : Int)).bind fun x1 => (Ae x1 ((DC p0.Head (1 : Int) (65536 : Int)).bind fun x3 => some x3) (some false) : Option (Bool)).bind fun x2 => (Ae x2 ((DC p0.Bd (1 : Int) (4096 : Int)).bind fun x5 => some x5) (some false) : Option (Bool)).bind fun x4 => (Ae x4 ((DC p0.HG (0 : Int) (9999 : Int)).bind fun x7 => some x7) (some false) : Option (Bool)).bind fun x6 => (Ae x6 ((DC p0.B3 (0 : Int) (9999 : Int)).bind fun x9 => some x9) (some false) : Option (Bool)).bind fun x8 => (Ae x8 ((DC p0.Bm (0 : Int) (3 : Int)).bind fun x11 => some x11) (some false) : Option (Bool)).bind fun x10 => (Ae x10 ((Ae (!p0.CC) (some true) ((JP p0.BD).bind fun x14 => some x14) : Option (Bool)).bind fun x13 => some x13) (some false) : Option (Bool)).bind fun x12 => some x12
theorem NR {p0 q0} (hm : Ie p0 = some q0) (A : HH g h [] F) (hc : BI (cfg.still 29) av = [.agg (Ao p0)] := by kernel_rfl) : ∃ v h', BL cfg g h 29 av v h' ∧ v = .bool q0 ∧ HH g h' [] F := by
 refine D5 48 [.tmp 2] hc ?_
 clear hc
 unfold Ie at hm
 refine bg 48 [(0, .agg (Ao p0))] fun fr H => ?_
 refine AG 2 ?_
 obtain ⟨h1, e1, A⟩ := A.pu (.cells none 2 (Ao p0))
 refine BC 1 (.ptr (some (h.size, 0))) e1 H fun fr t H => ?_
 refine BT 1 [] 1 H fun fr H => BT 1 [(3, .func (.func 64) [] [])] 45 H fun fr H => AR 2 [(4, .func (.func 64) [] [])] 6 0 11 A H fun fr t H => ?_
 obtain ⟨x1, hx, hm⟩ := bind_some hm
 obtain ⟨v1, h2, hr, rfl, A1⟩ := Ds (av := [Ai p0.Name, Ai 1, Ai 4096]) hx (A.cut 0)
 replace A : HH g h2 [.obj h.size (.cells none 2 (Ao p0))] F := A.CL (n := 0) A1
 refine Ay 7 hr H fun fr t H => ?_
 refine AF 1 [(8, .bool x1)] H fun fr H => ?_
 obtain ⟨x2, ho, hm⟩ := bind_some hm
 refine An 5 (fun fr' h' => Has fr' 48 [(1, .ptr (some (h.size, 0))), (3, .func (.func 64) [] []), (13, .bool x2)] ∧ HH g h' [.obj h.size (.cells none 2 (Ao p0))] F) ?_ ?_
 ·rcases AU ho with ⟨hb, hm⟩ | ⟨hb, hm⟩
  ·replace H := H.kn 8 hb
   refine AR 2 [(9, .func (.func 64) [] [])] 11 0 12 A H fun fr t H => ?_
   obtain ⟨x3, hx, hm⟩ := bind_some hm
   obtain ⟨v1, h4, hr, rfl, A1⟩ := Ds (av := [Ai p0.Head, Ai 1, Ai 65536]) hx (A.cut 0)
   replace A := A.EV A1
   refine Ay 12 hr H fun fr t H => ?_
   refine AF 1 [(13, .bool x3)] H fun fr H => ?_
   obtain rfl := Aa hm
   exact at_nil ⟨H.ls, A⟩
  replace H := H.kn 8 hb
  refine AF 5 [(13, .bool false)] H fun fr H => ?_
  obtain rfl := Aa hm
  exact at_nil ⟨H.ls, A⟩
 clear A
 intro t fr h3 hK
 obtain ⟨H, A⟩ := hK
 refine AF 1 [(14, .bool x2)] H fun fr H => ?_
 obtain ⟨x4, ho, hm⟩ := bind_some hm
 refine An 5 (fun fr' h' => Has fr' 48 [(1, .ptr (some (h.size, 0))), (3, .func (.func 64) [] []), (19, .bool x4)] ∧ HH g h' [.obj h.size (.cells none 2 (Ao p0))] F) ?_ ?_
 ·rcases AU ho with ⟨hb, hm⟩ | ⟨hb, hm⟩
  ·replace H := H.kn 14 hb
   refine AR 2 [(15, .func (.func 64) [] [])] 17 0 13 A H fun fr t H => ?_
   obtain ⟨x5, hx, hm⟩ := bind_some hm
   obtain ⟨v1, h6, hr, rfl, A1⟩ := Ds (av := [Ai p0.Bd, Ai 1, Ai 4096]) hx (A.cut 0)
   replace A := A.EV A1
   refine Ay 18 hr H fun fr t H => ?_
   refine AF 1 [(19, .bool x5)] H fun fr H => ?_
   obtain rfl := Aa hm
   exact at_nil ⟨H.ls, A⟩
  replace H := H.kn 14 hb
  refine AF 5 [(19, .bool false)] H fun fr H => ?_
  obtain rfl := Aa hm
  exact at_nil ⟨H.ls, A⟩
 clear A
 intro t fr h5 hK
 obtain ⟨H, A⟩ := hK
 refine AF 1 [(20, .bool x4)] H fun fr H => ?_
 obtain ⟨x6, ho, hm⟩ := bind_some hm
 refine An 5 (fun fr' h' => Has fr' 48 [(1, .ptr (some (h.size, 0))), (3, .func (.func 64) [] []), (25, .bool x6)] ∧ HH g h' [.obj h.size (.cells none 2 (Ao p0))] F) ?_ ?_
 ·rcases AU ho with ⟨hb, hm⟩ | ⟨hb, hm⟩
  ·replace H := H.kn 20 hb
   refine AR 2 [(21, .func (.func 64) [] [])] 23 0 9 A H fun fr t H => ?_
   obtain ⟨x7, hx, hm⟩ := bind_some hm
   obtain ⟨v1, h8, hr, rfl, A1⟩ := Ds (av := [Ai p0.HG, Ai 0, Ai 9999]) hx (A.cut 0)
   replace A := A.EV A1
   refine Ay 24 hr H fun fr t H => ?_
   refine AF 1 [(25, .bool x7)] H fun fr H => ?_
   obtain rfl := Aa hm
   exact at_nil ⟨H.ls, A⟩
  replace H := H.kn 20 hb
  refine AF 5 [(25, .bool false)] H fun fr H => ?_
  obtain rfl := Aa hm
  exact at_nil ⟨H.ls, A⟩
 clear A
 intro t fr h7 hK
 obtain ⟨H, A⟩ := hK
 refine AF 1 [(26, .bool x6)] H fun fr H => ?_
 obtain ⟨x8, ho, hm⟩ := bind_some hm
 refine An 5 (fun fr' h' => Has fr' 48 [(1, .ptr (some (h.size, 0))), (3, .func (.func 64) [] []), (31, .bool x8)] ∧ HH g h' [.obj h.size (.cells none 2 (Ao p0))] F) ?_ ?_
 ·rcases AU ho with ⟨hb, hm⟩ | ⟨hb, hm⟩
  ·replace H := H.kn 26 hb
   refine AR 2 [(27, .func (.func 64) [] [])] 29 0 10 A H fun fr t H => ?_
   obtain ⟨x9, hx, hm⟩ := bind_some hm
   obtain ⟨v1, h10, hr, rfl, A1⟩ := Ds (av := [Ai p0.B3, Ai 0, Ai 9999]) hx (A.cut 0)
   replace A := A.EV A1
   refine Ay 30 hr H fun fr t H => ?_
   refine AF 1 [(31, .bool x9)] H fun fr H => ?_
   obtain rfl := Aa hm
   exact at_nil ⟨H.ls, A⟩
  replace H := H.kn 26 hb
  refine AF 5 [(31, .bool false)] H fun fr H => ?_
  obtain rfl := Aa hm
  exact at_nil ⟨H.ls, A⟩
 clear A
 intro t fr h9 hK
 obtain ⟨H, A⟩ := hK
 refine AF 1 [(32, .bool x8)] H fun fr H => ?_
 obtain ⟨x10, ho, hm⟩ := bind_some hm
 refine An 5 (fun fr' h' => Has fr' 48 [(1, .ptr (some (h.size, 0))), (37, .bool x10)] ∧ HH g h' [.obj h.size (.cells none 2 (Ao p0))] F) ?_ ?_
 ·rcases AU ho with ⟨hb, hm⟩ | ⟨hb, hm⟩
  ·replace H := H.kn 32 hb
   refine AR 2 [(33, .func (.func 64) [] [])] 35 0 5 A H fun fr t H => ?_
   obtain ⟨x11, hx, hm⟩ := bind_some hm
   obtain ⟨v1, h12, hr, rfl, A1⟩ := Ds (av := [Ai p0.Bm, Ai 0, Ai 3]) hx (A.cut 0)
   replace A := A.EV A1
   refine Ay 36 hr H fun fr t H => ?_
   refine AF 1 [(37, .bool x11)] H fun fr H => ?_
   obtain rfl := Aa hm
   exact at_nil ⟨H.ls, A⟩
  replace H := H.kn 32 hb
  refine AF 5 [(37, .bool false)] H fun fr H => ?_
  obtain rfl := Aa hm
  exact at_nil ⟨H.ls, A⟩
 clear A
 intro t fr h11 hK
 obtain ⟨H, A⟩ := hK
 refine AF 1 [(38, .bool x10)] H fun fr H => ?_
 obtain ⟨x12, ho, hm⟩ := bind_some hm
 refine An 9 (fun fr' h' => Has fr' 48 [(47, .bool x12)] ∧ HH g h' [.obj h.size (.cells none 2 (Ao p0))] F) ?_ ?_
 ·rcases AU ho with ⟨hb, hm⟩ | ⟨hb, hm⟩
  ·replace H := H.kn 38 hb
   refine AR 1 [] 40 0 6 A H fun fr t H => ?_
   refine AF 2 [(42, .bool (!p0.CC))] H fun fr H => ?_
   obtain ⟨x13, ho, hm⟩ := bind_some hm
   refine An 4 (fun fr' h' => Has fr' 48 [(38, .bool true), (46, .bool x13)] ∧ HH g h' [.obj h.size (.cells none 2 (Ao p0))] F) ?_ ?_
   ·rcases AU ho with ⟨hb, hm⟩ | ⟨hb, hm⟩
    ·replace H := H.kn 42 hb
     refine AF 4 [(46, .bool true)] H fun fr H => ?_
     obtain rfl := Aa hm
     exact at_nil ⟨H.ls, A⟩
    replace H := H.kn 42 hb
    refine As 1 [] 44 _ _ H (fun fr => .of (Bs (by kernel_rfl) (A.GA 0 rfl (o := 7) (n := 2) ⟨Nat.le_of_ble_eq_true rfl, rfl⟩))) fun fr t H => ?_
    obtain ⟨x14, hx, hm⟩ := bind_some hm
    obtain ⟨v1, h15, hr, rfl, A1⟩ := Nj (av := [.agg [Ai p0.BD.DF, Ai p0.BD.Bp]]) hx (A.cut 0)
    replace A := A.EV A1
    refine Ay 45 hr H fun fr t H => ?_
    refine AF 1 [(46, .bool x14)] H fun fr H => ?_
    obtain rfl := Aa hm
    exact at_nil ⟨H.ls, A⟩
   clear A
   intro t fr h14 hK
   obtain ⟨H, A⟩ := hK
   refine AF 1 [(47, .bool x13)] H fun fr H => ?_
   obtain rfl := Aa hm
   exact at_nil ⟨H.ls, A⟩
  replace H := H.kn 38 hb
  refine AF 9 [(47, .bool false)] H fun fr H => ?_
  obtain rfl := Aa hm
  exact at_nil ⟨H.ls, A⟩
 clear A
 intro t fr h13 hK
 obtain ⟨H, A⟩ := hK
 refine AN 1 [(2, .bool x12)] H fun fr H => AS ?_
 obtain rfl := Aa hm
 refine ⟨.inl rfl, .bool x12, rH H, ?_⟩
 replace A := A.d0
 exact ⟨rfl, A⟩
def H0 (p0 : Bb) : Option (Bb) :=
 Fl (OU 24 p0.Ah.length) <| Fl (OU 24 p0.Aj.length) <| Fl (OU 56 p0.Bl.length) <| some p0
theorem Ml {p0 q0} (hm : H0 p0 = some q0) (A : HH g h [] F) (hc : BI (cfg.still 30) av = [.agg (Ao p0)] := by kernel_rfl) : ∃ v h', BL cfg g h 30 av v h' ∧ v = .agg (Ao q0) ∧ HH g h' [] F := by
 refine D5 16 [.cell 2 29] hc ?_
 clear hc
 unfold H0 at hm
 refine bg 16 [(0, .agg (Ao p0))] fun fr H => ?_
 refine AG 2 ?_
 obtain ⟨h1, e1, A⟩ := A.pu (.cells none 2 (Ao p0))
 refine BC 1 (.ptr (some (h.size, 0))) e1 H fun fr t H => ?_
 obtain ⟨h2, e2, A⟩ := A.pu (.cells none 2 [.slice none 0, .slice none 0, .slice none 0, .bool false, .bool false, Ai 0, .bool false, Ai 0, Ai 0, Ai 0, Ai 0, Ai 0, Ai 0, Ai 0])
 refine BC 2 (.ptr (some (h1.size, 0))) e2 H fun fr t H => ?_
 refine BB id (AQ (Jk 1 15 [(0, []), (1, []), (3, []), (4, []), (6, []), (7, []), (2, [4, 7]), (5, [7]), (8, []), (9, []), (10, []), (11, []), (12, []), (13, []), (14, [])] ?_))
 refine AF 1 [(3, .ptr (some (h.size, 0)))] H fun fr H => B0 4 (vs AE p0.Ah) h2 [(1, h.size)] (g.BU) H (fun fr => .of (Dj (by kernel_rfl) (A.l1 1 0))) (fun fr H => ?_)
 refine AF 1 [(6, .ptr (some (h.size, 1)))] H fun fr H => B0 7 (vs AE p0.Aj) h2 [(4, h.size), (1, h.size)] (g.BU) H (fun fr => .of (Dj (by kernel_rfl) (A.l1 1 1))) (fun fr H => ?_)
 refine AF 1 [(9, .ptr (some (h.size, 2)))] H fun fr H => B0 10 (vs AJ p0.Bl) h2 [(7, h.size), (4, h.size), (1, h.size)] (g.BU) H (fun fr => .of (Dj (by kernel_rfl) (A.l1 1 2))) (fun fr H => ?_)
 have A1 := A.Gm 0 (pr := [h.size, h.size]) (.cons 1 rfl (by simp [Ck.ids]) (.cons 1 rfl (by simp [Ck.ids]) .nil))
 obtain ⟨hb, hm⟩ := BZ hm
 refine B0 5 (vs AE p0.Ah) h2 [(7, h.size), (4, h.size), (1, h.size)] (h.size :: h.size :: g.BU) H (fun fr => Steps.call (by kernel_rfl) (GX (C := cfg) (f := 66) (a := 0) (t := 31) (xs := p0.Ah) B9 (by decide) (by kernel_rfl) (l := exts) rfl (by kernel_rfl) (by kernel_rfl) rfl (Kx B9 _ p0.Ah) (B9.BI _) hb)) (fun fr H => ?_)
 have A1 := A.Gm 0 (pr := [h.size]) (.cons 1 rfl (by simp [Ck.ids]) .nil)
 obtain ⟨hb, hm⟩ := BZ hm
 refine B0 8 (vs AE p0.Aj) h2 [(7, h.size), (4, h.size), (1, h.size)] (h.size :: g.BU) H (fun fr => Steps.call (by kernel_rfl) (GX (C := cfg) (f := 66) (a := 0) (t := 31) (xs := p0.Aj) B9 (by decide) (by kernel_rfl) (l := exts) rfl (by kernel_rfl) (by kernel_rfl) rfl (Kx B9 _ p0.Aj) (B9.BI _) hb)) (fun fr H => ?_)
 have A1 := A.cut 0
 obtain ⟨hb, hm⟩ := BZ hm
 refine B0 11 (vs AJ p0.Bl) h2 [(7, h.size), (4, h.size), (1, h.size)] (g.BU) H (fun fr => Steps.call (by kernel_rfl) (GX (C := cfg) (f := 67) (a := 0) (t := 135) (xs := p0.Bl) EK (by decide) (by kernel_rfl) (l := exts) rfl (by kernel_rfl) (by kernel_rfl) rfl (Kx EK _ p0.Bl) (EK.BI _) hb)) (fun fr H => ?_)
 refine AF 1 [(12, .ptr (some (h.size, 0)))] H fun fr H => ?_
 obtain ⟨h6, hx, A1⟩ := A.st 1 rfl (o := 0) (new := [vs AE p0.Ah]) (ds := (Ao p0)) (Nat.le_of_ble_eq_true rfl) rfl rfl
 replace A : HH g h6 [.obj h1.size (.cells none 2 [.slice none 0, .slice none 0, .slice none 0, .bool false, .bool false, Ai 0, .bool false, Ai 0, Ai 0, Ai 0, Ai 0, Ai 0, Ai 0, Ai 0]), .obj h.size (.cells none 2 (Ao p0))] F := A1
 refine K2 (.tuple []) h6 [(7, h.size), (4, h.size), (1, h.size)] (g.BU) H (fun fr => .of (RG (by kernel_rfl) rfl hx)) (fun fr H => ?_)
 refine AF 1 [(13, .ptr (some (h.size, 1)))] H fun fr H => ?_
 obtain ⟨h7, hx, A⟩ := A.s1 1 [vs AE p0.Aj] [_, _, _, _, _, _, _, _, _, _, _, _, _, _]
 refine K2 (.tuple []) h7 [(7, h.size), (4, h.size), (1, h.size)] (g.BU) H (fun fr => .of (RG (by kernel_rfl) rfl hx)) (fun fr H => ?_)
 refine AF 1 [(14, .ptr (some (h.size, 2)))] H fun fr H => ?_
 obtain ⟨h8, hx, A⟩ := A.s1 2 [vs AJ p0.Bl] [_, _, _, _, _, _, _, _, _, _, _, _, _, _]
 refine K2 (.tuple []) h8 [(7, h.size), (4, h.size), (1, h.size)] (g.BU) H (fun fr => .of (RG (by kernel_rfl) rfl hx)) (fun fr H => ?_)
 refine Cj 2 id (Az 15 _ _ H (fun fr => .of (Bs (by kernel_rfl) (A.GA 1 rfl (o := 0) (n := 14) ⟨Nat.le_of_ble_eq_true rfl, rfl⟩))) fun fr t H => ?_)
 obtain ⟨h9, hx, A⟩ := A.s0 0 (Ao p0) [_, _, _, _, _, _, _, _, _, _, _, _, _, _]
 refine Ev hx H fun fr t H => ?_
 refine BB id (AS ?_)
 obtain rfl := Aa hm
 refine ⟨.inl rfl, .agg (Ao p0), DJ (.cell (rT H) (BS (by kernel_rfl) (by kernel_rfl) (A.la 0 0 14)) .nil), ?_⟩
 replace A := A.d0
 exact ⟨rfl, A⟩
def JL (p0 : Int) : Option (Int) :=
 Ae ((decide ((M1 .u8 p0 (32 : Int)) ≥ 97)) && (decide ((M1 .u8 p0 (32 : Int)) ≤ 122))) (some (WZ .u8 p0 (32 : Int))) (some p0)
theorem Nf {p0 q0} (hm : JL p0 = some q0) (A : HH g h [] F) (hc : BI (cfg.still 336) av = [Ab p0] := by kernel_rfl) : ∃ v h', BL cfg g h 336 av v h' ∧ v = Ab q0 ∧ HH g h' [] F := by
 refine D5 15 [.tmp 2] hc ?_
 clear hc
 unfold JL at hm
 refine bg 15 [(0, Ab p0)] fun fr H => ?_
 refine AG 1 (AN 1 [] H fun fr H => AQ (AG 3 (BT 3 [(3, Ab (M1 .u8 p0 (32 : Int)))] 6 H fun fr H => AF 3 [(8, .bool (decide ((M1 .u8 p0 (32 : Int)) ≥ 97)))] H fun fr H => An 3 (fun fr' h' => h = h' ∧ Has fr' 15 [(0, Ab p0), (11, .bool ((decide ((M1 .u8 p0 (32 : Int)) ≥ 97)) && (decide ((M1 .u8 p0 (32 : Int)) ≤ 122))))]) ?_ ?_)))
 ·cases hb : (decide ((M1 .u8 p0 (32 : Int)) ≥ 97) : Bool) with
  | true =>
   replace H := H.kn 8 hb
   exact AF 3 [(11, .bool (decide ((M1 .u8 p0 (32 : Int)) ≤ 122)))] H fun fr H => AY H hb
  | false =>
   replace H := H.kn 8 hb
   exact AF 3 [(11, .bool false)] H fun fr H => AY H hb
 intro t fr h' hK
 obtain ⟨e, H⟩ := hK
 subst e
 refine BB id (Ak 11 H hm (fun hb hm H => ?_) fun hb hm H => ?_)
 ·refine AG 3 (AN 3 [(2, Ab (WZ .u8 p0 (32 : Int)))] H fun fr H => AS ?_)
  obtain rfl := Aa hm
  exact ⟨.inl rfl, _, rH H, rfl, A⟩
 refine Cm 2 id (AN 2 [(2, Ab p0)] H fun fr H => AS ?_)
 obtain rfl := Aa hm
 exact ⟨.inl rfl, _, rH H, rfl, A⟩
def Ef (p0 : EB) (p1 : Int) : Option (Bool) :=
 some (p0.Ax || (p1 != 47))
theorem GW {p0 p1 q0} (hm : Ef p0 p1 = some q0) (A : HH g h [] F) (hc : BI (cfg.still 314) av = [.agg [.bool p0.Fold, .bool p0.Ax], Ab p1] := by kernel_rfl) : ∃ v h', BL cfg g h 314 av v h' ∧ v = .bool q0 ∧ HH g h' [] F := by
 refine D5 11 [.tmp 4] hc ?_
 clear hc
 unfold Ef at hm
 refine bg 11 [(0, .agg [.bool p0.Fold, .bool p0.Ax]), (1, Ab p1)] fun fr H => ?_
 refine AG 2 ?_
 obtain ⟨h1, e1, A⟩ := A.pu (.cells none 2 [.bool p0.Fold, .bool p0.Ax])
 refine BC 2 (.ptr (some (h.size, 0))) e1 H fun fr t H => ?_
 refine BT 1 [] 7 H fun fr H => AR 1 [] 6 0 1 A H fun fr t H => ?_
 refine AF 1 [(7, .bool p0.Ax)] H fun fr H => An 3 (fun fr' h' => h1 = h' ∧ Has fr' 11 [(10, .bool (p0.Ax || (p1 != 47)))]) ?_ ?_
 ·cases hb : (p0.Ax : Bool) with
  | true =>
   replace H := H.kn 7 hb
   exact AF 3 [(10, .bool true)] H fun fr H => AY H hb
  | false =>
   replace H := H.kn 7 hb
   exact AF 3 [(10, .bool (p1 != 47))] H fun fr H => AY H hb
 intro t fr h' hK
 obtain ⟨e, H⟩ := hK
 subst e
 refine AN 1 [(4, .bool (p0.Ax || (p1 != 47)))] H fun fr H => AS ?_
 obtain rfl := Aa hm
 refine ⟨.inl rfl, .bool (p0.Ax || (p1 != 47)), rH H, ?_⟩
 replace A := A.d0
 exact ⟨rfl, A⟩
def GR (p0 : BG) (p1 : Int) : Option (Bool) :=
 (HR ([p0.w0, p0.w1, p0.w2, p0.w3] : List Int) (B7 .u8 p1 (6 : Int))).bind fun x1 => Fl (decide (0 ≤ (CM .u8 p1 (63 : Int)))) <| some ((CM .u64 (B7 .u64 x1 (CM .u8 p1 (63 : Int))) (1 : Int)) == 1)
theorem Ji {p0 p1 q0} (hm : GR p0 p1 = some q0) (A : HH g h [] F) (hc : BI (cfg.still 262) av = [.agg (EG p0), Ab p1] := by kernel_rfl) : ∃ v h', BL cfg g h 262 av v h' ∧ v = .bool q0 ∧ HH g h' [] F := by
 refine D5 14 [.tmp 4] hc ?_
 clear hc
 unfold GR at hm
 refine bg 14 [(0, .agg (EG p0)), (1, Ab p1)] fun fr H => ?_
 refine AG 2 ?_
 obtain ⟨h1, e1, A⟩ := A.pu (.cells none 2 (EG p0))
 refine BC 2 (.ptr (some (h.size, 0))) e1 H fun fr t H => ?_
 refine BT 1 [] 10 H fun fr H => ?_
 obtain ⟨x1, hq1, hm⟩ := bind_some hm
 refine As 2 [] 7 (.ptr (some (h.size, 0 + (B7 .u8 p1 (6 : Int)).toNat * 1))) h1 H (fun fr => .of (PZ (by kernel_rfl) (Vm hq1 (h.size, 0) 1 rfl))) fun fr t H => ?_
 refine Az 8 _ _ H (fun fr => .of (Dj (by kernel_rfl) (HH.Xy A 0 rfl 0 (fun w : Int => Au w) [p0.w0, p0.w1, p0.w2, p0.w3] rfl hq1))) fun fr t H => ?_
 refine AF 2 [(10, Ab (CM .u8 p1 (63 : Int)))] H fun fr H => ?_
 obtain ⟨hb, hm⟩ := BZ hm
 refine Az 11 (Au (B7 .u64 x1 (CM .u8 p1 (63 : Int)))) h1 H (fun fr => .of (Su (by kernel_rfl) hb)) fun fr t H => ?_
 refine AN 3 [(4, .bool ((CM .u64 (B7 .u64 x1 (CM .u8 p1 (63 : Int))) (1 : Int)) == 1))] H fun fr H => AS ?_
 obtain rfl := Aa hm
 refine ⟨.inl rfl, .bool ((CM .u64 (B7 .u64 x1 (CM .u8 p1 (63 : Int))) (1 : Int)) == 1), rH H, ?_⟩
 replace A := A.d0
 exact ⟨rfl, A⟩
def HI (p0 : BG) : Option (BG) :=
 some (⟨p0.w0, M1 .u64 p0.w1 (M1 .u64 (KH .u64 (CM .u64 p0.w1 (134217726 : Int)) (32 : Int)) (B7 .u64 (CM .u64 p0.w1 (576460743713488896 : Int)) (32 : Int))), p0.w2, p0.w3⟩ : BG)
theorem MP {p0 q0} (hm : HI p0 = some q0) (A : HH g h [] F) (hc : BI (cfg.still 192) av = [.agg (EG p0)] := by kernel_rfl) : ∃ v h', BL cfg g h 192 av v h' ∧ v = .agg (EG q0) ∧ HH g h' [] F := by
 refine D5 17 [.cell 2 262] hc ?_
 clear hc
 unfold HI at hm
 refine bg 17 [(0, .agg (EG p0))] fun fr H => ?_
 refine AG 2 ?_
 obtain ⟨h1, e1, A⟩ := A.pu (.cells none 2 (EG p0))
 refine BC 1 (.ptr (some (h.size, 0))) e1 H fun fr t H => ?_
 obtain ⟨h2, e2, A⟩ := A.pu (.cells none 2 [Au 0, Au 0, Au 0, Au 0])
 refine BC 2 (.ptr (some (h1.size, 0))) e2 H fun fr t H => ?_
 refine Cj 14 id (AR 1 [] 4 1 1 A H fun fr t H => ?_)
 refine AR 1 [] 6 1 1 A H fun fr t H => ?_
 refine AR 3 [(8, Au (KH .u64 (CM .u64 p0.w1 (134217726 : Int)) (32 : Int)))] 10 1 1 A H fun fr t H => ?_
 obtain ⟨h3, hx, A1⟩ := A.st 1 rfl (o := 1) (new := [Au (M1 .u64 p0.w1 (M1 .u64 (KH .u64 (CM .u64 p0.w1 (134217726 : Int)) (32 : Int)) (B7 .u64 (CM .u64 p0.w1 (576460743713488896 : Int)) (32 : Int))))]) (ds := (I4 p0 (Au (M1 .u64 p0.w1 (M1 .u64 (KH .u64 (CM .u64 p0.w1 (134217726 : Int)) (32 : Int)) (B7 .u64 (CM .u64 p0.w1 (576460743713488896 : Int)) (32 : Int))))))) (Nat.le_of_ble_eq_true rfl) rfl rfl
 replace A : HH g h3 [.obj h1.size (.cells none 2 [Au 0, Au 0, Au 0, Au 0]), .obj h.size (.cells none 2 (I4 p0 (Au (M1 .u64 p0.w1 (M1 .u64 (KH .u64 (CM .u64 p0.w1 (134217726 : Int)) (32 : Int)) (B7 .u64 (CM .u64 p0.w1 (576460743713488896 : Int)) (32 : Int)))))))] F := A1
 refine E8 5 [] hx H fun fr t H => ?_
 refine Cj 2 id (Az 16 _ _ H (fun fr => .of (Bs (by kernel_rfl) (A.GA 1 rfl (o := 0) (n := 4) ⟨Nat.le_of_ble_eq_true rfl, rfl⟩))) fun fr t H => ?_)
 obtain ⟨h4, hx, A⟩ := A.s0 0 (I4 p0 (Au (M1 .u64 p0.w1 (M1 .u64 (KH .u64 (CM .u64 p0.w1 (134217726 : Int)) (32 : Int)) (B7 .u64 (CM .u64 p0.w1 (576460743713488896 : Int)) (32 : Int)))))) [_, _, _, _]
 refine Ev hx H fun fr t H => ?_
 refine BB id (AS ?_)
 obtain rfl := Aa hm
 refine ⟨.inl rfl, .agg (I4 p0 (Au (M1 .u64 p0.w1 (M1 .u64 (KH .u64 (CM .u64 p0.w1 (134217726 : Int)) (32 : Int)) (B7 .u64 (CM .u64 p0.w1 (576460743713488896 : Int)) (32 : Int)))))), DJ (.cell (rT H) (BS (by kernel_rfl) (by kernel_rfl) (A.la 0 0 4)) .nil), ?_⟩
 replace A := A.d0
 exact ⟨rfl, A⟩
def HO (p0 : EB) (p1 : AO) (p2 : Int) : Option (Bool) :=
 Ae (p1.Kind == 1) ((Ae (p2 == p1.B) (some true) ((Ae p0.Fold ((JL p1.B).bind fun x3 => some (p2 == x3)) (some false) : Option (Bool)).bind fun x2 => some x2) : Option (Bool)).bind fun x1 => some x1) (Ae (p1.Kind == 2) ((Ef p0 p2).bind fun x4 => some x4) (Ae (p1.Kind == 3) ((Ef p0 p2).bind fun x5 => (Ae x5 ((GR p1.Set p2).bind fun x7 => (Ae x7 (some true) ((Ae p0.Fold ((HI p1.Set).bind fun x10 => (GR x10 p2).bind fun x11 => some x11) (some false) : Option (Bool)).bind fun x9 => some x9) : Option (Bool)).bind fun x8 => some x8) (some false) : Option (Bool)).bind fun x6 => some x6) (some false)))
theorem MR {p0 p1 p2 q0} (hm : HO p0 p1 p2 = some q0) (A : HH g h [] F) (hc : BI (cfg.still 313) av = [.agg [.bool p0.Fold, .bool p0.Ax], .agg (AM p1), Ab p2] := by kernel_rfl) : ∃ v h', BL cfg g h 313 av v h' ∧ v = .bool q0 ∧ HH g h' [] F := by
 refine D5 53 [.tmp 6] hc ?_
 clear hc
 unfold HO at hm
 refine bg 53 [(0, .agg [.bool p0.Fold, .bool p0.Ax]), (1, .agg (AM p1)), (2, Ab p2)] fun fr H => ?_
 refine AG 3 ?_
 obtain ⟨h1, e1, A⟩ := A.pu (.cells none 2 [.bool p0.Fold, .bool p0.Ax])
 refine BC 3 (.ptr (some (h.size, 0))) e1 H fun fr t H => ?_
 obtain ⟨h2, e2, A⟩ := A.pu (.cells none 2 (AM p1))
 refine BC 4 (.ptr (some (h1.size, 0))) e2 H fun fr t H => ?_
 refine AN 1 [] H fun fr H => AQ (AG 2 (AR 1 [] 8 0 0 A H fun fr t H => ?_))
 refine BB id (AX (id := 0) (by kernel_rfl) ?_)
 refine AG 2 (AN 2 [(9, .bool (p1.Kind == 1))] H fun fr H => Ak 9 H hm (fun hb hm H => ?_) fun hb hm H => ?_)
 ·refine AG 16 (AR 2 [(11, Ab p2)] 13 0 1 A H fun fr t H => ?_)
  refine AF 2 [(15, .bool (p2 == p1.B))] H fun fr H => ?_
  obtain ⟨x1, ho, hm⟩ := bind_some hm
  refine An 10 (fun fr' h' => Has fr' 53 [(25, .bool x1)] ∧ HH g h' [.obj h1.size (.cells none 2 (AM p1)), .obj h.size (.cells none 2 [.bool p0.Fold, .bool p0.Ax])] F) ?_ ?_
  ·rcases AU ho with ⟨hb, hm⟩ | ⟨hb, hm⟩
   ·replace H := H.kn 15 hb
    refine AF 10 [(25, .bool true)] H fun fr H => ?_
    obtain rfl := Aa hm
    exact at_nil ⟨H.ls, A⟩
   replace H := H.kn 15 hb
   refine AR 1 [] 17 1 0 A H fun fr t H => ?_
   refine AF 1 [(18, .bool p0.Fold)] H fun fr H => ?_
   obtain ⟨x2, ho, hm⟩ := bind_some hm
   refine An 6 (fun fr' h' => Has fr' 53 [(15, .bool false), (24, .bool x2)] ∧ HH g h' [.obj h1.size (.cells none 2 (AM p1)), .obj h.size (.cells none 2 [.bool p0.Fold, .bool p0.Ax])] F) ?_ ?_
   ·rcases AU ho with ⟨hb, hm⟩ | ⟨hb, hm⟩
    ·replace H := H.kn 18 hb
     refine AR 2 [(19, Ab p2)] 21 0 1 A H fun fr t H => ?_
     obtain ⟨x3, hx, hm⟩ := bind_some hm
     obtain ⟨v1, h5, hr, rfl, A1⟩ := Nf (av := [Ab p1.B]) hx (A.cut 0)
     replace A : HH g h5 [.obj h1.size (.cells none 2 (AM p1)), .obj h.size (.cells none 2 [.bool p0.Fold, .bool p0.Ax])] F := A.CL (n := 0) A1
     refine Ay 22 hr H fun fr t H => ?_
     refine AF 2 [(24, .bool (p2 == x3))] H fun fr H => ?_
     obtain rfl := Aa hm
     exact at_nil ⟨H.ls, A⟩
    replace H := H.kn 18 hb
    refine AF 6 [(24, .bool false)] H fun fr H => ?_
    obtain rfl := Aa hm
    exact at_nil ⟨H.ls, A⟩
   clear A
   intro t fr h4 hK
   obtain ⟨H, A⟩ := hK
   refine AF 1 [(25, .bool x2)] H fun fr H => ?_
   obtain rfl := Aa hm
   exact at_nil ⟨H.ls, A⟩
  clear A
  intro t fr h3 hK
  obtain ⟨H, A⟩ := hK
  refine AN 1 [(6, .bool x1)] H fun fr H => AS ?_
  obtain rfl := Aa hm
  refine ⟨.inl rfl, .bool x1, rH H, ?_⟩
  replace A := A.d0
  exact ⟨rfl, A⟩
 refine AG 2 (AN 2 [(26, .bool (p1.Kind == 2))] H fun fr H => Ak 26 H hm (fun hb hm H => ?_) fun hb hm H => ?_)
 ·refine AG 4 (Az 28 _ _ H (fun fr => .of (Bs (by kernel_rfl) (A.GA 1 rfl (o := 0) (n := 2) ⟨Nat.le_of_ble_eq_true rfl, rfl⟩))) fun fr t H => ?_)
  obtain ⟨x4, hx, hm⟩ := bind_some hm
  obtain ⟨v1, h6, hr, rfl, A1⟩ := GW (av := [.agg [.bool p0.Fold, .bool p0.Ax], Ab p2]) hx (A.cut 0)
  replace A : HH g h6 [.obj h1.size (.cells none 2 (AM p1)), .obj h.size (.cells none 2 [.bool p0.Fold, .bool p0.Ax])] F := A.CL (n := 0) A1
  refine BH 1 [] 30 hr H fun fr t H => ?_
  refine AN 1 [(6, .bool x4)] H fun fr H => AS ?_
  obtain rfl := Aa hm
  refine ⟨.inl rfl, .bool x4, rH H, ?_⟩
  replace A := A.d0
  exact ⟨rfl, A⟩
 refine AG 2 (AN 2 [(31, .bool (p1.Kind == 3))] H fun fr H => Ak 31 H hm (fun hb hm H => ?_) fun hb hm H => ?_)
 ·refine AG 21 (Az 33 _ _ H (fun fr => .of (Bs (by kernel_rfl) (A.GA 1 rfl (o := 0) (n := 2) ⟨Nat.le_of_ble_eq_true rfl, rfl⟩))) fun fr t H => ?_)
  obtain ⟨x5, hx, hm⟩ := bind_some hm
  obtain ⟨v1, h7, hr, rfl, A1⟩ := GW (av := [.agg [.bool p0.Fold, .bool p0.Ax], Ab p2]) hx (A.cut 0)
  replace A : HH g h7 [.obj h1.size (.cells none 2 (AM p1)), .obj h.size (.cells none 2 [.bool p0.Fold, .bool p0.Ax])] F := A.CL (n := 0) A1
  refine BH 1 [] 35 hr H fun fr t H => ?_
  refine AF 1 [(36, .bool x5)] H fun fr H => ?_
  obtain ⟨x6, ho, hm⟩ := bind_some hm
  refine An 16 (fun fr' h' => Has fr' 53 [(52, .bool x6)] ∧ HH g h' [.obj h1.size (.cells none 2 (AM p1)), .obj h.size (.cells none 2 [.bool p0.Fold, .bool p0.Ax])] F) ?_ ?_
  ·rcases AU ho with ⟨hb, hm⟩ | ⟨hb, hm⟩
   ·replace H := H.kn 36 hb
    refine As 1 [] 38 _ _ H (fun fr => .of (Bs (by kernel_rfl) (A.GA 0 rfl (o := 2) (n := 4) ⟨Nat.le_of_ble_eq_true rfl, rfl⟩))) fun fr t H => ?_
    obtain ⟨x7, hx, hm⟩ := bind_some hm
    obtain ⟨v1, h9, hr, rfl, A1⟩ := Ji (av := [.agg (EG p1.Set), Ab p2]) hx (A.cut 0)
    replace A := A.EV A1
    refine BH 1 [] 40 hr H fun fr t H => ?_
    refine AF 1 [(41, .bool x7)] H fun fr H => ?_
    obtain ⟨x8, ho, hm⟩ := bind_some hm
    refine An 10 (fun fr' h' => Has fr' 53 [(36, .bool true), (51, .bool x8)] ∧ HH g h' [.obj h1.size (.cells none 2 (AM p1)), .obj h.size (.cells none 2 [.bool p0.Fold, .bool p0.Ax])] F) ?_ ?_
    ·rcases AU ho with ⟨hb, hm⟩ | ⟨hb, hm⟩
     ·replace H := H.kn 41 hb
      refine AF 10 [(51, .bool true)] H fun fr H => ?_
      obtain rfl := Aa hm
      exact at_nil ⟨H.ls, A⟩
     replace H := H.kn 41 hb
     refine AR 1 [] 43 1 0 A H fun fr t H => ?_
     refine AF 1 [(44, .bool p0.Fold)] H fun fr H => ?_
     obtain ⟨x9, ho, hm⟩ := bind_some hm
     refine An 6 (fun fr' h' => Has fr' 53 [(36, .bool true), (41, .bool false), (50, .bool x9)] ∧ HH g h' [.obj h1.size (.cells none 2 (AM p1)), .obj h.size (.cells none 2 [.bool p0.Fold, .bool p0.Ax])] F) ?_ ?_
     ·rcases AU ho with ⟨hb, hm⟩ | ⟨hb, hm⟩
      ·replace H := H.kn 44 hb
       refine As 1 [] 46 _ _ H (fun fr => .of (Bs (by kernel_rfl) (A.GA 0 rfl (o := 2) (n := 4) ⟨Nat.le_of_ble_eq_true rfl, rfl⟩))) fun fr t H => ?_
       obtain ⟨x10, hx, hm⟩ := bind_some hm
       obtain ⟨v1, h12, hr, rfl, A1⟩ := MP (av := [.agg (EG p1.Set)]) hx (A.cut 0)
       replace A := A.EV A1
       refine Ay 47 hr H fun fr t H => ?_
       obtain ⟨x11, hx, hm⟩ := bind_some hm
       obtain ⟨v1, h13, hr, rfl, A1⟩ := Ji (av := [.agg (EG x10), Ab p2]) hx (A.cut 0)
       replace A := A.EV A1
       refine BH 1 [] 49 hr H fun fr t H => ?_
       refine AF 1 [(50, .bool x11)] H fun fr H => ?_
       obtain rfl := Aa hm
       exact at_nil ⟨H.ls, A⟩
      replace H := H.kn 44 hb
      refine AF 6 [(50, .bool false)] H fun fr H => ?_
      obtain rfl := Aa hm
      exact at_nil ⟨H.ls, A⟩
     clear A
     intro t fr h11 hK
     obtain ⟨H, A⟩ := hK
     refine AF 1 [(51, .bool x9)] H fun fr H => ?_
     obtain rfl := Aa hm
     exact at_nil ⟨H.ls, A⟩
    clear A
    intro t fr h10 hK
    obtain ⟨H, A⟩ := hK
    refine AF 1 [(52, .bool x8)] H fun fr H => ?_
    obtain rfl := Aa hm
    exact at_nil ⟨H.ls, A⟩
   replace H := H.kn 36 hb
   refine AF 16 [(52, .bool false)] H fun fr H => ?_
   obtain rfl := Aa hm
   exact at_nil ⟨H.ls, A⟩
  clear A
  intro t fr h8 hK
  obtain ⟨H, A⟩ := hK
  refine AN 1 [(6, .bool x6)] H fun fr H => AS ?_
  obtain rfl := Aa hm
  refine ⟨.inl rfl, .bool x6, rH H, ?_⟩
  replace A := A.d0
  exact ⟨rfl, A⟩
 refine Cm 1 id (AN 1 [(6, .bool false)] H fun fr H => AS ?_)
 obtain rfl := Aa hm
 refine ⟨.inl rfl, .bool false, rH H, ?_⟩
 replace A := A.d0
 exact ⟨rfl, A⟩
def Hd (p0 : List AO) (p1 : EB) (p2 : List UInt8) (s : Int × Int × Int × Int) : Option ((Int × Int × Int × Int) ⊕ ((Bool))) :=
 match s with
 | (x1, x2, x3, x4) => (Ae (decide (x2 < (p0.length : Int))) ((HR p0 x2).bind fun x7 => some (x7.Kind == 4)) (some false) : Option (Bool)).bind fun x6 => Ae x6 (some (.inl (x1, IntKind.i64.wrap (x2 + 1), x2, x1))) (Ae ((x1 == (p2.length : Int)) && (x2 == (p0.length : Int))) (some (.inr true)) ((Ae ((decide (x2 < (p0.length : Int))) && (decide (x1 < (p2.length : Int)))) ((HR p0 x2).bind fun x9 => (Nb p2 x1).bind fun x10 => (HO p1 x9 x10).bind fun x11 => some x11) (some false) : Option (Bool)).bind fun x8 => Ae x8 (some (.inl (IntKind.i64.wrap (x1 + 1), IntKind.i64.wrap (x2 + 1), x3, x4))) ((Ae ((decide (x3 < 0)) || (decide (x4 ≥ (p2.length : Int)))) (some true) ((Nb p2 x4).bind fun x13 => (Ef p1 x13).bind fun x14 => some (!x14)) : Option (Bool)).bind fun x12 => Ae x12 (some (.inr false)) (some (.inl (IntKind.i64.wrap (x4 + 1), IntKind.i64.wrap (x3 + 1), x3, IntKind.i64.wrap (x4 + 1)))))))
def G6 (p0 : List AO) (p1 : EB) (p2 : List UInt8) : Option (Bool) :=
 (loop (Hd p0 p1 p2) ((0 : Int), (0 : Int), (-1 : Int), (0 : Int))).bind fun x5 => some x5
theorem Lg {p0 p1 p2 rp0 q0} (hm : G6 p0 p1 p2 = some q0) (A : HH g h [.AL rp0 264 (AL AM p0)] F) (hc : BI (cfg.still 289) av = [AI rp0 p0.length, .agg [.bool p1.Fold, .bool p1.Ax], .str p2] := by kernel_rfl) : ∃ v h', BL cfg g h 289 av v h' ∧ v = .bool q0 ∧ HH g h' [.AL rp0 264 (AL AM p0)] F := by
 refine D5 83 [.tmp 6] hc ?_
 clear hc
 unfold G6 at hm
 refine bg 83 [(0, AI rp0 p0.length), (1, .agg [.bool p1.Fold, .bool p1.Ax]), (2, .str p2)] fun fr H => ?_
 refine AG 2 ?_
 obtain ⟨h1, e1, A⟩ := A.pu (.cells none 2 [.bool p1.Fold, .bool p1.Ax])
 refine BC 4 (.ptr (some (h.size, 0))) e1 H fun fr t H => ?_
 refine AN 1 [] H fun fr H => UR (by kernel_rfl) ?_
 refine AG 2 (BT 2 [(7, Ai 0), (8, Ai 0)] 2 H fun fr H => AN 2 [(9, Ai (-1)), (10, Ai 0)] H fun fr H => AQ (UG (by kernel_rfl) ?_))
 show AW _ _ _ _ _ _ _
 refine AX (id := 0) (by kernel_rfl) ?_
 obtain ⟨o1, ho, hm⟩ := bind_some hm
 refine BM (Q' := fun e fr' h' => (∃ x5, e = .ret ∧ x5 = o1 ∧ Has fr' 83 [(6, .bool x5)] ∧ HH g h' [.obj h.size (.cells none 2 [.bool p1.Fold, .bool p1.Ax]), .AL rp0 264 (AL AM p0)] F) ∨ False) ?_ ?_
 ·refine B8 (by kernel_rfl) (fun (s : Int × Int × Int × Int) fr' h' => ∃ x1 x2 x3 x4, (x1, x2, x3, x4) = s ∧ Has fr' 83 [(0, AI rp0 p0.length), (2, .str p2), (4, .ptr (some (h.size, 0))), (7, Ai x1), (8, Ai x2), (9, Ai x3), (10, Ai x4)] ∧ HH g h' [.obj h.size (.cells none 2 [.bool p1.Fold, .bool p1.Ax]), .AL rp0 264 (AL AM p0)] F) ho ⟨_, _, _, _, rfl, H.ls, A⟩ ?_
  clear ho hm H A
  intro s q fr h2 hI hm
  obtain ⟨x1, x2, x3, x4, rfl, H, A⟩ := hI
  unfold Hd at hm
  refine AX (id := 1) (by kernel_rfl) ?_
  refine AQ (AG 12 (AF 5 [(15, .bool (decide (x2 < (p0.length : Int))))] H fun fr H => ?_))
  obtain ⟨x6, ho, hm⟩ := bind_some hm
  refine An 7 (fun fr' h' => Has fr' 83 [(0, AI rp0 p0.length), (2, .str p2), (4, .ptr (some (h.size, 0))), (7, Ai x1), (8, Ai x2), (9, Ai x3), (10, Ai x4), (22, .bool x6)] ∧ HH g h' [.obj h.size (.cells none 2 [.bool p1.Fold, .bool p1.Ax]), .AL rp0 264 (AL AM p0)] F) ?_ ?_
  ·rcases AU ho with ⟨hb, hm⟩ | ⟨hb, hm⟩
   ·replace H := H.kn 15 hb
    obtain ⟨x7, hx, hm⟩ := bind_some hm
    obtain ⟨i1, er1, _, hx, hq1⟩ := HH.NP Br (by decide) A 1 (xs := p0) rfl hx
    refine As 2 [] 18 (.ptr (some (i1, x2.toNat * 6))) h2 H (fun fr => .of (Fa (s := D2 rp0 p0.length) (by kernel_rfl) hx)) fun fr t H => ?_
    refine As 1 [] 20 _ _ H (fun fr => .of (Dj (by kernel_rfl) (FU Br (HH.row A 1 rfl er1) hq1 (o := 0) rfl))) fun fr t H => ?_
    refine AF 2 [(22, .bool (x7.Kind == 4))] H fun fr H => ?_
    obtain rfl := Aa hm
    exact at_nil ⟨H.ls, A⟩
   replace H := H.kn 15 hb
   refine AF 7 [(22, .bool false)] H fun fr H => ?_
   obtain rfl := Aa hm
   exact at_nil ⟨H.ls, A⟩
  clear A
  intro t fr h3 hK
  obtain ⟨H, A⟩ := hK
  refine BB id (Ak 22 H hm (fun hb hm H => ?_) fun hb hm H => ?_)
  ·refine AG 4 (Bi 4 [(0, AI rp0 p0.length), (2, .str p2), (4, .ptr (some (h.size, 0))), (7, Ai x1), (8, Ai x2), (9, Ai x2), (10, Ai x1)] H fun fr H => Cj 3 id (Bi 3 [(0, AI rp0 p0.length), (2, .str p2), (4, .ptr (some (h.size, 0))), (7, Ai x1), (8, Ai (IntKind.i64.wrap (x2 + 1))), (9, Ai x2), (10, Ai x1)] H fun fr H => BB id (Bn (i := 1) (by kernel_rfl) ?_)))
   exact nx hm ⟨_, _, _, _, rfl, H.ls, A⟩
  refine Be id (AQ (AG 10 (AF 5 [(31, .bool (x1 == (p2.length : Int)))] H fun fr H => An 5 (fun fr' h' => h3 = h' ∧ Has fr' 83 [(0, AI rp0 p0.length), (2, .str p2), (4, .ptr (some (h.size, 0))), (7, Ai x1), (8, Ai x2), (9, Ai x3), (10, Ai x4), (36, .bool ((x1 == (p2.length : Int)) && (x2 == (p0.length : Int))))]) ?_ ?_)))
  ·cases hb : (x1 == (p2.length : Int) : Bool) with
   | true =>
    replace H := H.kn 31 hb
    exact AF 5 [(36, .bool (x2 == (p0.length : Int)))] H fun fr H => AY H hb
   | false =>
    replace H := H.kn 31 hb
    exact AF 5 [(36, .bool false)] H fun fr H => AY H hb
  intro t fr h' hK
  obtain ⟨e, H⟩ := hK
  subst e
  refine BB id (Ak 36 H hm (fun hb hm H => ?_) fun hb hm H => ?_)
  ·refine AG 1 (AN 1 [(6, .bool true)] H fun fr H => AS ?_)
   exact nr hm fun e => .inl ⟨_, rfl, e, H.ls, A⟩
  refine Be id (AQ (AQ (EZ 8 21 ?_)))
  refine AF 5 [(41, .bool (decide (x2 < (p0.length : Int))))] H fun fr H => An 5 (fun fr' h' => h3 = h' ∧ Has fr' 83 [(0, AI rp0 p0.length), (2, .str p2), (4, .ptr (some (h.size, 0))), (7, Ai x1), (8, Ai x2), (9, Ai x3), (10, Ai x4), (46, .bool ((decide (x2 < (p0.length : Int))) && (decide (x1 < (p2.length : Int)))))]) ?_ ?_
  ·cases hb : (decide (x2 < (p0.length : Int)) : Bool) with
   | true =>
    replace H := H.kn 41 hb
    exact AF 5 [(46, .bool (decide (x1 < (p2.length : Int))))] H fun fr H => AY H hb
   | false =>
    replace H := H.kn 41 hb
    exact AF 5 [(46, .bool false)] H fun fr H => AY H hb
  intro t fr h' hK
  obtain ⟨e, H⟩ := hK
  subst e
  refine AF 1 [(47, .bool ((decide (x2 < (p0.length : Int))) && (decide (x1 < (p2.length : Int)))))] H fun fr H => ?_
  obtain ⟨x8, ho, hm⟩ := bind_some hm
  refine An 10 (fun fr' h' => Has fr' 83 [(0, AI rp0 p0.length), (2, .str p2), (4, .ptr (some (h.size, 0))), (7, Ai x1), (8, Ai x2), (9, Ai x3), (10, Ai x4), (57, .bool x8)] ∧ HH g h' [.obj h.size (.cells none 2 [.bool p1.Fold, .bool p1.Ax]), .AL rp0 264 (AL AM p0)] F) ?_ ?_
  ·rcases AU ho with ⟨hb, hm⟩ | ⟨hb, hm⟩
   ·replace H := H.kn 47 hb
    refine Az 48 _ _ H (fun fr => .of (Bs (by kernel_rfl) (A.GA 0 rfl (o := 0) (n := 2) ⟨Nat.le_of_ble_eq_true rfl, rfl⟩))) fun fr t H => ?_
    obtain ⟨x9, hx, hm⟩ := bind_some hm
    obtain ⟨i2, er2, _, hx, hq2⟩ := HH.NP Br (by decide) A 1 (xs := p0) rfl hx
    refine As 2 [] 51 (.ptr (some (i2, x2.toNat * 6))) h3 H (fun fr => .of (Fa (s := D2 rp0 p0.length) (by kernel_rfl) hx)) fun fr t H => ?_
    refine Az 52 _ _ H (fun fr => .of (Bs (by kernel_rfl) (L4 Br (HH.row A 1 rfl er2) hq2 0 6 (Nat.le_of_ble_eq_true rfl)))) fun fr t H => ?_
    obtain ⟨x10, hx, hm⟩ := bind_some hm
    refine As 2 [] 55 (Ab x10) h3 H (fun fr => .of (G4 (by kernel_rfl) hx)) fun fr t H => ?_
    obtain ⟨x11, hx, hm⟩ := bind_some hm
    obtain ⟨v1, h5, hr, rfl, A1⟩ := MR (av := [.agg [.bool p1.Fold, .bool p1.Ax], .agg (AM x9), Ab x10]) hx (A.cut 0)
    replace A := A.EV A1
    refine Ay 56 hr H fun fr t H => ?_
    refine AF 1 [(57, .bool x11)] H fun fr H => ?_
    obtain rfl := Aa hm
    exact at_nil ⟨H.ls, A⟩
   replace H := H.kn 47 hb
   refine AF 10 [(57, .bool false)] H fun fr H => ?_
   obtain rfl := Aa hm
   exact at_nil ⟨H.ls, A⟩
  clear A
  intro t fr h4 hK
  obtain ⟨H, A⟩ := hK
  refine BB id (Ak 57 H hm (fun hb hm H => ?_) fun hb hm H => ?_)
  ·refine AG 3 (Bi 3 [(0, AI rp0 p0.length), (2, .str p2), (4, .ptr (some (h.size, 0))), (7, Ai (IntKind.i64.wrap (x1 + 1))), (8, Ai x2), (9, Ai x3), (10, Ai x4)] H fun fr H => Cj 3 id (Bi 3 [(0, AI rp0 p0.length), (2, .str p2), (4, .ptr (some (h.size, 0))), (7, Ai (IntKind.i64.wrap (x1 + 1))), (8, Ai (IntKind.i64.wrap (x2 + 1))), (9, Ai x3), (10, Ai x4)] H fun fr H => BB id (Bn (i := 1) (by kernel_rfl) ?_)))
   exact nx hm ⟨_, _, _, _, rfl, H.ls, A⟩
  refine Be id (AQ (AQ (EZ 11 16 ?_)))
  refine AF 3 [(64, .bool (decide (x3 < 0)))] H fun fr H => An 5 (fun fr' h' => h4 = h' ∧ Has fr' 83 [(0, AI rp0 p0.length), (2, .str p2), (4, .ptr (some (h.size, 0))), (9, Ai x3), (10, Ai x4), (69, .bool ((decide (x3 < 0)) || (decide (x4 ≥ (p2.length : Int)))))]) ?_ ?_
  ·cases hb : (decide (x3 < 0) : Bool) with
   | true =>
    replace H := H.kn 64 hb
    exact AF 5 [(69, .bool true)] H fun fr H => AY H hb
   | false =>
    replace H := H.kn 64 hb
    exact AF 5 [(69, .bool (decide (x4 ≥ (p2.length : Int))))] H fun fr H => AY H hb
  intro t fr h' hK
  obtain ⟨e, H⟩ := hK
  subst e
  refine AF 1 [(70, .bool ((decide (x3 < 0)) || (decide (x4 ≥ (p2.length : Int)))))] H fun fr H => ?_
  obtain ⟨x12, ho, hm⟩ := bind_some hm
  refine An 7 (fun fr' h' => Has fr' 83 [(0, AI rp0 p0.length), (2, .str p2), (4, .ptr (some (h.size, 0))), (9, Ai x3), (10, Ai x4), (77, .bool x12)] ∧ HH g h' [.obj h.size (.cells none 2 [.bool p1.Fold, .bool p1.Ax]), .AL rp0 264 (AL AM p0)] F) ?_ ?_
  ·rcases AU ho with ⟨hb, hm⟩ | ⟨hb, hm⟩
   ·replace H := H.kn 70 hb
    refine AF 7 [(77, .bool true)] H fun fr H => ?_
    obtain rfl := Aa hm
    exact at_nil ⟨H.ls, A⟩
   replace H := H.kn 70 hb
   refine Az 71 _ _ H (fun fr => .of (Bs (by kernel_rfl) (A.GA 0 rfl (o := 0) (n := 2) ⟨Nat.le_of_ble_eq_true rfl, rfl⟩))) fun fr t H => ?_
   obtain ⟨x13, hx, hm⟩ := bind_some hm
   refine As 2 [] 74 (Ab x13) h4 H (fun fr => .of (G4 (by kernel_rfl) hx)) fun fr t H => ?_
   obtain ⟨x14, hx, hm⟩ := bind_some hm
   obtain ⟨v1, h7, hr, rfl, A1⟩ := GW (av := [.agg [.bool p1.Fold, .bool p1.Ax], Ab x13]) hx (A.cut 0)
   replace A := A.EV A1
   refine Ay 75 hr H fun fr t H => ?_
   refine AF 2 [(77, .bool (!x14))] H fun fr H => ?_
   obtain rfl := Aa hm
   exact at_nil ⟨H.ls, A⟩
  clear A
  intro t fr h6 hK
  obtain ⟨H, A⟩ := hK
  refine BB id (Ak 77 H hm (fun hb hm H => ?_) fun hb hm H => ?_)
  ·refine AG 1 (AN 1 [(6, .bool false)] H fun fr H => AS ?_)
   exact nr hm fun e => .inl ⟨_, rfl, e, H.ls, A⟩
  refine Cm 3 id (Bi 3 [(0, AI rp0 p0.length), (2, .str p2), (4, .ptr (some (h.size, 0))), (9, Ai x3), (10, Ai (IntKind.i64.wrap (x4 + 1)))] H fun fr H => KY 5 id (AF 5 [(7, Ai (IntKind.i64.wrap (x4 + 1))), (8, Ai (IntKind.i64.wrap (x3 + 1)))] H fun fr H => at_nil ?_))
  exact nx hm ⟨_, _, _, _, rfl, H.ls, A⟩
 clear ho
 clear A
 intro e fr h8 hQ
 rcases hQ with ⟨x5, rfl, rfl, H, A⟩ | hF
 ·obtain rfl := Aa hm
  refine ⟨.inl rfl, .bool x5, rH H, ?_⟩
  replace A := A.k1 1
  exact ⟨rfl, A⟩
 exact hF.elim
def Ct (p0 : Bz) (p1 : AO) (p2 : Int) : Option (Bool) :=
 (Vx p2).bind fun x1 => (G6 ([p1] : List AO) p0.f_ ([x1] : List UInt8)).bind fun x2 => some (x2 && (p1.Kind != 4))
theorem E7 {p0 p1 p2 bp0 rp0_0 bp0_4 rp0_4_2 rp0_4_3 rp0_5 bp0_6 rp0_7 q0} (hm : Ct p0 p1 p2 = some q0) (A : HH g h [.obj bp0 (.cells none 2 [AI rp0_0 p0.l_.length, .bool p0.f_.Fold, .bool p0.f_.Ax, Ai p0.ET, .ptr (some (bp0_4, 0)), AI rp0_5 p0.DP.length, .map (some bp0_6), AI rp0_7 p0.By.length]), .AL rp0_0 264 (AL AM p0.l_), .obj bp0_4 (.cells none 2 (Cl 256 (AA.int .u8) p0.t_.BO ++ [Ai p0.t_.Aq, AI rp0_4_2 p0.t_.BN.length, AI rp0_4_3 p0.t_.A8.length])), .AL rp0_4_2 21 (AL (eI .i32) p0.t_.BN), .AL rp0_4_3 4 (AL eB p0.t_.A8), .AL rp0_5 5 (AL eY p0.DP), .obj bp0_6 (.map 2 (BR (fun k : List UInt8 => .str k) (fun v : Int => .int .i32 v) p0.Bk)), .AL rp0_7 9 (AL eS p0.By)] F) (hc : BI (cfg.still 247) av = [.ptr (some (bp0, 0)), .agg (AM p1), Ab p2] := by kernel_rfl) : ∃ v h', BL cfg g h 247 av v h' ∧ v = .bool q0 ∧ HH g h' [.obj bp0 (.cells none 2 [AI rp0_0 p0.l_.length, .bool p0.f_.Fold, .bool p0.f_.Ax, Ai p0.ET, .ptr (some (bp0_4, 0)), AI rp0_5 p0.DP.length, .map (some bp0_6), AI rp0_7 p0.By.length]), .AL rp0_0 264 (AL AM p0.l_), .obj bp0_4 (.cells none 2 (Cl 256 (AA.int .u8) p0.t_.BO ++ [Ai p0.t_.Aq, AI rp0_4_2 p0.t_.BN.length, AI rp0_4_3 p0.t_.A8.length])), .AL rp0_4_2 21 (AL (eI .i32) p0.t_.BN), .AL rp0_4_3 4 (AL eB p0.t_.A8), .AL rp0_5 5 (AL eY p0.DP), .obj bp0_6 (.map 2 (BR (fun k : List UInt8 => .str k) (fun v : Int => .int .i32 v) p0.Bk)), .AL rp0_7 9 (AL eS p0.By)] F := by
 refine D5 22 [.tmp 6] hc ?_
 clear hc
 unfold Ct at hm
 refine bg 22 [(0, .ptr (some (bp0, 0))), (1, .agg (AM p1)), (2, Ab p2)] fun fr H => ?_
 refine AG 2 ?_
 obtain ⟨h1, e1, A⟩ := A.pu (.cells none 2 (AM p1))
 refine BC 4 (.ptr (some (h.size, 0))) e1 H fun fr t H => ?_
 refine AN 1 [] H fun fr H => AQ (EZ 1 16 ?_)
 refine Az 7 _ _ H (fun fr => .of (Bs (by kernel_rfl) (A.GA 0 rfl (o := 0) (n := 6) ⟨Nat.le_of_ble_eq_true rfl, rfl⟩))) fun fr t H => ?_
 obtain ⟨h2, e2, A⟩ := A.pL 264 (AM p1)
 refine BC 8 (AI (some h1.size) (([p1] : List AO).length)) e2 H fun fr t H => ?_
 refine As 3 [] 12 _ _ H (fun fr => .of (Bs (by kernel_rfl) (A.GA 2 rfl (o := 1) (n := 2) ⟨Nat.le_of_ble_eq_true rfl, rfl⟩))) fun fr t H => ?_
 refine AF 1 [(13, Ab p2)] H fun fr H => ?_
 obtain ⟨x1, hx, hm⟩ := bind_some hm
 have hx := N7 hx
 have kH := hm
 have kA := A
 have kR := H
 subst hx
 have hm := kH
 have A := kA
 have H := kR
 clear kH kA kR
 obtain ⟨h3, e3, A⟩ := A.pL 5 [Ab (x1.toNat : Int)]
 refine BC 14 (AI (some h2.size) (([x1] : List UInt8).length)) e3 H fun fr t H => ?_
 refine Az 15 (.str ([x1] : List UInt8)) h3 H (fun fr => .of (Sa (xs := ([x1] : List UInt8)) A 0 rfl (by kernel_rfl))) fun fr t H => ?_
 replace A : HH g h3 [.AL (some h2.size) 5 ([Ab (x1.toNat : Int)]), .AL (some h1.size) 264 (AL AM ([p1] : List AO)), .obj h.size (.cells none 2 (AM p1)), _, _, _, _, _, _, _, _] F := A
 replace A : HH g h3 [_, _, _, _, _, _, _, _, _, _, _] F := (A.front 1 rfl)
 obtain ⟨x2, hx, hm⟩ := bind_some hm
 obtain ⟨v1, h4, hr, rfl, A1⟩ := Lg (av := [AI (some h1.size) (([p1] : List AO).length), .agg [.bool p0.f_.Fold, .bool p0.f_.Ax], .str ([x1] : List UInt8)]) hx (A.cut 1)
 replace A := A.g11 A1
 refine Ay 16 hr H fun fr t H => ?_
 refine AF 1 [(17, .bool x2)] H fun fr H => An 4 (fun fr' h' => h4 = h' ∧ Has fr' 22 [(21, .bool (x2 && (p1.Kind != 4)))]) ?_ ?_
 ·cases hb : (x2 : Bool) with
  | true =>
   replace H := H.kn 17 hb
   refine AR 1 [] 19 2 0 A H fun fr t H => ?_
   exact AF 2 [(21, .bool (p1.Kind != 4))] H fun fr H => AY H hb
  | false =>
   replace H := H.kn 17 hb
   exact AF 4 [(21, .bool false)] H fun fr H => AY H hb
 intro t fr h' hK
 obtain ⟨e, H⟩ := hK
 subst e
 refine AN 1 [(6, .bool (x2 && (p1.Kind != 4)))] H fun fr H => AS ?_
 obtain rfl := Aa hm
 refine ⟨.inl rfl, .bool (x2 && (p1.Kind != 4)), rH H, ?_⟩
 replace A := A.k8 3 4 5 6 7 8 9 10
 exact ⟨rfl, A⟩
def F8 (p1 : Int) (s : (List UInt8)) : Option (((List UInt8)) ⊕ (((List UInt8)))) :=
 match s with
 | x1 => (Ae (decide ((x1.length : Int) > 0)) ((Nb x1 (IntKind.i64.wrap ((x1.length : Int) - 1))).bind fun x4 => some (x4 == p1)) (some false) : Option (Bool)).bind fun x3 => Ae x3 ((LP x1 none (some (IntKind.i64.wrap ((x1.length : Int) - 1)))).bind fun x5 => some (.inl x5)) (some (.inr x1))
def Dt (p0 : List UInt8) (p1 : Int) : Option ((List UInt8)) :=
 (loop (F8 p1) p0).bind fun x2 => some x2
theorem GM {p0 p1 q0} (hm : Dt p0 p1 = some q0) (A : HH g h [] F) (hc : BI (cfg.still 212) av = [.str p0, Ab p1] := by kernel_rfl) : ∃ v h', BL cfg g h 212 av v h' ∧ v = .str q0 ∧ HH g h' [] F := by
 refine D5 23 [.tmp 4] hc ?_
 clear hc
 unfold Dt at hm
 refine bg 23 [(0, .str p0), (1, Ab p1)] fun fr H => ?_
 refine AG 1 (AN 1 [] H fun fr H => AQ (AX (id := 0) (by kernel_rfl) ?_))
 obtain ⟨o1, ho, hm⟩ := bind_some hm
 refine BM (Q' := fun e fr' h' => (∃ x2, e = .exit 0 ∧ x2 = o1 ∧ Has fr' 23 [(0, .str x2)] ∧ HH g h' [] F) ∨ False) ?_ ?_
 ·refine B8 (by kernel_rfl) (fun (s : (List UInt8)) fr' h' => ∃ x1, x1 = s ∧ Has fr' 23 [(0, .str x1), (1, Ab p1)] ∧ HH g h' [] F) ho ⟨_, rfl, H.ls, A⟩ ?_
  clear ho hm H A
  intro s q fr h1 hI hm
  obtain ⟨x1, rfl, H, A⟩ := hI
  unfold F8 at hm
  refine AQ (AG 12 (AF 4 [(8, .bool (decide ((x1.length : Int) > 0)))] H fun fr H => ?_))
  obtain ⟨x3, ho, hm⟩ := bind_some hm
  refine An 8 (fun fr' h' => Has fr' 23 [(0, .str x1), (1, Ab p1), (16, .bool x3)] ∧ HH g h' [] F) ?_ ?_
  ·rcases AU ho with ⟨hb, hm⟩ | ⟨hb, hm⟩
   ·replace H := H.kn 8 hb
    obtain ⟨x4, hx, hm⟩ := bind_some hm
    refine As 4 [] 13 (Ab x4) h1 H (fun fr => .of (G4 (by kernel_rfl) hx)) fun fr t H => ?_
    refine AF 3 [(16, .bool (x4 == p1))] H fun fr H => ?_
    obtain rfl := Aa hm
    exact at_nil ⟨H.ls, A⟩
   replace H := H.kn 8 hb
   refine AF 8 [(16, .bool false)] H fun fr H => ?_
   obtain rfl := Aa hm
   exact at_nil ⟨H.ls, A⟩
  clear A
  intro t fr h2 hK
  obtain ⟨H, A⟩ := hK
  refine BB id (Ak 16 H hm (fun hb hm H => ?_) fun hb hm H => ?_)
  ·refine Be id (AX (id := 1) (by kernel_rfl) ?_)
   refine EW 6 ?_
   obtain ⟨x5, hx, hm⟩ := bind_some hm
   refine As 4 [] 21 (.str x5) h2 H (fun fr => .of (JN (k := .i64) (k' := .i64) (lo := none) (hi := (some (IntKind.i64.wrap ((x1.length : Int) - 1)))) (by kernel_rfl) hx)) fun fr t H => ?_
   refine Bi 1 [(0, .str x5), (1, Ab p1)] H fun fr H => at_nil ?_
   exact nx hm ⟨_, rfl, H.ls, A⟩
  refine Bn (i := 0) (by kernel_rfl) ?_
  exact nr hm fun e => .inl ⟨_, rfl, e, H.ls, A⟩
 clear ho
 clear A
 intro e fr h3 hQ
 rcases hQ with ⟨x2, rfl, rfl, H, A⟩ | hF
 ·show AW _ _ _ _ _ _ _
  refine AG 2 (AN 2 [(4, .str x2)] H fun fr H => AS ?_)
  obtain rfl := Aa hm
  exact ⟨.inl rfl, _, rH H, rfl, A⟩
 exact hF.elim
def GD (p1 : Int) (s : (List UInt8)) : Option (((List UInt8)) ⊕ (((List UInt8)))) :=
 match s with
 | x1 => (Ae (decide ((x1.length : Int) > 0)) ((Nb x1 (0 : Int)).bind fun x4 => some (x4 == p1)) (some false) : Option (Bool)).bind fun x3 => Ae x3 ((LP x1 (some (1 : Int)) none).bind fun x5 => some (.inl x5)) (some (.inr x1))
def EC (p0 : List UInt8) (p1 : Int) : Option ((List UInt8)) :=
 (loop (GD p1) p0).bind fun x2 => some x2
theorem Gg {p0 p1 q0} (hm : EC p0 p1 = some q0) (A : HH g h [] F) (hc : BI (cfg.still 143) av = [.str p0, Ab p1] := by kernel_rfl) : ∃ v h', BL cfg g h 143 av v h' ∧ v = .str q0 ∧ HH g h' [] F := by
 refine D5 17 [.tmp 4] hc ?_
 clear hc
 unfold EC at hm
 refine bg 17 [(0, .str p0), (1, Ab p1)] fun fr H => ?_
 refine AG 1 (AN 1 [] H fun fr H => AQ (AX (id := 0) (by kernel_rfl) ?_))
 obtain ⟨o1, ho, hm⟩ := bind_some hm
 refine BM (Q' := fun e fr' h' => (∃ x2, e = .exit 0 ∧ x2 = o1 ∧ Has fr' 17 [(0, .str x2)] ∧ HH g h' [] F) ∨ False) ?_ ?_
 ·refine B8 (by kernel_rfl) (fun (s : (List UInt8)) fr' h' => ∃ x1, x1 = s ∧ Has fr' 17 [(0, .str x1), (1, Ab p1)] ∧ HH g h' [] F) ho ⟨_, rfl, H.ls, A⟩ ?_
  clear ho hm H A
  intro s q fr h1 hI hm
  obtain ⟨x1, rfl, H, A⟩ := hI
  unfold GD at hm
  refine AQ (AG 9 (AF 4 [(8, .bool (decide ((x1.length : Int) > 0)))] H fun fr H => ?_))
  obtain ⟨x3, ho, hm⟩ := bind_some hm
  refine An 5 (fun fr' h' => Has fr' 17 [(0, .str x1), (1, Ab p1), (13, .bool x3)] ∧ HH g h' [] F) ?_ ?_
  ·rcases AU ho with ⟨hb, hm⟩ | ⟨hb, hm⟩
   ·replace H := H.kn 8 hb
    obtain ⟨x4, hx, hm⟩ := bind_some hm
    refine As 1 [] 10 (Ab x4) h1 H (fun fr => .of (G4 (by kernel_rfl) hx)) fun fr t H => ?_
    refine AF 3 [(13, .bool (x4 == p1))] H fun fr H => ?_
    obtain rfl := Aa hm
    exact at_nil ⟨H.ls, A⟩
   replace H := H.kn 8 hb
   refine AF 5 [(13, .bool false)] H fun fr H => ?_
   obtain rfl := Aa hm
   exact at_nil ⟨H.ls, A⟩
  clear A
  intro t fr h2 hK
  obtain ⟨H, A⟩ := hK
  refine BB id (Ak 13 H hm (fun hb hm H => ?_) fun hb hm H => ?_)
  ·refine Be id (AX (id := 1) (by kernel_rfl) ?_)
   refine EW 3 ?_
   obtain ⟨x5, hx, hm⟩ := bind_some hm
   refine As 1 [] 15 (.str x5) h2 H (fun fr => .of (JN (k := .i64) (k' := .i64) (lo := (some (1 : Int))) (hi := none) (by kernel_rfl) hx)) fun fr t H => ?_
   refine Bi 1 [(0, .str x5), (1, Ab p1)] H fun fr H => at_nil ?_
   exact nx hm ⟨_, rfl, H.ls, A⟩
  refine Bn (i := 0) (by kernel_rfl) ?_
  exact nr hm fun e => .inl ⟨_, rfl, e, H.ls, A⟩
 clear ho
 clear A
 intro e fr h3 hQ
 rcases hQ with ⟨x2, rfl, rfl, H, A⟩ | hF
 ·show AW _ _ _ _ _ _ _
  refine AG 2 (AN 2 [(4, .str x2)] H fun fr H => AS ?_)
  obtain rfl := Aa hm
  exact ⟨.inl rfl, _, rH H, rfl, A⟩
 exact hF.elim
end
end Go.Av.L
