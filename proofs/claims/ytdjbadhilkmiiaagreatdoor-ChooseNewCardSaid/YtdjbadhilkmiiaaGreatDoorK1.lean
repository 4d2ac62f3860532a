/-
 A part.
-/
import Derived.Test.YtdjbadhilkmiiaaGreatDoorKCfg
import Derived.Test.YtdjbadhilkmiiaaGreatDoorK0
namespace Go.Av.L
open Go.Av Go.Lib
set_option maxRecDepth 10000
set_option maxHeartbeats 4000000
set_option linter.unusedVariables false
set_option linter.unusedSimpArgs false
variable {g : Gd} {h : AJ} {F : List Ck} {av : List AB}
noncomputable section
def EE (p0 : BW) : Option (Bool × BW) :=
 (CM p0 ([91, 58] : List UInt8)).bind fun (x1, x2) => Ac x1 ((D4 x2).bind fun (x3, x4) => some (x3, x4)) ((CM x2 ([91, 61] : List UInt8)).bind fun (x5, x6) => Ac x5 ((Co x6 ([61, 93] : List UInt8)).bind fun (x7, x8, x9) => (CA x7 x7).bind fun x10 => (CR x9.DR x10).bind fun x11 => some (x8, (⟨x9.s_, x9.at_, x9.Gp, x11⟩ : BW))) ((DY x6).bind fun (x12, x13, x14) => Ac (!x13) (some (false, x14)) (((HX x14.s_ (some x14.at_) none).bind fun x31 => (B7 x31 ([45] : List UInt8)).bind fun x32 => (Ac x32 ((B7 x31 ([45, 93] : List UInt8)).bind fun x34 => some (!x34)) (some false) : Option (Bool)).bind fun x33 => Ac x33 ((HX x31 (some (1 : Int)) none).bind fun x35 => (B7 x35 ([91, 58] : List UInt8)).bind fun x36 => (Ac x36 (some true) ((B7 x35 ([91, 61] : List UInt8)).bind fun x38 => some x38) : Option (Bool)).bind fun x37 => Ac x37 (some (.inr (x14.s_, IntKind.i64.wrap (x14.at_ + 1), x14.Gp, x14.DR.w0, x14.DR.w1, x14.DR.w2, x14.DR.w3, false))) ((DY (⟨x14.s_, IntKind.i64.wrap (x14.at_ + 1), x14.Gp, x14.DR⟩ : BW)).bind fun (x39, x40, x41) => Ac ((!x40) || (decide (x39 < x12))) (some (.inr (x41.s_, x41.at_, x41.Gp, x41.DR.w0, x41.DR.w1, x41.DR.w2, x41.DR.w3, false))) (some (.inl (x41.s_, x41.at_, x41.Gp, x41.DR.w0, x41.DR.w1, x41.DR.w2, x41.DR.w3, x39))))) (some (.inl (x14.s_, x14.at_, x14.Gp, x14.DR.w0, x14.DR.w1, x14.DR.w2, x14.DR.w3, x12))) : Option (((List UInt8) × Int × Bool × Int × Int × Int × Int × Int) ⊕ ((List UInt8) × Int × Bool × Int × Int × Int × Int × Bool))).bind fun o1 => (match o1 with | .inl (x15, x16, x17, x18, x19, x20, x21, x22) => (CA x12 x22).bind fun x42 => (CR (⟨x18, x19, x20, x21⟩ : Ad) x42).bind fun x43 => some (true, (⟨x15, x16, x17, x43⟩ : BW)) | .inr (x23, x24, x25, x26, x27, x28, x29, x30) => some (x30, (⟨x23, x24, x25, (⟨x26, x27, x28, x29⟩ : Ad)⟩ : BW))))))
theorem Kv {p0 bp0 q0 u0} (hm : EE p0 = some (q0, u0)) (A : HH g h [.obj bp0 (.cells none 2 (CO p0))] F) (hc : Ba (cfg.still 186) av = [.ptr (some (bp0, 0))] := by kernel_rfl) : ∃ v h', Bi cfg g h 186 av v h' ∧ v = .bool q0 ∧ HH g h' [.obj bp0 (.cells none 2 (CO u0))] F := by
 refine EN 94 [.tmp 2] hc ?_
 clear hc
 unfold EE at hm
 refine bg 94 [(0, .ptr (some (bp0, 0)))] fun fr H => ?_
 refine AF 1 (AP 1 [] H fun fr H => AR (AF 2 ?_))
 obtain ⟨⟨x1, x2⟩, hx, hm⟩ := bind_some hm
 obtain ⟨v1, h1, hr, rfl, A1⟩ := DI (av := [.ptr (some (bp0, 0)), .str ([91, 58] : List UInt8)]) hx (A.cut 1)
 replace A := A.g11 A1
 refine Ap 1 [] 10 hr H fun fr t H => ?_
 refine BD id (Ae 10 H hm (fun hb hm H => ?_) fun hb hm H => ?_)
 ·refine AF 3 ?_
  obtain ⟨⟨x3, x4⟩, hx, hm⟩ := bind_some hm
  obtain ⟨v1, h2, hr, rfl, A1⟩ := KH (av := [.ptr (some (bp0, 0))]) hx (A.cut 1)
  replace A := A.g11 A1
  refine Ap 1 [] 12 hr H fun fr t H => ?_
  refine AP 1 [(2, .bool x3)] H fun fr H => AY ?_
  obtain ⟨rfl, rfl⟩ := B6 hm
  exact ⟨.inl rfl, _, rH H, rfl, A⟩
 refine B0 id (AR (AF 2 ?_))
 obtain ⟨⟨x5, x6⟩, hx, hm⟩ := bind_some hm
 obtain ⟨v1, h3, hr, rfl, A1⟩ := DI (av := [.ptr (some (bp0, 0)), .str ([91, 61] : List UInt8)]) hx (A.cut 1)
 replace A := A.g11 A1
 refine Ap 1 [] 14 hr H fun fr t H => ?_
 refine BD id (Ae 14 H hm (fun hb hm H => ?_) fun hb hm H => ?_)
 ·refine AF 7 ?_
  obtain ⟨⟨x7, x8, x9⟩, hx, hm⟩ := bind_some hm
  obtain ⟨v1, h4, hr, rfl, A1⟩ := Gx (av := [.ptr (some (bp0, 0)), .str ([61, 93] : List UInt8)]) hx (A.cut 1)
  replace A := A.g11 A1
  refine Ap 1 [] 17 hr H fun fr t H => ?_
  refine AP 5 [(3, Ab x7), (4, .bool x8)] H fun fr H => AR (JV 5 12 [(0, []), (1, []), (2, []), (3, []), (4, []), (5, []), (6, []), (7, [4]), (8, []), (9, []), (10, []), (11, [])] ?_)
  refine AG 4 [(20, .ptr (some (bp0, 0))), (23, .ptr (some (bp0, 3)))] H fun fr H => CT 24 (.agg (AN x9.DR)) h4 [(4, bp0)] (g.Bo) H (fun fr => .of (B3 (by kernel_rfl) (A.la 0 3 4))) (fun fr H => ?_)
  refine AG 2 [(25, Ab x7), (26, Ab x7)] H fun fr H => ?_
  have A1 := A.Hz 0 (pr := [bp0]) (.cons 0 rfl (by simp [Ck.ids]) .nil)
  obtain ⟨x10, hx, hm⟩ := bind_some hm
  obtain ⟨v1, h5, hr, rfl, A1⟩ := Cg (av := [Ab x7, Ab x7]) hx A1
  replace A := A.WW A1
  refine CT 27 (.agg (AN x10)) h5 [(4, bp0)] (bp0 :: g.Bo) H (fun fr => Steps.call (by kernel_rfl) hr) (fun fr H => ?_)
  obtain ⟨x11, hx, hm⟩ := bind_some hm
  obtain ⟨v1, h6, hr, rfl, A1⟩ := Cx (av := [.agg (AN x9.DR), .agg (AN x10)]) hx (A.cut 0)
  replace A := A.C4 A1
  refine CT 28 (.agg (AN x11)) h6 [(4, bp0)] (g.Bo) H (fun fr => Steps.call (by kernel_rfl) hr) (fun fr H => ?_)
  refine AG 2 [(30, .ptr (some (bp0, 3)))] H fun fr H => ?_
  obtain ⟨h7, hx, A⟩ := A.s0 3 (AN x11) [_, _, _, _, _, _, _]
  refine H5 (.tuple []) h7 [(4, bp0)] (g.Bo) H (fun fr => .of (LZ (by kernel_rfl) (JU hx rfl))) (fun fr H => ?_)
  refine CI 2 id (AP 2 [(2, .bool x8)] H fun fr H => AY ?_)
  obtain ⟨rfl, rfl⟩ := B6 hm
  exact ⟨.inl rfl, _, rH H, rfl, A⟩
 refine CN 7 id ?_
 obtain ⟨⟨x12, x13, x14⟩, hx, hm⟩ := bind_some hm
 obtain ⟨v1, h8, hr, rfl, A1⟩ := Hd (av := [.ptr (some (bp0, 0))]) hx (A.cut 1)
 replace A := A.g11 A1
 refine Ap 1 [] 34 hr H fun fr t H => ?_
 refine AP 5 [(5, Ab x12), (6, .bool x13)] H fun fr H => AR (AF 2 (AP 2 [(38, .bool (!x13))] H fun fr H => Ae 38 H hm (fun hb hm H => ?_) fun hb hm H => ?_))
 ·refine AF 1 (AP 1 [(2, .bool false)] H fun fr H => AY ?_)
  obtain ⟨rfl, rfl⟩ := B6 hm
  exact ⟨.inl rfl, _, rH H, rfl, A⟩
 refine CN 2 id (AP 2 [(7, Ab x12)] H fun fr H => AR ?_)
 obtain ⟨o1, ho, hm⟩ := bind_some hm
 refine BU (Q' := fun e fr' h' => (∃ x15 x16 x17 x18 x19 x20 x21 x22, e = .normal ∧ .inl (x15, x16, x17, x18, x19, x20, x21, x22) = o1 ∧ Has fr' 94 [(0, .ptr (some (bp0, 0))), (5, Ab x12), (7, Ab x22)] ∧ HH g h' [.obj bp0 (.cells none 2 [.str x15, Ai x16, .bool x17, Au x18, Au x19, Au x20, Au x21])] F) ∨ (∃ x23 x24 x25 x26 x27 x28 x29 x30, e = .ret ∧ .inr (x23, x24, x25, x26, x27, x28, x29, x30) = o1 ∧ Has fr' 94 [(2, .bool x30)] ∧ HH g h' [.obj bp0 (.cells none 2 [.str x23, Ai x24, .bool x25, Au x26, Au x27, Au x28, Au x29])] F) ∨ False) ?_ ?_
 ·replace hm := ho
  clear ho
  refine AR (Df 11 10 ?_)
  refine Ah 3 [] 43 0 0 A H fun fr t H => ?_
  refine Ah 3 [] 47 0 1 A H fun fr t H => ?_
  obtain ⟨x31, hx, hm⟩ := bind_some hm
  refine As 48 (.str x31) h8 H (fun fr => .of (GA (k := .i64) (k' := .i64) (lo := (some x14.at_)) (hi := none) (by kernel_rfl) hx)) fun fr t H => ?_
  refine B1 1 [(8, .str x31)] 7 H fun fr H => ?_
  obtain ⟨x32, hx, hm⟩ := bind_some hm
  obtain ⟨v1, h9, hr, rfl, A1⟩ := D1 (av := [.str x31, .str ([45] : List UInt8)]) hx (A.cut 0)
  replace A := A.C4 A1
  refine Ap 1 [] 50 hr H fun fr t H => ?_
  refine AG 1 [(51, .bool x32)] H fun fr H => ?_
  obtain ⟨x33, ho, hm⟩ := bind_some hm
  refine A9 4 (fun fr' h' => Has fr' 94 [(0, .ptr (some (bp0, 0))), (5, Ab x12), (7, Ab x12), (8, .str x31), (55, .bool x33)] ∧ HH g h' [.obj bp0 (.cells none 2 (CO x14))] F) ?_ ?_
  ·rcases AZ ho with ⟨hb, hm⟩ | ⟨hb, hm⟩
   ·replace H := H.kn 51 hb
    obtain ⟨x34, hx, hm⟩ := bind_some hm
    obtain ⟨v1, h11, hr, rfl, A1⟩ := D1 (av := [.str x31, .str ([45, 93] : List UInt8)]) hx (A.cut 0)
    replace A := A.C4 A1
    refine Ap 1 [] 53 hr H fun fr t H => ?_
    refine AG 2 [(55, .bool (!x34))] H fun fr H => ?_
    obtain rfl := Ag hm
    exact at_nil ⟨H.ls, A⟩
   replace H := H.kn 51 hb
   refine AG 4 [(55, .bool false)] H fun fr H => ?_
   obtain rfl := Ag hm
   exact at_nil ⟨H.ls, A⟩
  clear A
  intro t fr h10 hK
  obtain ⟨H, A⟩ := hK
  refine BD id (Ae 55 H hm (fun hb hm H => ?_) fun hb hm H => ?_)
  ·refine AF 8 (Ah 3 [(56, .ptr (some (bp0, 0)))] 59 0 1 A H fun fr t H => ?_)
   obtain ⟨h12, hx, A⟩ := A.s0 1 [Ai (IntKind.i64.wrap (x14.at_ + 1))] [_, _, _, _, _, _, _]
   refine Dn 3 [] hx H fun fr t H => ?_
   refine BD id (AR (AF 3 ?_))
   obtain ⟨x35, hx, hm⟩ := bind_some hm
   refine BA 1 [] 64 (.str x35) h12 H (fun fr => .of (GA (k := .i64) (k' := .i64) (lo := (some (1 : Int))) (hi := none) (by kernel_rfl) hx)) fun fr t H => ?_
   refine BV 1 [(0, .ptr (some (bp0, 0))), (5, Ab x12), (8, .str x35)] H fun fr H => CI 6 id ?_
   obtain ⟨x36, hx, hm⟩ := bind_some hm
   obtain ⟨v1, h13, hr, rfl, A1⟩ := D1 (av := [.str x35, .str ([91, 58] : List UInt8)]) hx (A.cut 0)
   replace A := A.C4 A1
   refine Ap 1 [] 66 hr H fun fr t H => ?_
   refine AG 1 [(67, .bool x36)] H fun fr H => ?_
   obtain ⟨x37, ho, hm⟩ := bind_some hm
   refine A9 3 (fun fr' h' => Has fr' 94 [(0, .ptr (some (bp0, 0))), (5, Ab x12), (70, .bool x37)] ∧ HH g h' [.obj bp0 (.cells none 2 (Mw x14 (Ai (IntKind.i64.wrap (x14.at_ + 1)))))] F) ?_ ?_
   ·rcases AZ ho with ⟨hb, hm⟩ | ⟨hb, hm⟩
    ·replace H := H.kn 67 hb
     refine AG 3 [(70, .bool true)] H fun fr H => ?_
     obtain rfl := Ag hm
     exact at_nil ⟨H.ls, A⟩
    replace H := H.kn 67 hb
    obtain ⟨x38, hx, hm⟩ := bind_some hm
    obtain ⟨v1, h15, hr, rfl, A1⟩ := D1 (av := [.str x35, .str ([91, 61] : List UInt8)]) hx (A.cut 0)
    replace A := A.C4 A1
    refine Ap 1 [] 69 hr H fun fr t H => ?_
    refine AG 1 [(70, .bool x38)] H fun fr H => ?_
    obtain rfl := Ag hm
    exact at_nil ⟨H.ls, A⟩
   clear A
   intro t fr h14 hK
   obtain ⟨H, A⟩ := hK
   refine BD id (Ae 70 H hm (fun hb hm H => ?_) fun hb hm H => ?_)
   ·refine AF 1 (AP 1 [(2, .bool false)] H fun fr H => AY ?_)
    exact .inr (.inl ⟨_, _, _, _, _, _, _, _, rfl, Ag hm, H.ls, A⟩)
   refine CN 7 id ?_
   obtain ⟨⟨x39, x40, x41⟩, hx, hm⟩ := bind_some hm
   obtain ⟨v1, h16, hr, rfl, A1⟩ := Hd (av := [.ptr (some (bp0, 0))]) hx (A.cut 1)
   replace A := A.g11 A1
   refine Ap 1 [] 73 hr H fun fr t H => ?_
   refine B1 5 [(6, .bool x40), (7, Ab x39)] 7 H fun fr H => AG 3 [(78, .bool (!x40))] H fun fr H => A9 4 (fun fr' h' => h16 = h' ∧ Has fr' 94 [(0, .ptr (some (bp0, 0))), (5, Ab x12), (7, Ab x39), (82, .bool ((!x40) || (decide (x39 < x12))))]) ?_ ?_
   ·cases hb : (!x40 : Bool) with
    | true =>
     replace H := H.kn 78 hb
     exact AG 4 [(82, .bool true)] H fun fr H => BK H hb
    | false =>
     replace H := H.kn 78 hb
     exact AG 4 [(82, .bool (decide (x39 < x12)))] H fun fr H => BK H hb
   intro t fr h' hK
   obtain ⟨e, H⟩ := hK
   subst e
   refine BD id (Ae 82 H hm (fun hb hm H => ?_) fun hb hm H => ?_)
   ·refine AF 1 (AP 1 [(2, .bool false)] H fun fr H => AY ?_)
    exact .inr (.inl ⟨_, _, _, _, _, _, _, _, rfl, Ag hm, H.ls, A⟩)
   exact Fz (.inl ⟨_, _, _, _, _, _, _, _, rfl, Ag hm, H.ls, A⟩)
  exact Fz (.inl ⟨_, _, _, _, _, _, _, _, rfl, Ag hm, H.ls, A⟩)
 clear ho
 clear A
 intro e fr h17 hQ
 rcases hQ with ⟨x15, x16, x17, x18, x19, x20, x21, x22, rfl, rfl, H, A⟩ | ⟨x23, x24, x25, x26, x27, x28, x29, x30, rfl, rfl, H, A⟩ | hF
 ·show AW _ _ _ _ _ _ _
  refine AR (JV 20 12 [(0, []), (1, []), (2, []), (3, []), (4, []), (5, []), (6, []), (7, [4]), (8, []), (9, []), (10, []), (11, [])] ?_)
  refine AG 4 [(83, .ptr (some (bp0, 0))), (86, .ptr (some (bp0, 3)))] H fun fr H => CT 87 (.agg [Au x18, Au x19, Au x20, Au x21]) h17 [(4, bp0)] (g.Bo) H (fun fr => .of (B3 (by kernel_rfl) (A.la 0 3 4))) (fun fr H => ?_)
  refine AG 2 [(88, Ab x12), (89, Ab x22)] H fun fr H => ?_
  have A1 := A.Hz 0 (pr := [bp0]) (.cons 0 rfl (by simp [Ck.ids]) .nil)
  obtain ⟨x42, hx, hm⟩ := bind_some hm
  obtain ⟨v1, h18, hr, rfl, A1⟩ := Cg (av := [Ab x12, Ab x22]) hx A1
  replace A := A.WW A1
  refine CT 90 (.agg (AN x42)) h18 [(4, bp0)] (bp0 :: g.Bo) H (fun fr => Steps.call (by kernel_rfl) hr) (fun fr H => ?_)
  obtain ⟨x43, hx, hm⟩ := bind_some hm
  obtain ⟨v1, h19, hr, rfl, A1⟩ := Cx (av := [.agg [Au x18, Au x19, Au x20, Au x21], .agg (AN x42)]) hx (A.cut 0)
  replace A := A.C4 A1
  refine CT 91 (.agg (AN x43)) h19 [(4, bp0)] (g.Bo) H (fun fr => Steps.call (by kernel_rfl) hr) (fun fr H => ?_)
  refine AG 2 [(93, .ptr (some (bp0, 3)))] H fun fr H => ?_
  obtain ⟨h20, hx, A⟩ := A.s0 3 (AN x43) [_, _, _, _, _, _, _]
  refine H5 (.tuple []) h20 [(4, bp0)] (g.Bo) H (fun fr => .of (LZ (by kernel_rfl) (JU hx rfl))) (fun fr H => ?_)
  refine CI 1 id (AP 1 [(2, .bool true)] H fun fr H => AY ?_)
  obtain ⟨rfl, rfl⟩ := B6 hm
  exact ⟨.inl rfl, _, rH H, rfl, A⟩
 ·obtain ⟨rfl, rfl⟩ := B6 hm
  exact ⟨.inl rfl, _, rH H, rfl, A⟩
 exact hF.elim
def Cv (p0 : List UInt8) (s : (List UInt8) × Int × Bool × Int × Int × Int × Int × Bool) : Option (((List UInt8) × Int × Bool × Int × Int × Int × Int × Bool) ⊕ (((List UInt8) × Int × Bool × Int × Int × Int × Int) ⊕ ((List UInt8) × Int × Bool × Int × Int × Int × Int × Int × Int))) :=
 match s with
 | (x23, x24, x25, x26, x27, x28, x29, x30) => Ac (decide (x24 ≥ (p0.length : Int))) (some (.inr (.inr (x23, x24, x25, x26, x27, x28, x29, (0 : Int), (11 : Int))))) ((KW p0 x24).bind fun x47 => Ac ((x47 == 93) && (!x30)) (some (.inr (.inl (x23, x24, x25, x26, x27, x28, x29)))) ((EE (⟨x23, x24, x25, (⟨x26, x27, x28, x29⟩ : Ad)⟩ : BW)).bind fun (x48, x49) => Ac (!x48) (some (.inr (.inr (x49.s_, x49.at_, x49.Gp, x49.DR.w0, x49.DR.w1, x49.DR.w2, x49.DR.w3, (0 : Int), (11 : Int))))) (some (.inl (x49.s_, x49.at_, x49.Gp, x49.DR.w0, x49.DR.w1, x49.DR.w2, x49.DR.w3, false)))))
def Eo (p0 : List UInt8) (p1 : Int) (p2 : Bool) : Option (Ad × Int × Int) :=
 (Ac ((decide (p1 < 0)) || (decide (p1 ≥ (p0.length : Int)))) (some true) ((KW p0 p1).bind fun x2 => some (x2 != 91)) : Option (Bool)).bind fun x1 => Ac x1 (some ((⟨(0 : Int), (0 : Int), (0 : Int), (0 : Int)⟩ : Ad), (0 : Int), (1 : Int))) ((CM (⟨p0, IntKind.i64.wrap (p1 + 1), p2, (⟨(0 : Int), (0 : Int), (0 : Int), (0 : Int)⟩ : Ad)⟩ : BW) ([94] : List UInt8)).bind fun (x3, x4) => (Ac x3 (some (x4.s_, x4.at_, x4.Gp, x4.DR.w0, x4.DR.w1, x4.DR.w2, x4.DR.w3, true)) ((Ac p2 ((CM x4 ([33] : List UInt8)).bind fun (x21, x22) => some (x22.s_, x22.at_, x22.Gp, x22.DR.w0, x22.DR.w1, x22.DR.w2, x22.DR.w3, x21)) (some (x4.s_, x4.at_, x4.Gp, x4.DR.w0, x4.DR.w1, x4.DR.w2, x4.DR.w3, false)) : Option ((List UInt8) × Int × Bool × Int × Int × Int × Int × Bool)).bind fun (x13, x14, x15, x16, x17, x18, x19, x20) => some (x13, x14, x15, x16, x17, x18, x19, x20)) : Option ((List UInt8) × Int × Bool × Int × Int × Int × Int × Bool)).bind fun (x5, x6, x7, x8, x9, x10, x11, x12) => (loop (Cv p0) (x5, x6, x7, x8, x9, x10, x11, true)).bind fun o1 => (match o1 with | .inl (x31, x32, x33, x34, x35, x36, x37) => (Ac x12 ((EC (⟨x34, x35, x36, x37⟩ : Ad)).bind fun x54 => some (x54.w0, x54.w1, x54.w2, x54.w3)) (some (x34, x35, x36, x37)) : Option ((Int × Int × Int × Int))).bind fun (x50, x51, x52, x53) => some ((⟨x50, x51, x52, x53⟩ : Ad), IntKind.i64.wrap (x32 + 1), (0 : Int)) | .inr (x38, x39, x40, x41, x42, x43, x44, x45, x46) => some ((⟨(0 : Int), (0 : Int), (0 : Int), (0 : Int)⟩ : Ad), x45, x46)))
theorem MY {p0 p1 p2 q0 q1 q2} (hm : Eo p0 p1 p2 = some (q0, q1, q2)) (A : HH g h [] F) (hc : Ba (cfg.still 131) av = [.str p0, Ai p1, .bool p2] := by kernel_rfl) : ∃ v h', Bi cfg g h 131 av v h' ∧ v = .tuple [.agg (AN q0), Ai q1, Ai q2] ∧ HH g h' [] F := by
 refine EN 86 [.cell 6 217, .tmp 7, .tmp 8] hc ?_
 clear hc
 unfold Eo at hm
 refine bg 86 [(0, .str p0), (1, Ai p1), (2, .bool p2)] fun fr H => ?_
 refine AF 3 ?_
 obtain ⟨h1, e1, A⟩ := A.pu (.cells none 2 [Au 0, Au 0, Au 0, Au 0])
 refine BP 6 (.ptr (some (h.size, 0))) e1 H fun fr t H => ?_
 refine AP 2 [] H fun fr H => Qh (by kernel_rfl) ?_
 refine AR (AF 14 (AG 3 [(14, .bool (decide (p1 < 0)))] H fun fr H => A9 5 (fun fr' h' => h1 = h' ∧ Has fr' 86 [(0, .str p0), (1, Ai p1), (2, .bool p2), (6, .ptr (some (h.size, 0))), (19, .bool ((decide (p1 < 0)) || (decide (p1 ≥ (p0.length : Int)))))]) ?_ ?_))
 ·cases hb : (decide (p1 < 0) : Bool) with
  | true =>
   replace H := H.kn 14 hb
   exact AG 5 [(19, .bool true)] H fun fr H => BK H hb
  | false =>
   replace H := H.kn 14 hb
   exact AG 5 [(19, .bool (decide (p1 ≥ (p0.length : Int))))] H fun fr H => BK H hb
 intro t fr h' hK
 obtain ⟨e, H⟩ := hK
 subst e
 refine AG 1 [(20, .bool ((decide (p1 < 0)) || (decide (p1 ≥ (p0.length : Int)))))] H fun fr H => ?_
 obtain ⟨x1, ho, hm⟩ := bind_some hm
 refine A9 5 (fun fr' h' => Has fr' 86 [(0, .str p0), (1, Ai p1), (2, .bool p2), (6, .ptr (some (h.size, 0))), (25, .bool x1)] ∧ HH g h' [.obj h.size (.cells none 2 [Au 0, Au 0, Au 0, Au 0])] F) ?_ ?_
 ·rcases AZ ho with ⟨hb, hm⟩ | ⟨hb, hm⟩
  ·replace H := H.kn 20 hb
   refine AG 5 [(25, .bool true)] H fun fr H => ?_
   obtain rfl := Ag hm
   exact at_nil ⟨H.ls, A⟩
  replace H := H.kn 20 hb
  obtain ⟨x2, hx, hm⟩ := bind_some hm
  refine BA 2 [] 23 (Ab x2) h1 H (fun fr => .of (E5 (by kernel_rfl) hx)) fun fr t H => ?_
  refine AG 2 [(25, .bool (x2 != 91))] H fun fr H => ?_
  obtain rfl := Ag hm
  exact at_nil ⟨H.ls, A⟩
 clear A
 intro t fr h2 hK
 obtain ⟨H, A⟩ := hK
 refine BD id (Ae 25 H hm (fun hb hm H => ?_) fun hb hm H => ?_)
 ·refine AF 4 ?_
  obtain ⟨h3, hx, A⟩ := A.s0 0 [Au 0, Au 0, Au 0, Au 0] [_, _, _, _]
  refine Dm 1 [] hx H fun fr t H => ?_
  refine AP 2 [(7, Ai 0), (8, Ai 1)] H fun fr H => AY ?_
  obtain ⟨rfl, rfl, rfl⟩ := Ho hm
  refine ⟨.inl rfl, .tuple [.agg [Au 0, Au 0, Au 0, Au 0], Ai 0, Ai 1], B8 (.cell (rT H) (BL (by kernel_rfl) (by kernel_rfl) (A.la 0 0 4)) (.tmp (rT H) (.tmp (rT H) .nil))), ?_⟩
  replace A := A.d0
  exact ⟨rfl, A⟩
 refine CN 7 id ?_
 obtain ⟨h4, e2, A⟩ := A.pu (.cells none 2 [.str p0, Ai (IntKind.i64.wrap (p1 + 1)), .bool p2, Au 0, Au 0, Au 0, Au 0])
 refine Gf 5 [] 32 (.ptr (some (h2.size, 0))) e2 H fun fr t H => ?_
 refine B1 1 [(9, .ptr (some (h2.size, 0)))] 10 H fun fr H => ?_
 obtain ⟨⟨x3, x4⟩, hx, hm⟩ := bind_some hm
 obtain ⟨v1, h5, hr, rfl, A1⟩ := DI (av := [.ptr (some (h2.size, 0)), .str ([94] : List UInt8)]) hx (A.cut 1)
 replace A := A.g11 A1
 refine Ap 1 [] 34 hr H fun fr t H => ?_
 refine AG 1 [(35, .bool x3)] H fun fr H => ?_
 obtain ⟨⟨x5, x6, x7, x8, x9, x10, x11, x12⟩, ho, hm⟩ := bind_some hm
 refine A9 6 (fun fr' h' => Has fr' 86 [(0, .str p0), (6, .ptr (some (h.size, 0))), (9, .ptr (some (h2.size, 0))), (41, .bool x12)] ∧ HH g h' [.obj h2.size (.cells none 2 [.str x5, Ai x6, .bool x7, Au x8, Au x9, Au x10, Au x11]), .obj h.size (.cells none 2 [Au 0, Au 0, Au 0, Au 0])] F) ?_ ?_
 ·rcases AZ ho with ⟨hb, hm⟩ | ⟨hb, hm⟩
  ·replace H := H.kn 35 hb
   refine AG 6 [(41, .bool true)] H fun fr H => ?_
   obtain ⟨rfl, rfl, rfl, rfl, rfl, rfl, rfl, rfl⟩ := U2 hm
   exact at_nil ⟨H.ls, A⟩
  replace H := H.kn 35 hb
  refine AG 2 [(37, .bool p2)] H fun fr H => ?_
  obtain ⟨⟨x13, x14, x15, x16, x17, x18, x19, x20⟩, ho, hm⟩ := bind_some hm
  refine A9 3 (fun fr' h' => Has fr' 86 [(0, .str p0), (6, .ptr (some (h.size, 0))), (9, .ptr (some (h2.size, 0))), (35, .bool false), (40, .bool x20)] ∧ HH g h' [.obj h2.size (.cells none 2 [.str x13, Ai x14, .bool x15, Au x16, Au x17, Au x18, Au x19]), .obj h.size (.cells none 2 [Au 0, Au 0, Au 0, Au 0])] F) ?_ ?_
  ·rcases AZ ho with ⟨hb, hm⟩ | ⟨hb, hm⟩
   ·replace H := H.kn 37 hb
    obtain ⟨⟨x21, x22⟩, hx, hm⟩ := bind_some hm
    obtain ⟨v1, h8, hr, rfl, A1⟩ := DI (av := [.ptr (some (h2.size, 0)), .str ([33] : List UInt8)]) hx (A.cut 1)
    replace A := A.g11 A1
    refine Ap 1 [] 39 hr H fun fr t H => ?_
    refine AG 1 [(40, .bool x21)] H fun fr H => ?_
    obtain ⟨rfl, rfl, rfl, rfl, rfl, rfl, rfl, rfl⟩ := U2 hm
    exact at_nil ⟨H.ls, A⟩
   replace H := H.kn 37 hb
   refine AG 3 [(40, .bool false)] H fun fr H => ?_
   obtain ⟨rfl, rfl, rfl, rfl, rfl, rfl, rfl, rfl⟩ := U2 hm
   exact at_nil ⟨H.ls, A⟩
  clear A
  intro t fr h7 hK
  obtain ⟨H, A⟩ := hK
  refine AG 1 [(41, .bool x20)] H fun fr H => ?_
  obtain ⟨rfl, rfl, rfl, rfl, rfl, rfl, rfl, rfl⟩ := U2 hm
  exact at_nil ⟨H.ls, A⟩
 clear A
 intro t fr h6 hK
 obtain ⟨H, A⟩ := hK
 refine AP 1 [(10, .bool x12)] H fun fr H => AR (Qr (by kernel_rfl) ?_)
 show AW _ _ _ _ _ _ _
 refine AR (AF 1 (AP 1 [(11, .bool true)] H fun fr H => Af (id := 0) (by kernel_rfl) ?_))
 obtain ⟨o1, ho, hm⟩ := bind_some hm
 refine BU (Q' := fun e fr' h' => (∃ x31 x32 x33 x34 x35 x36 x37, e = .exit 0 ∧ .inl (x31, x32, x33, x34, x35, x36, x37) = o1 ∧ Has fr' 86 [(6, .ptr (some (h.size, 0))), (9, .ptr (some (h2.size, 0))), (10, .bool x12)] ∧ HH g h' [.obj h2.size (.cells none 2 [.str x31, Ai x32, .bool x33, Au x34, Au x35, Au x36, Au x37]), .obj h.size (.cells none 2 [Au 0, Au 0, Au 0, Au 0])] F) ∨ (∃ x38 x39 x40 x41 x42 x43 x44 x45 x46, e = .ret ∧ .inr (x38, x39, x40, x41, x42, x43, x44, x45, x46) = o1 ∧ Has fr' 86 [(6, .ptr (some (h.size, 0))), (7, Ai x45), (8, Ai x46)] ∧ HH g h' [.obj h2.size (.cells none 2 [.str x38, Ai x39, .bool x40, Au x41, Au x42, Au x43, Au x44]), .obj h.size (.cells none 2 [Au 0, Au 0, Au 0, Au 0])] F) ∨ False) ?_ ?_
 ·refine CH (by kernel_rfl) (fun (s : (List UInt8) × Int × Bool × Int × Int × Int × Int × Bool) fr' h' => ∃ x23 x24 x25 x26 x27 x28 x29 x30, (x23, x24, x25, x26, x27, x28, x29, x30) = s ∧ Has fr' 86 [(0, .str p0), (6, .ptr (some (h.size, 0))), (9, .ptr (some (h2.size, 0))), (10, .bool x12), (11, .bool x30)] ∧ HH g h' [.obj h2.size (.cells none 2 [.str x23, Ai x24, .bool x25, Au x26, Au x27, Au x28, Au x29]), .obj h.size (.cells none 2 [Au 0, Au 0, Au 0, Au 0])] F) ho ⟨_, _, _, _, _, _, _, _, rfl, H.ls, A⟩ ?_
  clear ho hm H A
  intro s q fr h9 hI hm
  obtain ⟨x23, x24, x25, x26, x27, x28, x29, x30, rfl, H, A⟩ := hI
  unfold Cv at hm
  refine AR (Af (id := 1) (by kernel_rfl) ?_)
  refine Af (id := 2) (by kernel_rfl) ?_
  refine AF 8 (Ah 3 [] 46 0 1 A H fun fr t H => ?_)
  refine AP 4 [(42, .bool (decide (x24 ≥ (p0.length : Int))))] H fun fr H => Ae 42 H hm (fun hb hm H => ?_) fun hb hm H => ?_
  ·refine AF 4 ?_
   obtain ⟨h10, hx, A⟩ := A.s1 0 [Au 0, Au 0, Au 0, Au 0] [_, _, _, _]
   refine Dm 1 [] hx H fun fr t H => ?_
   refine AP 2 [(7, Ai 0), (8, Ai 11)] H fun fr H => AY ?_
   exact nr hm fun e => Or.inr (.inl ⟨_, _, _, _, _, _, _, _, _, rfl, e, H.ls, A⟩)
  refine AF 12 (Ah 4 [(52, .str p0)] 56 0 1 A H fun fr t H => ?_)
  obtain ⟨x47, hx, hm⟩ := bind_some hm
  refine As 57 (Ab x47) h9 H (fun fr => .of (E5 (by kernel_rfl) hx)) fun fr t H => ?_
  refine AG 2 [(59, .bool (x47 == 93))] H fun fr H => A9 3 (fun fr' h' => h9 = h' ∧ Has fr' 86 [(0, .str p0), (6, .ptr (some (h.size, 0))), (9, .ptr (some (h2.size, 0))), (10, .bool x12), (62, .bool ((x47 == 93) && (!x30)))]) ?_ ?_
  ·cases hb : (x47 == 93 : Bool) with
   | true =>
    replace H := H.kn 59 hb
    exact AG 3 [(62, .bool (!x30))] H fun fr H => BK H hb
   | false =>
    replace H := H.kn 59 hb
    exact AG 3 [(62, .bool false)] H fun fr H => BK H hb
  intro t fr h' hK
  obtain ⟨e, H⟩ := hK
  subst e
  refine AP 1 [(51, .bool ((x47 == 93) && (!x30)))] H fun fr H => Ae 51 H hm (fun hb hm H => ?_) fun hb hm H => ?_
  ·refine Bz (i := 0) (by kernel_rfl) ?_
   exact nr hm fun e => .inl ⟨_, _, _, _, _, _, _, rfl, e, H.ls, A⟩
  refine AF 4 ?_
  obtain ⟨⟨x48, x49⟩, hx, hm⟩ := bind_some hm
  obtain ⟨v1, h11, hr, rfl, A1⟩ := Kv (av := [.ptr (some (h2.size, 0))]) hx (A.cut 1)
  replace A := A.g11 A1
  refine Ap 1 [] 65 hr H fun fr t H => ?_
  refine AP 2 [(63, .bool (!x48))] H fun fr H => Ae 63 H hm (fun hb hm H => ?_) fun hb hm H => ?_
  ·refine AF 4 ?_
   obtain ⟨h12, hx, A⟩ := A.s1 0 [Au 0, Au 0, Au 0, Au 0] [_, _, _, _]
   refine Dm 1 [] hx H fun fr t H => ?_
   refine AP 2 [(7, Ai 0), (8, Ai 11)] H fun fr H => AY ?_
   exact nr hm fun e => Or.inr (.inl ⟨_, _, _, _, _, _, _, _, _, rfl, e, H.ls, A⟩)
  refine F3 1 id (AG 1 [(11, .bool false)] H fun fr H => at_nil ?_)
  exact nx hm ⟨_, _, _, _, _, _, _, _, rfl, H.ls, A⟩
 clear ho
 clear A
 intro e fr h13 hQ
 rcases hQ with ⟨x31, x32, x33, x34, x35, x36, x37, rfl, rfl, H, A⟩ | ⟨x38, x39, x40, x41, x42, x43, x44, x45, x46, rfl, rfl, H, A⟩ | hF
 ·show AW _ _ _ _ _ _ _
  refine AR ?_
  obtain ⟨o2, ho, hm⟩ := bind_some hm
  refine BU (Q' := fun e fr' h' => (∃ x50 x51 x52 x53, e = .normal ∧ (x50, x51, x52, x53) = o2 ∧ Has fr' 86 [(6, .ptr (some (h.size, 0))), (9, .ptr (some (h2.size, 0)))] ∧ HH g h' [.obj h2.size (.cells none 2 [.str x31, Ai x32, .bool x33, Au x50, Au x51, Au x52, Au x53]), .obj h.size (.cells none 2 [Au 0, Au 0, Au 0, Au 0])] F) ∨ False) ?_ ?_
  ·replace hm := ho
   clear ho
   refine AF 1 (AP 1 [(68, .bool x12)] H fun fr H => Ae 68 H hm (fun hb hm H => ?_) fun hb hm H => ?_)
   ·refine DQ 9 (BA 4 [(69, .ptr (some (h2.size, 0)))] 73 _ _ H (fun fr => .of (B3 (by kernel_rfl) (A.F5 0 rfl (o := 3) (n := 4) ⟨Nat.le_of_ble_eq_true rfl, rfl⟩))) fun fr t H => ?_)
    obtain ⟨x54, hx, hm⟩ := bind_some hm
    obtain ⟨v1, h14, hr, rfl, A1⟩ := Je (av := [.agg [Au x34, Au x35, Au x36, Au x37]]) hx (A.cut 0)
    replace A := A.C4 A1
    refine A8 74 hr H fun fr t H => ?_
    obtain ⟨h15, hx, A⟩ := A.s0 3 (AN x54) [_, _, _, _, _, _, _]
    refine Dm 2 [] hx H fun fr t H => ?_
    refine at_nil ?_
    exact .inl ⟨_, _, _, _, rfl, Ag hm, H.ls, A⟩
   exact Fz (.inl ⟨_, _, _, _, rfl, Ag hm, H.ls, A⟩)
  clear ho
  clear A
  intro e fr h16 hQ
  rcases hQ with ⟨x50, x51, x52, x53, rfl, rfl, H, A⟩ | hF
  ·show AW _ _ _ _ _ _ _
   refine AR (JV 14 12 [(0, []), (1, []), (2, []), (3, []), (4, []), (5, []), (6, []), (7, []), (8, []), (9, [7]), (10, []), (11, [])] ?_)
   refine AG 3 [(79, .ptr (some (h2.size, 3)))] H fun fr H => CT 80 (.agg [Au x50, Au x51, Au x52, Au x53]) h16 [(3, h2.size)] (g.Bo) H (fun fr => .of (B3 (by kernel_rfl) (A.la 0 3 4))) (fun fr H => ?_)
   refine AG 3 [(83, .ptr (some (h2.size, 1)))] H fun fr H => CT 84 (Ai x32) h16 [(7, h2.size), (3, h2.size)] (g.Bo) H (fun fr => .of (EP (by kernel_rfl) (A.l1 0 1))) (fun fr H => ?_)
   refine AG 1 [(85, Ai (IntKind.i64.wrap (x32 + 1)))] H fun fr H => ?_
   replace A := A.k2 1 0
   have A1 := A.Hz 1 (pr := [h2.size]) (.cons 0 rfl (by simp [Ck.ids]) .nil)
   obtain ⟨h17, hx, A1⟩ := A1.st 0 rfl (o := 0) (new := [Au x50, Au x51, Au x52, Au x53]) (ds := [Au x50, Au x51, Au x52, Au x53]) (Nat.le_of_ble_eq_true rfl) rfl rfl
   replace A := A.XJ A1
   refine H5 (.tuple []) h17 [(7, h2.size), (3, h2.size)] (h2.size :: g.Bo) H (fun fr => .of (LZ (by kernel_rfl) (JU hx rfl))) (fun fr H => ?_)
   refine AP 2 [(7, Ai (IntKind.i64.wrap (x32 + 1))), (8, Ai 0)] H fun fr H => AY ?_
   obtain ⟨rfl, rfl, rfl⟩ := Ho hm
   refine ⟨.inl rfl, .tuple [.agg [Au x50, Au x51, Au x52, Au x53], Ai (IntKind.i64.wrap (x32 + 1)), Ai 0], B8 (.cell (rT H) (BL (by kernel_rfl) (by kernel_rfl) (A.la 0 0 4)) (.tmp (rT H) (.tmp (rT H) .nil))), ?_⟩
   replace A := A.d0
   exact ⟨rfl, A⟩
  exact hF.elim
 ·obtain ⟨rfl, rfl, rfl⟩ := Ho hm
  refine ⟨.inl rfl, .tuple [.agg [Au 0, Au 0, Au 0, Au 0], Ai x45, Ai x46], B8 (.cell (rT H) (BL (by kernel_rfl) (by kernel_rfl) (A.la 1 0 4)) (.tmp (rT H) (.tmp (rT H) .nil))), ?_⟩
  replace A := A.d0
  exact ⟨rfl, A⟩
 exact hF.elim
def Bm (p0 : List UInt8) (s : (List AM) × Int) : Option (((List AM) × Int) ⊕ (((List AM)) ⊕ (Int × Int))) :=
 match s with
 | (x1, x2) => Ac (decide (x2 < (p0.length : Int))) (Ac ((x1.length : Int) == 1024) (some (.inr (.inr (x2, (8 : Int))))) ((KW p0 x2).bind fun x6 => Ac (x6 == 42) (Ca (Lw 48 (x1.length + ([(⟨(4 : Int), (0 : Int), (⟨(0 : Int), (0 : Int), (0 : Int), (0 : Int)⟩ : Ad)⟩ : AM)] : List AM).length)) <| some (.inl ((x1 ++ ([(⟨(4 : Int), (0 : Int), (⟨(0 : Int), (0 : Int), (0 : Int), (0 : Int)⟩ : Ad)⟩ : AM)] : List AM)), IntKind.i64.wrap (x2 + 1)))) (Ac (x6 == 63) (Ca (Lw 48 (x1.length + ([(⟨(2 : Int), (0 : Int), (⟨(0 : Int), (0 : Int), (0 : Int), (0 : Int)⟩ : Ad)⟩ : AM)] : List AM).length)) <| some (.inl ((x1 ++ ([(⟨(2 : Int), (0 : Int), (⟨(0 : Int), (0 : Int), (0 : Int), (0 : Int)⟩ : Ad)⟩ : AM)] : List AM)), IntKind.i64.wrap (x2 + 1)))) (Ac (x6 == 91) ((Eo p0 x2 true).bind fun (x7, x8, x9) => Ac (x9 != 0) (some (.inr (.inr (x2, x9)))) (Ca (Lw 48 (x1.length + ([(⟨(3 : Int), (0 : Int), x7⟩ : AM)] : List AM).length)) <| some (.inl ((x1 ++ ([(⟨(3 : Int), (0 : Int), x7⟩ : AM)] : List AM)), x8)))) (Ac (x6 == 92) (Ac (x2 == (IntKind.i64.wrap ((p0.length : Int) - 1))) (some (.inr (.inr (x2, (11 : Int))))) ((KW p0 (IntKind.i64.wrap (x2 + 1))).bind fun x10 => Ca (Lw 48 (x1.length + ([(⟨(1 : Int), x10, (⟨(0 : Int), (0 : Int), (0 : Int), (0 : Int)⟩ : Ad)⟩ : AM)] : List AM).length)) <| some (.inl ((x1 ++ ([(⟨(1 : Int), x10, (⟨(0 : Int), (0 : Int), (0 : Int), (0 : Int)⟩ : Ad)⟩ : AM)] : List AM)), IntKind.i64.wrap (x2 + 2))))) (Ca (Lw 48 (x1.length + ([(⟨(1 : Int), x6, (⟨(0 : Int), (0 : Int), (0 : Int), (0 : Int)⟩ : Ad)⟩ : AM)] : List AM).length)) <| some (.inl ((x1 ++ ([(⟨(1 : Int), x6, (⟨(0 : Int), (0 : Int), (0 : Int), (0 : Int)⟩ : Ad)⟩ : AM)] : List AM)), IntKind.i64.wrap (x2 + 1))))))))) (some (.inr (.inl x1)))
def Fy (p0 : List UInt8) : Option ((List AM) × Int × Int) :=
 (loop (Bm p0) (([] : List AM), (0 : Int))).bind fun o1 => (match o1 with | .inl x3 => some (x3, (0 : Int), (0 : Int)) | .inr (x4, x5) => some (([] : List AM), x4, x5))
theorem Lf {p0 q0 q1 q2} (hm : Fy p0 = some (q0, q1, q2)) (A : HH g h [] F) (hc : Ba (cfg.still 85) av = [.str p0] := by kernel_rfl) : ∃ v h', Bi cfg g h 85 av v h' ∧ ∃ (rq0 : Option Nat), v = .tuple [AH rq0 q0.length, Ai q1, Ai q2] ∧ HH g h' [.AK rq0 219 (AK AO q0)] F := by
 refine EN 84 [.tmp 2, .tmp 3, .tmp 4] hc ?_
 clear hc
 unfold Fy at hm
 refine bg 84 [(0, .str p0)] fun fr H => ?_
 refine AF 3 (B1 3 [] 1 H fun fr H => AP 1 [(5, .slice none 0)] H fun fr H => AR (AF 1 (AP 1 [(6, Ai 0)] H fun fr H => Af (id := 0) (by kernel_rfl) ?_)))
 replace A : HH g h [.AK none 219 (AK AO ([] : List AM))] F := A.KI 219
 obtain ⟨o1, ho, hm⟩ := bind_some hm
 refine BU (Q' := fun e fr' h' => (∃ x3, e = .exit 0 ∧ .inl x3 = o1 ∧ ∃ r2, Has fr' 84 [(5, AH r2 x3.length)] ∧ HH g h' [.AK r2 219 (AK AO x3)] F) ∨ (∃ x4 x5, e = .ret ∧ .inr (x4, x5) = o1 ∧ Has fr' 84 [(2, .slice none 0), (3, Ai x4), (4, Ai x5)] ∧ HH g h' [] F) ∨ False) ?_ ?_
 ·refine CH (by kernel_rfl) (fun (s : (List AM) × Int) fr' h' => ∃ x1 x2, (x1, x2) = s ∧ ∃ r1, Has fr' 84 [(0, .str p0), (5, AH r1 x1.length), (6, Ai x2)] ∧ HH g h' [.AK r1 219 (AK AO x1)] F) ho ⟨_, _, rfl, none, H.ls, A⟩ ?_
  clear ho hm H A
  intro s q fr h1 hI hm
  obtain ⟨x1, x2, rfl, r1, H, A⟩ := hI
  unfold Bm at hm
  refine AR (AF 4 (AP 4 [(14, .bool (decide (x2 < (p0.length : Int))))] H fun fr H => Ae 14 H hm (fun hb hm H => ?_) fun hb hm H => ?_))
  ·refine B0 id (Af (id := 1) (by kernel_rfl) ?_)
   refine AR (AF 3 (AP 3 [(17, .bool ((x1.length : Int) == 1024))] H fun fr H => Ae 17 H hm (fun hb hm H => ?_) fun hb hm H => ?_))
   ·refine AF 4 (AP 4 [(2, .slice none 0), (3, Ai x2), (4, Ai 8)] H fun fr H => AY ?_)
    replace A := A.d0
    exact nr hm fun e => Or.inr (.inl ⟨_, _, rfl, e, H.ls, A⟩)
   refine CN 4 id ?_
   obtain ⟨x6, hx, hm⟩ := bind_some hm
   refine BA 2 [] 21 (Ab x6) h1 H (fun fr => .of (E5 (by kernel_rfl) hx)) fun fr t H => ?_
   refine B1 1 [(7, Ab x6)] 1 H fun fr H => AP 1 [(22, Ab x6)] H fun fr H => Af (id := 2) (by kernel_rfl) ?_
   refine AF 2 (AP 2 [(30, .bool (x6 == 42))] H fun fr H => Ae 30 H hm (fun hb hm H => ?_) fun hb hm H => ?_)
   ·refine AF 5 (AG 2 [(32, AH r1 x1.length), (33, .agg [Ai 4, Ab 0, Au 0, Au 0, Au 0, Au 0])] H fun fr H => ?_)
    obtain ⟨h2, e1, A⟩ := A.pL 219 [Ai 4, Ab 0, Au 0, Au 0, Au 0, Au 0]
    refine BP 34 (AH (some h1.size) (([(⟨(4 : Int), (0 : Int), (⟨(0 : Int), (0 : Int), (0 : Int), (0 : Int)⟩ : Ad)⟩ : AM)] : List AM).length)) e1 H fun fr t H => ?_
    obtain ⟨hb, hm⟩ := BE hm
    obtain ⟨r3, h3, hx, A1⟩ := HH.J2 Bw (by decide) A 1 (xs := x1) (ys := ([(⟨(4 : Int), (0 : Int), (⟨(0 : Int), (0 : Int), (0 : Int), (0 : Int)⟩ : Ad)⟩ : AM)] : List AM)) rfl (Cl A 0 rfl (n := ([(⟨(4 : Int), (0 : Int), (⟨(0 : Int), (0 : Int), (0 : Int), (0 : Int)⟩ : Ad)⟩ : AM)] : List AM).length) (z := 6) rfl (by decide)) rfl rfl hb
    replace A : HH g h3 [.AK (some h1.size) 219 ([Ai 4, Ab 0, Au 0, Au 0, Au 0, Au 0]), .AK r3 219 (AK AO (x1 ++ ([(⟨(4 : Int), (0 : Int), (⟨(0 : Int), (0 : Int), (0 : Int), (0 : Int)⟩ : Ad)⟩ : AM)] : List AM)))] F := A1
    replace A := A.k1 1
    refine As 35 _ _ H (fun fr => .of (G3 (s := De r1 x1.length) (by kernel_rfl) hx)) fun fr t H => ?_
    refine BV 1 [(0, .str p0), (5, AH r3 ((x1 ++ ([(⟨(4 : Int), (0 : Int), (⟨(0 : Int), (0 : Int), (0 : Int), (0 : Int)⟩ : Ad)⟩ : AM)] : List AM)).length)), (6, Ai x2)] H fun fr H => F4 3 id (BV 3 [(0, .str p0), (5, AH r3 ((x1 ++ ([(⟨(4 : Int), (0 : Int), (⟨(0 : Int), (0 : Int), (0 : Int), (0 : Int)⟩ : Ad)⟩ : AM)] : List AM)).length)), (6, Ai (IntKind.i64.wrap (x2 + 1)))] H fun fr H => at_nil ?_)
    exact nx hm ⟨_, _, rfl, _, H.ls, A⟩
   refine AF 2 (AP 2 [(38, .bool (x6 == 63))] H fun fr H => Ae 38 H hm (fun hb hm H => ?_) fun hb hm H => ?_)
   ·refine AF 5 (AG 2 [(40, AH r1 x1.length), (41, .agg [Ai 2, Ab 0, Au 0, Au 0, Au 0, Au 0])] H fun fr H => ?_)
    obtain ⟨h4, e2, A⟩ := A.pL 219 [Ai 2, Ab 0, Au 0, Au 0, Au 0, Au 0]
    refine BP 42 (AH (some h1.size) (([(⟨(2 : Int), (0 : Int), (⟨(0 : Int), (0 : Int), (0 : Int), (0 : Int)⟩ : Ad)⟩ : AM)] : List AM).length)) e2 H fun fr t H => ?_
    obtain ⟨hb, hm⟩ := BE hm
    obtain ⟨r4, h5, hx, A1⟩ := HH.J2 Bw (by decide) A 1 (xs := x1) (ys := ([(⟨(2 : Int), (0 : Int), (⟨(0 : Int), (0 : Int), (0 : Int), (0 : Int)⟩ : Ad)⟩ : AM)] : List AM)) rfl (Cl A 0 rfl (n := ([(⟨(2 : Int), (0 : Int), (⟨(0 : Int), (0 : Int), (0 : Int), (0 : Int)⟩ : Ad)⟩ : AM)] : List AM).length) (z := 6) rfl (by decide)) rfl rfl hb
    replace A : HH g h5 [.AK (some h1.size) 219 ([Ai 2, Ab 0, Au 0, Au 0, Au 0, Au 0]), .AK r4 219 (AK AO (x1 ++ ([(⟨(2 : Int), (0 : Int), (⟨(0 : Int), (0 : Int), (0 : Int), (0 : Int)⟩ : Ad)⟩ : AM)] : List AM)))] F := A1
    replace A := A.k1 1
    refine As 43 _ _ H (fun fr => .of (G3 (s := De r1 x1.length) (by kernel_rfl) hx)) fun fr t H => ?_
    refine BV 1 [(0, .str p0), (5, AH r4 ((x1 ++ ([(⟨(2 : Int), (0 : Int), (⟨(0 : Int), (0 : Int), (0 : Int), (0 : Int)⟩ : Ad)⟩ : AM)] : List AM)).length)), (6, Ai x2)] H fun fr H => F4 3 id (BV 3 [(0, .str p0), (5, AH r4 ((x1 ++ ([(⟨(2 : Int), (0 : Int), (⟨(0 : Int), (0 : Int), (0 : Int), (0 : Int)⟩ : Ad)⟩ : AM)] : List AM)).length)), (6, Ai (IntKind.i64.wrap (x2 + 1)))] H fun fr H => at_nil ?_)
    exact nx hm ⟨_, _, rfl, _, H.ls, A⟩
   refine AF 2 (AP 2 [(46, .bool (x6 == 91))] H fun fr H => Ae 46 H hm (fun hb hm H => ?_) fun hb hm H => ?_)
   ·refine AF 11 ?_
    obtain ⟨⟨x7, x8, x9⟩, hx, hm⟩ := bind_some hm
    obtain ⟨v1, h6, hr, rfl, A1⟩ := MY (av := [.str p0, Ai x2, .bool true]) hx (A.cut 0)
    replace A := A.C4 A1
    refine Ap 2 [] 51 hr H fun fr t H => ?_
    obtain ⟨h7, e3, A⟩ := A.pu (.cells none 2 [Au 0, Au 0, Au 0, Au 0])
    refine Gf 4 [(52, .agg (AN x7)), (53, Ai x8), (54, Ai x9)] 8 (.ptr (some (h6.size, 0))) e3 H fun fr t H => ?_
    obtain ⟨h8, hx, A⟩ := A.s0 0 (AN x7) [_, _, _, _]
    refine Cy hx H fun fr t H => ?_
    refine AP 2 [(9, Ai x8), (10, Ai x9)] H fun fr H => AR (AF 2 (AP 2 [(56, .bool (x9 != 0))] H fun fr H => Ae 56 H hm (fun hb hm H => ?_) fun hb hm H => ?_))
    ·refine AF 5 (AP 5 [(2, .slice none 0), (3, Ai x2), (4, Ai x9)] H fun fr H => AY ?_)
     replace A := A.d0
     exact nr hm fun e => Or.inr (.inl ⟨_, _, rfl, e, H.ls, A⟩)
    refine CN 6 id (BA 1 [(59, AH r1 x1.length)] 60 _ _ H (fun fr => .of (B3 (by kernel_rfl) (A.F5 0 rfl (o := 0) (n := 4) ⟨Nat.le_of_ble_eq_true rfl, rfl⟩))) fun fr t H => ?_)
    refine AG 1 [(61, .agg [Ai 3, Ab 0, Au x7.w0, Au x7.w1, Au x7.w2, Au x7.w3])] H fun fr H => ?_
    obtain ⟨h9, e4, A⟩ := A.pL 219 [Ai 3, Ab 0, Au x7.w0, Au x7.w1, Au x7.w2, Au x7.w3]
    refine BP 62 (AH (some h8.size) (([(⟨(3 : Int), (0 : Int), x7⟩ : AM)] : List AM).length)) e4 H fun fr t H => ?_
    obtain ⟨hb, hm⟩ := BE hm
    obtain ⟨r5, h10, hx, A1⟩ := HH.J2 Bw (by decide) A 2 (xs := x1) (ys := ([(⟨(3 : Int), (0 : Int), x7⟩ : AM)] : List AM)) rfl (Cl A 0 rfl (n := ([(⟨(3 : Int), (0 : Int), x7⟩ : AM)] : List AM).length) (z := 6) rfl (by decide)) rfl rfl hb
    replace A : HH g h10 [.AK (some h8.size) 219 ([Ai 3, Ab 0, Au x7.w0, Au x7.w1, Au x7.w2, Au x7.w3]), _, .AK r5 219 (AK AO (x1 ++ ([(⟨(3 : Int), (0 : Int), x7⟩ : AM)] : List AM)))] F := A1
    replace A := A.k2 1 2
    refine As 63 _ _ H (fun fr => .of (G3 (s := De r1 x1.length) (by kernel_rfl) hx)) fun fr t H => ?_
    refine BV 1 [(0, .str p0), (5, AH r5 ((x1 ++ ([(⟨(3 : Int), (0 : Int), x7⟩ : AM)] : List AM)).length)), (9, Ai x8)] H fun fr H => F4 2 id (AG 2 [(6, Ai x8)] H fun fr H => at_nil ?_)
    replace A := A.k1 1
    exact nx hm ⟨_, _, rfl, _, H.ls, A⟩
   refine AF 2 (AP 2 [(65, .bool (x6 == 92))] H fun fr H => Ae 65 H hm (fun hb hm H => ?_) fun hb hm H => ?_)
   ·refine AR (AF 5 (AP 5 [(71, .bool (x2 == (IntKind.i64.wrap ((p0.length : Int) - 1))))] H fun fr H => Ae 71 H hm (fun hb hm H => ?_) fun hb hm H => ?_))
    ·refine AF 4 (AP 4 [(2, .slice none 0), (3, Ai x2), (4, Ai 11)] H fun fr H => AY ?_)
     replace A := A.d0
     exact nr hm fun e => Or.inr (.inl ⟨_, _, rfl, e, H.ls, A⟩)
    refine CN 9 id ?_
    obtain ⟨x10, hx, hm⟩ := bind_some hm
    refine BA 4 [(73, AH r1 x1.length)] 77 (Ab x10) h1 H (fun fr => .of (E5 (by kernel_rfl) hx)) fun fr t H => ?_
    refine AG 1 [(78, .agg [Ai 1, Ab x10, Au 0, Au 0, Au 0, Au 0])] H fun fr H => ?_
    obtain ⟨h11, e5, A⟩ := A.pL 219 [Ai 1, Ab x10, Au 0, Au 0, Au 0, Au 0]
    refine BP 79 (AH (some h1.size) (([(⟨(1 : Int), x10, (⟨(0 : Int), (0 : Int), (0 : Int), (0 : Int)⟩ : Ad)⟩ : AM)] : List AM).length)) e5 H fun fr t H => ?_
    obtain ⟨hb, hm⟩ := BE hm
    obtain ⟨r6, h12, hx, A1⟩ := HH.J2 Bw (by decide) A 1 (xs := x1) (ys := ([(⟨(1 : Int), x10, (⟨(0 : Int), (0 : Int), (0 : Int), (0 : Int)⟩ : Ad)⟩ : AM)] : List AM)) rfl (Cl A 0 rfl (n := ([(⟨(1 : Int), x10, (⟨(0 : Int), (0 : Int), (0 : Int), (0 : Int)⟩ : Ad)⟩ : AM)] : List AM).length) (z := 6) rfl (by decide)) rfl rfl hb
    replace A : HH g h12 [.AK (some h1.size) 219 ([Ai 1, Ab x10, Au 0, Au 0, Au 0, Au 0]), .AK r6 219 (AK AO (x1 ++ ([(⟨(1 : Int), x10, (⟨(0 : Int), (0 : Int), (0 : Int), (0 : Int)⟩ : Ad)⟩ : AM)] : List AM)))] F := A1
    replace A := A.k1 1
    refine As 80 _ _ H (fun fr => .of (G3 (s := De r1 x1.length) (by kernel_rfl) hx)) fun fr t H => ?_
    refine BV 1 [(0, .str p0), (5, AH r6 ((x1 ++ ([(⟨(1 : Int), x10, (⟨(0 : Int), (0 : Int), (0 : Int), (0 : Int)⟩ : Ad)⟩ : AM)] : List AM)).length)), (6, Ai x2)] H fun fr H => F4 3 id (BV 3 [(0, .str p0), (5, AH r6 ((x1 ++ ([(⟨(1 : Int), x10, (⟨(0 : Int), (0 : Int), (0 : Int), (0 : Int)⟩ : Ad)⟩ : AM)] : List AM)).length)), (6, Ai (IntKind.i64.wrap (x2 + 2)))] H fun fr H => at_nil ?_)
    exact nx hm ⟨_, _, rfl, _, H.ls, A⟩
   refine AF 6 (AG 3 [(23, AH r1 x1.length), (25, .agg [Ai 1, Ab x6, Au 0, Au 0, Au 0, Au 0])] H fun fr H => ?_)
   obtain ⟨h13, e6, A⟩ := A.pL 219 [Ai 1, Ab x6, Au 0, Au 0, Au 0, Au 0]
   refine BP 26 (AH (some h1.size) (([(⟨(1 : Int), x6, (⟨(0 : Int), (0 : Int), (0 : Int), (0 : Int)⟩ : Ad)⟩ : AM)] : List AM).length)) e6 H fun fr t H => ?_
   obtain ⟨hb, hm⟩ := BE hm
   obtain ⟨r7, h14, hx, A1⟩ := HH.J2 Bw (by decide) A 1 (xs := x1) (ys := ([(⟨(1 : Int), x6, (⟨(0 : Int), (0 : Int), (0 : Int), (0 : Int)⟩ : Ad)⟩ : AM)] : List AM)) rfl (Cl A 0 rfl (n := ([(⟨(1 : Int), x6, (⟨(0 : Int), (0 : Int), (0 : Int), (0 : Int)⟩ : Ad)⟩ : AM)] : List AM).length) (z := 6) rfl (by decide)) rfl rfl hb
   replace A : HH g h14 [.AK (some h1.size) 219 ([Ai 1, Ab x6, Au 0, Au 0, Au 0, Au 0]), .AK r7 219 (AK AO (x1 ++ ([(⟨(1 : Int), x6, (⟨(0 : Int), (0 : Int), (0 : Int), (0 : Int)⟩ : Ad)⟩ : AM)] : List AM)))] F := A1
   replace A := A.k1 1
   refine As 27 _ _ H (fun fr => .of (G3 (s := De r1 x1.length) (by kernel_rfl) hx)) fun fr t H => ?_
   refine BV 1 [(0, .str p0), (5, AH r7 ((x1 ++ ([(⟨(1 : Int), x6, (⟨(0 : Int), (0 : Int), (0 : Int), (0 : Int)⟩ : Ad)⟩ : AM)] : List AM)).length)), (6, Ai x2)] H fun fr H => F4 3 id (BV 3 [(0, .str p0), (5, AH r7 ((x1 ++ ([(⟨(1 : Int), x6, (⟨(0 : Int), (0 : Int), (0 : Int), (0 : Int)⟩ : Ad)⟩ : AM)] : List AM)).length)), (6, Ai (IntKind.i64.wrap (x2 + 1)))] H fun fr H => at_nil ?_)
   exact nx hm ⟨_, _, rfl, _, H.ls, A⟩
  refine Bz (i := 0) (by kernel_rfl) ?_
  exact nr hm fun e => .inl ⟨_, rfl, e, _, H.ls, A⟩
 clear ho
 clear A
 intro e fr h15 hQ
 rcases hQ with ⟨x3, rfl, rfl, r2, H, A⟩ | ⟨x4, x5, rfl, rfl, H, A⟩ | hF
 ·show AW _ _ _ _ _ _ _
  refine AF 4 (AP 4 [(2, AH r2 x3.length), (3, Ai 0), (4, Ai 0)] H fun fr H => AY ?_)
  obtain ⟨rfl, rfl, rfl⟩ := Ho hm
  exact ⟨.inl rfl, _, rH H, _, rfl, A⟩
 ·obtain ⟨rfl, rfl, rfl⟩ := Ho hm
  refine ⟨.inl rfl, .tuple [.slice none 0, Ai x4, Ai x5], rH H, ?_⟩
  replace A : HH g h15 [.AK none 219 (AK AO ([] : List AM))] F := A.KI 219
  exact ⟨none, rfl, A⟩
 exact hF.elim
def C2 (p0 : CF) (p1 : List UInt8) (p3 : Int) (p4 : Int) : Option (Cw × (List AD)) :=
 (Fy p1).bind fun (x1, x2, x3) => Ac (x3 != 0) (some ((⟨(11 : Int), p4⟩ : Cw), p0.c_.AS)) (Ac ((IntKind.i64.wrap ((p0.c_.AQ.length : Int) + (p0.c_.AS.length : Int))) == 256) (some ((⟨(8 : Int), p3⟩ : Cw), p0.c_.AS)) (Ca (Lw 24 (p0.c_.AS.length + ([(⟨p1, p0.Aw.Bu, p0.Aw.Fold, p0.Aw.BG⟩ : AD)] : List AD).length)) <| (Fa).bind fun x4 => some (x4, (p0.c_.AS ++ ([(⟨p1, p0.Aw.Bu, p0.Aw.Fold, p0.Aw.BG⟩ : AD)] : List AD)))))
theorem Fo {p0 p1 p3 p4 bp0 rp0_0 rp0_1 rp0_2 bp0_20 q0 u2} (hm : C2 p0 p1 p3 p4 = some (q0, u2)) (A : HH g h [.obj bp0 (.cells none 2 [AH rp0_0 p0.c_.AQ.length, AH rp0_1 p0.c_.AS.length, AH rp0_2 p0.c_.Bt.length, .bool p0.c_.FT, .bool p0.c_.Ay, Ai p0.c_.BN, .bool p0.c_.Be, Ai p0.c_.An.CX, Ai p0.c_.An.BS, Ai p0.c_.Eu, Ai p0.c_.Bf, Ai p0.c_.Name, Ai p0.c_.Head, Ai p0.c_.BF, .str p0.Aw.Text, .bool p0.Aw.Bu, .bool p0.Aw.Fold, .bool p0.Aw.BG, .str p0.GB, Ai p0.at_, .map (some bp0_20)]), .AK rp0_0 31 (AK AA p0.c_.AQ), .AK rp0_1 31 (AK AA p0.c_.AS), .AK rp0_2 92 (AK AL p0.c_.Bt), .obj bp0_20 (.map 2 (CL (fun k : List UInt8 => .str k) (fun v : Bool => .bool v) p0.Bx))] F) (hc : Ba (cfg.still 50) av = [.ptr (some (bp0, 0)), .str p1, .ptr (some (bp0, 1)), Ai p3, Ai p4] := by kernel_rfl) : ∃ v h', Bi cfg g h 50 av v h' ∧ ∃ (r'2 : Option Nat), v = .agg [Ai q0.e_, Ai q0.at_] ∧ HH g h' [.obj bp0 (.cells none 2 [AH rp0_0 p0.c_.AQ.length, AH r'2 u2.length, AH rp0_2 p0.c_.Bt.length, .bool p0.c_.FT, .bool p0.c_.Ay, Ai p0.c_.BN, .bool p0.c_.Be, Ai p0.c_.An.CX, Ai p0.c_.An.BS, Ai p0.c_.Eu, Ai p0.c_.Bf, Ai p0.c_.Name, Ai p0.c_.Head, Ai p0.c_.BF, .str p0.Aw.Text, .bool p0.Aw.Bu, .bool p0.Aw.Fold, .bool p0.Aw.BG, .str p0.GB, Ai p0.at_, .map (some bp0_20)]), .AK rp0_0 31 (AK AA p0.c_.AQ), .AK r'2 31 (AK AA u2), .AK rp0_2 92 (AK AL p0.c_.Bt), .obj bp0_20 (.map 2 (CL (fun k : List UInt8 => .str k) (fun v : Bool => .bool v) p0.Bx))] F := by
 refine EN 56 [.cell 10 77] hc ?_
 clear hc
 unfold C2 at hm
 refine bg 56 [(0, .ptr (some (bp0, 0))), (1, .str p1), (2, .ptr (some (bp0, 1))), (3, Ai p3), (4, Ai p4)] fun fr H => ?_
 refine AF 1 ?_
 obtain ⟨h1, e1, A⟩ := A.pu (.cells none 2 [Ai 0, Ai 0])
 refine BP 10 (.ptr (some (h.size, 0))) e1 H fun fr t H => ?_
 refine BD id (AR (AF 9 ?_))
 obtain ⟨⟨x1, x2, x3⟩, hx, hm⟩ := bind_some hm
 obtain ⟨v1, h2, hr, rqw1, rfl, A1⟩ := Lf (av := [.str p1]) hx (A.cut 0)
 replace A : HH g h2 [.AK rqw1 219 (AK AO x1), .obj h.size (.cells none 2 [Ai (0 : Int), Ai (0 : Int)]), _, _, _, _, _] F := A.Cp (n := 0) A1
 refine Ap 1 [] 17 hr H fun fr t H => ?_
 refine B1 7 [(13, Ai x3)] 2 H fun fr H => AP 2 [(22, .bool (x3 != 0))] H fun fr H => Ae 22 H hm (fun hb hm H => ?_) fun hb hm H => ?_
 ·refine AF 3 ?_
  obtain ⟨h3, hx, A⟩ := A.s1 0 [Ai 11, Ai p4] [_, _]
  refine Dm 2 [] hx H fun fr t H => ?_
  refine BD id (AY ?_)
  obtain ⟨rfl, rfl⟩ := B6 hm
  refine ⟨.inl rfl, .agg [Ai 11, Ai p4], CS (.cell (rT H) (BL (by kernel_rfl) (by kernel_rfl) (A.la 1 0 2)) .nil), ?_⟩
  replace A := A.k5 2 3 4 5 6
  exact ⟨rp0_1, rfl, A⟩
 refine B0 id (AR (AR (Df 4 14 ?_)))
 refine Ah 4 [] 29 2 0 A H fun fr t H => ?_
 refine Ah 5 [(30, Ai (p0.c_.AQ.length : Int))] 35 2 1 A H fun fr t H => ?_
 refine AP 3 [(38, .bool ((IntKind.i64.wrap ((p0.c_.AQ.length : Int) + (p0.c_.AS.length : Int))) == 256))] H fun fr H => Ae 38 H hm (fun hb hm H => ?_) fun hb hm H => ?_
 ·refine AF 3 ?_
  obtain ⟨h4, hx, A⟩ := A.s1 0 [Ai 8, Ai p3] [_, _]
  refine Dm 2 [] hx H fun fr t H => ?_
  refine BD id (AY ?_)
  obtain ⟨rfl, rfl⟩ := B6 hm
  refine ⟨.inl rfl, .agg [Ai 8, Ai p3], CS (.cell (rT H) (BL (by kernel_rfl) (by kernel_rfl) (A.la 1 0 2)) .nil), ?_⟩
  replace A := A.k5 2 3 4 5 6
  exact ⟨rp0_1, rfl, A⟩
 refine CN 6 id (BA 3 [] 44 _ _ H (fun fr => .of (B3 (by kernel_rfl) (A.F5 2 rfl (o := 14) (n := 4) ⟨Nat.le_of_ble_eq_true rfl, rfl⟩))) fun fr t H => ?_)
 obtain ⟨h5, e2, A⟩ := A.pu (.cells none 2 [.str ([] : List UInt8), .bool false, .bool false, .bool false])
 refine BP 14 (.ptr (some (h2.size, 0))) e2 H fun fr t H => ?_
 obtain ⟨h6, hx, A⟩ := A.s0 0 (AA p0.Aw) [_, _, _, _]
 refine Cy hx H fun fr t H => ?_
 refine CI 3 id ?_
 obtain ⟨h7, hx, A⟩ := A.s0 0 [.str p1] [_, _, _, _]
 refine Dn 2 [] hx H fun fr t H => ?_
 refine BD id (AR (Df 8 9 ?_))
 refine Ah 3 [(47, .ptr (some (bp0, 1)))] 50 3 1 A H fun fr t H => ?_
 refine As 51 _ _ H (fun fr => .of (B3 (by kernel_rfl) (A.F5 0 rfl (o := 0) (n := 4) ⟨Nat.le_of_ble_eq_true rfl, rfl⟩))) fun fr t H => ?_
 obtain ⟨h8, e3, A⟩ := A.pL 31 (Jd p0.Aw (.str p1))
 refine BP 52 (AH (some h7.size) (([(⟨p1, p0.Aw.Bu, p0.Aw.Fold, p0.Aw.BG⟩ : AD)] : List AD).length)) e3 H fun fr t H => ?_
 obtain ⟨hb, hm⟩ := BE hm
 obtain ⟨r1, h9, hx, A1⟩ := HH.J2 BQ (by decide) A 6 (xs := p0.c_.AS) (ys := ([(⟨p1, p0.Aw.Bu, p0.Aw.Fold, p0.Aw.BG⟩ : AD)] : List AD)) rfl (Cl A 0 rfl (n := ([(⟨p1, p0.Aw.Bu, p0.Aw.Fold, p0.Aw.BG⟩ : AD)] : List AD).length) (z := 4) rfl (by decide)) rfl rfl hb
 replace A : HH g h9 [.AK (some h7.size) 31 ((Jd p0.Aw (.str p1))), _, _, _, _, _, .AK r1 31 (AK AA (p0.c_.AS ++ ([(⟨p1, p0.Aw.Bu, p0.Aw.Fold, p0.Aw.BG⟩ : AD)] : List AD))), _, _] F := A1
 replace A := A.k8 1 2 3 4 5 6 7 8
 refine As 53 _ _ H (fun fr => .of (G3 (s := De rp0_1 p0.c_.AS.length) (by kernel_rfl) hx)) fun fr t H => ?_
 obtain ⟨h10, hx, A1⟩ := A.st 3 rfl (o := 1) (new := [AH r1 ((p0.c_.AS ++ ([(⟨p1, p0.Aw.Bu, p0.Aw.Fold, p0.Aw.BG⟩ : AD)] : List AD)).length)]) (ds := [AH rp0_0 p0.c_.AQ.length, AH r1 ((p0.c_.AS ++ ([(⟨p1, p0.Aw.Bu, p0.Aw.Fold, p0.Aw.BG⟩ : AD)] : List AD)).length), AH rp0_2 p0.c_.Bt.length, .bool p0.c_.FT, .bool p0.c_.Ay, Ai p0.c_.BN, .bool p0.c_.Be, Ai p0.c_.An.CX, Ai p0.c_.An.BS, Ai p0.c_.Eu, Ai p0.c_.Bf, Ai p0.c_.Name, Ai p0.c_.Head, Ai p0.c_.BF, .str p0.Aw.Text, .bool p0.Aw.Bu, .bool p0.Aw.Fold, .bool p0.Aw.BG, .str p0.GB, Ai p0.at_, .map (some bp0_20)]) (Nat.le_of_ble_eq_true rfl) rfl rfl
 replace A : HH g h10 [_, _, _, .obj bp0 (.cells none 2 [_, AH r1 ((p0.c_.AS ++ ([(⟨p1, p0.Aw.Bu, p0.Aw.Fold, p0.Aw.BG⟩ : AD)] : List AD)).length), _, _, _, _, _, _, _, _, _, _, _, _, _, _, _, _, _, _, _]), _, _, _, _] F := A1
 refine Dn 1 [] hx H fun fr t H => ?_
 refine CI 2 id ?_
 obtain ⟨x4, hx, hm⟩ := bind_some hm
 obtain ⟨v1, h11, hr, rfl, A1⟩ := Gu (av := []) hx (A.cut 0)
 replace A := A.C4 A1
 refine A8 55 hr H fun fr t H => ?_
 obtain ⟨h12, hx, A⟩ := A.s2 0 [Ai x4.e_, Ai x4.at_] [_, _]
 refine Cy hx H fun fr t H => ?_
 refine BD id (AY ?_)
 obtain ⟨rfl, rfl⟩ := B6 hm
 refine ⟨.inl rfl, .agg [Ai x4.e_, Ai x4.at_], CS (.cell (rT H) (BL (by kernel_rfl) (by kernel_rfl) (A.la 2 0 2)) .nil), ?_⟩
 replace A := A.k5 3 4 5 6 7
 exact ⟨r1, rfl, A⟩
def Ei (p0 : CF) (p1 : List UInt8) (p2 : Int) (p3 : Int) : Option (Cw × (List AD)) :=
 (C2 p0 p1 p2 p3).bind fun (x1, x2) => some (x1, x2)
theorem Iu {p0 p1 p2 p3 bp0 rp0_0 rp0_1 rp0_2 bp0_20 q0 u2} (hm : Ei p0 p1 p2 p3 = some (q0, u2)) (A : HH g h [.obj bp0 (.cells none 2 [AH rp0_0 p0.c_.AQ.length, AH rp0_1 p0.c_.AS.length, AH rp0_2 p0.c_.Bt.length, .bool p0.c_.FT, .bool p0.c_.Ay, Ai p0.c_.BN, .bool p0.c_.Be, Ai p0.c_.An.CX, Ai p0.c_.An.BS, Ai p0.c_.Eu, Ai p0.c_.Bf, Ai p0.c_.Name, Ai p0.c_.Head, Ai p0.c_.BF, .str p0.Aw.Text, .bool p0.Aw.Bu, .bool p0.Aw.Fold, .bool p0.Aw.BG, .str p0.GB, Ai p0.at_, .map (some bp0_20)]), .AK rp0_0 31 (AK AA p0.c_.AQ), .AK rp0_1 31 (AK AA p0.c_.AS), .AK rp0_2 92 (AK AL p0.c_.Bt), .obj bp0_20 (.map 2 (CL (fun k : List UInt8 => .str k) (fun v : Bool => .bool v) p0.Bx))] F) (hc : Ba (cfg.still 51) av = [.ptr (some (bp0, 0)), .str p1, Ai p2, Ai p3] := by kernel_rfl) : ∃ v h', Bi cfg g h 51 av v h' ∧ ∃ (r'2 : Option Nat), v = .agg [Ai q0.e_, Ai q0.at_] ∧ HH g h' [.obj bp0 (.cells none 2 [AH rp0_0 p0.c_.AQ.length, AH r'2 u2.length, AH rp0_2 p0.c_.Bt.length, .bool p0.c_.FT, .bool p0.c_.Ay, Ai p0.c_.BN, .bool p0.c_.Be, Ai p0.c_.An.CX, Ai p0.c_.An.BS, Ai p0.c_.Eu, Ai p0.c_.Bf, Ai p0.c_.Name, Ai p0.c_.Head, Ai p0.c_.BF, .str p0.Aw.Text, .bool p0.Aw.Bu, .bool p0.Aw.Fold, .bool p0.Aw.BG, .str p0.GB, Ai p0.at_, .map (some bp0_20)]), .AK rp0_0 31 (AK AA p0.c_.AQ), .AK r'2 31 (AK AA u2), .AK rp0_2 92 (AK AL p0.c_.Bt), .obj bp0_20 (.map 2 (CL (fun k : List UInt8 => .str k) (fun v : Bool => .bool v) p0.Bx))] F := by
 refine EN 18 [.cell 8 77] hc ?_
 clear hc
 unfold Ei at hm
 refine bg 18 [(0, .ptr (some (bp0, 0))), (1, .str p1), (2, Ai p2), (3, Ai p3)] fun fr H => ?_
 refine AF 1 ?_
 obtain ⟨h1, e1, A⟩ := A.pu (.cells none 2 [Ai 0, Ai 0])
 refine BP 8 (.ptr (some (h.size, 0))) e1 H fun fr t H => ?_
 refine CI 10 id ?_
 replace A : HH g h1 [_, _, _, _, _, .obj h.size (.cells none 2 [Ai 0, Ai 0])] F := (((((A.front 5 rfl).front 5 rfl).front 5 rfl).front 5 rfl).front 5 rfl)
 obtain ⟨⟨x1, x2⟩, hx, hm⟩ := bind_some hm
 obtain ⟨v1, h2, hr, r1, rfl, A1⟩ := Fo (av := [.ptr (some (bp0, 0)), .str p1, .ptr (some (bp0, 1)), Ai p2, Ai p3]) hx (A.cut 5)
 replace A : HH g h2 [.obj bp0 (.cells none 2 [_, AH r1 x2.length, _, _, _, _, _, _, _, _, _, _, _, _, _, _, _, _, _, _, _]), .AK rp0_0 31 (AK AA p0.c_.AQ), .AK r1 31 (AK AA x2), .AK rp0_2 92 (AK AL p0.c_.Bt), .obj bp0_20 (.map 2 (CL (fun k : List UInt8 => .str k) (fun v : Bool => .bool v) p0.Bx)), _] F := A.Cp (n := 5) A1
 refine Ap 8 [] 17 hr H fun fr t H => ?_
 obtain ⟨h3, hx, A⟩ := A.s5 0 [Ai x1.e_, Ai x1.at_] [_, _]
 refine Cy hx H fun fr t H => ?_
 refine BD id (AY ?_)
 obtain ⟨rfl, rfl⟩ := B6 hm
 refine ⟨.inl rfl, .agg [Ai x1.e_, Ai x1.at_], CS (.cell (rT H) (BL (by kernel_rfl) (by kernel_rfl) (A.la 5 0 2)) .nil), ?_⟩
 replace A := A.d5
 exact ⟨r1, rfl, A⟩
def Ie (p0 : List UInt8) (s : Int × Int) : Option ((Int × Int) ⊕ ((Int) ⊕ (Int × Bool))) :=
 match s with
 | (x3, x4) => Ac (decide (x4 < (p0.length : Int))) ((KW p0 x4).bind fun x8 => (Ac (decide (x8 < 48)) (some true) ((KW p0 x4).bind fun x10 => some (decide (x10 > 57))) : Option (Bool)).bind fun x9 => Ac x9 (some (.inr (.inr ((0 : Int), false)))) ((KW p0 x4).bind fun x11 => some (.inl (IntKind.i64.wrap ((IntKind.i64.wrap ((10 : Int) * x3)) + (IntKind.i64.wrap (IntKind.u8.wrap (x11 - 48)))), IntKind.i64.wrap (x4 + 1))))) (some (.inr (.inl x3)))
def Hn (p0 : List UInt8) (p1 : Int) (p2 : Int) : Option (Int × Bool) :=
 (Ac (((p0.length : Int) == 0) || (decide ((p0.length : Int) > 5))) (some true) ((KW p0 (0 : Int)).bind fun x2 => some ((x2 == 48) && (decide ((p0.length : Int) > 1)))) : Option (Bool)).bind fun x1 => Ac x1 (some ((0 : Int), false)) ((loop (Ie p0) ((0 : Int), (0 : Int))).bind fun o1 => (match o1 with | .inl x5 => some (x5, (decide (x5 ≥ p1)) && (decide (x5 ≤ p2))) | .inr (x6, x7) => some (x6, x7)))
theorem Me {p0 p1 p2 q0 q1} (hm : Hn p0 p1 p2 = some (q0, q1)) (A : HH g h [] F) (hc : Ba (cfg.still 95) av = [.str p0, Ai p1, Ai p2] := by kernel_rfl) : ∃ v h', Bi cfg g h 95 av v h' ∧ v = .tuple [Ai q0, .bool q1] ∧ HH g h' [] F := by
 refine EN 61 [.tmp 6, .tmp 7] hc ?_
 clear hc
 unfold Hn at hm
 refine bg 61 [(0, .str p0), (1, Ai p1), (2, Ai p2)] fun fr H => ?_
 refine AF 2 (AP 2 [] H fun fr H => AR (AF 18 (AG 4 [(13, .bool ((p0.length : Int) == 0))] H fun fr H => A9 4 (fun fr' h' => h = h' ∧ Has fr' 61 [(0, .str p0), (1, Ai p1), (2, Ai p2), (17, .bool (((p0.length : Int) == 0) || (decide ((p0.length : Int) > 5))))]) ?_ ?_)))
 ·cases hb : ((p0.length : Int) == 0 : Bool) with
  | true =>
   replace H := H.kn 13 hb
   exact AG 4 [(17, .bool true)] H fun fr H => BK H hb
  | false =>
   replace H := H.kn 13 hb
   exact AG 4 [(17, .bool (decide ((p0.length : Int) > 5)))] H fun fr H => BK H hb
 intro t fr h' hK
 obtain ⟨e, H⟩ := hK
 subst e
 refine AG 1 [(18, .bool (((p0.length : Int) == 0) || (decide ((p0.length : Int) > 5))))] H fun fr H => ?_
 obtain ⟨x1, ho, hm⟩ := bind_some hm
 refine A9 9 (fun fr' h' => Has fr' 61 [(0, .str p0), (1, Ai p1), (2, Ai p2), (27, .bool x1)] ∧ HH g h' [] F) ?_ ?_
 ·rcases AZ ho with ⟨hb, hm⟩ | ⟨hb, hm⟩
  ·replace H := H.kn 18 hb
   refine AG 9 [(27, .bool true)] H fun fr H => ?_
   obtain rfl := Ag hm
   exact at_nil ⟨H.ls, A⟩
  replace H := H.kn 18 hb
  obtain ⟨x2, hx, hm⟩ := bind_some hm
  refine BA 1 [] 20 (Ab x2) h H (fun fr => .of (E5 (by kernel_rfl) hx)) fun fr t H => ?_
  refine AG 2 [(22, .bool (x2 == 48))] H fun fr H => A9 4 (fun fr' h' => h = h' ∧ Has fr' 61 [(0, .str p0), (1, Ai p1), (2, Ai p2), (18, .bool false), (26, .bool ((x2 == 48) && (decide ((p0.length : Int) > 1))))]) ?_ ?_
  ·cases hb : (x2 == 48 : Bool) with
   | true =>
    replace H := H.kn 22 hb
    exact AG 4 [(26, .bool (decide ((p0.length : Int) > 1)))] H fun fr H => BK H hb
   | false =>
    replace H := H.kn 22 hb
    exact AG 4 [(26, .bool false)] H fun fr H => BK H hb
  intro t fr h' hK
  obtain ⟨e, H⟩ := hK
  subst e
  refine AG 1 [(27, .bool ((x2 == 48) && (decide ((p0.length : Int) > 1))))] H fun fr H => ?_
  obtain rfl := Ag hm
  exact at_nil ⟨H.ls, A⟩
 clear A
 intro t fr h1 hK
 obtain ⟨H, A⟩ := hK
 refine BD id (Ae 27 H hm (fun hb hm H => ?_) fun hb hm H => ?_)
 ·refine AF 2 (AP 2 [(6, Ai 0), (7, .bool false)] H fun fr H => AY ?_)
  obtain ⟨rfl, rfl⟩ := B6 hm
  exact ⟨.inl rfl, _, rH H, rfl, A⟩
 refine CN 1 id (AP 1 [(8, Ai 0)] H fun fr H => AR (AF 3 (AP 3 [(29, Ai (p0.length : Int)), (30, Ai 0)] H fun fr H => Af (id := 0) (by kernel_rfl) ?_)))
 obtain ⟨o1, ho, hm⟩ := bind_some hm
 refine BU (Q' := fun e fr' h' => (∃ x5, e = .exit 0 ∧ .inl x5 = o1 ∧ Has fr' 61 [(1, Ai p1), (2, Ai p2), (8, Ai x5)] ∧ HH g h' [] F) ∨ (∃ x6 x7, e = .ret ∧ .inr (x6, x7) = o1 ∧ Has fr' 61 [(6, Ai x6), (7, .bool x7)] ∧ HH g h' [] F) ∨ False) ?_ ?_
 ·refine CH (by kernel_rfl) (fun (s : Int × Int) fr' h' => ∃ x3 x4, (x3, x4) = s ∧ Has fr' 61 [(0, .str p0), (1, Ai p1), (2, Ai p2), (8, Ai x3), (29, Ai (p0.length : Int)), (30, Ai x4)] ∧ HH g h' [] F) ho ⟨_, _, rfl, H.ls, A⟩ ?_
  clear ho hm H A
  intro s q fr h2 hI hm
  obtain ⟨x3, x4, rfl, H, A⟩ := hI
  unfold Ie at hm
  refine AF 1 (AP 1 [(31, .bool (decide (x4 < (p0.length : Int))))] H fun fr H => AR (Ae 31 H hm (fun hb hm H => ?_) fun hb hm H => ?_))
  ·refine B0 id (AR (Af (id := 1) (by kernel_rfl) ?_))
   refine AF 2 (AP 2 [(9, Ai x4)] H fun fr H => AR (AF 10 ?_))
   obtain ⟨x8, hx, hm⟩ := bind_some hm
   refine BA 2 [] 35 (Ab x8) h2 H (fun fr => .of (E5 (by kernel_rfl) hx)) fun fr t H => ?_
   refine AG 2 [(37, .bool (decide (x8 < 48)))] H fun fr H => ?_
   obtain ⟨x9, ho, hm⟩ := bind_some hm
   refine A9 5 (fun fr' h' => Has fr' 61 [(0, .str p0), (1, Ai p1), (2, Ai p2), (8, Ai x3), (9, Ai x4), (29, Ai (p0.length : Int)), (30, Ai x4), (42, .bool x9)] ∧ HH g h' [] F) ?_ ?_
   ·rcases AZ ho with ⟨hb, hm⟩ | ⟨hb, hm⟩
    ·replace H := H.kn 37 hb
     refine AG 5 [(42, .bool true)] H fun fr H => ?_
     obtain rfl := Ag hm
     exact at_nil ⟨H.ls, A⟩
    replace H := H.kn 37 hb
    obtain ⟨x10, hx, hm⟩ := bind_some hm
    refine BA 2 [] 40 (Ab x10) h2 H (fun fr => .of (E5 (by kernel_rfl) hx)) fun fr t H => ?_
    refine AG 2 [(42, .bool (decide (x10 > 57)))] H fun fr H => ?_
    obtain rfl := Ag hm
    exact at_nil ⟨H.ls, A⟩
   clear A
   intro t fr h3 hK
   obtain ⟨H, A⟩ := hK
   refine BD id (Ae 42 H hm (fun hb hm H => ?_) fun hb hm H => ?_)
   ·refine AF 2 (AP 2 [(6, Ai 0), (7, .bool false)] H fun fr H => AY ?_)
    exact nr hm fun e => Or.inr (.inl ⟨_, _, rfl, e, H.ls, A⟩)
   refine F3 9 id ?_
   obtain ⟨x11, hx, hm⟩ := bind_some hm
   refine BA 4 [(44, Ai (IntKind.i64.wrap ((10 : Int) * x3)))] 47 (Ab x11) h3 H (fun fr => .of (E5 (by kernel_rfl) hx)) fun fr t H => ?_
   refine BV 4 [(0, .str p0), (1, Ai p1), (2, Ai p2), (8, Ai (IntKind.i64.wrap ((IntKind.i64.wrap ((10 : Int) * x3)) + (IntKind.i64.wrap (IntKind.u8.wrap (x11 - 48)))))), (29, Ai (p0.length : Int)), (30, Ai x4)] H fun fr H => F4 2 id (BV 2 [(0, .str p0), (1, Ai p1), (2, Ai p2), (8, Ai (IntKind.i64.wrap ((IntKind.i64.wrap ((10 : Int) * x3)) + (IntKind.i64.wrap (IntKind.u8.wrap (x11 - 48)))))), (29, Ai (p0.length : Int)), (30, Ai (IntKind.i64.wrap (x4 + 1)))] H fun fr H => at_nil ?_)
   exact nx hm ⟨_, _, rfl, H.ls, A⟩
  refine Bz (i := 0) (by kernel_rfl) ?_
  exact nr hm fun e => .inl ⟨_, rfl, e, H.ls, A⟩
 clear ho
 clear A
 intro e fr h4 hQ
 rcases hQ with ⟨x5, rfl, rfl, H, A⟩ | ⟨x6, x7, rfl, rfl, H, A⟩ | hF
 ·show AW _ _ _ _ _ _ _
  refine AF 11 (AG 5 [(52, Ai x5), (56, .bool (decide (x5 ≥ p1)))] H fun fr H => A9 4 (fun fr' h' => h4 = h' ∧ Has fr' 61 [(52, Ai x5), (60, .bool ((decide (x5 ≥ p1)) && (decide (x5 ≤ p2))))]) ?_ ?_)
  ·cases hb : (decide (x5 ≥ p1) : Bool) with
   | true =>
    replace H := H.kn 56 hb
    exact AG 4 [(60, .bool (decide (x5 ≤ p2)))] H fun fr H => BK H hb
   | false =>
    replace H := H.kn 56 hb
    exact AG 4 [(60, .bool false)] H fun fr H => BK H hb
  intro t fr h' hK
  obtain ⟨e, H⟩ := hK
  subst e
  refine AP 2 [(6, Ai x5), (7, .bool ((decide (x5 ≥ p1)) && (decide (x5 ≤ p2))))] H fun fr H => AY ?_
  obtain ⟨rfl, rfl⟩ := B6 hm
  exact ⟨.inl rfl, _, rH H, rfl, A⟩
 ·obtain ⟨rfl, rfl⟩ := B6 hm
  exact ⟨.inl rfl, _, rH H, rfl, A⟩
 exact hF.elim
def DH (p0 : CF) (p1 : List UInt8) (p2 : Int) (p3 : Int) : Option (Cw × CF) :=
 (Hn p1 (0 : Int) (9999 : Int)).bind fun (x1, x2) => Ac (!x2) (some ((⟨(11 : Int), p3⟩ : Cw), p0)) ((Ex p0).bind fun _ => (Fa).bind fun x4 => some (x4, (⟨(⟨p0.c_.AQ, p0.c_.AS, p0.c_.Bt, p0.c_.FT, p0.c_.Ay, p0.c_.BN, p0.c_.Be, p0.c_.An, p0.c_.Eu, x1, p0.c_.Name, p0.c_.Head, p0.c_.BF⟩ : BI), p0.Aw, p0.GB, p0.at_, p0.Bx⟩ : CF)))
theorem GL {p0 p1 p2 p3 bp0 rp0_0 rp0_1 rp0_2 bp0_20 q0 u0} (hm : DH p0 p1 p2 p3 = some (q0, u0)) (A : HH g h [.obj bp0 (.cells none 2 [AH rp0_0 p0.c_.AQ.length, AH rp0_1 p0.c_.AS.length, AH rp0_2 p0.c_.Bt.length, .bool p0.c_.FT, .bool p0.c_.Ay, Ai p0.c_.BN, .bool p0.c_.Be, Ai p0.c_.An.CX, Ai p0.c_.An.BS, Ai p0.c_.Eu, Ai p0.c_.Bf, Ai p0.c_.Name, Ai p0.c_.Head, Ai p0.c_.BF, .str p0.Aw.Text, .bool p0.Aw.Bu, .bool p0.Aw.Fold, .bool p0.Aw.BG, .str p0.GB, Ai p0.at_, .map (some bp0_20)]), .AK rp0_0 31 (AK AA p0.c_.AQ), .AK rp0_1 31 (AK AA p0.c_.AS), .AK rp0_2 92 (AK AL p0.c_.Bt), .obj bp0_20 (.map 2 (CL (fun k : List UInt8 => .str k) (fun v : Bool => .bool v) p0.Bx))] F) (hc : Ba (cfg.still 107) av = [.ptr (some (bp0, 0)), .str p1, Ai p2, Ai p3, .BR [Ai (0 : Int)], .BR [Ai (9999 : Int)], .BR [.func (.func 64) [] []]] := by kernel_rfl) : ∃ v h', Bi cfg g h 107 av v h' ∧ v = .agg [Ai q0.e_, Ai q0.at_] ∧ HH g h' [.obj bp0 (.cells none 2 [AH rp0_0 p0.c_.AQ.length, AH rp0_1 p0.c_.AS.length, AH rp0_2 p0.c_.Bt.length, .bool u0.c_.FT, .bool u0.c_.Ay, Ai u0.c_.BN, .bool u0.c_.Be, Ai u0.c_.An.CX, Ai u0.c_.An.BS, Ai u0.c_.Eu, Ai u0.c_.Bf, Ai u0.c_.Name, Ai u0.c_.Head, Ai u0.c_.BF, .str u0.Aw.Text, .bool u0.Aw.Bu, .bool u0.Aw.Fold, .bool u0.Aw.BG, .str u0.GB, Ai u0.at_, .map (some bp0_20)]), .AK rp0_0 31 (AK AA p0.c_.AQ), .AK rp0_1 31 (AK AA p0.c_.AS), .AK rp0_2 92 (AK AL p0.c_.Bt), .obj bp0_20 (.map 2 (CL (fun k : List UInt8 => .str k) (fun v : Bool => .bool v) p0.Bx))] F := by
 refine EN 33 [.cell 11 77] hc ?_
 clear hc
 unfold DH at hm
 refine bg 33 [(0, .ptr (some (bp0, 0))), (1, .str p1), (3, Ai p3), (4, .BR [Ai (0 : Int)]), (5, .BR [Ai (9999 : Int)]), (6, .BR [.func (.func 64) [] []])] fun fr H => ?_
 refine AF 1 ?_
 obtain ⟨h1, e1, A⟩ := A.pu (.cells none 2 [Ai 0, Ai 0])
 refine BP 11 (.ptr (some (h.size, 0))) e1 H fun fr t H => ?_
 refine CI 9 id (BA 1 [(15, .str p1)] 16 (Ai (0 : Int)) h1 H (fun fr => .of (Lp (by kernel_rfl))) fun fr t H => ?_)
 refine As 17 (Ai (9999 : Int)) h1 H (fun fr => .of (Lp (by kernel_rfl))) fun fr t H => ?_
 obtain ⟨⟨x1, x2⟩, hx, hm⟩ := bind_some hm
 obtain ⟨v1, h2, hr, rfl, A1⟩ := Me (av := [.str p1, Ai 0, Ai 9999]) hx (A.cut 0)
 replace A : HH g h2 [.obj h.size (.cells none 2 [Ai (0 : Int), Ai (0 : Int)]), _, _, _, _, _] F := A.Cp (n := 0) A1
 refine A8 18 hr H fun fr t H => ?_
 refine AP 5 [(12, Ai x1), (13, .bool x2)] H fun fr H => AR (AF 2 (AP 2 [(22, .bool (!x2))] H fun fr H => Ae 22 H hm (fun hb hm H => ?_) fun hb hm H => ?_))
 ·refine AF 3 ?_
  obtain ⟨h3, hx, A⟩ := A.s0 0 [Ai 11, Ai p3] [_, _]
  refine Dm 2 [] hx H fun fr t H => ?_
  refine BD id (AY ?_)
  obtain ⟨rfl, rfl⟩ := B6 hm
  refine ⟨.inl rfl, .agg [Ai 11, Ai p3], CS (.cell (rT H) (BL (by kernel_rfl) (by kernel_rfl) (A.la 0 0 2)) .nil), ?_⟩
  replace A := A.k5 1 2 3 4 5
  exact ⟨rfl, A⟩
 refine B0 id (AR (Df 4 8 ?_))
 refine As 25 (.func (.func 64) [] []) h2 H (fun fr => .of (Lp (by kernel_rfl))) fun fr t H => ?_
 replace A := A.k6 1 2 3 4 5 0
 obtain ⟨⟨⟩, hx, hm⟩ := bind_some hm
 obtain ⟨v1, h4, hr, rfl, A1⟩ := Iy (av := [.ptr (some (bp0, 0))]) hx (A.cut 5)
 replace A : HH g h4 [.obj bp0 (.cells none 2 [_, _, _, _, _, _, _, _, _, _, _, _, _, _, _, _, _, _, _, _, _]), .AK rp0_0 31 (AK AA p0.c_.AQ), .AK rp0_1 31 (AK AA p0.c_.AS), .AK rp0_2 92 (AK AL p0.c_.Bt), .obj bp0_20 (.map 2 (CL (fun k : List UInt8 => .str k) (fun v : Bool => .bool v) p0.Bx)), _] F := A.Cp (n := 5) A1
 refine Ap 3 [] 29 hr H fun fr t H => ?_
 obtain ⟨h5, hx, A⟩ := A.s0 10 [Ai x1] [_, _, _, _, _, _, _, _, _, _, _, _, _, _, _, _, _, _, _, _, _]
 refine Dn 2 [] hx H fun fr t H => ?_
 refine CI 2 id ?_
 obtain ⟨x4, hx, hm⟩ := bind_some hm
 obtain ⟨v1, h6, hr, rfl, A1⟩ := Gu (av := []) hx (A.cut 0)
 replace A := A.C4 A1
 refine A8 32 hr H fun fr t H => ?_
 obtain ⟨h7, hx, A⟩ := A.s5 0 [Ai x4.e_, Ai x4.at_] [_, _]
 refine Cy hx H fun fr t H => ?_
 refine BD id (AY ?_)
 obtain ⟨rfl, rfl⟩ := B6 hm
 refine ⟨.inl rfl, .agg [Ai x4.e_, Ai x4.at_], CS (.cell (rT H) (BL (by kernel_rfl) (by kernel_rfl) (A.la 5 0 2)) .nil), ?_⟩
 replace A := A.d5
 exact ⟨rfl, A⟩
def Bv (p0 : Int) (p1 : Int) (p2 : Int) : Option (Bool) :=
 some ((decide (p0 ≥ p1)) && (decide (p0 ≤ p2)))
theorem CG {p0 p1 p2 q0} (hm : Bv p0 p1 p2 = some q0) (A : HH g h [] F) (hc : Ba (cfg.still 30) av = [Ai p0, Ai p1, Ai p2] := by kernel_rfl) : ∃ v h', Bi cfg g h 30 av v h' ∧ v = .bool q0 ∧ HH g h' [] F := by
 refine EN 15 [.tmp 6] hc ?_
 clear hc
 unfold Bv at hm
 refine bg 15 [(0, Ai p0), (1, Ai p1), (2, Ai p2)] fun fr H => ?_
 refine AF 1 (B1 1 [] 9 H fun fr H => AG 4 [(10, .bool (decide (p0 ≥ p1)))] H fun fr H => A9 4 (fun fr' h' => h = h' ∧ Has fr' 15 [(14, .bool ((decide (p0 ≥ p1)) && (decide (p0 ≤ p2))))]) ?_ ?_)
 ·cases hb : (decide (p0 ≥ p1) : Bool) with
  | true =>
   replace H := H.kn 10 hb
   exact AG 4 [(14, .bool (decide (p0 ≤ p2)))] H fun fr H => BK H hb
  | false =>
   replace H := H.kn 10 hb
   exact AG 4 [(14, .bool false)] H fun fr H => BK H hb
 intro t fr h' hK
 obtain ⟨e, H⟩ := hK
 subst e
 refine AP 1 [(6, .bool ((decide (p0 ≥ p1)) && (decide (p0 ≤ p2))))] H fun fr H => AY ?_
 obtain rfl := Ag hm
 exact ⟨.inl rfl, _, rH H, rfl, A⟩
def HW (p0 : Int) : Option (Int) :=
 Ac ((decide ((G9 .u8 p0 (32 : Int)) ≥ 97)) && (decide ((G9 .u8 p0 (32 : Int)) ≤ 122))) (some (XD .u8 p0 (32 : Int))) (some p0)
theorem Nt {p0 q0} (hm : HW p0 = some q0) (A : HH g h [] F) (hc : Ba (cfg.still 280) av = [Ab p0] := by kernel_rfl) : ∃ v h', Bi cfg g h 280 av v h' ∧ v = Ab q0 ∧ HH g h' [] F := by
 refine EN 15 [.tmp 2] hc ?_
 clear hc
 unfold HW at hm
 refine bg 15 [(0, Ab p0)] fun fr H => ?_
 refine AF 1 (AP 1 [] H fun fr H => AR (AF 3 (B1 3 [(3, Ab (G9 .u8 p0 (32 : Int)))] 6 H fun fr H => AG 3 [(8, .bool (decide ((G9 .u8 p0 (32 : Int)) ≥ 97)))] H fun fr H => A9 3 (fun fr' h' => h = h' ∧ Has fr' 15 [(0, Ab p0), (11, .bool ((decide ((G9 .u8 p0 (32 : Int)) ≥ 97)) && (decide ((G9 .u8 p0 (32 : Int)) ≤ 122))))]) ?_ ?_)))
 ·cases hb : (decide ((G9 .u8 p0 (32 : Int)) ≥ 97) : Bool) with
  | true =>
   replace H := H.kn 8 hb
   exact AG 3 [(11, .bool (decide ((G9 .u8 p0 (32 : Int)) ≤ 122)))] H fun fr H => BK H hb
  | false =>
   replace H := H.kn 8 hb
   exact AG 3 [(11, .bool false)] H fun fr H => BK H hb
 intro t fr h' hK
 obtain ⟨e, H⟩ := hK
 subst e
 refine BD id (Ae 11 H hm (fun hb hm H => ?_) fun hb hm H => ?_)
 ·refine AF 3 (AP 3 [(2, Ab (XD .u8 p0 (32 : Int)))] H fun fr H => AY ?_)
  obtain rfl := Ag hm
  exact ⟨.inl rfl, _, rH H, rfl, A⟩
 refine CN 2 id (AP 2 [(2, Ab p0)] H fun fr H => AY ?_)
 obtain rfl := Ag hm
 exact ⟨.inl rfl, _, rH H, rfl, A⟩
end
end Go.Av.L
