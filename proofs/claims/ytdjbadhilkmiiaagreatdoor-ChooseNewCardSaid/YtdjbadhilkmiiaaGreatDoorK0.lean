/-
 A part.
-/
import Derived.Test.YtdjbadhilkmiiaaGreatDoorKCfg
namespace Go.Av.L
open Go.Av Go.Lib
set_option maxRecDepth 10000
set_option maxHeartbeats 4000000
set_option linter.unusedVariables false
set_option linter.unusedSimpArgs false
variable {g : Gd} {h : AJ} {F : List Ck} {av : List AB}
noncomputable section
def HJ : Option (Unit) :=
 some ()
theorem L9 (hm : HJ = some ()) (A : HH g h [] F) (hc : Ba (cfg.still 17) av = [] := by kernel_rfl) : ∃ v h', Bi cfg g h 17 av v h' ∧ v = .agg [.slice none 0, .slice none 0, .slice none 0, .bool false, .bool false, Ai (0 : Int), .bool false, Ai (0 : Int), Ai (0 : Int), Ai (0 : Int), Ai (0 : Int), Ai (4096 : Int), Ai (65536 : Int), Ai (4096 : Int)] ∧ HH g h' [] F := by
 refine EN 2 [.cell 0 29] hc ?_
 clear hc
 unfold HJ at hm
 refine bg 2 [] fun fr H => ?_
 refine AF 1 ?_
 obtain ⟨h1, e1, A⟩ := A.pu (.cells none 2 [.slice none 0, .slice none 0, .slice none 0, .bool false, .bool false, Ai 0, .bool false, Ai 0, Ai 0, Ai 0, Ai 0, Ai 0, Ai 0, Ai 0])
 refine BP 0 (.ptr (some (h.size, 0))) e1 H fun fr t H => ?_
 refine CI 2 id ?_
 obtain ⟨h2, hx, A⟩ := A.s0 0 [.slice none 0, .slice none 0, .slice none 0, .bool false, .bool false, Ai 0, .bool false, Ai 0, Ai 0, Ai 0, Ai 0, Ai 4096, Ai 65536, Ai 4096] [_, _, _, _, _, _, _, _, _, _, _, _, _, _]
 refine Dm 1 [] hx H fun fr t H => ?_
 refine BD id (AY ?_)
 refine ⟨.inl rfl, .agg [.slice none 0, .slice none 0, .slice none 0, .bool false, .bool false, Ai 0, .bool false, Ai 0, Ai 0, Ai 0, Ai 0, Ai 4096, Ai 65536, Ai 4096], CS (.cell (rT H) (BL (by kernel_rfl) (by kernel_rfl) (A.la 0 0 14)) .nil), ?_⟩
 replace A := A.d0
 exact ⟨rfl, A⟩
def Fa : Option (Cw) :=
 some (⟨(0 : Int), (0 : Int)⟩ : Cw)
theorem Gu {q0} (hm : Fa = some q0) (A : HH g h [] F) (hc : Ba (cfg.still 21) av = [] := by kernel_rfl) : ∃ v h', Bi cfg g h 21 av v h' ∧ v = .agg [Ai q0.e_, Ai q0.at_] ∧ HH g h' [] F := by
 refine EN 2 [.cell 0 77] hc ?_
 clear hc
 unfold Fa at hm
 refine bg 2 [] fun fr H => ?_
 refine AF 1 ?_
 obtain ⟨h1, e1, A⟩ := A.pu (.cells none 2 [Ai 0, Ai 0])
 refine BP 0 (.ptr (some (h.size, 0))) e1 H fun fr t H => ?_
 refine CI 2 id ?_
 obtain ⟨h2, hx, A⟩ := A.s0 0 [Ai 0, Ai 0] [_, _]
 refine Dm 1 [] hx H fun fr t H => ?_
 refine BD id (AY ?_)
 obtain rfl := Ag hm
 refine ⟨.inl rfl, .agg [Ai 0, Ai 0], CS (.cell (rT H) (BL (by kernel_rfl) (by kernel_rfl) (A.la 0 0 2)) .nil), ?_⟩
 replace A := A.d0
 exact ⟨rfl, A⟩
def D8 (p0 : List UInt8) (p1 : List UInt8) : Option (Bool) :=
 (Ac (decide ((p0.length : Int) ≥ (p1.length : Int))) ((HX p0 none (some (p1.length : Int))).bind fun x2 => some (x2 == p1)) (some false) : Option (Bool)).bind fun x1 => some x1
theorem JR {p0 p1 q0} (hm : D8 p0 p1 = some q0) (A : HH g h [] F) (hc : Ba (cfg.still 176) av = [.str p0, .str p1] := by kernel_rfl) : ∃ v h', Bi cfg g h 176 av v h' ∧ v = .bool q0 ∧ HH g h' [] F := by
 refine EN 18 [.tmp 4] hc ?_
 clear hc
 unfold D8 at hm
 refine bg 18 [(0, .str p0), (1, .str p1)] fun fr H => ?_
 refine AF 1 (B1 1 [] 14 H fun fr H => AG 6 [(10, .bool (decide ((p0.length : Int) ≥ (p1.length : Int))))] H fun fr H => ?_)
 obtain ⟨x1, ho, hm⟩ := bind_some hm
 refine A9 7 (fun fr' h' => Has fr' 18 [(17, .bool x1)] ∧ HH g h' [] F) ?_ ?_
 ·rcases AZ ho with ⟨hb, hm⟩ | ⟨hb, hm⟩
  ·replace H := H.kn 10 hb
   obtain ⟨x2, hx, hm⟩ := bind_some hm
   refine BA 3 [] 14 (.str x2) h H (fun fr => .of (GA (k := .i64) (k' := .i64) (lo := none) (hi := (some (p1.length : Int))) (by kernel_rfl) hx)) fun fr t H => ?_
   refine AG 3 [(17, .bool (x2 == p1))] H fun fr H => ?_
   obtain rfl := Ag hm
   exact at_nil ⟨H.ls, A⟩
  replace H := H.kn 10 hb
  refine AG 7 [(17, .bool false)] H fun fr H => ?_
  obtain rfl := Ag hm
  exact at_nil ⟨H.ls, A⟩
 clear A
 intro t fr h1 hK
 obtain ⟨H, A⟩ := hK
 refine AP 1 [(4, .bool x1)] H fun fr H => AY ?_
 obtain rfl := Ag hm
 exact ⟨.inl rfl, _, rH H, rfl, A⟩
def B7 (p0 : List UInt8) (p1 : List UInt8) : Option (Bool) :=
 (D8 p0 p1).bind fun x1 => some x1
theorem D1 {p0 p1 q0} (hm : B7 p0 p1 = some q0) (A : HH g h [] F) (hc : Ba (cfg.still 119) av = [.str p0, .str p1] := by kernel_rfl) : ∃ v h', Bi cfg g h 119 av v h' ∧ v = .bool q0 ∧ HH g h' [] F := by
 refine EN 8 [.tmp 4] hc ?_
 clear hc
 unfold B7 at hm
 refine bg 8 [(0, .str p0), (1, .str p1)] fun fr H => ?_
 refine AF 1 (B1 1 [] 4 H fun fr H => ?_)
 obtain ⟨x1, hx, hm⟩ := bind_some hm
 obtain ⟨v1, h1, hr, rfl, A1⟩ := JR (av := [.str p0, .str p1]) hx (A.cut 0)
 replace A := A.C4 A1
 refine Ap 2 [] 7 hr H fun fr t H => ?_
 refine AP 1 [(4, .bool x1)] H fun fr H => AY ?_
 obtain rfl := Ag hm
 exact ⟨.inl rfl, _, rH H, rfl, A⟩
def CM (p0 : BW) (p1 : List UInt8) : Option (Bool × BW) :=
 (HX p0.s_ (some p0.at_) none).bind fun x1 => (B7 x1 p1).bind fun x2 => Ac (!x2) (some (false, p0)) (some (true, (⟨p0.s_, IntKind.i64.wrap (p0.at_ + (p1.length : Int)), p0.Gp, p0.DR⟩ : BW)))
theorem DI {p0 p1 bp0 q0 u0} (hm : CM p0 p1 = some (q0, u0)) (A : HH g h [.obj bp0 (.cells none 2 (CO p0))] F) (hc : Ba (cfg.still 185) av = [.ptr (some (bp0, 0)), .str p1] := by kernel_rfl) : ∃ v h', Bi cfg g h 185 av v h' ∧ v = .bool q0 ∧ HH g h' [.obj bp0 (.cells none 2 (CO u0))] F := by
 refine EN 26 [.tmp 4] hc ?_
 clear hc
 unfold CM at hm
 refine bg 26 [(0, .ptr (some (bp0, 0))), (1, .str p1)] fun fr H => ?_
 refine AF 1 (AP 1 [] H fun fr H => AR (AR (Df 1 12 ?_)))
 refine Ah 3 [] 8 0 0 A H fun fr t H => ?_
 refine Ah 3 [] 12 0 1 A H fun fr t H => ?_
 obtain ⟨x1, hx, hm⟩ := bind_some hm
 refine As 13 (.str x1) h H (fun fr => .of (GA (k := .i64) (k' := .i64) (lo := (some p0.at_)) (hi := none) (by kernel_rfl) hx)) fun fr t H => ?_
 obtain ⟨x2, hx, hm⟩ := bind_some hm
 obtain ⟨v1, h1, hr, rfl, A1⟩ := D1 (av := [.str x1, .str p1]) hx (A.cut 0)
 replace A := A.C4 A1
 refine Ap 1 [] 15 hr H fun fr t H => ?_
 refine AP 1 [(16, .bool (!x2))] H fun fr H => Ae 16 H hm (fun hb hm H => ?_) fun hb hm H => ?_
 ·refine AF 1 (AP 1 [(4, .bool false)] H fun fr H => AY ?_)
  obtain ⟨rfl, rfl⟩ := B6 hm
  exact ⟨.inl rfl, _, rH H, rfl, A⟩
 refine CN 10 id (Ah 3 [(17, .ptr (some (bp0, 0)))] 20 0 1 A H fun fr t H => ?_)
 obtain ⟨h2, hx, A⟩ := A.s0 1 [Ai (IntKind.i64.wrap (p0.at_ + (p1.length : Int)))] [_, _, _, _, _, _, _]
 refine Dn 5 [] hx H fun fr t H => ?_
 refine CI 1 id (AP 1 [(4, .bool true)] H fun fr H => AY ?_)
 obtain ⟨rfl, rfl⟩ := B6 hm
 exact ⟨.inl rfl, _, rH H, rfl, A⟩
def En (p0 : Ad) (p1 : Int) : Option (Ad) :=
 (HO ([p0.w0, p0.w1, p0.w2, p0.w3] : List Int) (By .u8 p1 (6 : Int))).bind fun x1 => Ca (decide (0 ≤ (Br .u8 p1 (63 : Int)))) <| (HO ([p0.w0, p0.w1, p0.w2, p0.w3] : List Int) (By .u8 p1 (6 : Int))).bind fun x2 => some (⟨(bif (By .u8 p1 (6 : Int)) == 0 then G9 .u64 x1 (Fk .u64 (1 : Int) (Br .u8 p1 (63 : Int))) else p0.w0), (bif ((By .u8 p1 (6 : Int)) - 1) == 0 then G9 .u64 x1 (Fk .u64 (1 : Int) (Br .u8 p1 (63 : Int))) else p0.w1), (bif (((By .u8 p1 (6 : Int)) - 1) - 1) == 0 then G9 .u64 x1 (Fk .u64 (1 : Int) (Br .u8 p1 (63 : Int))) else p0.w2), (bif ((((By .u8 p1 (6 : Int)) - 1) - 1) - 1) == 0 then G9 .u64 x1 (Fk .u64 (1 : Int) (Br .u8 p1 (63 : Int))) else p0.w3)⟩ : Ad)
theorem Jm {p0 p1 bp0 u0} (hm : En p0 p1 = some u0) (A : HH g h [.obj bp0 (.cells none 2 (AN p0))] F) (hc : Ba (cfg.still 255) av = [.ptr (some (bp0, 0)), Ab p1] := by kernel_rfl) : ∃ v h', Bi cfg g h 255 av v h' ∧ v = .tuple [] ∧ HH g h' [.obj bp0 (.cells none 2 (AN u0))] F := by
 refine EN 16 [] hc ?_
 clear hc
 unfold En at hm
 refine bg 16 [(0, .ptr (some (bp0, 0))), (1, Ab p1)] fun fr H => ?_
 refine Df 0 13 ?_
 obtain ⟨x1, hq1, hm⟩ := bind_some hm
 refine BA 4 [(4, .ptr (some (bp0, 0))), (6, Ab (By .u8 p1 (6 : Int)))] 8 (.ptr (some (bp0, 0 + (By .u8 p1 (6 : Int)).toNat * 1))) h H (fun fr => .of (Hv (by kernel_rfl) (It hq1 (bp0, 0) 1 rfl))) fun fr t H => ?_
 refine As 9 _ _ H (fun fr => .of (EP (by kernel_rfl) (HH.Vh A 0 rfl 0 (fun w : Int => Au w) [p0.w0, p0.w1, p0.w2, p0.w3] rfl hq1))) fun fr t H => ?_
 refine AG 2 [(11, Ab (Br .u8 p1 (63 : Int)))] H fun fr H => ?_
 obtain ⟨hb, hm⟩ := BE hm
 refine As 12 (Au (Fk .u64 (1 : Int) (Br .u8 p1 (63 : Int)))) h H (fun fr => .of (SN (by kernel_rfl) hb)) fun fr t H => ?_
 obtain ⟨x2, hq2, hm⟩ := bind_some hm
 refine BA 2 [(13, Au (G9 .u64 x1 (Fk .u64 (1 : Int) (Br .u8 p1 (63 : Int)))))] 15 (.ptr (some (bp0, 0 + (By .u8 p1 (6 : Int)).toNat * 1))) h H (fun fr => .of (Hv (by kernel_rfl) (It hq2 (bp0, 0) 1 rfl))) fun fr t H => ?_
 obtain ⟨h1, hx, A1⟩ := HH.XM A 0 rfl 0 (fun w : Int => Au w) [p0.w0, p0.w1, p0.w2, p0.w3] (G9 .u64 x1 (Fk .u64 (1 : Int) (Br .u8 p1 (63 : Int)))) (ds := [Au (bif (By .u8 p1 (6 : Int)) == 0 then G9 .u64 x1 (Fk .u64 (1 : Int) (Br .u8 p1 (63 : Int))) else p0.w0), Au (bif ((By .u8 p1 (6 : Int)) - 1) == 0 then G9 .u64 x1 (Fk .u64 (1 : Int) (Br .u8 p1 (63 : Int))) else p0.w1), Au (bif (((By .u8 p1 (6 : Int)) - 1) - 1) == 0 then G9 .u64 x1 (Fk .u64 (1 : Int) (Br .u8 p1 (63 : Int))) else p0.w2), Au (bif ((((By .u8 p1 (6 : Int)) - 1) - 1) - 1) == 0 then G9 .u64 x1 (Fk .u64 (1 : Int) (Br .u8 p1 (63 : Int))) else p0.w3)]) rfl hq2 rfl rfl
 replace A : HH g h1 [.obj bp0 (.cells none 2 [Au (bif (By .u8 p1 (6 : Int)) == 0 then G9 .u64 x1 (Fk .u64 (1 : Int) (Br .u8 p1 (63 : Int))) else p0.w0), Au (bif ((By .u8 p1 (6 : Int)) - 1) == 0 then G9 .u64 x1 (Fk .u64 (1 : Int) (Br .u8 p1 (63 : Int))) else p0.w1), Au (bif (((By .u8 p1 (6 : Int)) - 1) - 1) == 0 then G9 .u64 x1 (Fk .u64 (1 : Int) (Br .u8 p1 (63 : Int))) else p0.w2), Au (bif ((((By .u8 p1 (6 : Int)) - 1) - 1) - 1) == 0 then G9 .u64 x1 (Fk .u64 (1 : Int) (Br .u8 p1 (63 : Int))) else p0.w3)])] F := A1
 refine Hk hx H fun fr t H => ?_
 refine at_nil ?_
 obtain rfl := Ag hm
 refine ⟨.inr rfl, .tuple [], rH H, ?_⟩
 exact ⟨rfl, A⟩
def HN (p1 : Int) (s : Int × Int × Int × Int × Int) : Option ((Int × Int × Int × Int × Int) ⊕ ((Int × Int × Int × Int))) :=
 match s with
 | (x1, x2, x3, x4, x5) => Ac (decide (x5 ≤ (IntKind.i64.wrap p1))) ((En (⟨x1, x2, x3, x4⟩ : Ad) (IntKind.u8.wrap x5)).bind fun x10 => some (.inl (x10.w0, x10.w1, x10.w2, x10.w3, IntKind.i64.wrap (x5 + 1)))) (some (.inr (x1, x2, x3, x4)))
def CA (p0 : Int) (p1 : Int) : Option (Ad) :=
 (loop (HN p1) ((0 : Int), (0 : Int), (0 : Int), (0 : Int), IntKind.i64.wrap p0)).bind fun (x6, x7, x8, x9) => some (⟨x6, x7, x8, x9⟩ : Ad)
theorem Cg {p0 p1 q0} (hm : CA p0 p1 = some q0) (A : HH g h [] F) (hc : Ba (cfg.still 228) av = [Ab p0, Ab p1] := by kernel_rfl) : ∃ v h', Bi cfg g h 228 av v h' ∧ v = .agg (AN q0) ∧ HH g h' [] F := by
 refine EN 19 [.cell 4 217] hc ?_
 clear hc
 unfold CA at hm
 refine bg 19 [(0, Ab p0), (1, Ab p1)] fun fr H => ?_
 refine AF 1 ?_
 obtain ⟨h1, e1, A⟩ := A.pu (.cells none 2 [Au 0, Au 0, Au 0, Au 0])
 refine BP 4 (.ptr (some (h.size, 0))) e1 H fun fr t H => ?_
 refine CI 1 id ?_
 obtain ⟨h2, e2, A⟩ := A.pu (.cells none 2 [Au 0, Au 0, Au 0, Au 0])
 refine BP 5 (.ptr (some (h1.size, 0))) e2 H fun fr t H => ?_
 refine BD id (AR (AF 3 (AP 3 [(6, Ai (IntKind.i64.wrap p0))] H fun fr H => Af (id := 0) (by kernel_rfl) ?_)))
 obtain ⟨o1, ho, hm⟩ := bind_some hm
 refine BU (Q' := fun e fr' h' => (∃ x6 x7 x8 x9, e = .exit 0 ∧ (x6, x7, x8, x9) = o1 ∧ Has fr' 19 [(4, .ptr (some (h.size, 0))), (5, .ptr (some (h1.size, 0)))] ∧ HH g h' [.obj h1.size (.cells none 2 [Au x6, Au x7, Au x8, Au x9]), .obj h.size (.cells none 2 [Au 0, Au 0, Au 0, Au 0])] F) ∨ False) ?_ ?_
 ·refine CH (by kernel_rfl) (fun (s : Int × Int × Int × Int × Int) fr' h' => ∃ x1 x2 x3 x4 x5, (x1, x2, x3, x4, x5) = s ∧ Has fr' 19 [(1, Ab p1), (4, .ptr (some (h.size, 0))), (5, .ptr (some (h1.size, 0))), (6, Ai x5)] ∧ HH g h' [.obj h1.size (.cells none 2 [Au x1, Au x2, Au x3, Au x4]), .obj h.size (.cells none 2 [Au 0, Au 0, Au 0, Au 0])] F) ho ⟨_, _, _, _, _, rfl, H.ls, A⟩ ?_
  clear ho hm H A
  intro s q fr h3 hI hm
  obtain ⟨x1, x2, x3, x4, x5, rfl, H, A⟩ := hI
  unfold HN at hm
  refine AR (AF 4 (AP 4 [(12, .bool (decide (x5 ≤ (IntKind.i64.wrap p1))))] H fun fr H => Ae 12 H hm (fun hb hm H => ?_) fun hb hm H => ?_))
  ·refine B0 id (AR (Af (id := 1) (by kernel_rfl) ?_))
   refine DQ 3 ?_
   obtain ⟨x10, hx, hm⟩ := bind_some hm
   obtain ⟨v1, h4, hr, rfl, A1⟩ := Jm (av := [.ptr (some (h1.size, 0)), Ab (IntKind.u8.wrap x5)]) hx (A.cut 1)
   replace A := A.g11 A1
   refine P6 2 [] hr H fun fr t H => ?_
   refine F4 3 id (BV 3 [(1, Ab p1), (4, .ptr (some (h.size, 0))), (5, .ptr (some (h1.size, 0))), (6, Ai (IntKind.i64.wrap (x5 + 1)))] H fun fr H => at_nil ?_)
   exact nx hm ⟨_, _, _, _, _, rfl, H.ls, A⟩
  refine Bz (i := 0) (by kernel_rfl) ?_
  exact nr hm fun e => .inl ⟨_, _, _, _, rfl, e, H.ls, A⟩
 clear ho
 clear A
 intro e fr h5 hQ
 rcases hQ with ⟨x6, x7, x8, x9, rfl, rfl, H, A⟩ | hF
 ·show AW _ _ _ _ _ _ _
  refine AF 2 (As 18 _ _ H (fun fr => .of (B3 (by kernel_rfl) (A.F5 0 rfl (o := 0) (n := 4) ⟨Nat.le_of_ble_eq_true rfl, rfl⟩))) fun fr t H => ?_)
  obtain ⟨h6, hx, A⟩ := A.s1 0 [Au x6, Au x7, Au x8, Au x9] [_, _, _, _]
  refine Cy hx H fun fr t H => ?_
  refine BD id (AY ?_)
  obtain rfl := Ag hm
  refine ⟨.inl rfl, .agg [Au x6, Au x7, Au x8, Au x9], CS (.cell (rT H) (BL (by kernel_rfl) (by kernel_rfl) (A.la 1 0 4)) .nil), ?_⟩
  replace A := A.d0
  exact ⟨rfl, A⟩
 exact hF.elim
def Gt (p1 : Ad) (s : Int × Int × Int × Int × Int) : Option ((Int × Int × Int × Int × Int) ⊕ ((Int × Int × Int × Int))) :=
 match s with
 | (x1, x2, x3, x4, x5) => Ac (decide (x5 < 4)) ((HO ([x1, x2, x3, x4] : List Int) x5).bind fun x10 => (HO ([p1.w0, p1.w1, p1.w2, p1.w3] : List Int) x5).bind fun x11 => (HO ([x1, x2, x3, x4] : List Int) x5).bind fun x12 => some (.inl ((bif x5 == 0 then G9 .u64 x10 x11 else x1), (bif (x5 - 1) == 0 then G9 .u64 x10 x11 else x2), (bif ((x5 - 1) - 1) == 0 then G9 .u64 x10 x11 else x3), (bif (((x5 - 1) - 1) - 1) == 0 then G9 .u64 x10 x11 else x4), IntKind.i64.wrap (x5 + 1)))) (some (.inr (x1, x2, x3, x4)))
def CR (p0 : Ad) (p1 : Ad) : Option (Ad) :=
 (loop (Gt p1) (p0.w0, p0.w1, p0.w2, p0.w3, (0 : Int))).bind fun (x6, x7, x8, x9) => some (⟨x6, x7, x8, x9⟩ : Ad)
theorem Cx {p0 p1 q0} (hm : CR p0 p1 = some q0) (A : HH g h [] F) (hc : Ba (cfg.still 227) av = [.agg (AN p0), .agg (AN p1)] := by kernel_rfl) : ∃ v h', Bi cfg g h 227 av v h' ∧ v = .agg (AN q0) ∧ HH g h' [] F := by
 refine EN 19 [.cell 4 217] hc ?_
 clear hc
 unfold CR at hm
 refine bg 19 [(0, .agg (AN p0)), (1, .agg (AN p1))] fun fr H => ?_
 refine AF 3 ?_
 obtain ⟨h1, e1, A⟩ := A.pu (.cells none 2 (AN p0))
 refine BP 2 (.ptr (some (h.size, 0))) e1 H fun fr t H => ?_
 obtain ⟨h2, e2, A⟩ := A.pu (.cells none 2 (AN p1))
 refine BP 3 (.ptr (some (h1.size, 0))) e2 H fun fr t H => ?_
 obtain ⟨h3, e3, A⟩ := A.pu (.cells none 2 [Au 0, Au 0, Au 0, Au 0])
 refine BP 4 (.ptr (some (h2.size, 0))) e3 H fun fr t H => ?_
 refine BD id (AR (AF 1 (AP 1 [(6, Ai 0)] H fun fr H => Af (id := 0) (by kernel_rfl) ?_)))
 obtain ⟨o1, ho, hm⟩ := bind_some hm
 refine BU (Q' := fun e fr' h' => (∃ x6 x7 x8 x9, e = .exit 0 ∧ (x6, x7, x8, x9) = o1 ∧ Has fr' 19 [(2, .ptr (some (h.size, 0))), (4, .ptr (some (h2.size, 0)))] ∧ HH g h' [.obj h2.size (.cells none 2 [Au 0, Au 0, Au 0, Au 0]), .obj h1.size (.cells none 2 (AN p1)), .obj h.size (.cells none 2 [Au x6, Au x7, Au x8, Au x9])] F) ∨ False) ?_ ?_
 ·refine CH (by kernel_rfl) (fun (s : Int × Int × Int × Int × Int) fr' h' => ∃ x1 x2 x3 x4 x5, (x1, x2, x3, x4, x5) = s ∧ Has fr' 19 [(2, .ptr (some (h.size, 0))), (3, .ptr (some (h1.size, 0))), (4, .ptr (some (h2.size, 0))), (6, Ai x5)] ∧ HH g h' [.obj h2.size (.cells none 2 [Au 0, Au 0, Au 0, Au 0]), .obj h1.size (.cells none 2 (AN p1)), .obj h.size (.cells none 2 [Au x1, Au x2, Au x3, Au x4])] F) ho ⟨_, _, _, _, _, rfl, H.ls, A⟩ ?_
  clear ho hm H A
  intro s q fr h4 hI hm
  obtain ⟨x1, x2, x3, x4, x5, rfl, H, A⟩ := hI
  unfold Gt at hm
  refine AF 1 (AP 1 [(7, .bool (decide (x5 < 4)))] H fun fr H => AR (Ae 7 H hm (fun hb hm H => ?_) fun hb hm H => ?_))
  ·refine B0 id (AR (Af (id := 1) (by kernel_rfl) ?_))
   refine AF 2 (AP 2 [(5, Ai x5)] H fun fr H => Df 4 9 ?_)
   obtain ⟨x10, hq1, hm⟩ := bind_some hm
   refine BA 1 [(9, Ai x5)] 10 (.ptr (some (h.size, 0 + x5.toNat * 1))) h4 H (fun fr => .of (Hv (by kernel_rfl) (It hq1 (h.size, 0) 1 rfl))) fun fr t H => ?_
   refine As 11 _ _ H (fun fr => .of (EP (by kernel_rfl) (HH.Vh A 2 rfl 0 (fun w : Int => Au w) [x1, x2, x3, x4] rfl hq1))) fun fr t H => ?_
   obtain ⟨x11, hq2, hm⟩ := bind_some hm
   refine BA 1 [] 13 (.ptr (some (h1.size, 0 + x5.toNat * 1))) h4 H (fun fr => .of (Hv (by kernel_rfl) (It hq2 (h1.size, 0) 1 rfl))) fun fr t H => ?_
   refine As 14 _ _ H (fun fr => .of (EP (by kernel_rfl) (HH.Vh A 1 rfl 0 (fun w : Int => Au w) [p1.w0, p1.w1, p1.w2, p1.w3] rfl hq2))) fun fr t H => ?_
   obtain ⟨x12, hq3, hm⟩ := bind_some hm
   refine BA 1 [(15, Au (G9 .u64 x10 x11))] 16 (.ptr (some (h.size, 0 + x5.toNat * 1))) h4 H (fun fr => .of (Hv (by kernel_rfl) (It hq3 (h.size, 0) 1 rfl))) fun fr t H => ?_
   obtain ⟨h5, hx, A1⟩ := HH.XM A 2 rfl 0 (fun w : Int => Au w) [x1, x2, x3, x4] (G9 .u64 x10 x11) (ds := [Au (bif x5 == 0 then G9 .u64 x10 x11 else x1), Au (bif (x5 - 1) == 0 then G9 .u64 x10 x11 else x2), Au (bif ((x5 - 1) - 1) == 0 then G9 .u64 x10 x11 else x3), Au (bif (((x5 - 1) - 1) - 1) == 0 then G9 .u64 x10 x11 else x4)]) rfl hq3 rfl rfl
   replace A : HH g h5 [_, _, .obj h.size (.cells none 2 [Au (bif x5 == 0 then G9 .u64 x10 x11 else x1), Au (bif (x5 - 1) == 0 then G9 .u64 x10 x11 else x2), Au (bif ((x5 - 1) - 1) == 0 then G9 .u64 x10 x11 else x3), Au (bif (((x5 - 1) - 1) - 1) == 0 then G9 .u64 x10 x11 else x4)])] F := A1
   refine Hk hx H fun fr t H => ?_
   refine F4 2 id (BV 2 [(2, .ptr (some (h.size, 0))), (3, .ptr (some (h1.size, 0))), (4, .ptr (some (h2.size, 0))), (6, Ai (IntKind.i64.wrap (x5 + 1)))] H fun fr H => at_nil ?_)
   exact nx hm ⟨_, _, _, _, _, rfl, H.ls, A⟩
  refine Bz (i := 0) (by kernel_rfl) ?_
  exact nr hm fun e => .inl ⟨_, _, _, _, rfl, e, H.ls, A⟩
 clear ho
 clear A
 intro e fr h6 hQ
 rcases hQ with ⟨x6, x7, x8, x9, rfl, rfl, H, A⟩ | hF
 ·show AW _ _ _ _ _ _ _
  refine AF 2 (As 18 _ _ H (fun fr => .of (B3 (by kernel_rfl) (A.F5 2 rfl (o := 0) (n := 4) ⟨Nat.le_of_ble_eq_true rfl, rfl⟩))) fun fr t H => ?_)
  obtain ⟨h7, hx, A⟩ := A.s0 0 [Au x6, Au x7, Au x8, Au x9] [_, _, _, _]
  refine Cy hx H fun fr t H => ?_
  refine BD id (AY ?_)
  obtain rfl := Ag hm
  refine ⟨.inl rfl, .agg [Au x6, Au x7, Au x8, Au x9], CS (.cell (rT H) (BL (by kernel_rfl) (by kernel_rfl) (A.la 0 0 4)) .nil), ?_⟩
  replace A := A.d0
  exact ⟨rfl, A⟩
 exact hF.elim
def HT (p0 : List UInt8) (s : Int × Int × Int × Int × Int) : Option ((Int × Int × Int × Int × Int) ⊕ ((Int × Int × Int × Int))) :=
 match s with
 | (x1, x2, x3, x4, x5) => Ac (decide (x5 < (p0.length : Int))) ((KW p0 x5).bind fun x10 => (En (⟨x1, x2, x3, x4⟩ : Ad) x10).bind fun x11 => some (.inl (x11.w0, x11.w1, x11.w2, x11.w3, IntKind.i64.wrap (x5 + 1)))) (some (.inr (x1, x2, x3, x4)))
def GW (p0 : List UInt8) : Option (Ad) :=
 (loop (HT p0) ((0 : Int), (0 : Int), (0 : Int), (0 : Int), (0 : Int))).bind fun (x6, x7, x8, x9) => some (⟨x6, x7, x8, x9⟩ : Ad)
theorem Kb {p0 q0} (hm : GW p0 = some q0) (A : HH g h [] F) (hc : Ba (cfg.still 278) av = [.str p0] := by kernel_rfl) : ∃ v h', Bi cfg g h 278 av v h' ∧ v = .agg (AN q0) ∧ HH g h' [] F := by
 refine EN 16 [.cell 2 217] hc ?_
 clear hc
 unfold GW at hm
 refine bg 16 [(0, .str p0)] fun fr H => ?_
 refine AF 1 ?_
 obtain ⟨h1, e1, A⟩ := A.pu (.cells none 2 [Au 0, Au 0, Au 0, Au 0])
 refine BP 2 (.ptr (some (h.size, 0))) e1 H fun fr t H => ?_
 refine CI 1 id ?_
 obtain ⟨h2, e2, A⟩ := A.pu (.cells none 2 [Au 0, Au 0, Au 0, Au 0])
 refine BP 3 (.ptr (some (h1.size, 0))) e2 H fun fr t H => ?_
 refine BD id (AR (AF 3 (AP 3 [(6, Ai (p0.length : Int)), (7, Ai 0)] H fun fr H => Af (id := 0) (by kernel_rfl) ?_)))
 obtain ⟨o1, ho, hm⟩ := bind_some hm
 refine BU (Q' := fun e fr' h' => (∃ x6 x7 x8 x9, e = .exit 0 ∧ (x6, x7, x8, x9) = o1 ∧ Has fr' 16 [(2, .ptr (some (h.size, 0))), (3, .ptr (some (h1.size, 0)))] ∧ HH g h' [.obj h1.size (.cells none 2 [Au x6, Au x7, Au x8, Au x9]), .obj h.size (.cells none 2 [Au 0, Au 0, Au 0, Au 0])] F) ∨ False) ?_ ?_
 ·refine CH (by kernel_rfl) (fun (s : Int × Int × Int × Int × Int) fr' h' => ∃ x1 x2 x3 x4 x5, (x1, x2, x3, x4, x5) = s ∧ Has fr' 16 [(0, .str p0), (2, .ptr (some (h.size, 0))), (3, .ptr (some (h1.size, 0))), (6, Ai (p0.length : Int)), (7, Ai x5)] ∧ HH g h' [.obj h1.size (.cells none 2 [Au x1, Au x2, Au x3, Au x4]), .obj h.size (.cells none 2 [Au 0, Au 0, Au 0, Au 0])] F) ho ⟨_, _, _, _, _, rfl, H.ls, A⟩ ?_
  clear ho hm H A
  intro s q fr h3 hI hm
  obtain ⟨x1, x2, x3, x4, x5, rfl, H, A⟩ := hI
  unfold HT at hm
  refine AF 1 (AP 1 [(8, .bool (decide (x5 < (p0.length : Int))))] H fun fr H => AR (Ae 8 H hm (fun hb hm H => ?_) fun hb hm H => ?_))
  ·refine B0 id (AR (Af (id := 1) (by kernel_rfl) ?_))
   refine AF 2 (Wy 2 [(4, Ai x5)] 4 H fun fr H => ?_)
   obtain ⟨x10, hx, hm⟩ := bind_some hm
   refine BA 2 [] 12 (Ab x10) h3 H (fun fr => .of (E5 (by kernel_rfl) hx)) fun fr t H => ?_
   obtain ⟨x11, hx, hm⟩ := bind_some hm
   obtain ⟨v1, h4, hr, rfl, A1⟩ := Jm (av := [.ptr (some (h1.size, 0)), Ab x10]) hx (A.cut 1)
   replace A := A.g11 A1
   refine RV hr H fun fr t H => ?_
   refine F4 2 id (BV 2 [(0, .str p0), (2, .ptr (some (h.size, 0))), (3, .ptr (some (h1.size, 0))), (6, Ai (p0.length : Int)), (7, Ai (IntKind.i64.wrap (x5 + 1)))] H fun fr H => at_nil ?_)
   exact nx hm ⟨_, _, _, _, _, rfl, H.ls, A⟩
  refine Bz (i := 0) (by kernel_rfl) ?_
  exact nr hm fun e => .inl ⟨_, _, _, _, rfl, e, H.ls, A⟩
 clear ho
 clear A
 intro e fr h5 hQ
 rcases hQ with ⟨x6, x7, x8, x9, rfl, rfl, H, A⟩ | hF
 ·show AW _ _ _ _ _ _ _
  refine AF 2 (As 15 _ _ H (fun fr => .of (B3 (by kernel_rfl) (A.F5 0 rfl (o := 0) (n := 4) ⟨Nat.le_of_ble_eq_true rfl, rfl⟩))) fun fr t H => ?_)
  obtain ⟨h6, hx, A⟩ := A.s1 0 [Au x6, Au x7, Au x8, Au x9] [_, _, _, _]
  refine Cy hx H fun fr t H => ?_
  refine BD id (AY ?_)
  obtain rfl := Ag hm
  refine ⟨.inl rfl, .agg [Au x6, Au x7, Au x8, Au x9], CS (.cell (rT H) (BL (by kernel_rfl) (by kernel_rfl) (A.la 1 0 4)) .nil), ?_⟩
  replace A := A.d0
  exact ⟨rfl, A⟩
 exact hF.elim
def GP (s : Int × Int × Int × Int × Int) : Option ((Int × Int × Int × Int × Int) ⊕ ((Int × Int × Int × Int))) :=
 match s with
 | (x1, x2, x3, x4, x5) => Ac (decide (x5 < 4)) ((HO ([x1, x2, x3, x4] : List Int) x5).bind fun x10 => (HO ([x1, x2, x3, x4] : List Int) x5).bind fun x11 => some (.inl ((bif x5 == 0 then MK .u64 x10 else x1), (bif (x5 - 1) == 0 then MK .u64 x10 else x2), (bif ((x5 - 1) - 1) == 0 then MK .u64 x10 else x3), (bif (((x5 - 1) - 1) - 1) == 0 then MK .u64 x10 else x4), IntKind.i64.wrap (x5 + 1)))) (some (.inr (x1, x2, x3, x4)))
def EC (p0 : Ad) : Option (Ad) :=
 (loop (GP) (p0.w0, p0.w1, p0.w2, p0.w3, (0 : Int))).bind fun (x6, x7, x8, x9) => some (⟨x6, x7, x8, x9⟩ : Ad)
theorem Je {p0 q0} (hm : EC p0 = some q0) (A : HH g h [] F) (hc : Ba (cfg.still 187) av = [.agg (AN p0)] := by kernel_rfl) : ∃ v h', Bi cfg g h 187 av v h' ∧ v = .agg (AN q0) ∧ HH g h' [] F := by
 refine EN 15 [.cell 2 217] hc ?_
 clear hc
 unfold EC at hm
 refine bg 15 [(0, .agg (AN p0))] fun fr H => ?_
 refine AF 2 ?_
 obtain ⟨h1, e1, A⟩ := A.pu (.cells none 2 (AN p0))
 refine BP 1 (.ptr (some (h.size, 0))) e1 H fun fr t H => ?_
 obtain ⟨h2, e2, A⟩ := A.pu (.cells none 2 [Au 0, Au 0, Au 0, Au 0])
 refine BP 2 (.ptr (some (h1.size, 0))) e2 H fun fr t H => ?_
 refine BD id (AR (AF 1 (AP 1 [(4, Ai 0)] H fun fr H => Af (id := 0) (by kernel_rfl) ?_)))
 obtain ⟨o1, ho, hm⟩ := bind_some hm
 refine BU (Q' := fun e fr' h' => (∃ x6 x7 x8 x9, e = .exit 0 ∧ (x6, x7, x8, x9) = o1 ∧ Has fr' 15 [(1, .ptr (some (h.size, 0))), (2, .ptr (some (h1.size, 0)))] ∧ HH g h' [.obj h1.size (.cells none 2 [Au 0, Au 0, Au 0, Au 0]), .obj h.size (.cells none 2 [Au x6, Au x7, Au x8, Au x9])] F) ∨ False) ?_ ?_
 ·refine CH (by kernel_rfl) (fun (s : Int × Int × Int × Int × Int) fr' h' => ∃ x1 x2 x3 x4 x5, (x1, x2, x3, x4, x5) = s ∧ Has fr' 15 [(1, .ptr (some (h.size, 0))), (2, .ptr (some (h1.size, 0))), (4, Ai x5)] ∧ HH g h' [.obj h1.size (.cells none 2 [Au 0, Au 0, Au 0, Au 0]), .obj h.size (.cells none 2 [Au x1, Au x2, Au x3, Au x4])] F) ho ⟨_, _, _, _, _, rfl, H.ls, A⟩ ?_
  clear ho hm H A
  intro s q fr h3 hI hm
  obtain ⟨x1, x2, x3, x4, x5, rfl, H, A⟩ := hI
  unfold GP at hm
  refine AF 1 (AP 1 [(5, .bool (decide (x5 < 4)))] H fun fr H => AR (Ae 5 H hm (fun hb hm H => ?_) fun hb hm H => ?_))
  ·refine B0 id (AR (Af (id := 1) (by kernel_rfl) ?_))
   refine AF 2 (Wy 2 [(3, Ai x5)] 7 H fun fr H => ?_)
   obtain ⟨x10, hq1, hm⟩ := bind_some hm
   refine BA 2 [(7, Ai x5)] 9 (.ptr (some (h.size, 0 + x5.toNat * 1))) h3 H (fun fr => .of (Hv (by kernel_rfl) (It hq1 (h.size, 0) 1 rfl))) fun fr t H => ?_
   refine As 10 _ _ H (fun fr => .of (EP (by kernel_rfl) (HH.Vh A 1 rfl 0 (fun w : Int => Au w) [x1, x2, x3, x4] rfl hq1))) fun fr t H => ?_
   obtain ⟨x11, hq2, hm⟩ := bind_some hm
   refine BA 1 [(11, Au (MK .u64 x10))] 12 (.ptr (some (h.size, 0 + x5.toNat * 1))) h3 H (fun fr => .of (Hv (by kernel_rfl) (It hq2 (h.size, 0) 1 rfl))) fun fr t H => ?_
   obtain ⟨h4, hx, A1⟩ := HH.XM A 1 rfl 0 (fun w : Int => Au w) [x1, x2, x3, x4] (MK .u64 x10) (ds := [Au (bif x5 == 0 then MK .u64 x10 else x1), Au (bif (x5 - 1) == 0 then MK .u64 x10 else x2), Au (bif ((x5 - 1) - 1) == 0 then MK .u64 x10 else x3), Au (bif (((x5 - 1) - 1) - 1) == 0 then MK .u64 x10 else x4)]) rfl hq2 rfl rfl
   replace A : HH g h4 [_, .obj h.size (.cells none 2 [Au (bif x5 == 0 then MK .u64 x10 else x1), Au (bif (x5 - 1) == 0 then MK .u64 x10 else x2), Au (bif ((x5 - 1) - 1) == 0 then MK .u64 x10 else x3), Au (bif (((x5 - 1) - 1) - 1) == 0 then MK .u64 x10 else x4)])] F := A1
   refine Hk hx H fun fr t H => ?_
   refine F4 2 id (BV 2 [(1, .ptr (some (h.size, 0))), (2, .ptr (some (h1.size, 0))), (4, Ai (IntKind.i64.wrap (x5 + 1)))] H fun fr H => at_nil ?_)
   exact nx hm ⟨_, _, _, _, _, rfl, H.ls, A⟩
  refine Bz (i := 0) (by kernel_rfl) ?_
  exact nr hm fun e => .inl ⟨_, _, _, _, rfl, e, H.ls, A⟩
 clear ho
 clear A
 intro e fr h5 hQ
 rcases hQ with ⟨x6, x7, x8, x9, rfl, rfl, H, A⟩ | hF
 ·show AW _ _ _ _ _ _ _
  refine AF 2 (As 14 _ _ H (fun fr => .of (B3 (by kernel_rfl) (A.F5 1 rfl (o := 0) (n := 4) ⟨Nat.le_of_ble_eq_true rfl, rfl⟩))) fun fr t H => ?_)
  obtain ⟨h6, hx, A⟩ := A.s0 0 [Au x6, Au x7, Au x8, Au x9] [_, _, _, _]
  refine Cy hx H fun fr t H => ?_
  refine BD id (AY ?_)
  obtain rfl := Ag hm
  refine ⟨.inl rfl, .agg [Au x6, Au x7, Au x8, Au x9], CS (.cell (rT H) (BL (by kernel_rfl) (by kernel_rfl) (A.la 0 0 4)) .nil), ?_⟩
  replace A := A.d0
  exact ⟨rfl, A⟩
 exact hF.elim
def GS (p1 : Ad) (s : Int × Int × Int × Int × Int) : Option ((Int × Int × Int × Int × Int) ⊕ ((Int × Int × Int × Int))) :=
 match s with
 | (x1, x2, x3, x4, x5) => Ac (decide (x5 < 4)) ((HO ([x1, x2, x3, x4] : List Int) x5).bind fun x10 => (HO ([p1.w0, p1.w1, p1.w2, p1.w3] : List Int) x5).bind fun x11 => (HO ([x1, x2, x3, x4] : List Int) x5).bind fun x12 => some (.inl ((bif x5 == 0 then Br .u64 x10 x11 else x1), (bif (x5 - 1) == 0 then Br .u64 x10 x11 else x2), (bif ((x5 - 1) - 1) == 0 then Br .u64 x10 x11 else x3), (bif (((x5 - 1) - 1) - 1) == 0 then Br .u64 x10 x11 else x4), IntKind.i64.wrap (x5 + 1)))) (some (.inr (x1, x2, x3, x4)))
def FV (p0 : Ad) (p1 : Ad) : Option (Ad) :=
 (loop (GS p1) (p0.w0, p0.w1, p0.w2, p0.w3, (0 : Int))).bind fun (x6, x7, x8, x9) => some (⟨x6, x7, x8, x9⟩ : Ad)
theorem Mi {p0 p1 q0} (hm : FV p0 p1 = some q0) (A : HH g h [] F) (hc : Ba (cfg.still 279) av = [.agg (AN p0), .agg (AN p1)] := by kernel_rfl) : ∃ v h', Bi cfg g h 279 av v h' ∧ v = .agg (AN q0) ∧ HH g h' [] F := by
 refine EN 19 [.cell 4 217] hc ?_
 clear hc
 unfold FV at hm
 refine bg 19 [(0, .agg (AN p0)), (1, .agg (AN p1))] fun fr H => ?_
 refine AF 3 ?_
 obtain ⟨h1, e1, A⟩ := A.pu (.cells none 2 (AN p0))
 refine BP 2 (.ptr (some (h.size, 0))) e1 H fun fr t H => ?_
 obtain ⟨h2, e2, A⟩ := A.pu (.cells none 2 (AN p1))
 refine BP 3 (.ptr (some (h1.size, 0))) e2 H fun fr t H => ?_
 obtain ⟨h3, e3, A⟩ := A.pu (.cells none 2 [Au 0, Au 0, Au 0, Au 0])
 refine BP 4 (.ptr (some (h2.size, 0))) e3 H fun fr t H => ?_
 refine BD id (AR (AF 1 (AP 1 [(6, Ai 0)] H fun fr H => Af (id := 0) (by kernel_rfl) ?_)))
 obtain ⟨o1, ho, hm⟩ := bind_some hm
 refine BU (Q' := fun e fr' h' => (∃ x6 x7 x8 x9, e = .exit 0 ∧ (x6, x7, x8, x9) = o1 ∧ Has fr' 19 [(2, .ptr (some (h.size, 0))), (4, .ptr (some (h2.size, 0)))] ∧ HH g h' [.obj h2.size (.cells none 2 [Au 0, Au 0, Au 0, Au 0]), .obj h1.size (.cells none 2 (AN p1)), .obj h.size (.cells none 2 [Au x6, Au x7, Au x8, Au x9])] F) ∨ False) ?_ ?_
 ·refine CH (by kernel_rfl) (fun (s : Int × Int × Int × Int × Int) fr' h' => ∃ x1 x2 x3 x4 x5, (x1, x2, x3, x4, x5) = s ∧ Has fr' 19 [(2, .ptr (some (h.size, 0))), (3, .ptr (some (h1.size, 0))), (4, .ptr (some (h2.size, 0))), (6, Ai x5)] ∧ HH g h' [.obj h2.size (.cells none 2 [Au 0, Au 0, Au 0, Au 0]), .obj h1.size (.cells none 2 (AN p1)), .obj h.size (.cells none 2 [Au x1, Au x2, Au x3, Au x4])] F) ho ⟨_, _, _, _, _, rfl, H.ls, A⟩ ?_
  clear ho hm H A
  intro s q fr h4 hI hm
  obtain ⟨x1, x2, x3, x4, x5, rfl, H, A⟩ := hI
  unfold GS at hm
  refine AF 1 (AP 1 [(7, .bool (decide (x5 < 4)))] H fun fr H => AR (Ae 7 H hm (fun hb hm H => ?_) fun hb hm H => ?_))
  ·refine B0 id (AR (Af (id := 1) (by kernel_rfl) ?_))
   refine AF 2 (AP 2 [(5, Ai x5)] H fun fr H => Df 4 9 ?_)
   obtain ⟨x10, hq1, hm⟩ := bind_some hm
   refine BA 1 [(9, Ai x5)] 10 (.ptr (some (h.size, 0 + x5.toNat * 1))) h4 H (fun fr => .of (Hv (by kernel_rfl) (It hq1 (h.size, 0) 1 rfl))) fun fr t H => ?_
   refine As 11 _ _ H (fun fr => .of (EP (by kernel_rfl) (HH.Vh A 2 rfl 0 (fun w : Int => Au w) [x1, x2, x3, x4] rfl hq1))) fun fr t H => ?_
   obtain ⟨x11, hq2, hm⟩ := bind_some hm
   refine BA 1 [] 13 (.ptr (some (h1.size, 0 + x5.toNat * 1))) h4 H (fun fr => .of (Hv (by kernel_rfl) (It hq2 (h1.size, 0) 1 rfl))) fun fr t H => ?_
   refine As 14 _ _ H (fun fr => .of (EP (by kernel_rfl) (HH.Vh A 1 rfl 0 (fun w : Int => Au w) [p1.w0, p1.w1, p1.w2, p1.w3] rfl hq2))) fun fr t H => ?_
   obtain ⟨x12, hq3, hm⟩ := bind_some hm
   refine BA 1 [(15, Au (Br .u64 x10 x11))] 16 (.ptr (some (h.size, 0 + x5.toNat * 1))) h4 H (fun fr => .of (Hv (by kernel_rfl) (It hq3 (h.size, 0) 1 rfl))) fun fr t H => ?_
   obtain ⟨h5, hx, A1⟩ := HH.XM A 2 rfl 0 (fun w : Int => Au w) [x1, x2, x3, x4] (Br .u64 x10 x11) (ds := [Au (bif x5 == 0 then Br .u64 x10 x11 else x1), Au (bif (x5 - 1) == 0 then Br .u64 x10 x11 else x2), Au (bif ((x5 - 1) - 1) == 0 then Br .u64 x10 x11 else x3), Au (bif (((x5 - 1) - 1) - 1) == 0 then Br .u64 x10 x11 else x4)]) rfl hq3 rfl rfl
   replace A : HH g h5 [_, _, .obj h.size (.cells none 2 [Au (bif x5 == 0 then Br .u64 x10 x11 else x1), Au (bif (x5 - 1) == 0 then Br .u64 x10 x11 else x2), Au (bif ((x5 - 1) - 1) == 0 then Br .u64 x10 x11 else x3), Au (bif (((x5 - 1) - 1) - 1) == 0 then Br .u64 x10 x11 else x4)])] F := A1
   refine Hk hx H fun fr t H => ?_
   refine F4 2 id (BV 2 [(2, .ptr (some (h.size, 0))), (3, .ptr (some (h1.size, 0))), (4, .ptr (some (h2.size, 0))), (6, Ai (IntKind.i64.wrap (x5 + 1)))] H fun fr H => at_nil ?_)
   exact nx hm ⟨_, _, _, _, _, rfl, H.ls, A⟩
  refine Bz (i := 0) (by kernel_rfl) ?_
  exact nr hm fun e => .inl ⟨_, _, _, _, rfl, e, H.ls, A⟩
 clear ho
 clear A
 intro e fr h6 hQ
 rcases hQ with ⟨x6, x7, x8, x9, rfl, rfl, H, A⟩ | hF
 ·show AW _ _ _ _ _ _ _
  refine AF 2 (As 18 _ _ H (fun fr => .of (B3 (by kernel_rfl) (A.F5 2 rfl (o := 0) (n := 4) ⟨Nat.le_of_ble_eq_true rfl, rfl⟩))) fun fr t H => ?_)
  obtain ⟨h7, hx, A⟩ := A.s0 0 [Au x6, Au x7, Au x8, Au x9] [_, _, _, _]
  refine Cy hx H fun fr t H => ?_
  refine BD id (AY ?_)
  obtain rfl := Ag hm
  refine ⟨.inl rfl, .agg [Au x6, Au x7, Au x8, Au x9], CS (.cell (rT H) (BL (by kernel_rfl) (by kernel_rfl) (A.la 0 0 4)) .nil), ?_⟩
  replace A := A.d0
  exact ⟨rfl, A⟩
 exact hF.elim
def GD (p0 : List UInt8) : Option (Ad × Bool) :=
 (CA (65 : Int) (90 : Int)).bind fun x1 => (CA (97 : Int) (122 : Int)).bind fun x2 => (CA (48 : Int) (57 : Int)).bind fun x3 => (CR x1 x2).bind fun x4 => (CR x4 x3).bind fun x5 => Ac (p0 == ([97, 108, 112, 104, 97] : List UInt8)) ((CR x1 x2).bind fun x6 => some (x6, true)) (Ac (p0 == ([100, 105, 103, 105, 116] : List UInt8)) (some (x3, true)) (Ac (p0 == ([97, 108, 110, 117, 109] : List UInt8)) (some (x5, true)) (Ac (p0 == ([117, 112, 112, 101, 114] : List UInt8)) (some (x1, true)) (Ac (p0 == ([108, 111, 119, 101, 114] : List UInt8)) (some (x2, true)) (Ac (p0 == ([120, 100, 105, 103, 105, 116] : List UInt8)) ((CA (65 : Int) (70 : Int)).bind fun x7 => (CR x3 x7).bind fun x8 => (CA (97 : Int) (102 : Int)).bind fun x9 => (CR x8 x9).bind fun x10 => some (x10, true)) (Ac (p0 == ([98, 108, 97, 110, 107] : List UInt8)) ((GW ([32, 9] : List UInt8)).bind fun x11 => some (x11, true)) (Ac (p0 == ([115, 112, 97, 99, 101] : List UInt8)) ((CA (9 : Int) (13 : Int)).bind fun x12 => (GW ([32] : List UInt8)).bind fun x13 => (CR x12 x13).bind fun x14 => some (x14, true)) (Ac (p0 == ([99, 110, 116, 114, 108] : List UInt8)) ((CA (0 : Int) (31 : Int)).bind fun x15 => (GW ([127] : List UInt8)).bind fun x16 => (CR x15 x16).bind fun x17 => some (x17, true)) (Ac (p0 == ([103, 114, 97, 112, 104] : List UInt8)) ((CA (33 : Int) (126 : Int)).bind fun x18 => some (x18, true)) (Ac (p0 == ([112, 114, 105, 110, 116] : List UInt8)) ((CA (32 : Int) (126 : Int)).bind fun x19 => some (x19, true)) (Ac (p0 == ([112, 117, 110, 99, 116] : List UInt8)) ((CA (33 : Int) (126 : Int)).bind fun x20 => (EC x5).bind fun x21 => (FV x20 x21).bind fun x22 => some (x22, true)) (some ((⟨(0 : Int), (0 : Int), (0 : Int), (0 : Int)⟩ : Ad), false)))))))))))))
theorem OC {p0 q0 q1} (hm : GD p0 = some (q0, q1)) (A : HH g h [] F) (hc : Ba (cfg.still 254) av = [.str p0] := by kernel_rfl) : ∃ v h', Bi cfg g h 254 av v h' ∧ v = .tuple [.agg (AN q0), .bool q1] ∧ HH g h' [] F := by
 refine EN 67 [.cell 2 217, .tmp 3] hc ?_
 clear hc
 unfold GD at hm
 refine bg 67 [(0, .str p0)] fun fr H => ?_
 refine AF 2 ?_
 obtain ⟨h1, e1, A⟩ := A.pu (.cells none 2 [Au 0, Au 0, Au 0, Au 0])
 refine BP 2 (.ptr (some (h.size, 0))) e1 H fun fr t H => ?_
 refine B1 1 [] 9 H fun fr H => ?_
 obtain ⟨x1, hx, hm⟩ := bind_some hm
 obtain ⟨v1, h2, hr, rfl, A1⟩ := Cg (av := [Ab 65, Ab 90]) hx (A.cut 0)
 replace A : HH g h2 [.obj h.size (.cells none 2 [Au (0 : Int), Au (0 : Int), Au (0 : Int), Au (0 : Int)])] F := A.Cp (n := 0) A1
 refine A8 8 hr H fun fr t H => ?_
 obtain ⟨x2, hx, hm⟩ := bind_some hm
 obtain ⟨v1, h3, hr, rfl, A1⟩ := Cg (av := [Ab 97, Ab 122]) hx (A.cut 0)
 replace A := A.C4 A1
 refine A8 9 hr H fun fr t H => ?_
 obtain ⟨x3, hx, hm⟩ := bind_some hm
 obtain ⟨v1, h4, hr, rfl, A1⟩ := Cg (av := [Ab 48, Ab 57]) hx (A.cut 0)
 replace A := A.C4 A1
 refine A8 10 hr H fun fr t H => ?_
 obtain ⟨h5, e2, A⟩ := A.pu (.cells none 2 [Au 0, Au 0, Au 0, Au 0])
 refine BP 4 (.ptr (some (h4.size, 0))) e2 H fun fr t H => ?_
 obtain ⟨h6, e3, A⟩ := A.pu (.cells none 2 [Au 0, Au 0, Au 0, Au 0])
 refine BP 5 (.ptr (some (h5.size, 0))) e3 H fun fr t H => ?_
 obtain ⟨h7, e4, A⟩ := A.pu (.cells none 2 [Au 0, Au 0, Au 0, Au 0])
 refine BP 6 (.ptr (some (h6.size, 0))) e4 H fun fr t H => ?_
 obtain ⟨h8, hx, A1⟩ := A.st 2 rfl (o := 0) (new := (AN x1)) (ds := (AN x1)) (Nat.le_of_ble_eq_true rfl) rfl rfl
 replace A : HH g h8 [.obj h6.size (.cells none 2 [Au 0, Au 0, Au 0, Au 0]), .obj h5.size (.cells none 2 [Au 0, Au 0, Au 0, Au 0]), .obj h4.size (.cells none 2 (AN x1)), _] F := A1
 refine Cy hx H fun fr t H => ?_
 obtain ⟨h9, hx, A⟩ := A.s1 0 (AN x2) [_, _, _, _]
 refine Cy hx H fun fr t H => ?_
 obtain ⟨h10, hx, A⟩ := A.s0 0 (AN x3) [_, _, _, _]
 refine Cy hx H fun fr t H => ?_
 refine BD id (AR (JV 2 7 [(0, []), (1, []), (3, []), (5, []), (2, [3, 5]), (4, [5]), (6, [])] ?_))
 refine CT 11 (.agg (AN x1)) h10 [(0, h4.size)] (g.Bo) H (fun fr => .of (B3 (by kernel_rfl) (A.la 2 0 4))) (fun fr H => ?_)
 refine CT 12 (.agg (AN x2)) h10 [(1, h5.size), (0, h4.size)] (g.Bo) H (fun fr => .of (B3 (by kernel_rfl) (A.la 1 0 4))) (fun fr H => ?_)
 refine CT 14 (.agg (AN x3)) h10 [(3, h6.size), (1, h5.size), (0, h4.size)] (g.Bo) H (fun fr => .of (B3 (by kernel_rfl) (A.la 0 0 4))) (fun fr H => ?_)
 obtain ⟨h11, e5, A⟩ := A.pu (.cells none 2 [Au 0, Au 0, Au 0, Au 0])
 refine CT 7 (.ptr (some (h10.size, 0))) h11 [(5, h10.size), (3, h6.size), (1, h5.size), (0, h4.size)] (g.Bo) H (fun fr => .of (TQ (by kernel_rfl) (congrArg some e5.symm))) (fun fr H => ?_)
 have A1 := A.Hz 0 (pr := [h10.size, h6.size]) (.cons 0 rfl (by simp [Ck.ids]) (.cons 1 rfl (by simp [Ck.ids]) .nil))
 obtain ⟨x4, hx, hm⟩ := bind_some hm
 obtain ⟨v1, h12, hr, rfl, A1⟩ := Cx (av := [.agg (AN x1), .agg (AN x2)]) hx A1
 replace A : HH g h12 [.obj h10.size (.cells none 2 [Au (0 : Int), Au (0 : Int), Au (0 : Int), Au (0 : Int)]), _, _, _, _] F := A.Si (n := 0) A1
 refine CT 13 (.agg (AN x4)) h12 [(5, h10.size), (3, h6.size), (1, h5.size), (0, h4.size)] (h10.size :: h6.size :: g.Bo) H (fun fr => Steps.call (by kernel_rfl) hr) (fun fr H => ?_)
 have A1 := A.Hz 0 (pr := [h10.size]) (.cons 0 rfl (by simp [Ck.ids]) .nil)
 obtain ⟨x5, hx, hm⟩ := bind_some hm
 obtain ⟨v1, h13, hr, rfl, A1⟩ := Cx (av := [.agg (AN x4), .agg (AN x3)]) hx A1
 replace A := A.WW A1
 refine CT 15 (.agg (AN x5)) h13 [(5, h10.size), (3, h6.size), (1, h5.size), (0, h4.size)] (h10.size :: g.Bo) H (fun fr => Steps.call (by kernel_rfl) hr) (fun fr H => ?_)
 obtain ⟨h14, hx, A⟩ := A.s0 0 (AN x5) [_, _, _, _]
 refine H5 (.tuple []) h14 [(5, h10.size), (3, h6.size), (1, h5.size), (0, h4.size)] (g.Bo) H (fun fr => .of (LZ (by kernel_rfl) (JU hx rfl))) (fun fr H => ?_)
 refine BD id (AR (AF 1 (AP 1 [(16, .str p0)] H fun fr H => Af (id := 0) (by kernel_rfl) ?_)))
 refine AF 2 (AP 2 [(17, .bool (p0 == ([97, 108, 112, 104, 97] : List UInt8)))] H fun fr H => Ae 17 H hm (fun hb hm H => ?_) fun hb hm H => ?_)
 ·refine AF 5 (As 19 _ _ H (fun fr => .of (B3 (by kernel_rfl) (A.F5 3 rfl (o := 0) (n := 4) ⟨Nat.le_of_ble_eq_true rfl, rfl⟩))) fun fr t H => ?_)
  refine As 20 _ _ H (fun fr => .of (B3 (by kernel_rfl) (A.F5 2 rfl (o := 0) (n := 4) ⟨Nat.le_of_ble_eq_true rfl, rfl⟩))) fun fr t H => ?_
  obtain ⟨x6, hx, hm⟩ := bind_some hm
  obtain ⟨v1, h15, hr, rfl, A1⟩ := Cx (av := [.agg (AN x1), .agg (AN x2)]) hx (A.cut 0)
  replace A := A.C4 A1
  refine A8 21 hr H fun fr t H => ?_
  obtain ⟨h16, hx, A⟩ := A.s4 0 (AN x6) [_, _, _, _]
  refine Cy hx H fun fr t H => ?_
  refine AP 1 [(3, .bool true)] H fun fr H => AY ?_
  obtain ⟨rfl, rfl⟩ := B6 hm
  refine ⟨.inl rfl, .tuple [.agg (AN x6), .bool true], B8 (.cell (rT H) (BL (by kernel_rfl) (by kernel_rfl) (A.la 4 0 4)) (.tmp (rT H) .nil)), ?_⟩
  replace A := A.d0
  exact ⟨rfl, A⟩
 refine AF 2 (AP 2 [(22, .bool (p0 == ([100, 105, 103, 105, 116] : List UInt8)))] H fun fr H => Ae 22 H hm (fun hb hm H => ?_) fun hb hm H => ?_)
 ·refine AF 3 (As 24 _ _ H (fun fr => .of (B3 (by kernel_rfl) (A.F5 1 rfl (o := 0) (n := 4) ⟨Nat.le_of_ble_eq_true rfl, rfl⟩))) fun fr t H => ?_)
  obtain ⟨h17, hx, A⟩ := A.s4 0 (AN x3) [_, _, _, _]
  refine Cy hx H fun fr t H => ?_
  refine AP 1 [(3, .bool true)] H fun fr H => AY ?_
  obtain ⟨rfl, rfl⟩ := B6 hm
  refine ⟨.inl rfl, .tuple [.agg (AN x3), .bool true], B8 (.cell (rT H) (BL (by kernel_rfl) (by kernel_rfl) (A.la 4 0 4)) (.tmp (rT H) .nil)), ?_⟩
  replace A := A.d0
  exact ⟨rfl, A⟩
 refine AF 2 (AP 2 [(25, .bool (p0 == ([97, 108, 110, 117, 109] : List UInt8)))] H fun fr H => Ae 25 H hm (fun hb hm H => ?_) fun hb hm H => ?_)
 ·refine AF 3 (As 27 _ _ H (fun fr => .of (B3 (by kernel_rfl) (A.F5 0 rfl (o := 0) (n := 4) ⟨Nat.le_of_ble_eq_true rfl, rfl⟩))) fun fr t H => ?_)
  obtain ⟨h18, hx, A⟩ := A.s4 0 (AN x5) [_, _, _, _]
  refine Cy hx H fun fr t H => ?_
  refine AP 1 [(3, .bool true)] H fun fr H => AY ?_
  obtain ⟨rfl, rfl⟩ := B6 hm
  refine ⟨.inl rfl, .tuple [.agg (AN x5), .bool true], B8 (.cell (rT H) (BL (by kernel_rfl) (by kernel_rfl) (A.la 4 0 4)) (.tmp (rT H) .nil)), ?_⟩
  replace A := A.d0
  exact ⟨rfl, A⟩
 refine AF 2 (AP 2 [(28, .bool (p0 == ([117, 112, 112, 101, 114] : List UInt8)))] H fun fr H => Ae 28 H hm (fun hb hm H => ?_) fun hb hm H => ?_)
 ·refine AF 3 (As 30 _ _ H (fun fr => .of (B3 (by kernel_rfl) (A.F5 3 rfl (o := 0) (n := 4) ⟨Nat.le_of_ble_eq_true rfl, rfl⟩))) fun fr t H => ?_)
  obtain ⟨h19, hx, A⟩ := A.s4 0 (AN x1) [_, _, _, _]
  refine Cy hx H fun fr t H => ?_
  refine AP 1 [(3, .bool true)] H fun fr H => AY ?_
  obtain ⟨rfl, rfl⟩ := B6 hm
  refine ⟨.inl rfl, .tuple [.agg (AN x1), .bool true], B8 (.cell (rT H) (BL (by kernel_rfl) (by kernel_rfl) (A.la 4 0 4)) (.tmp (rT H) .nil)), ?_⟩
  replace A := A.d0
  exact ⟨rfl, A⟩
 refine AF 2 (AP 2 [(31, .bool (p0 == ([108, 111, 119, 101, 114] : List UInt8)))] H fun fr H => Ae 31 H hm (fun hb hm H => ?_) fun hb hm H => ?_)
 ·refine AF 3 (As 33 _ _ H (fun fr => .of (B3 (by kernel_rfl) (A.F5 2 rfl (o := 0) (n := 4) ⟨Nat.le_of_ble_eq_true rfl, rfl⟩))) fun fr t H => ?_)
  obtain ⟨h20, hx, A⟩ := A.s4 0 (AN x2) [_, _, _, _]
  refine Cy hx H fun fr t H => ?_
  refine AP 1 [(3, .bool true)] H fun fr H => AY ?_
  obtain ⟨rfl, rfl⟩ := B6 hm
  refine ⟨.inl rfl, .tuple [.agg (AN x2), .bool true], B8 (.cell (rT H) (BL (by kernel_rfl) (by kernel_rfl) (A.la 4 0 4)) (.tmp (rT H) .nil)), ?_⟩
  replace A := A.d0
  exact ⟨rfl, A⟩
 refine AF 2 (AP 2 [(34, .bool (p0 == ([120, 100, 105, 103, 105, 116] : List UInt8)))] H fun fr H => Ae 34 H hm (fun hb hm H => ?_) fun hb hm H => ?_)
 ·refine AR (JV 15 7 [(0, []), (1, [0]), (2, []), (3, []), (4, []), (5, []), (6, [])] ?_)
  refine CT 36 (.agg (AN x3)) h14 [(0, h6.size)] (g.Bo) H (fun fr => .of (B3 (by kernel_rfl) (A.la 1 0 4))) (fun fr H => ?_)
  have A1 := A.Hz 0 (pr := [h6.size]) (.cons 1 rfl (by simp [Ck.ids]) .nil)
  obtain ⟨x7, hx, hm⟩ := bind_some hm
  obtain ⟨v1, h21, hr, rfl, A1⟩ := Cg (av := [Ab 65, Ab 70]) hx A1
  replace A := A.WW A1
  refine CT 37 (.agg (AN x7)) h21 [(0, h6.size)] (h6.size :: g.Bo) H (fun fr => Steps.call (by kernel_rfl) hr) (fun fr H => ?_)
  obtain ⟨x8, hx, hm⟩ := bind_some hm
  obtain ⟨v1, h22, hr, rfl, A1⟩ := Cx (av := [.agg (AN x3), .agg (AN x7)]) hx (A.cut 0)
  replace A := A.C4 A1
  refine CT 38 (.agg (AN x8)) h22 [(0, h6.size)] (g.Bo) H (fun fr => Steps.call (by kernel_rfl) hr) (fun fr H => ?_)
  obtain ⟨x9, hx, hm⟩ := bind_some hm
  obtain ⟨v1, h23, hr, rfl, A1⟩ := Cg (av := [Ab 97, Ab 102]) hx (A.cut 0)
  replace A := A.C4 A1
  refine CT 39 (.agg (AN x9)) h23 [(0, h6.size)] (g.Bo) H (fun fr => Steps.call (by kernel_rfl) hr) (fun fr H => ?_)
  obtain ⟨x10, hx, hm⟩ := bind_some hm
  obtain ⟨v1, h24, hr, rfl, A1⟩ := Cx (av := [.agg (AN x8), .agg (AN x9)]) hx (A.cut 0)
  replace A := A.C4 A1
  refine CT 40 (.agg (AN x10)) h24 [(0, h6.size)] (g.Bo) H (fun fr => Steps.call (by kernel_rfl) hr) (fun fr H => ?_)
  obtain ⟨h25, hx, A⟩ := A.s4 0 (AN x10) [_, _, _, _]
  refine H5 (.tuple []) h25 [(0, h6.size)] (g.Bo) H (fun fr => .of (LZ (by kernel_rfl) (JU hx rfl))) (fun fr H => ?_)
  refine AP 1 [(3, .bool true)] H fun fr H => AY ?_
  obtain ⟨rfl, rfl⟩ := B6 hm
  refine ⟨.inl rfl, .tuple [.agg (AN x10), .bool true], B8 (.cell (rT H) (BL (by kernel_rfl) (by kernel_rfl) (A.la 4 0 4)) (.tmp (rT H) .nil)), ?_⟩
  replace A := A.d0
  exact ⟨rfl, A⟩
 refine AF 2 (AP 2 [(41, .bool (p0 == ([98, 108, 97, 110, 107] : List UInt8)))] H fun fr H => Ae 41 H hm (fun hb hm H => ?_) fun hb hm H => ?_)
 ·refine AF 3 ?_
  obtain ⟨x11, hx, hm⟩ := bind_some hm
  obtain ⟨v1, h26, hr, rfl, A1⟩ := Kb (av := [.str ([32, 9] : List UInt8)]) hx (A.cut 0)
  replace A := A.C4 A1
  refine A8 43 hr H fun fr t H => ?_
  obtain ⟨h27, hx, A⟩ := A.s4 0 (AN x11) [_, _, _, _]
  refine Cy hx H fun fr t H => ?_
  refine AP 1 [(3, .bool true)] H fun fr H => AY ?_
  obtain ⟨rfl, rfl⟩ := B6 hm
  refine ⟨.inl rfl, .tuple [.agg (AN x11), .bool true], B8 (.cell (rT H) (BL (by kernel_rfl) (by kernel_rfl) (A.la 4 0 4)) (.tmp (rT H) .nil)), ?_⟩
  replace A := A.d0
  exact ⟨rfl, A⟩
 refine AF 2 (AP 2 [(44, .bool (p0 == ([115, 112, 97, 99, 101] : List UInt8)))] H fun fr H => Ae 44 H hm (fun hb hm H => ?_) fun hb hm H => ?_)
 ·refine AF 5 ?_
  obtain ⟨x12, hx, hm⟩ := bind_some hm
  obtain ⟨v1, h28, hr, rfl, A1⟩ := Cg (av := [Ab 9, Ab 13]) hx (A.cut 0)
  replace A := A.C4 A1
  refine A8 46 hr H fun fr t H => ?_
  obtain ⟨x13, hx, hm⟩ := bind_some hm
  obtain ⟨v1, h29, hr, rfl, A1⟩ := Kb (av := [.str ([32] : List UInt8)]) hx (A.cut 0)
  replace A := A.C4 A1
  refine A8 47 hr H fun fr t H => ?_
  obtain ⟨x14, hx, hm⟩ := bind_some hm
  obtain ⟨v1, h30, hr, rfl, A1⟩ := Cx (av := [.agg (AN x12), .agg (AN x13)]) hx (A.cut 0)
  replace A := A.C4 A1
  refine A8 48 hr H fun fr t H => ?_
  obtain ⟨h31, hx, A⟩ := A.s4 0 (AN x14) [_, _, _, _]
  refine Cy hx H fun fr t H => ?_
  refine AP 1 [(3, .bool true)] H fun fr H => AY ?_
  obtain ⟨rfl, rfl⟩ := B6 hm
  refine ⟨.inl rfl, .tuple [.agg (AN x14), .bool true], B8 (.cell (rT H) (BL (by kernel_rfl) (by kernel_rfl) (A.la 4 0 4)) (.tmp (rT H) .nil)), ?_⟩
  replace A := A.d0
  exact ⟨rfl, A⟩
 refine AF 2 (AP 2 [(49, .bool (p0 == ([99, 110, 116, 114, 108] : List UInt8)))] H fun fr H => Ae 49 H hm (fun hb hm H => ?_) fun hb hm H => ?_)
 ·refine AF 5 ?_
  obtain ⟨x15, hx, hm⟩ := bind_some hm
  obtain ⟨v1, h32, hr, rfl, A1⟩ := Cg (av := [Ab 0, Ab 31]) hx (A.cut 0)
  replace A := A.C4 A1
  refine A8 51 hr H fun fr t H => ?_
  obtain ⟨x16, hx, hm⟩ := bind_some hm
  obtain ⟨v1, h33, hr, rfl, A1⟩ := Kb (av := [.str ([127] : List UInt8)]) hx (A.cut 0)
  replace A := A.C4 A1
  refine A8 52 hr H fun fr t H => ?_
  obtain ⟨x17, hx, hm⟩ := bind_some hm
  obtain ⟨v1, h34, hr, rfl, A1⟩ := Cx (av := [.agg (AN x15), .agg (AN x16)]) hx (A.cut 0)
  replace A := A.C4 A1
  refine A8 53 hr H fun fr t H => ?_
  obtain ⟨h35, hx, A⟩ := A.s4 0 (AN x17) [_, _, _, _]
  refine Cy hx H fun fr t H => ?_
  refine AP 1 [(3, .bool true)] H fun fr H => AY ?_
  obtain ⟨rfl, rfl⟩ := B6 hm
  refine ⟨.inl rfl, .tuple [.agg (AN x17), .bool true], B8 (.cell (rT H) (BL (by kernel_rfl) (by kernel_rfl) (A.la 4 0 4)) (.tmp (rT H) .nil)), ?_⟩
  replace A := A.d0
  exact ⟨rfl, A⟩
 refine AF 2 (AP 2 [(54, .bool (p0 == ([103, 114, 97, 112, 104] : List UInt8)))] H fun fr H => Ae 54 H hm (fun hb hm H => ?_) fun hb hm H => ?_)
 ·refine AF 3 ?_
  obtain ⟨x18, hx, hm⟩ := bind_some hm
  obtain ⟨v1, h36, hr, rfl, A1⟩ := Cg (av := [Ab 33, Ab 126]) hx (A.cut 0)
  replace A := A.C4 A1
  refine A8 56 hr H fun fr t H => ?_
  obtain ⟨h37, hx, A⟩ := A.s4 0 (AN x18) [_, _, _, _]
  refine Cy hx H fun fr t H => ?_
  refine AP 1 [(3, .bool true)] H fun fr H => AY ?_
  obtain ⟨rfl, rfl⟩ := B6 hm
  refine ⟨.inl rfl, .tuple [.agg (AN x18), .bool true], B8 (.cell (rT H) (BL (by kernel_rfl) (by kernel_rfl) (A.la 4 0 4)) (.tmp (rT H) .nil)), ?_⟩
  replace A := A.d0
  exact ⟨rfl, A⟩
 refine AF 2 (AP 2 [(57, .bool (p0 == ([112, 114, 105, 110, 116] : List UInt8)))] H fun fr H => Ae 57 H hm (fun hb hm H => ?_) fun hb hm H => ?_)
 ·refine AF 3 ?_
  obtain ⟨x19, hx, hm⟩ := bind_some hm
  obtain ⟨v1, h38, hr, rfl, A1⟩ := Cg (av := [Ab 32, Ab 126]) hx (A.cut 0)
  replace A := A.C4 A1
  refine A8 59 hr H fun fr t H => ?_
  obtain ⟨h39, hx, A⟩ := A.s4 0 (AN x19) [_, _, _, _]
  refine Cy hx H fun fr t H => ?_
  refine AP 1 [(3, .bool true)] H fun fr H => AY ?_
  obtain ⟨rfl, rfl⟩ := B6 hm
  refine ⟨.inl rfl, .tuple [.agg (AN x19), .bool true], B8 (.cell (rT H) (BL (by kernel_rfl) (by kernel_rfl) (A.la 4 0 4)) (.tmp (rT H) .nil)), ?_⟩
  replace A := A.d0
  exact ⟨rfl, A⟩
 refine AF 2 (AP 2 [(60, .bool (p0 == ([112, 117, 110, 99, 116] : List UInt8)))] H fun fr H => Ae 60 H hm (fun hb hm H => ?_) fun hb hm H => ?_)
 ·refine AR (JV 27 6 [(1, []), (0, [1]), (2, []), (3, []), (4, []), (5, [])] ?_)
  refine CT 63 (.agg (AN x5)) h14 [(1, h10.size)] (g.Bo) H (fun fr => .of (B3 (by kernel_rfl) (A.la 0 0 4))) (fun fr H => ?_)
  have A1 := A.Hz 0 (pr := [h10.size]) (.cons 0 rfl (by simp [Ck.ids]) .nil)
  obtain ⟨x20, hx, hm⟩ := bind_some hm
  obtain ⟨v1, h40, hr, rfl, A1⟩ := Cg (av := [Ab 33, Ab 126]) hx A1
  replace A := A.WW A1
  refine CT 62 (.agg (AN x20)) h40 [(1, h10.size)] (h10.size :: g.Bo) H (fun fr => Steps.call (by kernel_rfl) hr) (fun fr H => ?_)
  obtain ⟨x21, hx, hm⟩ := bind_some hm
  obtain ⟨v1, h41, hr, rfl, A1⟩ := Je (av := [.agg (AN x5)]) hx (A.cut 0)
  replace A := A.C4 A1
  refine CT 64 (.agg (AN x21)) h41 [(1, h10.size)] (g.Bo) H (fun fr => Steps.call (by kernel_rfl) hr) (fun fr H => ?_)
  obtain ⟨x22, hx, hm⟩ := bind_some hm
  obtain ⟨v1, h42, hr, rfl, A1⟩ := Mi (av := [.agg (AN x20), .agg (AN x21)]) hx (A.cut 0)
  replace A := A.C4 A1
  refine CT 65 (.agg (AN x22)) h42 [(1, h10.size)] (g.Bo) H (fun fr => Steps.call (by kernel_rfl) hr) (fun fr H => ?_)
  obtain ⟨h43, hx, A⟩ := A.s4 0 (AN x22) [_, _, _, _]
  refine H5 (.tuple []) h43 [(1, h10.size)] (g.Bo) H (fun fr => .of (LZ (by kernel_rfl) (JU hx rfl))) (fun fr H => ?_)
  refine AP 1 [(3, .bool true)] H fun fr H => AY ?_
  obtain ⟨rfl, rfl⟩ := B6 hm
  refine ⟨.inl rfl, .tuple [.agg (AN x22), .bool true], B8 (.cell (rT H) (BL (by kernel_rfl) (by kernel_rfl) (A.la 4 0 4)) (.tmp (rT H) .nil)), ?_⟩
  replace A := A.d0
  exact ⟨rfl, A⟩
 refine CN 3 id ?_
 obtain ⟨h44, hx, A⟩ := A.s4 0 [Au 0, Au 0, Au 0, Au 0] [_, _, _, _]
 refine Dm 1 [] hx H fun fr t H => ?_
 refine AP 1 [(3, .bool false)] H fun fr H => AY ?_
 obtain ⟨rfl, rfl⟩ := B6 hm
 refine ⟨.inl rfl, .tuple [.agg [Au 0, Au 0, Au 0, Au 0], .bool false], B8 (.cell (rT H) (BL (by kernel_rfl) (by kernel_rfl) (A.la 4 0 4)) (.tmp (rT H) .nil)), ?_⟩
 replace A := A.d0
 exact ⟨rfl, A⟩
def D4 (p0 : BW) : Option (Bool × BW) :=
 (HX p0.s_ (some p0.at_) none).bind fun x1 => Ca (decide (x1.length ≤ 4294967280)) <| Ac (!((Lib.cut x1 ([58, 93] : List UInt8)).2.2)) (some (false, p0)) ((GD ((Lib.cut x1 ([58, 93] : List UInt8)).1)).bind fun (x2, x3) => (CR p0.DR x2).bind fun x4 => some (x3, (⟨p0.s_, IntKind.i64.wrap (p0.at_ + (IntKind.i64.wrap ((((Lib.cut x1 ([58, 93] : List UInt8)).1).length : Int) + 2))), p0.Gp, x4⟩ : BW)))
theorem KH {p0 bp0 q0 u0} (hm : D4 p0 = some (q0, u0)) (A : HH g h [.obj bp0 (.cells none 2 (CO p0))] F) (hc : Ba (cfg.still 225) av = [.ptr (some (bp0, 0))] := by kernel_rfl) : ∃ v h', Bi cfg g h 225 av v h' ∧ v = .bool q0 ∧ HH g h' [.obj bp0 (.cells none 2 (CO u0))] F := by
 refine EN 48 [.tmp 2] hc ?_
 clear hc
 unfold D4 at hm
 refine bg 48 [(0, .ptr (some (bp0, 0)))] fun fr H => ?_
 refine AF 1 (AP 1 [] H fun fr H => AR (Df 1 17 ?_))
 refine Ah 3 [] 11 0 0 A H fun fr t H => ?_
 refine Ah 3 [] 15 0 1 A H fun fr t H => ?_
 obtain ⟨x1, hx, hm⟩ := bind_some hm
 refine As 16 (.str x1) h H (fun fr => .of (GA (k := .i64) (k' := .i64) (lo := (some p0.at_)) (hi := none) (by kernel_rfl) hx)) fun fr t H => ?_
 obtain ⟨hb, hm⟩ := BE hm
 refine As 17 (.tuple [.str ((Lib.cut x1 ([58, 93] : List UInt8)).1), .str ((Lib.cut x1 ([58, 93] : List UInt8)).2.1), .bool ((Lib.cut x1 ([58, 93] : List UInt8)).2.2)]) h H (fun fr => Steps.call (by kernel_rfl) (QE (C := cfg) (f := 19) (a := 0) (by kernel_rfl) (l := exts) rfl (by kernel_rfl) hb)) fun fr t H => ?_
 refine AP 7 [(3, .str ((Lib.cut x1 ([58, 93] : List UInt8)).1)), (5, .bool ((Lib.cut x1 ([58, 93] : List UInt8)).2.2))] H fun fr H => AR (AF 2 (AP 2 [(22, .bool (!((Lib.cut x1 ([58, 93] : List UInt8)).2.2)))] H fun fr H => Ae 22 H hm (fun hb hm H => ?_) fun hb hm H => ?_))
 ·refine AF 1 (AP 1 [(2, .bool false)] H fun fr H => AY ?_)
  obtain ⟨rfl, rfl⟩ := B6 hm
  exact ⟨.inl rfl, _, rH H, rfl, A⟩
 refine CN 8 id ?_
 obtain ⟨⟨x2, x3⟩, hx, hm⟩ := bind_some hm
 obtain ⟨v1, h1, hr, rfl, A1⟩ := OC (av := [.str ((Lib.cut x1 ([58, 93] : List UInt8)).1)]) hx (A.cut 0)
 replace A := A.C4 A1
 refine Ap 1 [] 25 hr H fun fr t H => ?_
 obtain ⟨h2, e1, A⟩ := A.pu (.cells none 2 [Au 0, Au 0, Au 0, Au 0])
 refine Gf 3 [(26, .agg (AN x2)), (27, .bool x3)] 6 (.ptr (some (h1.size, 0))) e1 H fun fr t H => ?_
 obtain ⟨h3, hx, A⟩ := A.s0 0 (AN x2) [_, _, _, _]
 refine Cy hx H fun fr t H => ?_
 refine BV 1 [(0, .ptr (some (bp0, 0))), (3, .str ((Lib.cut x1 ([58, 93] : List UInt8)).1)), (5, .bool x3), (6, .ptr (some (h1.size, 0)))] H fun fr H => BD id (AR (Df 5 10 ?_))
 refine BA 4 [(28, .ptr (some (bp0, 0)))] 32 _ _ H (fun fr => .of (B3 (by kernel_rfl) (A.F5 1 rfl (o := 3) (n := 4) ⟨Nat.le_of_ble_eq_true rfl, rfl⟩))) fun fr t H => ?_
 refine As 33 _ _ H (fun fr => .of (B3 (by kernel_rfl) (A.F5 0 rfl (o := 0) (n := 4) ⟨Nat.le_of_ble_eq_true rfl, rfl⟩))) fun fr t H => ?_
 obtain ⟨x4, hx, hm⟩ := bind_some hm
 obtain ⟨v1, h4, hr, rfl, A1⟩ := Cx (av := [.agg (AN p0.DR), .agg (AN x2)]) hx (A.cut 0)
 replace A := A.C4 A1
 refine A8 34 hr H fun fr t H => ?_
 obtain ⟨h5, hx, A⟩ := A.s1 3 (AN x4) [_, _, _, _, _, _, _]
 refine Dm 2 [] hx H fun fr t H => ?_
 refine CI 11 id (Ah 3 [(37, .ptr (some (bp0, 0)))] 40 1 1 A H fun fr t H => ?_)
 obtain ⟨h6, hx, A⟩ := A.s1 1 [Ai (IntKind.i64.wrap (p0.at_ + (IntKind.i64.wrap ((((Lib.cut x1 ([58, 93] : List UInt8)).1).length : Int) + 2))))] [_, _, _, _, _, _, _]
 refine Dn 6 [] hx H fun fr t H => ?_
 refine CI 2 id (AP 2 [(2, .bool x3)] H fun fr H => AY ?_)
 obtain ⟨rfl, rfl⟩ := B6 hm
 refine ⟨.inl rfl, .bool x3, rH H, ?_⟩
 replace A := A.k1 1
 exact ⟨rfl, A⟩
def Co (p0 : BW) (p1 : List UInt8) : Option (Int × Bool × BW) :=
 (Ac (decide ((IntKind.i64.wrap (p0.at_ + 3)) > (p0.s_.length : Int))) (some true) ((HX p0.s_ (some (IntKind.i64.wrap (p0.at_ + 1))) (some (IntKind.i64.wrap (p0.at_ + 3)))).bind fun x2 => some (!(x2 == p1))) : Option (Bool)).bind fun x1 => Ac x1 (some ((0 : Int), false, p0)) ((KW p0.s_ p0.at_).bind fun x3 => some (x3, true, (⟨p0.s_, IntKind.i64.wrap (p0.at_ + 3), p0.Gp, p0.DR⟩ : BW)))
theorem Gx {p0 p1 bp0 q0 q1 u0} (hm : Co p0 p1 = some (q0, q1, u0)) (A : HH g h [.obj bp0 (.cells none 2 (CO p0))] F) (hc : Ba (cfg.still 226) av = [.ptr (some (bp0, 0)), .str p1] := by kernel_rfl) : ∃ v h', Bi cfg g h 226 av v h' ∧ v = .tuple [Ab q0, .bool q1] ∧ HH g h' [.obj bp0 (.cells none 2 (CO u0))] F := by
 refine EN 54 [.tmp 4, .tmp 5] hc ?_
 clear hc
 unfold Co at hm
 refine bg 54 [(0, .ptr (some (bp0, 0))), (1, .str p1)] fun fr H => ?_
 refine AF 2 (AP 2 [] H fun fr H => AR (AR (Df 1 30 ?_)))
 refine Ah 3 [] 10 0 1 A H fun fr t H => ?_
 refine Ah 4 [(11, Ai (IntKind.i64.wrap (p0.at_ + 3)))] 15 0 0 A H fun fr t H => ?_
 refine AG 3 [(18, .bool (decide ((IntKind.i64.wrap (p0.at_ + 3)) > (p0.s_.length : Int))))] H fun fr H => ?_
 obtain ⟨x1, ho, hm⟩ := bind_some hm
 refine A9 18 (fun fr' h' => Has fr' 54 [(0, .ptr (some (bp0, 0))), (36, .bool x1)] ∧ HH g h' [.obj bp0 (.cells none 2 (CO p0))] F) ?_ ?_
 ·rcases AZ ho with ⟨hb, hm⟩ | ⟨hb, hm⟩
  ·replace H := H.kn 18 hb
   refine AG 18 [(36, .bool true)] H fun fr H => ?_
   obtain rfl := Ag hm
   exact at_nil ⟨H.ls, A⟩
  replace H := H.kn 18 hb
  refine Ah 3 [] 22 0 0 A H fun fr t H => ?_
  refine Ah 3 [] 26 0 1 A H fun fr t H => ?_
  refine Ah 4 [(27, Ai (IntKind.i64.wrap (p0.at_ + 1)))] 31 0 1 A H fun fr t H => ?_
  obtain ⟨x2, hx, hm⟩ := bind_some hm
  refine BA 1 [] 33 (.str x2) h H (fun fr => .of (GA (k := .i64) (k' := .i64) (lo := (some (IntKind.i64.wrap (p0.at_ + 1)))) (hi := (some (IntKind.i64.wrap (p0.at_ + 3)))) (by kernel_rfl) hx)) fun fr t H => ?_
  refine AG 3 [(36, .bool (!(x2 == p1)))] H fun fr H => ?_
  obtain rfl := Ag hm
  exact at_nil ⟨H.ls, A⟩
 clear A
 intro t fr h1 hK
 obtain ⟨H, A⟩ := hK
 refine BD id (Ae 36 H hm (fun hb hm H => ?_) fun hb hm H => ?_)
 ·refine AF 2 (AP 2 [(4, Ab 0), (5, .bool false)] H fun fr H => AY ?_)
  obtain ⟨rfl, rfl, rfl⟩ := Ho hm
  exact ⟨.inl rfl, _, rH H, rfl, A⟩
 refine B0 id (AR (Df 3 10 ?_))
 refine Ah 3 [] 40 0 0 A H fun fr t H => ?_
 refine Ah 3 [] 44 0 1 A H fun fr t H => ?_
 obtain ⟨x3, hx, hm⟩ := bind_some hm
 refine As 45 (Ab x3) h1 H (fun fr => .of (E5 (by kernel_rfl) hx)) fun fr t H => ?_
 refine B1 1 [(6, Ab x3)] 8 H fun fr H => Ah 3 [(46, .ptr (some (bp0, 0)))] 49 0 1 A H fun fr t H => ?_
 obtain ⟨h2, hx, A⟩ := A.s0 1 [Ai (IntKind.i64.wrap (p0.at_ + 3))] [_, _, _, _, _, _, _]
 refine Dn 3 [] hx H fun fr t H => ?_
 refine CI 3 id (AP 3 [(4, Ab x3), (5, .bool true)] H fun fr H => AY ?_)
 obtain ⟨rfl, rfl, rfl⟩ := Ho hm
 exact ⟨.inl rfl, _, rH H, rfl, A⟩
def DY (p0 : BW) : Option (Int × Bool × BW) :=
 (CM p0 ([91, 46] : List UInt8)).bind fun (x1, x2) => Ac x1 ((Co x2 ([46, 93] : List UInt8)).bind fun (x3, x4, x5) => some (x3, x4, x5)) ((Ac x2.Gp ((CM x2 ([92] : List UInt8)).bind fun (x13, x14) => some (x14.s_, x14.at_, x14.Gp, x14.DR.w0, x14.DR.w1, x14.DR.w2, x14.DR.w3)) (some (x2.s_, x2.at_, x2.Gp, x2.DR.w0, x2.DR.w1, x2.DR.w2, x2.DR.w3)) : Option (((List UInt8) × Int × Bool × Int × Int × Int × Int))).bind fun (x6, x7, x8, x9, x10, x11, x12) => Ac (decide (x7 ≥ (x6.length : Int))) (some ((0 : Int), false, (⟨x6, x7, x8, (⟨x9, x10, x11, x12⟩ : Ad)⟩ : BW))) ((KW x6 (IntKind.i64.wrap ((IntKind.i64.wrap (x7 + 1)) - 1))).bind fun x15 => some (x15, true, (⟨x6, IntKind.i64.wrap (x7 + 1), x8, (⟨x9, x10, x11, x12⟩ : Ad)⟩ : BW))))
theorem Hd {p0 bp0 q0 q1 u0} (hm : DY p0 = some (q0, q1, u0)) (A : HH g h [.obj bp0 (.cells none 2 (CO p0))] F) (hc : Ba (cfg.still 229) av = [.ptr (some (bp0, 0))] := by kernel_rfl) : ∃ v h', Bi cfg g h 229 av v h' ∧ v = .tuple [Ab q0, .bool q1] ∧ HH g h' [.obj bp0 (.cells none 2 (CO u0))] F := by
 refine EN 43 [.tmp 2, .tmp 3] hc ?_
 clear hc
 unfold DY at hm
 refine bg 43 [(0, .ptr (some (bp0, 0)))] fun fr H => ?_
 refine AF 2 (AP 2 [] H fun fr H => AR (AF 2 ?_))
 obtain ⟨⟨x1, x2⟩, hx, hm⟩ := bind_some hm
 obtain ⟨v1, h1, hr, rfl, A1⟩ := DI (av := [.ptr (some (bp0, 0)), .str ([91, 46] : List UInt8)]) hx (A.cut 1)
 replace A := A.g11 A1
 refine Ap 1 [] 5 hr H fun fr t H => ?_
 refine BD id (Ae 5 H hm (fun hb hm H => ?_) fun hb hm H => ?_)
 ·refine AF 6 ?_
  obtain ⟨⟨x3, x4, x5⟩, hx, hm⟩ := bind_some hm
  obtain ⟨v1, h2, hr, rfl, A1⟩ := Gx (av := [.ptr (some (bp0, 0)), .str ([46, 93] : List UInt8)]) hx (A.cut 1)
  replace A := A.g11 A1
  refine Ap 1 [] 7 hr H fun fr t H => ?_
  refine AP 4 [(2, Ab x3), (3, .bool x4)] H fun fr H => AY ?_
  obtain ⟨rfl, rfl, rfl⟩ := Ho hm
  exact ⟨.inl rfl, _, rH H, rfl, A⟩
 refine B0 id (AR ?_)
 obtain ⟨o1, ho, hm⟩ := bind_some hm
 refine BU (Q' := fun e fr' h' => (∃ x6 x7 x8 x9 x10 x11 x12, e = .normal ∧ (x6, x7, x8, x9, x10, x11, x12) = o1 ∧ Has fr' 43 [(0, .ptr (some (bp0, 0)))] ∧ HH g h' [.obj bp0 (.cells none 2 [.str x6, Ai x7, .bool x8, Au x9, Au x10, Au x11, Au x12])] F) ∨ False) ?_ ?_
 ·replace hm := ho
  clear ho
  refine AF 4 (Ah 3 [] 13 0 2 A H fun fr t H => ?_)
  refine BD id (Ae 13 H hm (fun hb hm H => ?_) fun hb hm H => ?_)
  ·refine DQ 2 ?_
   obtain ⟨⟨x13, x14⟩, hx, hm⟩ := bind_some hm
   obtain ⟨v1, h3, hr, rfl, A1⟩ := DI (av := [.ptr (some (bp0, 0)), .str ([92] : List UInt8)]) hx (A.cut 1)
   replace A := A.g11 A1
   refine P6 1 [] hr H fun fr t H => ?_
   refine at_nil ?_
   exact .inl ⟨_, _, _, _, _, _, _, rfl, Ag hm, H.ls, A⟩
  exact Fz (.inl ⟨_, _, _, _, _, _, _, rfl, Ag hm, H.ls, A⟩)
 clear ho
 clear A
 intro e fr h4 hQ
 rcases hQ with ⟨x6, x7, x8, x9, x10, x11, x12, rfl, rfl, H, A⟩ | hF
 ·show AW _ _ _ _ _ _ _
  refine AR (AR (Df 5 10 ?_))
  refine Ah 3 [] 19 0 1 A H fun fr t H => ?_
  refine Ah 3 [] 23 0 0 A H fun fr t H => ?_
  refine AP 2 [(25, .bool (decide (x7 ≥ (x6.length : Int))))] H fun fr H => Ae 25 H hm (fun hb hm H => ?_) fun hb hm H => ?_
  ·refine AF 2 (AP 2 [(2, Ab 0), (3, .bool false)] H fun fr H => AY ?_)
   obtain ⟨rfl, rfl, rfl⟩ := Ho hm
   exact ⟨.inl rfl, _, rH H, rfl, A⟩
  refine CN 8 id (Ah 3 [(26, .ptr (some (bp0, 0)))] 29 0 1 A H fun fr t H => ?_)
  obtain ⟨h5, hx, A⟩ := A.s0 1 [Ai (IntKind.i64.wrap (x7 + 1))] [_, _, _, _, _, _, _]
  refine Dn 3 [] hx H fun fr t H => ?_
  refine BD id (AR (Df 8 12 ?_))
  refine Ah 3 [] 36 0 0 A H fun fr t H => ?_
  refine Ah 3 [] 40 0 1 A H fun fr t H => ?_
  obtain ⟨x15, hx, hm⟩ := bind_some hm
  refine BA 1 [] 42 (Ab x15) h5 H (fun fr => .of (E5 (by kernel_rfl) hx)) fun fr t H => ?_
  refine AP 2 [(2, Ab x15), (3, .bool true)] H fun fr H => AY ?_
  obtain ⟨rfl, rfl, rfl⟩ := Ho hm
  exact ⟨.inl rfl, _, rH H, rfl, A⟩
 exact hF.elim
def Ex (p0 : CF) : Option (Unit) :=
 some ()
theorem Iy {p0 bp0 rp0_0 rp0_1 rp0_2 bp0_20} (hm : Ex p0 = some ()) (A : HH g h [.obj bp0 (.cells none 2 [AH rp0_0 p0.c_.AQ.length, AH rp0_1 p0.c_.AS.length, AH rp0_2 p0.c_.Bt.length, .bool p0.c_.FT, .bool p0.c_.Ay, Ai p0.c_.BN, .bool p0.c_.Be, Ai p0.c_.An.CX, Ai p0.c_.An.BS, Ai p0.c_.Eu, Ai p0.c_.Bf, Ai p0.c_.Name, Ai p0.c_.Head, Ai p0.c_.BF, .str p0.Aw.Text, .bool p0.Aw.Bu, .bool p0.Aw.Fold, .bool p0.Aw.BG, .str p0.GB, Ai p0.at_, .map (some bp0_20)]), .AK rp0_0 31 (AK AA p0.c_.AQ), .AK rp0_1 31 (AK AA p0.c_.AS), .AK rp0_2 92 (AK AL p0.c_.Bt), .obj bp0_20 (.map 2 (CL (fun k : List UInt8 => .str k) (fun v : Bool => .bool v) p0.Bx))] F) (hc : Ba (cfg.still 64) av = [.ptr (some (bp0, 0))] := by kernel_rfl) : ∃ v h', Bi cfg g h 64 av v h' ∧ v = .ptr (some (bp0, 10)) ∧ HH g h' [.obj bp0 (.cells none 2 [AH rp0_0 p0.c_.AQ.length, AH rp0_1 p0.c_.AS.length, AH rp0_2 p0.c_.Bt.length, .bool p0.c_.FT, .bool p0.c_.Ay, Ai p0.c_.BN, .bool p0.c_.Be, Ai p0.c_.An.CX, Ai p0.c_.An.BS, Ai p0.c_.Eu, Ai p0.c_.Bf, Ai p0.c_.Name, Ai p0.c_.Head, Ai p0.c_.BF, .str p0.Aw.Text, .bool p0.Aw.Bu, .bool p0.Aw.Fold, .bool p0.Aw.BG, .str p0.GB, Ai p0.at_, .map (some bp0_20)]), .AK rp0_0 31 (AK AA p0.c_.AQ), .AK rp0_1 31 (AK AA p0.c_.AS), .AK rp0_2 92 (AK AL p0.c_.Bt), .obj bp0_20 (.map 2 (CL (fun k : List UInt8 => .str k) (fun v : Bool => .bool v) p0.Bx))] F := by
 refine EN 6 [.tmp 2] hc ?_
 clear hc
 unfold Ex at hm
 refine bg 6 [(0, .ptr (some (bp0, 0)))] fun fr H => ?_
 refine AF 1 (B1 1 [] 4 H fun fr H => AP 4 [(2, .ptr (some (bp0, 10)))] H fun fr H => AY ?_)
 exact ⟨.inl rfl, _, rH H, rfl, A⟩
end
end Go.Av.L
