/-
 Models of functions, and that the abstract run tells them. Written by lift2.py.
-/
import Derived.Test.YthnnciphldbmeaaGreatDoorKCfg
namespace Go.Av.L
open Go.Av Go.Lib
set_option maxRecDepth 10000
set_option maxHeartbeats 4000000
set_option linter.unusedVariables false
set_option linter.unusedSimpArgs false
variable {g : Gd} {h : AH} {F : List Ck} {av : List AA}
noncomputable section
def HP : Option (Unit) :=
 some ()
theorem M4 (hm : HP = some ()) (A : HH g h [] F) (hc : BF (cfg.still 13) av = [] := by kernel_rfl) : ∃ v h', BL cfg g h 13 av v h' ∧ v = .agg [.slice none 0, .slice none 0, .slice none 0, .bool false, .bool false, Ai (0 : Int), .bool false, Ai (0 : Int), Ai (0 : Int), Ai (0 : Int), Ai (0 : Int), Ai (4096 : Int), Ai (65536 : Int), Ai (4096 : Int)] ∧ HH g h' [] F := by
 refine Dr 2 [.cell 0 29] hc ?_
 clear hc
 unfold HP at hm
 refine bg 2 [] fun fr H => ?_
 refine AG 1 ?_
 obtain ⟨h1, e1, A⟩ := A.pu (.cells none 2 [.slice none 0, .slice none 0, .slice none 0, .bool false, .bool false, Ai 0, .bool false, Ai 0, Ai 0, Ai 0, Ai 0, Ai 0, Ai 0, Ai 0])
 refine BB 0 (.ptr (some (h.size, 0))) e1 H fun fr t H => ?_
 refine CX 2 id ?_
 obtain ⟨h2, hx, A⟩ := A.s0 0 [.slice none 0, .slice none 0, .slice none 0, .bool false, .bool false, Ai 0, .bool false, Ai 0, Ai 0, Ai 0, Ai 0, Ai 4096, Ai 65536, Ai 4096] [_, _, _, _, _, _, _, _, _, _, _, _, _, _]
 refine Fk 1 [] hx H fun fr t H => ?_
 refine BJ id (AU ?_)
 refine ⟨.inl rfl, .agg [.slice none 0, .slice none 0, .slice none 0, .bool false, .bool false, Ai 0, .bool false, Ai 0, Ai 0, Ai 0, Ai 0, Ai 4096, Ai 65536, Ai 4096], EL (.cell (rT H) (By (by kernel_rfl) (by kernel_rfl) (A.la 0 0 14)) .nil), ?_⟩
 replace A := A.d0
 exact ⟨rfl, A⟩
def GU : Option (De) :=
 some (⟨(0 : Int), (0 : Int)⟩ : De)
theorem Ip {q0} (hm : GU = some q0) (A : HH g h [] F) (hc : BF (cfg.still 63) av = [] := by kernel_rfl) : ∃ v h', BL cfg g h 63 av v h' ∧ v = .agg [Ai q0.e_, Ai q0.at_] ∧ HH g h' [] F := by
 refine Dr 2 [.cell 0 128] hc ?_
 clear hc
 unfold GU at hm
 refine bg 2 [] fun fr H => ?_
 refine AG 1 ?_
 obtain ⟨h1, e1, A⟩ := A.pu (.cells none 2 [Ai 0, Ai 0])
 refine BB 0 (.ptr (some (h.size, 0))) e1 H fun fr t H => ?_
 refine CX 2 id ?_
 obtain ⟨h2, hx, A⟩ := A.s0 0 [Ai 0, Ai 0] [_, _]
 refine Fk 1 [] hx H fun fr t H => ?_
 refine BJ id (AU ?_)
 obtain rfl := AY hm
 refine ⟨.inl rfl, .agg [Ai 0, Ai 0], EL (.cell (rT H) (By (by kernel_rfl) (by kernel_rfl) (A.la 0 0 2)) .nil), ?_⟩
 replace A := A.d0
 exact ⟨rfl, A⟩
def Kb (p0 : List UInt8) (s : (List AP) × Int) : Option (((List AP) × Int) ⊕ (((List AP)) ⊕ (Int × Int))) :=
 match s with
 | (x1, x2) => Aa (decide (x2 < (p0.length : Int))) (Aa ((x1.length : Int) == 1024) (some (.inr (.inr (x2, (8 : Int))))) ((RD p0 x2).bind fun x6 => Aa (x6 == 42) (Em (Nd 48 (x1.length + ([(⟨(4 : Int), (0 : Int), (⟨(0 : Int), (0 : Int), (0 : Int), (0 : Int)⟩ : BG)⟩ : AP)] : List AP).length)) <| some (.inl ((x1 ++ ([(⟨(4 : Int), (0 : Int), (⟨(0 : Int), (0 : Int), (0 : Int), (0 : Int)⟩ : BG)⟩ : AP)] : List AP)), IntKind.i64.wrap (x2 + 1)))) (Aa (x6 == 63) (Em (Nd 48 (x1.length + ([(⟨(2 : Int), (0 : Int), (⟨(0 : Int), (0 : Int), (0 : Int), (0 : Int)⟩ : BG)⟩ : AP)] : List AP).length)) <| some (.inl ((x1 ++ ([(⟨(2 : Int), (0 : Int), (⟨(0 : Int), (0 : Int), (0 : Int), (0 : Int)⟩ : BG)⟩ : AP)] : List AP)), IntKind.i64.wrap (x2 + 1)))) (Aa (x6 == 91) (none) (Aa (x6 == 92) (Aa (x2 == (IntKind.i64.wrap ((p0.length : Int) - 1))) (some (.inr (.inr (x2, (11 : Int))))) ((RD p0 (IntKind.i64.wrap (x2 + 1))).bind fun x7 => Em (Nd 48 (x1.length + ([(⟨(1 : Int), x7, (⟨(0 : Int), (0 : Int), (0 : Int), (0 : Int)⟩ : BG)⟩ : AP)] : List AP).length)) <| some (.inl ((x1 ++ ([(⟨(1 : Int), x7, (⟨(0 : Int), (0 : Int), (0 : Int), (0 : Int)⟩ : BG)⟩ : AP)] : List AP)), IntKind.i64.wrap (x2 + 2))))) (Em (Nd 48 (x1.length + ([(⟨(1 : Int), x6, (⟨(0 : Int), (0 : Int), (0 : Int), (0 : Int)⟩ : BG)⟩ : AP)] : List AP).length)) <| some (.inl ((x1 ++ ([(⟨(1 : Int), x6, (⟨(0 : Int), (0 : Int), (0 : Int), (0 : Int)⟩ : BG)⟩ : AP)] : List AP)), IntKind.i64.wrap (x2 + 1))))))))) (some (.inr (.inl x1)))
def IM (p0 : List UInt8) : Option ((List AP) × Int × Int) :=
 (loop (Kb p0) (([] : List AP), (0 : Int))).bind fun o1 => (match o1 with | .inl x3 => some (x3, (0 : Int), (0 : Int)) | .inr (x4, x5) => some (([] : List AP), x4, x5))
theorem L5 {p0 q0 q1 q2} (hm : IM p0 = some (q0, q1, q2)) (A : HH g h [] F) (hc : BF (cfg.still 129) av = [.str p0] := by kernel_rfl) : ∃ v h', BL cfg g h 129 av v h' ∧ ∃ (rq0 : Option Nat), v = .tuple [AF rq0 q0.length, Ai q1, Ai q2] ∧ HH g h' [.AI rq0 264 (AI AM q0)] F := by
 refine Dr 84 [.tmp 2, .tmp 3, .tmp 4] hc ?_
 clear hc
 unfold IM at hm
 refine bg 84 [(0, .str p0)] fun fr H => ?_
 refine AG 3 (Bc 3 [] 1 H fun fr H => AO 1 [(5, .slice none 0)] H fun fr H => AQ (AG 1 (AO 1 [(6, Ai 0)] H fun fr H => AV (id := 0) (by kernel_rfl) ?_)))
 replace A : HH g h [.AI none 264 (AI AM ([] : List AP))] F := A.Kk 264
 obtain ⟨o1, ho, hm⟩ := bind_some hm
 refine Ax (Q' := fun e fr' h' => (∃ x3, e = .exit 0 ∧ .inl x3 = o1 ∧ ∃ r2, Has fr' 84 [(5, AF r2 x3.length)] ∧ HH g h' [.AI r2 264 (AI AM x3)] F) ∨ (∃ x4 x5, e = .ret ∧ .inr (x4, x5) = o1 ∧ Has fr' 84 [(2, .slice none 0), (3, Ai x4), (4, Ai x5)] ∧ HH g h' [] F) ∨ False) ?_ ?_
 ·refine Bh (by kernel_rfl) (fun (s : (List AP) × Int) fr' h' => ∃ x1 x2, (x1, x2) = s ∧ ∃ r1, Has fr' 84 [(0, .str p0), (5, AF r1 x1.length), (6, Ai x2)] ∧ HH g h' [.AI r1 264 (AI AM x1)] F) ho ⟨_, _, rfl, none, H.ls, A⟩ ?_
  clear ho hm H A
  intro s q fr h1 hI hm
  obtain ⟨x1, x2, rfl, r1, H, A⟩ := hI
  unfold Kb at hm
  refine AQ (AG 4 (AO 4 [(14, .bool (decide (x2 < (p0.length : Int))))] H fun fr H => Ad 14 H hm (fun hb hm H => ?_) fun hb hm H => ?_))
  ·refine Bf id (AV (id := 1) (by kernel_rfl) ?_)
   refine AQ (AG 3 (AO 3 [(17, .bool ((x1.length : Int) == 1024))] H fun fr H => Ad 17 H hm (fun hb hm H => ?_) fun hb hm H => ?_))
   ·refine AG 4 (AO 4 [(2, .slice none 0), (3, Ai x2), (4, Ai 8)] H fun fr H => AU ?_)
    replace A := A.d0
    exact nr hm fun e => Or.inr (.inl ⟨_, _, rfl, e, H.ls, A⟩)
   refine Ce 4 id ?_
   obtain ⟨x6, hx, hm⟩ := bind_some hm
   refine Ap 2 [] 21 (Ab x6) h1 H (fun fr => .of (JG (by kernel_rfl) hx)) fun fr t H => ?_
   refine Bc 1 [(7, Ab x6)] 1 H fun fr H => AO 1 [(22, Ab x6)] H fun fr H => AV (id := 2) (by kernel_rfl) ?_
   refine AG 2 (AO 2 [(30, .bool (x6 == 42))] H fun fr H => Ad 30 H hm (fun hb hm H => ?_) fun hb hm H => ?_)
   ·refine AG 5 (AK 2 [(32, AF r1 x1.length), (33, .agg [Ai 4, Ab 0, Au 0, Au 0, Au 0, Au 0])] H fun fr H => ?_)
    obtain ⟨h2, e1, A⟩ := A.pL 264 [Ai 4, Ab 0, Au 0, Au 0, Au 0, Au 0]
    refine BB 34 (AF (some h1.size) (([(⟨(4 : Int), (0 : Int), (⟨(0 : Int), (0 : Int), (0 : Int), (0 : Int)⟩ : BG)⟩ : AP)] : List AP).length)) e1 H fun fr t H => ?_
    obtain ⟨hb, hm⟩ := BE hm
    obtain ⟨r3, h3, hx, A1⟩ := HH.Ko Bk (by decide) A 1 (xs := x1) (ys := ([(⟨(4 : Int), (0 : Int), (⟨(0 : Int), (0 : Int), (0 : Int), (0 : Int)⟩ : BG)⟩ : AP)] : List AP)) rfl (Cu A 0 rfl (n := ([(⟨(4 : Int), (0 : Int), (⟨(0 : Int), (0 : Int), (0 : Int), (0 : Int)⟩ : BG)⟩ : AP)] : List AP).length) (z := 6) rfl (by decide)) rfl rfl hb
    replace A : HH g h3 [.AI (some h1.size) 264 ([Ai 4, Ab 0, Au 0, Au 0, Au 0, Au 0]), .AI r3 264 (AI AM (x1 ++ ([(⟨(4 : Int), (0 : Int), (⟨(0 : Int), (0 : Int), (0 : Int), (0 : Int)⟩ : BG)⟩ : AP)] : List AP)))] F := A1
    replace A := A.k1 1
    refine Aq 35 _ _ H (fun fr => .of (Hh (s := Cs r1 x1.length) (by kernel_rfl) hx)) fun fr t H => ?_
    refine BV 1 [(0, .str p0), (5, AF r3 ((x1 ++ ([(⟨(4 : Int), (0 : Int), (⟨(0 : Int), (0 : Int), (0 : Int), (0 : Int)⟩ : BG)⟩ : AP)] : List AP)).length)), (6, Ai x2)] H fun fr H => Ke 3 id (BV 3 [(0, .str p0), (5, AF r3 ((x1 ++ ([(⟨(4 : Int), (0 : Int), (⟨(0 : Int), (0 : Int), (0 : Int), (0 : Int)⟩ : BG)⟩ : AP)] : List AP)).length)), (6, Ai (IntKind.i64.wrap (x2 + 1)))] H fun fr H => at_nil ?_)
    exact nx hm ⟨_, _, rfl, _, H.ls, A⟩
   refine AG 2 (AO 2 [(38, .bool (x6 == 63))] H fun fr H => Ad 38 H hm (fun hb hm H => ?_) fun hb hm H => ?_)
   ·refine AG 5 (AK 2 [(40, AF r1 x1.length), (41, .agg [Ai 2, Ab 0, Au 0, Au 0, Au 0, Au 0])] H fun fr H => ?_)
    obtain ⟨h4, e2, A⟩ := A.pL 264 [Ai 2, Ab 0, Au 0, Au 0, Au 0, Au 0]
    refine BB 42 (AF (some h1.size) (([(⟨(2 : Int), (0 : Int), (⟨(0 : Int), (0 : Int), (0 : Int), (0 : Int)⟩ : BG)⟩ : AP)] : List AP).length)) e2 H fun fr t H => ?_
    obtain ⟨hb, hm⟩ := BE hm
    obtain ⟨r4, h5, hx, A1⟩ := HH.Ko Bk (by decide) A 1 (xs := x1) (ys := ([(⟨(2 : Int), (0 : Int), (⟨(0 : Int), (0 : Int), (0 : Int), (0 : Int)⟩ : BG)⟩ : AP)] : List AP)) rfl (Cu A 0 rfl (n := ([(⟨(2 : Int), (0 : Int), (⟨(0 : Int), (0 : Int), (0 : Int), (0 : Int)⟩ : BG)⟩ : AP)] : List AP).length) (z := 6) rfl (by decide)) rfl rfl hb
    replace A : HH g h5 [.AI (some h1.size) 264 ([Ai 2, Ab 0, Au 0, Au 0, Au 0, Au 0]), .AI r4 264 (AI AM (x1 ++ ([(⟨(2 : Int), (0 : Int), (⟨(0 : Int), (0 : Int), (0 : Int), (0 : Int)⟩ : BG)⟩ : AP)] : List AP)))] F := A1
    replace A := A.k1 1
    refine Aq 43 _ _ H (fun fr => .of (Hh (s := Cs r1 x1.length) (by kernel_rfl) hx)) fun fr t H => ?_
    refine BV 1 [(0, .str p0), (5, AF r4 ((x1 ++ ([(⟨(2 : Int), (0 : Int), (⟨(0 : Int), (0 : Int), (0 : Int), (0 : Int)⟩ : BG)⟩ : AP)] : List AP)).length)), (6, Ai x2)] H fun fr H => Ke 3 id (BV 3 [(0, .str p0), (5, AF r4 ((x1 ++ ([(⟨(2 : Int), (0 : Int), (⟨(0 : Int), (0 : Int), (0 : Int), (0 : Int)⟩ : BG)⟩ : AP)] : List AP)).length)), (6, Ai (IntKind.i64.wrap (x2 + 1)))] H fun fr H => at_nil ?_)
    exact nx hm ⟨_, _, rfl, _, H.ls, A⟩
   refine AG 2 (AO 2 [(46, .bool (x6 == 91))] H fun fr H => Ad 46 H hm (fun hb hm H => ?_) fun hb hm H => ?_)
   ·refine AG 11 ?_
    cases hm
   refine AG 2 (AO 2 [(65, .bool (x6 == 92))] H fun fr H => Ad 65 H hm (fun hb hm H => ?_) fun hb hm H => ?_)
   ·refine AQ (AG 5 (AO 5 [(71, .bool (x2 == (IntKind.i64.wrap ((p0.length : Int) - 1))))] H fun fr H => Ad 71 H hm (fun hb hm H => ?_) fun hb hm H => ?_))
    ·refine AG 4 (AO 4 [(2, .slice none 0), (3, Ai x2), (4, Ai 11)] H fun fr H => AU ?_)
     replace A := A.d0
     exact nr hm fun e => Or.inr (.inl ⟨_, _, rfl, e, H.ls, A⟩)
    refine Ce 9 id ?_
    obtain ⟨x7, hx, hm⟩ := bind_some hm
    refine Ap 4 [(73, AF r1 x1.length)] 77 (Ab x7) h1 H (fun fr => .of (JG (by kernel_rfl) hx)) fun fr t H => ?_
    refine AK 1 [(78, .agg [Ai 1, Ab x7, Au 0, Au 0, Au 0, Au 0])] H fun fr H => ?_
    obtain ⟨h6, e3, A⟩ := A.pL 264 [Ai 1, Ab x7, Au 0, Au 0, Au 0, Au 0]
    refine BB 79 (AF (some h1.size) (([(⟨(1 : Int), x7, (⟨(0 : Int), (0 : Int), (0 : Int), (0 : Int)⟩ : BG)⟩ : AP)] : List AP).length)) e3 H fun fr t H => ?_
    obtain ⟨hb, hm⟩ := BE hm
    obtain ⟨r5, h7, hx, A1⟩ := HH.Ko Bk (by decide) A 1 (xs := x1) (ys := ([(⟨(1 : Int), x7, (⟨(0 : Int), (0 : Int), (0 : Int), (0 : Int)⟩ : BG)⟩ : AP)] : List AP)) rfl (Cu A 0 rfl (n := ([(⟨(1 : Int), x7, (⟨(0 : Int), (0 : Int), (0 : Int), (0 : Int)⟩ : BG)⟩ : AP)] : List AP).length) (z := 6) rfl (by decide)) rfl rfl hb
    replace A : HH g h7 [.AI (some h1.size) 264 ([Ai 1, Ab x7, Au 0, Au 0, Au 0, Au 0]), .AI r5 264 (AI AM (x1 ++ ([(⟨(1 : Int), x7, (⟨(0 : Int), (0 : Int), (0 : Int), (0 : Int)⟩ : BG)⟩ : AP)] : List AP)))] F := A1
    replace A := A.k1 1
    refine Aq 80 _ _ H (fun fr => .of (Hh (s := Cs r1 x1.length) (by kernel_rfl) hx)) fun fr t H => ?_
    refine BV 1 [(0, .str p0), (5, AF r5 ((x1 ++ ([(⟨(1 : Int), x7, (⟨(0 : Int), (0 : Int), (0 : Int), (0 : Int)⟩ : BG)⟩ : AP)] : List AP)).length)), (6, Ai x2)] H fun fr H => Ke 3 id (BV 3 [(0, .str p0), (5, AF r5 ((x1 ++ ([(⟨(1 : Int), x7, (⟨(0 : Int), (0 : Int), (0 : Int), (0 : Int)⟩ : BG)⟩ : AP)] : List AP)).length)), (6, Ai (IntKind.i64.wrap (x2 + 2)))] H fun fr H => at_nil ?_)
    exact nx hm ⟨_, _, rfl, _, H.ls, A⟩
   refine AG 6 (AK 3 [(23, AF r1 x1.length), (25, .agg [Ai 1, Ab x6, Au 0, Au 0, Au 0, Au 0])] H fun fr H => ?_)
   obtain ⟨h8, e4, A⟩ := A.pL 264 [Ai 1, Ab x6, Au 0, Au 0, Au 0, Au 0]
   refine BB 26 (AF (some h1.size) (([(⟨(1 : Int), x6, (⟨(0 : Int), (0 : Int), (0 : Int), (0 : Int)⟩ : BG)⟩ : AP)] : List AP).length)) e4 H fun fr t H => ?_
   obtain ⟨hb, hm⟩ := BE hm
   obtain ⟨r6, h9, hx, A1⟩ := HH.Ko Bk (by decide) A 1 (xs := x1) (ys := ([(⟨(1 : Int), x6, (⟨(0 : Int), (0 : Int), (0 : Int), (0 : Int)⟩ : BG)⟩ : AP)] : List AP)) rfl (Cu A 0 rfl (n := ([(⟨(1 : Int), x6, (⟨(0 : Int), (0 : Int), (0 : Int), (0 : Int)⟩ : BG)⟩ : AP)] : List AP).length) (z := 6) rfl (by decide)) rfl rfl hb
   replace A : HH g h9 [.AI (some h1.size) 264 ([Ai 1, Ab x6, Au 0, Au 0, Au 0, Au 0]), .AI r6 264 (AI AM (x1 ++ ([(⟨(1 : Int), x6, (⟨(0 : Int), (0 : Int), (0 : Int), (0 : Int)⟩ : BG)⟩ : AP)] : List AP)))] F := A1
   replace A := A.k1 1
   refine Aq 27 _ _ H (fun fr => .of (Hh (s := Cs r1 x1.length) (by kernel_rfl) hx)) fun fr t H => ?_
   refine BV 1 [(0, .str p0), (5, AF r6 ((x1 ++ ([(⟨(1 : Int), x6, (⟨(0 : Int), (0 : Int), (0 : Int), (0 : Int)⟩ : BG)⟩ : AP)] : List AP)).length)), (6, Ai x2)] H fun fr H => Ke 3 id (BV 3 [(0, .str p0), (5, AF r6 ((x1 ++ ([(⟨(1 : Int), x6, (⟨(0 : Int), (0 : Int), (0 : Int), (0 : Int)⟩ : BG)⟩ : AP)] : List AP)).length)), (6, Ai (IntKind.i64.wrap (x2 + 1)))] H fun fr H => at_nil ?_)
   exact nx hm ⟨_, _, rfl, _, H.ls, A⟩
  refine BU (i := 0) (by kernel_rfl) ?_
  exact nr hm fun e => .inl ⟨_, rfl, e, _, H.ls, A⟩
 clear ho
 clear A
 intro e fr h10 hQ
 rcases hQ with ⟨x3, rfl, rfl, r2, H, A⟩ | ⟨x4, x5, rfl, rfl, H, A⟩ | hF
 ·show AW _ _ _ _ _ _ _
  refine AG 4 (AO 4 [(2, AF r2 x3.length), (3, Ai 0), (4, Ai 0)] H fun fr H => AU ?_)
  obtain ⟨rfl, rfl, rfl⟩ := IY hm
  exact ⟨.inl rfl, _, rH H, _, rfl, A⟩
 ·obtain ⟨rfl, rfl, rfl⟩ := IY hm
  refine ⟨.inl rfl, .tuple [.slice none 0, Ai x4, Ai x5], rH H, ?_⟩
  replace A : HH g h10 [.AI none 264 (AI AM ([] : List AP))] F := A.Kk 264
  exact ⟨none, rfl, A⟩
 exact hF.elim
def Cb (p0 : E8) (p1 : List UInt8) (p3 : Int) (p4 : Int) : Option (De × (List AR)) :=
 (IM p1).bind fun (x1, x2, x3) => Aa (x3 != 0) (some ((⟨(11 : Int), p4⟩ : De), p0.c_.Al)) (Aa ((IntKind.i64.wrap ((p0.c_.Ak.length : Int) + (p0.c_.Al.length : Int))) == 256) (some ((⟨(8 : Int), p3⟩ : De), p0.c_.Al)) (Em (Nd 24 (p0.c_.Al.length + ([(⟨p1, p0.BR.B2, p0.BR.Fold, p0.BR.Aw⟩ : AR)] : List AR).length)) <| (GU).bind fun x4 => some (x4, (p0.c_.Al ++ ([(⟨p1, p0.BR.B2, p0.BR.Fold, p0.BR.Aw⟩ : AR)] : List AR)))))
theorem Fo {p0 p1 p3 p4 bp0 rp0_0 rp0_1 rp0_2 bp0_20 q0 u2} (hm : Cb p0 p1 p3 p4 = some (q0, u2)) (A : HH g h [.obj bp0 (.cells none 2 [AF rp0_0 p0.c_.Ak.length, AF rp0_1 p0.c_.Al.length, AF rp0_2 p0.c_.Br.length, .bool p0.c_.I0, .bool p0.c_.Be, Ai p0.c_.Bv, .bool p0.c_.CR, Ai p0.c_.BK.DF, Ai p0.c_.BK.Bn, Ai p0.c_.IH, Ai p0.c_.CO, Ai p0.c_.Name, Ai p0.c_.Head, Ai p0.c_.Bl, .str p0.BR.Text, .bool p0.BR.B2, .bool p0.BR.Fold, .bool p0.BR.Aw, .str p0.My, Ai p0.at_, .map (some bp0_20)]), .AI rp0_0 31 (AI AE p0.c_.Ak), .AI rp0_1 31 (AI AE p0.c_.Al), .AI rp0_2 135 (AI AJ p0.c_.Br), .obj bp0_20 (.map 2 (BS (fun k : List UInt8 => .str k) (fun v : Bool => .bool v) p0.B6))] F) (hc : BF (cfg.still 109) av = [.ptr (some (bp0, 0)), .str p1, .ptr (some (bp0, 1)), Ai p3, Ai p4] := by kernel_rfl) : ∃ v h', BL cfg g h 109 av v h' ∧ ∃ (r'2 : Option Nat), v = .agg [Ai q0.e_, Ai q0.at_] ∧ HH g h' [.obj bp0 (.cells none 2 [AF rp0_0 p0.c_.Ak.length, AF r'2 u2.length, AF rp0_2 p0.c_.Br.length, .bool p0.c_.I0, .bool p0.c_.Be, Ai p0.c_.Bv, .bool p0.c_.CR, Ai p0.c_.BK.DF, Ai p0.c_.BK.Bn, Ai p0.c_.IH, Ai p0.c_.CO, Ai p0.c_.Name, Ai p0.c_.Head, Ai p0.c_.Bl, .str p0.BR.Text, .bool p0.BR.B2, .bool p0.BR.Fold, .bool p0.BR.Aw, .str p0.My, Ai p0.at_, .map (some bp0_20)]), .AI rp0_0 31 (AI AE p0.c_.Ak), .AI r'2 31 (AI AE u2), .AI rp0_2 135 (AI AJ p0.c_.Br), .obj bp0_20 (.map 2 (BS (fun k : List UInt8 => .str k) (fun v : Bool => .bool v) p0.B6))] F := by
 refine Dr 56 [.cell 10 128] hc ?_
 clear hc
 unfold Cb at hm
 refine bg 56 [(0, .ptr (some (bp0, 0))), (1, .str p1), (2, .ptr (some (bp0, 1))), (3, Ai p3), (4, Ai p4)] fun fr H => ?_
 refine AG 1 ?_
 obtain ⟨h1, e1, A⟩ := A.pu (.cells none 2 [Ai 0, Ai 0])
 refine BB 10 (.ptr (some (h.size, 0))) e1 H fun fr t H => ?_
 refine BJ id (AQ (AG 9 ?_))
 obtain ⟨⟨x1, x2, x3⟩, hx, hm⟩ := bind_some hm
 obtain ⟨v1, h2, hr, rqw1, rfl, A1⟩ := L5 (av := [.str p1]) hx (A.cut 0)
 replace A : HH g h2 [.AI rqw1 264 (AI AM x1), .obj h.size (.cells none 2 [Ai (0 : Int), Ai (0 : Int)]), _, _, _, _, _] F := A.CY (n := 0) A1
 refine A0 1 [] 17 hr H fun fr t H => ?_
 refine Bc 7 [(13, Ai x3)] 2 H fun fr H => AO 2 [(22, .bool (x3 != 0))] H fun fr H => Ad 22 H hm (fun hb hm H => ?_) fun hb hm H => ?_
 ·refine AG 3 ?_
  obtain ⟨h3, hx, A⟩ := A.s1 0 [Ai 11, Ai p4] [_, _]
  refine Fk 2 [] hx H fun fr t H => ?_
  refine BJ id (AU ?_)
  obtain ⟨rfl, rfl⟩ := Cw hm
  refine ⟨.inl rfl, .agg [Ai 11, Ai p4], EL (.cell (rT H) (By (by kernel_rfl) (by kernel_rfl) (A.la 1 0 2)) .nil), ?_⟩
  replace A := A.k5 2 3 4 5 6
  exact ⟨rp0_1, rfl, A⟩
 refine Bf id (AQ (AQ (Ep 4 14 ?_)))
 refine Ag 4 [] 29 2 0 A H fun fr t H => ?_
 refine Ag 5 [(30, Ai (p0.c_.Ak.length : Int))] 35 2 1 A H fun fr t H => ?_
 refine AO 3 [(38, .bool ((IntKind.i64.wrap ((p0.c_.Ak.length : Int) + (p0.c_.Al.length : Int))) == 256))] H fun fr H => Ad 38 H hm (fun hb hm H => ?_) fun hb hm H => ?_
 ·refine AG 3 ?_
  obtain ⟨h4, hx, A⟩ := A.s1 0 [Ai 8, Ai p3] [_, _]
  refine Fk 2 [] hx H fun fr t H => ?_
  refine BJ id (AU ?_)
  obtain ⟨rfl, rfl⟩ := Cw hm
  refine ⟨.inl rfl, .agg [Ai 8, Ai p3], EL (.cell (rT H) (By (by kernel_rfl) (by kernel_rfl) (A.la 1 0 2)) .nil), ?_⟩
  replace A := A.k5 2 3 4 5 6
  exact ⟨rp0_1, rfl, A⟩
 refine Ce 6 id (Ap 3 [] 44 _ _ H (fun fr => .of (CG (by kernel_rfl) (A.HG 2 rfl (o := 14) (n := 4) ⟨Nat.le_of_ble_eq_true rfl, rfl⟩))) fun fr t H => ?_)
 obtain ⟨h5, e2, A⟩ := A.pu (.cells none 2 [.str ([] : List UInt8), .bool false, .bool false, .bool false])
 refine BB 14 (.ptr (some (h2.size, 0))) e2 H fun fr t H => ?_
 obtain ⟨h6, hx, A⟩ := A.s0 0 (AE p0.BR) [_, _, _, _]
 refine F4 hx H fun fr t H => ?_
 refine CX 3 id ?_
 obtain ⟨h7, hx, A⟩ := A.s0 0 [.str p1] [_, _, _, _]
 refine FJ 2 [] hx H fun fr t H => ?_
 refine BJ id (AQ (Ep 8 9 ?_))
 refine Ag 3 [(47, .ptr (some (bp0, 1)))] 50 3 1 A H fun fr t H => ?_
 refine Aq 51 _ _ H (fun fr => .of (CG (by kernel_rfl) (A.HG 0 rfl (o := 0) (n := 4) ⟨Nat.le_of_ble_eq_true rfl, rfl⟩))) fun fr t H => ?_
 obtain ⟨h8, e3, A⟩ := A.pL 31 (Jt p0.BR (.str p1))
 refine BB 52 (AF (some h7.size) (([(⟨p1, p0.BR.B2, p0.BR.Fold, p0.BR.Aw⟩ : AR)] : List AR).length)) e3 H fun fr t H => ?_
 obtain ⟨hb, hm⟩ := BE hm
 obtain ⟨r1, h9, hx, A1⟩ := HH.Ko B4 (by decide) A 6 (xs := p0.c_.Al) (ys := ([(⟨p1, p0.BR.B2, p0.BR.Fold, p0.BR.Aw⟩ : AR)] : List AR)) rfl (Cu A 0 rfl (n := ([(⟨p1, p0.BR.B2, p0.BR.Fold, p0.BR.Aw⟩ : AR)] : List AR).length) (z := 4) rfl (by decide)) rfl rfl hb
 replace A : HH g h9 [.AI (some h7.size) 31 ((Jt p0.BR (.str p1))), _, _, _, _, _, .AI r1 31 (AI AE (p0.c_.Al ++ ([(⟨p1, p0.BR.B2, p0.BR.Fold, p0.BR.Aw⟩ : AR)] : List AR))), _, _] F := A1
 replace A := A.k8 1 2 3 4 5 6 7 8
 refine Aq 53 _ _ H (fun fr => .of (Hh (s := Cs rp0_1 p0.c_.Al.length) (by kernel_rfl) hx)) fun fr t H => ?_
 obtain ⟨h10, hx, A1⟩ := A.st 3 rfl (o := 1) (new := [AF r1 ((p0.c_.Al ++ ([(⟨p1, p0.BR.B2, p0.BR.Fold, p0.BR.Aw⟩ : AR)] : List AR)).length)]) (ds := [AF rp0_0 p0.c_.Ak.length, AF r1 ((p0.c_.Al ++ ([(⟨p1, p0.BR.B2, p0.BR.Fold, p0.BR.Aw⟩ : AR)] : List AR)).length), AF rp0_2 p0.c_.Br.length, .bool p0.c_.I0, .bool p0.c_.Be, Ai p0.c_.Bv, .bool p0.c_.CR, Ai p0.c_.BK.DF, Ai p0.c_.BK.Bn, Ai p0.c_.IH, Ai p0.c_.CO, Ai p0.c_.Name, Ai p0.c_.Head, Ai p0.c_.Bl, .str p0.BR.Text, .bool p0.BR.B2, .bool p0.BR.Fold, .bool p0.BR.Aw, .str p0.My, Ai p0.at_, .map (some bp0_20)]) (Nat.le_of_ble_eq_true rfl) rfl rfl
 replace A : HH g h10 [_, _, _, .obj bp0 (.cells none 2 [_, AF r1 ((p0.c_.Al ++ ([(⟨p1, p0.BR.B2, p0.BR.Fold, p0.BR.Aw⟩ : AR)] : List AR)).length), _, _, _, _, _, _, _, _, _, _, _, _, _, _, _, _, _, _, _]), _, _, _, _] F := A1
 refine FJ 1 [] hx H fun fr t H => ?_
 refine CX 2 id ?_
 obtain ⟨x4, hx, hm⟩ := bind_some hm
 obtain ⟨v1, h11, hr, rfl, A1⟩ := Ip (av := []) hx (A.cut 0)
 replace A := A.EX A1
 refine BA 55 hr H fun fr t H => ?_
 obtain ⟨h12, hx, A⟩ := A.s2 0 [Ai x4.e_, Ai x4.at_] [_, _]
 refine F4 hx H fun fr t H => ?_
 refine BJ id (AU ?_)
 obtain ⟨rfl, rfl⟩ := Cw hm
 refine ⟨.inl rfl, .agg [Ai x4.e_, Ai x4.at_], EL (.cell (rT H) (By (by kernel_rfl) (by kernel_rfl) (A.la 2 0 2)) .nil), ?_⟩
 replace A := A.k5 3 4 5 6 7
 exact ⟨r1, rfl, A⟩
def Eb (p0 : E8) (p1 : List UInt8) (p2 : Int) (p3 : Int) : Option (De × (List AR)) :=
 (Cb p0 p1 p2 p3).bind fun (x1, x2) => some (x1, x2)
theorem IZ {p0 p1 p2 p3 bp0 rp0_0 rp0_1 rp0_2 bp0_20 q0 u2} (hm : Eb p0 p1 p2 p3 = some (q0, u2)) (A : HH g h [.obj bp0 (.cells none 2 [AF rp0_0 p0.c_.Ak.length, AF rp0_1 p0.c_.Al.length, AF rp0_2 p0.c_.Br.length, .bool p0.c_.I0, .bool p0.c_.Be, Ai p0.c_.Bv, .bool p0.c_.CR, Ai p0.c_.BK.DF, Ai p0.c_.BK.Bn, Ai p0.c_.IH, Ai p0.c_.CO, Ai p0.c_.Name, Ai p0.c_.Head, Ai p0.c_.Bl, .str p0.BR.Text, .bool p0.BR.B2, .bool p0.BR.Fold, .bool p0.BR.Aw, .str p0.My, Ai p0.at_, .map (some bp0_20)]), .AI rp0_0 31 (AI AE p0.c_.Ak), .AI rp0_1 31 (AI AE p0.c_.Al), .AI rp0_2 135 (AI AJ p0.c_.Br), .obj bp0_20 (.map 2 (BS (fun k : List UInt8 => .str k) (fun v : Bool => .bool v) p0.B6))] F) (hc : BF (cfg.still 110) av = [.ptr (some (bp0, 0)), .str p1, Ai p2, Ai p3] := by kernel_rfl) : ∃ v h', BL cfg g h 110 av v h' ∧ ∃ (r'2 : Option Nat), v = .agg [Ai q0.e_, Ai q0.at_] ∧ HH g h' [.obj bp0 (.cells none 2 [AF rp0_0 p0.c_.Ak.length, AF r'2 u2.length, AF rp0_2 p0.c_.Br.length, .bool p0.c_.I0, .bool p0.c_.Be, Ai p0.c_.Bv, .bool p0.c_.CR, Ai p0.c_.BK.DF, Ai p0.c_.BK.Bn, Ai p0.c_.IH, Ai p0.c_.CO, Ai p0.c_.Name, Ai p0.c_.Head, Ai p0.c_.Bl, .str p0.BR.Text, .bool p0.BR.B2, .bool p0.BR.Fold, .bool p0.BR.Aw, .str p0.My, Ai p0.at_, .map (some bp0_20)]), .AI rp0_0 31 (AI AE p0.c_.Ak), .AI r'2 31 (AI AE u2), .AI rp0_2 135 (AI AJ p0.c_.Br), .obj bp0_20 (.map 2 (BS (fun k : List UInt8 => .str k) (fun v : Bool => .bool v) p0.B6))] F := by
 refine Dr 18 [.cell 8 128] hc ?_
 clear hc
 unfold Eb at hm
 refine bg 18 [(0, .ptr (some (bp0, 0))), (1, .str p1), (2, Ai p2), (3, Ai p3)] fun fr H => ?_
 refine AG 1 ?_
 obtain ⟨h1, e1, A⟩ := A.pu (.cells none 2 [Ai 0, Ai 0])
 refine BB 8 (.ptr (some (h.size, 0))) e1 H fun fr t H => ?_
 refine CX 10 id ?_
 replace A : HH g h1 [_, _, _, _, _, .obj h.size (.cells none 2 [Ai 0, Ai 0])] F := (((((A.front 5 rfl).front 5 rfl).front 5 rfl).front 5 rfl).front 5 rfl)
 obtain ⟨⟨x1, x2⟩, hx, hm⟩ := bind_some hm
 obtain ⟨v1, h2, hr, r1, rfl, A1⟩ := Fo (av := [.ptr (some (bp0, 0)), .str p1, .ptr (some (bp0, 1)), Ai p2, Ai p3]) hx (A.cut 5)
 replace A : HH g h2 [.obj bp0 (.cells none 2 [_, AF r1 x2.length, _, _, _, _, _, _, _, _, _, _, _, _, _, _, _, _, _, _, _]), .AI rp0_0 31 (AI AE p0.c_.Ak), .AI r1 31 (AI AE x2), .AI rp0_2 135 (AI AJ p0.c_.Br), .obj bp0_20 (.map 2 (BS (fun k : List UInt8 => .str k) (fun v : Bool => .bool v) p0.B6)), _] F := A.CY (n := 5) A1
 refine A0 8 [] 17 hr H fun fr t H => ?_
 obtain ⟨h3, hx, A⟩ := A.s5 0 [Ai x1.e_, Ai x1.at_] [_, _]
 refine F4 hx H fun fr t H => ?_
 refine BJ id (AU ?_)
 obtain ⟨rfl, rfl⟩ := Cw hm
 refine ⟨.inl rfl, .agg [Ai x1.e_, Ai x1.at_], EL (.cell (rT H) (By (by kernel_rfl) (by kernel_rfl) (A.la 5 0 2)) .nil), ?_⟩
 replace A := A.d5
 exact ⟨r1, rfl, A⟩
def Db (p0 : E8) (p1 : List UInt8) (p2 : Int) : Option (De × (List AR) × (List ((List UInt8) × Bool))) :=
 (Aa (p1 == ([] : List UInt8)) (some true) ((RD p1 (0 : Int)).bind fun x2 => some (x2 == 35)) : Option (Bool)).bind fun x1 => Aa x1 ((GU).bind fun x3 => some (x3, p0.c_.Al, p0.B6)) (Em (decide (p1.length ≤ 4294967280)) <| Aa (((Lib.cut p1 ([32] : List UInt8)).1) == ([97, 110, 99, 104, 111, 114, 101, 100] : List UInt8)) none (Aa (((Lib.cut p1 ([32] : List UInt8)).1) == ([117, 110, 97, 110, 99, 104, 111, 114, 101, 100] : List UInt8)) none (Aa (((Lib.cut p1 ([32] : List UInt8)).1) == ([102, 111, 108, 100] : List UInt8)) none (Aa (((Lib.cut p1 ([32] : List UInt8)).1) == ([110, 111, 102, 111, 108, 100] : List UInt8)) none (Aa (((Lib.cut p1 ([32] : List UInt8)).1) == ([115, 108, 97, 115, 104] : List UInt8)) none (Aa (((Lib.cut p1 ([32] : List UInt8)).1) == ([110, 111, 115, 108, 97, 115, 104] : List UInt8)) none (Aa (((Lib.cut p1 ([32] : List UInt8)).1) == ([105, 110, 99, 108, 117, 100, 101] : List UInt8)) none (Aa (((Lib.cut p1 ([32] : List UInt8)).1) == ([101, 120, 99, 108, 117, 100, 101] : List UInt8)) (Aa ((!(((Lib.cut p1 ([32] : List UInt8)).2.2) == true)) || false) (some ((⟨(11 : Int), p2⟩ : De), p0.c_.Al, p0.B6)) ((Eb (⟨p0.c_, p0.BR, p0.My, p0.at_, (F7 p0.B6 ((Lib.cut p1 ([32] : List UInt8)).1) true)⟩ : E8) ((Lib.cut p1 ([32] : List UInt8)).2.1) p2 (IntKind.i64.wrap ((IntKind.i64.wrap (p2 + (((Lib.cut p1 ([32] : List UInt8)).1).length : Int))) + 1))).bind fun (x4, x5) => some (x4, x5, (F7 p0.B6 ((Lib.cut p1 ([32] : List UInt8)).1) true)))) (Aa (((Lib.cut p1 ([32] : List UInt8)).1) == ([101, 120, 99, 108, 117, 100, 101, 45, 108, 105, 110, 101, 115] : List UInt8)) none (Aa (((Lib.cut p1 ([32] : List UInt8)).1) == ([118, 99, 115] : List UInt8)) none (Aa (((Lib.cut p1 ([32] : List UInt8)).1) == ([98, 97, 99, 107, 117, 112, 115] : List UInt8)) none (Aa (((Lib.cut p1 ([32] : List UInt8)).1) == ([99, 97, 99, 104, 101, 115] : List UInt8)) none (Aa (((Lib.cut p1 ([32] : List UInt8)).1) == ([110, 101, 119, 101, 114] : List UInt8)) none (Aa (((Lib.cut p1 ([32] : List UInt8)).1) == ([110, 116, 104] : List UInt8)) none (Aa (((Lib.cut p1 ([32] : List UInt8)).1) == ([115, 116, 114, 105, 112] : List UInt8)) none (Aa (((Lib.cut p1 ([32] : List UInt8)).1) == ([116, 114, 97, 110, 115, 102, 111, 114, 109] : List UInt8)) none (Aa (((Lib.cut p1 ([32] : List UInt8)).1) == ([99, 97, 112, 45, 110, 97, 109, 101] : List UInt8)) none (Aa (((Lib.cut p1 ([32] : List UInt8)).1) == ([99, 97, 112, 45, 104, 101, 97, 100] : List UInt8)) none (Aa (((Lib.cut p1 ([32] : List UInt8)).1) == ([99, 97, 112, 45, 115, 116, 97, 116, 101, 115] : List UInt8)) none (some ((⟨(11 : Int), p2⟩ : De), p0.c_.Al, p0.B6)))))))))))))))))))))
theorem HJ {p0 p1 p2 bp0 rp0_0 rp0_1 rp0_2 bp0_20 bp3 q0 u2 u4} (hm : Db p0 p1 p2 = some (q0, u2, u4)) (A : HH g h [.obj bp0 (.cells none 2 [AF rp0_0 p0.c_.Ak.length, AF rp0_1 p0.c_.Al.length, AF rp0_2 p0.c_.Br.length, .bool p0.c_.I0, .bool p0.c_.Be, Ai p0.c_.Bv, .bool p0.c_.CR, Ai p0.c_.BK.DF, Ai p0.c_.BK.Bn, Ai p0.c_.IH, Ai p0.c_.CO, Ai p0.c_.Name, Ai p0.c_.Head, Ai p0.c_.Bl, .str p0.BR.Text, .bool p0.BR.B2, .bool p0.BR.Fold, .bool p0.BR.Aw, .str p0.My, Ai p0.at_, .map (some bp0_20)]), .AI rp0_0 31 (AI AE p0.c_.Ak), .AI rp0_1 31 (AI AE p0.c_.Al), .AI rp0_2 135 (AI AJ p0.c_.Br), .obj bp0_20 (.map 2 (BS (fun k : List UInt8 => .str k) (fun v : Bool => .bool v) p0.B6)), .obj bp3 (.map 2 LA.OC)] F) (hc : BF (cfg.still 62) av = [.ptr (some (bp0, 0)), .str p1, Ai p2, .map (some bp3)] := by kernel_rfl) : ∃ v h', BL cfg g h 62 av v h' ∧ ∃ (r'2 : Option Nat), v = .agg [Ai q0.e_, Ai q0.at_] ∧ HH g h' [.obj bp0 (.cells none 2 [AF rp0_0 p0.c_.Ak.length, AF r'2 u2.length, AF rp0_2 p0.c_.Br.length, .bool p0.c_.I0, .bool p0.c_.Be, Ai p0.c_.Bv, .bool p0.c_.CR, Ai p0.c_.BK.DF, Ai p0.c_.BK.Bn, Ai p0.c_.IH, Ai p0.c_.CO, Ai p0.c_.Name, Ai p0.c_.Head, Ai p0.c_.Bl, .str p0.BR.Text, .bool p0.BR.B2, .bool p0.BR.Fold, .bool p0.BR.Aw, .str p0.My, Ai p0.at_, .map (some bp0_20)]), .AI rp0_0 31 (AI AE p0.c_.Ak), .AI r'2 31 (AI AE u2), .AI rp0_2 135 (AI AJ p0.c_.Br), .obj bp0_20 (.map 2 (BS (fun k : List UInt8 => .str k) (fun v : Bool => .bool v) u4)), .obj bp3 (.map 2 LA.OC)] F := by
 refine Dr 72 [.cell 8 128] hc ?_
 clear hc
 unfold Db at hm
 refine bg 72 [(0, .ptr (some (bp0, 0))), (1, .str p1), (2, Ai p2), (3, .map (some bp3))] fun fr H => ?_
 refine AG 1 ?_
 obtain ⟨h1, e1, A⟩ := A.pu (.cells none 2 [Ai 0, Ai 0])
 refine BB 8 (.ptr (some (h.size, 0))) e1 H fun fr t H => ?_
 refine BJ id (AQ (AG 7 (AK 3 [(16, .bool (p1 == ([] : List UInt8)))] H fun fr H => ?_)))
 obtain ⟨x1, ho, hm⟩ := bind_some hm
 refine A9 4 (fun fr' h' => Has fr' 72 [(0, .ptr (some (bp0, 0))), (1, .str p1), (2, Ai p2), (3, .map (some bp3)), (8, .ptr (some (h.size, 0))), (20, .bool x1)] ∧ HH g h' [.obj h.size (.cells none 2 [Ai 0, Ai 0]), .obj bp0 (.cells none 2 [AF rp0_0 p0.c_.Ak.length, AF rp0_1 p0.c_.Al.length, AF rp0_2 p0.c_.Br.length, .bool p0.c_.I0, .bool p0.c_.Be, Ai p0.c_.Bv, .bool p0.c_.CR, Ai p0.c_.BK.DF, Ai p0.c_.BK.Bn, Ai p0.c_.IH, Ai p0.c_.CO, Ai p0.c_.Name, Ai p0.c_.Head, Ai p0.c_.Bl, .str p0.BR.Text, .bool p0.BR.B2, .bool p0.BR.Fold, .bool p0.BR.Aw, .str p0.My, Ai p0.at_, .map (some bp0_20)]), .AI rp0_0 31 (AI AE p0.c_.Ak), .AI rp0_1 31 (AI AE p0.c_.Al), .AI rp0_2 135 (AI AJ p0.c_.Br), .obj bp0_20 (.map 2 (BS (fun k : List UInt8 => .str k) (fun v : Bool => .bool v) p0.B6)), .obj bp3 (.map 2 LA.OC)] F) ?_ ?_
 ·rcases AX ho with ⟨hb, hm⟩ | ⟨hb, hm⟩
  ·replace H := H.kn 16 hb
   refine AK 4 [(20, .bool true)] H fun fr H => ?_
   obtain rfl := AY hm
   exact at_nil ⟨H.ls, A⟩
  replace H := H.kn 16 hb
  obtain ⟨x2, hx, hm⟩ := bind_some hm
  refine Ap 1 [] 18 (Ab x2) h1 H (fun fr => .of (JG (by kernel_rfl) hx)) fun fr t H => ?_
  refine AK 2 [(20, .bool (x2 == 35))] H fun fr H => ?_
  obtain rfl := AY hm
  exact at_nil ⟨H.ls, A⟩
 clear A
 intro t fr h2 hK
 obtain ⟨H, A⟩ := hK
 refine BJ id (Ad 20 H hm (fun hb hm H => ?_) fun hb hm H => ?_)
 ·refine AG 2 ?_
  obtain ⟨x3, hx, hm⟩ := bind_some hm
  obtain ⟨v1, h3, hr, rfl, A1⟩ := Ip (av := []) hx (A.cut 0)
  replace A := A.EX A1
  refine BA 21 hr H fun fr t H => ?_
  obtain ⟨h4, hx, A⟩ := A.s0 0 [Ai x3.e_, Ai x3.at_] [_, _]
  refine F4 hx H fun fr t H => ?_
  refine BJ id (AU ?_)
  obtain ⟨rfl, rfl, rfl⟩ := IY hm
  refine ⟨.inl rfl, .agg [Ai x3.e_, Ai x3.at_], EL (.cell (rT H) (By (by kernel_rfl) (by kernel_rfl) (A.la 0 0 2)) .nil), ?_⟩
  replace A := A.k6 1 2 3 4 5 6
  exact ⟨rp0_1, rfl, A⟩
 refine Ce 9 id ?_
 obtain ⟨hb, hm⟩ := BE hm
 refine Ap 1 [] 24 (.tuple [.str ((Lib.cut p1 ([32] : List UInt8)).1), .str ((Lib.cut p1 ([32] : List UInt8)).2.1), .bool ((Lib.cut p1 ([32] : List UInt8)).2.2)]) h2 H (fun fr => Steps.call (by kernel_rfl) (TT (C := cfg) (f := 61) (a := 0) (by kernel_rfl) (l := exts) rfl (by kernel_rfl) hb)) fun fr t H => ?_
 refine Bc 7 [(9, .str ((Lib.cut p1 ([32] : List UInt8)).1)), (10, .str ((Lib.cut p1 ([32] : List UInt8)).2.1)), (11, .bool ((Lib.cut p1 ([32] : List UInt8)).2.2))] 9 H fun fr H => ?_
 rcases AX hm with ⟨hb, hm⟩ | ⟨hk1, hm⟩
 ·cases hm
 rcases AX hm with ⟨hb, hm⟩ | ⟨hk2, hm⟩
 ·cases hm
 rcases AX hm with ⟨hb, hm⟩ | ⟨hk3, hm⟩
 ·cases hm
 rcases AX hm with ⟨hb, hm⟩ | ⟨hk4, hm⟩
 ·cases hm
 rcases AX hm with ⟨hb, hm⟩ | ⟨hk5, hm⟩
 ·cases hm
 rcases AX hm with ⟨hb, hm⟩ | ⟨hk6, hm⟩
 ·cases hm
 rcases AX hm with ⟨hb, hm⟩ | ⟨hk7, hm⟩
 ·cases hm
 rcases AX hm with ⟨hb, hm⟩ | ⟨hk8, hm⟩
 ·refine Ap 2 [] 31 (.tuple [.agg [.bool true, .bool false, .func (.func 110) [] []], .bool true]) h2 H (fun fr => .of (Tj (by kernel_rfl) (HH.Xb (P := cfg.P) A 6 rfl (t := 123) (kt := 9) (et := 174) (by kernel_rfl) (by kernel_rfl) (s := ((Lib.cut p1 ([32] : List UInt8)).1)) (.F8 hk1 (.F8 hk2 (.F8 hk3 (.F8 hk4 (.F8 hk5 (.F8 hk6 (.F8 hk7 (.hit hb))))))))))) fun fr t H => ?_
  obtain ⟨h5, e2, A⟩ := A.pu (.cells none 2 [.bool false, .bool false, .nilFunc])
  refine KB 3 [(32, .agg [.bool true, .bool false, .func (.func 110) [] []]), (33, .bool true)] 12 (.ptr (some (h2.size, 0))) e2 H fun fr t H => ?_
  obtain ⟨h6, hx, A⟩ := A.s0 0 [.bool true, .bool false, .func (.func 110) [] []] [_, _, _]
  refine F4 hx H fun fr t H => ?_
  refine AO 1 [(13, .bool true)] H fun fr H => AQ (AG 20 (Ag 5 [(36, .bool false), (37, .bool ((Lib.cut p1 ([32] : List UInt8)).2.2))] 39 0 0 A H fun fr t H => ?_))
  refine AK 3 [(42, .bool (!(((Lib.cut p1 ([32] : List UInt8)).2.2) == true)))] H fun fr H => A9 11 (fun fr' h' => h6 = h' ∧ Has fr' 72 [(0, .ptr (some (bp0, 0))), (2, Ai p2), (8, .ptr (some (h.size, 0))), (9, .str ((Lib.cut p1 ([32] : List UInt8)).1)), (10, .str ((Lib.cut p1 ([32] : List UInt8)).2.1)), (12, .ptr (some (h2.size, 0))), (53, .bool ((!(((Lib.cut p1 ([32] : List UInt8)).2.2) == true)) || false))]) ?_ ?_
  ·cases hb : (!(((Lib.cut p1 ([32] : List UInt8)).2.2) == true) : Bool) with
   | true =>
    replace H := H.kn 42 hb
    exact AK 11 [(53, .bool true)] H fun fr H => BH H hb
   | false =>
    replace H := H.kn 42 hb
    refine Ag 1 [] 44 0 1 A H fun fr t H => ?_
    exact AK 9 [(53, .bool false)] H fun fr H => BH H hb
  intro t fr h' hK
  obtain ⟨e, H⟩ := hK
  subst e
  refine BJ id (Ad 53 H hm (fun hb hm H => ?_) fun hb hm H => ?_)
  ·refine AG 3 ?_
   obtain ⟨h7, hx, A⟩ := A.s1 0 [Ai 11, Ai p2] [_, _]
   refine Fk 2 [] hx H fun fr t H => ?_
   refine BJ id (AU ?_)
   obtain ⟨rfl, rfl, rfl⟩ := IY hm
   refine ⟨.inl rfl, .agg [Ai 11, Ai p2], EL (.cell (rT H) (By (by kernel_rfl) (by kernel_rfl) (A.la 1 0 2)) .nil), ?_⟩
   replace A := A.k6 2 3 4 5 6 7
   exact ⟨rp0_1, rfl, A⟩
  refine Ce 6 id (Ag 3 [] 59 2 20 A H fun fr t H => ?_)
  refine AK 1 [(60, .str ((Lib.cut p1 ([32] : List UInt8)).1))] H fun fr H => ?_
  obtain ⟨h8, hx, A1⟩ := HH.V5 (kt := 9) (et := 4) (ek := fun k : List UInt8 => .str k) (ev := fun v : Bool => .bool v) (Rk (by kernel_rfl)) A 6 rfl (t := 115) (by kernel_rfl) ((Lib.cut p1 ([32] : List UInt8)).1) true
  replace A : HH g h8 [_, _, _, _, _, _, .obj bp0_20 (.map 2 (BS (fun k : List UInt8 => .str k) (fun v : Bool => .bool v) (F7 p0.B6 ((Lib.cut p1 ([32] : List UInt8)).1) true))), _] F := A1
  refine Mg (.tuple []) h8 H (fun fr => .of (UG (by kernel_rfl) hx)) fun fr t H => ?_
  refine CX 12 id (Ag 1 [] 62 0 2 A H fun fr t H => ?_)
  replace A := A.k8 2 3 4 5 6 0 1 7
  obtain ⟨⟨x4, x5⟩, hx, hm⟩ := bind_some hm
  obtain ⟨v1, h9, hr, r1, rfl, A1⟩ := IZ (av := [.ptr (some (bp0, 0)), .str ((Lib.cut p1 ([32] : List UInt8)).2.1), Ai p2, Ai (IntKind.i64.wrap ((IntKind.i64.wrap (p2 + (((Lib.cut p1 ([32] : List UInt8)).1).length : Int))) + 1))]) hx (A.cut 5)
  replace A : HH g h9 [.obj bp0 (.cells none 2 [_, AF r1 x5.length, _, _, _, _, _, _, _, _, _, _, _, _, _, _, _, _, _, _, _]), .AI rp0_0 31 (AI AE p0.c_.Ak), .AI r1 31 (AI AE x5), .AI rp0_2 135 (AI AJ p0.c_.Br), .obj bp0_20 (.map 2 (BS (fun k : List UInt8 => .str k) (fun v : Bool => .bool v) (F7 p0.B6 ((Lib.cut p1 ([32] : List UInt8)).1) true))), _, _, _] F := A.CY (n := 5) A1
  refine A0 8 [] 71 hr H fun fr t H => ?_
  obtain ⟨h10, hx, A⟩ := A.s6 0 [Ai x4.e_, Ai x4.at_] [_, _]
  refine F4 hx H fun fr t H => ?_
  refine BJ id (AU ?_)
  obtain ⟨rfl, rfl, rfl⟩ := IY hm
  refine ⟨.inl rfl, .agg [Ai x4.e_, Ai x4.at_], EL (.cell (rT H) (By (by kernel_rfl) (by kernel_rfl) (A.la 6 0 2)) .nil), ?_⟩
  replace A := A.k6 0 1 2 3 4 7
  exact ⟨r1, rfl, A⟩
 rcases AX hm with ⟨hb, hm⟩ | ⟨hk9, hm⟩
 ·cases hm
 rcases AX hm with ⟨hb, hm⟩ | ⟨hk10, hm⟩
 ·cases hm
 rcases AX hm with ⟨hb, hm⟩ | ⟨hk11, hm⟩
 ·cases hm
 rcases AX hm with ⟨hb, hm⟩ | ⟨hk12, hm⟩
 ·cases hm
 rcases AX hm with ⟨hb, hm⟩ | ⟨hk13, hm⟩
 ·cases hm
 rcases AX hm with ⟨hb, hm⟩ | ⟨hk14, hm⟩
 ·cases hm
 rcases AX hm with ⟨hb, hm⟩ | ⟨hk15, hm⟩
 ·cases hm
 rcases AX hm with ⟨hb, hm⟩ | ⟨hk16, hm⟩
 ·cases hm
 rcases AX hm with ⟨hb, hm⟩ | ⟨hk17, hm⟩
 ·cases hm
 rcases AX hm with ⟨hb, hm⟩ | ⟨hk18, hm⟩
 ·cases hm
 rcases AX hm with ⟨hb, hm⟩ | ⟨hk19, hm⟩
 ·cases hm
 refine Ap 2 [] 31 (.tuple [.agg [.bool false, .bool false, .nilFunc], .bool false]) h2 H (fun fr => .of (Tj (by kernel_rfl) (HH.WN (P := cfg.P) A 6 rfl (t := 123) (kt := 9) (et := 174) (by kernel_rfl) (by kernel_rfl) (z := .agg [.bool false, .bool false, .nilFunc]) (by kernel_rfl) (s := ((Lib.cut p1 ([32] : List UInt8)).1)) (.F8 hk1 (.F8 hk2 (.F8 hk3 (.F8 hk4 (.F8 hk5 (.F8 hk6 (.F8 hk7 (.F8 hk8 (.F8 hk9 (.F8 hk10 (.F8 hk11 (.F8 hk12 (.F8 hk13 (.F8 hk14 (.F8 hk15 (.F8 hk16 (.F8 hk17 (.F8 hk18 (.F8 hk19 (.nil))))))))))))))))))))))) fun fr t H => ?_
 obtain ⟨h11, e3, A⟩ := A.pu (.cells none 2 [.bool false, .bool false, .nilFunc])
 refine KB 3 [(32, .agg [.bool false, .bool false, .nilFunc]), (33, .bool false)] 12 (.ptr (some (h2.size, 0))) e3 H fun fr t H => ?_
 obtain ⟨h12, hx, A⟩ := A.s0 0 [.bool false, .bool false, .nilFunc] [_, _, _]
 refine F4 hx H fun fr t H => ?_
 refine AO 1 [(13, .bool false)] H fun fr H => AQ (AG 20 (AO 20 [(53, .bool true)] H fun fr H => HB (x := .tmp 53) (by kernel_rfl) H (fun fr => by kernel_rfl) ?_))
 refine AG 3 ?_
 obtain ⟨h13, hx, A⟩ := A.s1 0 [Ai 11, Ai p2] [_, _]
 refine Fk 2 [] hx H fun fr t H => ?_
 refine BJ id (AU ?_)
 obtain ⟨rfl, rfl, rfl⟩ := IY hm
 refine ⟨.inl rfl, .agg [Ai 11, Ai p2], EL (.cell (rT H) (By (by kernel_rfl) (by kernel_rfl) (A.la 1 0 2)) .nil), ?_⟩
 replace A := A.k6 2 3 4 5 6 7
 exact ⟨rp0_1, rfl, A⟩
def JP (s : (List AR) × (List UInt8) × Int × (List ((List UInt8) × Bool))) : Option (((List AR) × (List UInt8) × Int × (List ((List UInt8) × Bool))) ⊕ (((List AR) × (List UInt8) × Int × (List ((List UInt8) × Bool))) ⊕ ((List AR) × (List UInt8) × Int × (List ((List UInt8) × Bool)) × Int × Int))) :=
 match s with
 | (x2, x3, x4, x5) => Aa (!(x3 == ([] : List UInt8))) (Em (decide (x3.length ≤ 4294967280)) <| (Db (⟨(⟨([] : List AR), x2, ([] : List Az), false, false, (0 : Int), false, (⟨(0 : Int), (0 : Int)⟩ : Ar), (0 : Int), (0 : Int), (4096 : Int), (65536 : Int), (4096 : Int)⟩ : B1), (⟨([] : List UInt8), false, false, true⟩ : AR), (Lib.cut x3 ([10] : List UInt8)).2.1, IntKind.i64.wrap (x4 + (IntKind.i64.wrap ((x3.length : Int) - (((Lib.cut x3 ([10] : List UInt8)).2.1).length : Int)))), x5⟩ : E8) ((Lib.cut x3 ([10] : List UInt8)).1) x4).bind fun (x16, x17, x18) => (GU).bind fun x19 => (Xh cfg.P 128 [Ai x16.e_, Ai x16.at_] [Ai x19.e_, Ai x19.at_]).bind fun x20 => Aa (!x20) (some (.inr (.inr (x17, (Lib.cut x3 ([10] : List UInt8)).2.1, IntKind.i64.wrap (x4 + (IntKind.i64.wrap ((x3.length : Int) - (((Lib.cut x3 ([10] : List UInt8)).2.1).length : Int)))), x18, x16.at_, x16.e_)))) (some (.inl (x17, (Lib.cut x3 ([10] : List UInt8)).2.1, IntKind.i64.wrap (x4 + (IntKind.i64.wrap ((x3.length : Int) - (((Lib.cut x3 ([10] : List UInt8)).2.1).length : Int)))), x18)))) (some (.inr (.inl (x2, x3, x4, x5))))
def IW (p0 : List UInt8) : Option (B1 × Int × Int) :=
 Aa (decide ((p0.length : Int) > 65536)) (some ((⟨([] : List AR), ([] : List AR), ([] : List Az), false, false, (0 : Int), false, (⟨(0 : Int), (0 : Int)⟩ : Ar), (0 : Int), (0 : Int), (0 : Int), (0 : Int), (0 : Int)⟩ : B1), (0 : Int), (12 : Int))) ((HP).bind fun _ => (loop (JP) (([] : List AR), p0, (0 : Int), ([] : List ((List UInt8) × Bool)))).bind fun o1 => (match o1 with | .inl (x6, x7, x8, x9) => some ((⟨([] : List AR), x6, ([] : List Az), false, false, (0 : Int), false, (⟨(0 : Int), (0 : Int)⟩ : Ar), (0 : Int), (0 : Int), (4096 : Int), (65536 : Int), (4096 : Int)⟩ : B1), (0 : Int), (0 : Int)) | .inr (x10, x11, x12, x13, x14, x15) => some ((⟨([] : List AR), ([] : List AR), ([] : List Az), false, false, (0 : Int), false, (⟨(0 : Int), (0 : Int)⟩ : Ar), (0 : Int), (0 : Int), (0 : Int), (0 : Int), (0 : Int)⟩ : B1), x14, x15)))
theorem N6 {p0 q0 q1 q2} (hm : IW p0 = some (q0, q1, q2)) (A : HH g h [] F) (hc : BF (cfg.still 28) av = [.str p0] := by kernel_rfl) : ∃ v h', BL cfg g h 28 av v h' ∧ v = .tuple [.agg (AS q0), Ai q1, Ai q2] ∧ HH g h' [] F := by
 refine Xk 77 [.cell 2 29, .tmp 3, .tmp 4] hc ?_
 clear hc
 unfold IW at hm
 refine bg 77 [(0, .str p0)] fun fr H => ?_
 refine AG 3 ?_
 obtain ⟨h1, e1, A⟩ := A.pu (.cells none 2 [.slice none 0, .slice none 0, .slice none 0, .bool false, .bool false, Ai 0, .bool false, Ai 0, Ai 0, Ai 0, Ai 0, Ai 0, Ai 0, Ai 0])
 refine BB 2 (.ptr (some (h.size, 0))) e1 H fun fr t H => ?_
 refine AO 2 [] H fun fr H => AQ (AG 3 (AO 3 [(14, .bool (decide ((p0.length : Int) > 65536)))] H fun fr H => Ad 14 H hm (fun hb hm H => ?_) fun hb hm H => ?_))
 ·refine AG 4 ?_
  obtain ⟨h2, hx, A⟩ := A.s0 0 [.slice none 0, .slice none 0, .slice none 0, .bool false, .bool false, Ai 0, .bool false, Ai 0, Ai 0, Ai 0, Ai 0, Ai 0, Ai 0, Ai 0] [_, _, _, _, _, _, _, _, _, _, _, _, _, _]
  refine Fk 1 [] hx H fun fr t H => ?_
  refine AO 2 [(3, Ai 0), (4, Ai 12)] H fun fr H => AU ?_
  obtain ⟨rfl, rfl, rfl⟩ := IY hm
  refine ⟨.inl rfl, .tuple [.agg [.slice none 0, .slice none 0, .slice none 0, .bool false, .bool false, Ai 0, .bool false, Ai 0, Ai 0, Ai 0, Ai 0, Ai 0, Ai 0, Ai 0], Ai 0, Ai 12], CK (.cell (rT H) (By (by kernel_rfl) (by kernel_rfl) (A.la 0 0 14)) (.tmp (rT H) (.tmp (rT H) .nil))), ?_⟩
  refine ⟨.tuple [.agg [vs AE ([] : List AR), vs AE ([] : List AR), vs AJ ([] : List Az), .bool false, .bool false, Ai 0, .bool false, Ai 0, Ai 0, Ai 0, Ai 0, Ai 0, Ai 0, Ai 0], Ai 0, Ai 12], h2, by first | rfl | (simp only [I1, I4, JC, I5, JB, I2, I9, I7, I3, JA, I8, GY, GN, GQ, GW, GJ, GP, GL, Option.map_some] <;> rfl), ?_⟩
  replace A := A.d0
  exact ⟨rfl, A⟩
 refine Ce 7 id ?_
 obtain ⟨⟨⟩, hx, hm⟩ := bind_some hm
 obtain ⟨v1, h3, hr, rfl, A1⟩ := M4 (av := []) hx (A.cut 0)
 replace A : HH g h3 [.obj h.size (.cells none 2 [.slice none 0, .slice none 0, .slice none 0, .bool false, .bool false, Ai (0 : Int), .bool false, Ai (0 : Int), Ai (0 : Int), Ai (0 : Int), Ai (0 : Int), Ai (0 : Int), Ai (0 : Int), Ai (0 : Int)])] F := A.CY (n := 0) A1
 refine BA 16 hr H fun fr t H => ?_
 refine AK 2 [(17, .agg [.str ([] : List UInt8), .bool false, .bool false, .bool true]), (18, .str p0)] H fun fr H => ?_
 obtain ⟨h4, e2⟩ : ∃ x, x = h3.push (.map 2 []) := ⟨_, rfl⟩
 replace A : HH g h4 [.obj h3.size (.map 2 (BS (fun k : List UInt8 => .str k) (fun v : Bool => .bool v) ([] : List ((List UInt8) × Bool)))), _] F := (A.push _).to e2
 refine BB 19 (.map (some h3.size)) e2 H fun fr t H => ?_
 obtain ⟨h5, e3, A⟩ := A.pu (.cells none 2 [.slice none 0, .slice none 0, .slice none 0, .bool false, .bool false, Ai 0, .bool false, Ai 0, Ai 0, Ai 0, Ai 0, Ai 4096, Ai 65536, Ai 4096, .str ([] : List UInt8), .bool false, .bool false, .bool true, .str p0, Ai 0, .map (some h3.size)])
 refine KB 1 [] 21 (.ptr (some (h4.size, 0))) e3 H fun fr t H => ?_
 refine Bc 1 [(5, .ptr (some (h4.size, 0)))] 2 H fun fr H => ?_
 obtain ⟨h6, e4⟩ : ∃ x, x = h5.push (.map 2 LA.OC) := ⟨_, rfl⟩
 replace A : HH g h6 [.obj h5.size (.map 2 LA.OC), .obj h4.size (.cells none 2 [.slice none 0, .slice none 0, .slice none 0, .bool false, .bool false, Ai 0, .bool false, Ai 0, Ai 0, Ai 0, Ai 0, Ai 4096, Ai 65536, Ai 4096, .str ([] : List UInt8), .bool false, .bool false, .bool true, .str p0, Ai 0, .map (some h3.size)]), _, _] F := (A.push _).to e4
 have hr : ∀ g, BL cfg g h5 60 [] (.map (some h5.size)) h6 := fun g => by rw [e4]; exact Xa (C := cfg) (f := 60) (j := 0) (n := 0) (es := LA.OC) (by kernel_rfl) (l := exts) rfl (by kernel_rfl) (by kernel_rfl) (by kernel_rfl)
 refine Aq 22 _ _ H (fun fr => Steps.call (by kernel_rfl) (hr _)) fun fr t H => ?_
 refine AO 1 [(6, .map (some h5.size))] H fun fr H => AQ (AV (id := 0) (by kernel_rfl) ?_)
 replace A : HH g h6 [.AI none 31 (AI AE ([] : List AR)), _, _, _, _] F := A.Kk 31
 replace A : HH g h6 [_, _, _, .obj h4.size (.cells none 2 [AF none (([] : List AR).length), _, _, _, _, _, _, _, _, _, _, _, _, _, _, _, _, _, _, _, _]), _, _] F := A.Kk 31
 replace A : HH g h6 [.AI none 135 (AI AJ ([] : List Az)), _, _, _, .obj h4.size (.cells none 2 [_, AF none (([] : List AR).length), _, _, _, _, _, _, _, _, _, _, _, _, _, _, _, _, _, _, _]), _, _] F := A.Kk 135
 obtain ⟨o1, ho, hm⟩ := bind_some hm
 refine Ax (Q' := fun e fr' h' => (∃ x6 x7 x8 x9, e = .exit 0 ∧ .inl (x6, x7, x8, x9) = o1 ∧ ∃ r2, Has fr' 77 [(2, .ptr (some (h.size, 0))), (5, .ptr (some (h4.size, 0)))] ∧ HH g h' [.AI none 135 (AI AJ ([] : List Az)), .AI r2 31 (AI AE x6), .AI none 31 (AI AE ([] : List AR)), .obj h5.size (.map 2 LA.OC), .obj h4.size (.cells none 2 [AF none (([] : List AR).length), AF r2 x6.length, AF none (([] : List Az).length), .bool false, .bool false, Ai 0, .bool false, Ai 0, Ai 0, Ai 0, Ai 0, Ai 4096, Ai 65536, Ai 4096, .str ([] : List UInt8), .bool false, .bool false, .bool true, .str x7, Ai x8, .map (some h3.size)]), .obj h3.size (.map 2 (BS (fun k : List UInt8 => .str k) (fun v : Bool => .bool v) x9)), .obj h.size (.cells none 2 [.slice none 0, .slice none 0, .slice none 0, .bool false, .bool false, Ai 0, .bool false, Ai 0, Ai 0, Ai 0, Ai 0, Ai 0, Ai 0, Ai 0])] F) ∨ (∃ x10 x11 x12 x13 x14 x15, e = .ret ∧ .inr (x10, x11, x12, x13, x14, x15) = o1 ∧ ∃ r3, Has fr' 77 [(2, .ptr (some (h.size, 0))), (3, Ai x14), (4, Ai x15)] ∧ HH g h' [.AI none 135 (AI AJ ([] : List Az)), .AI r3 31 (AI AE x10), .AI none 31 (AI AE ([] : List AR)), .obj h5.size (.map 2 LA.OC), .obj h4.size (.cells none 2 [AF none (([] : List AR).length), AF r3 x10.length, AF none (([] : List Az).length), .bool false, .bool false, Ai 0, .bool false, Ai 0, Ai 0, Ai 0, Ai 0, Ai 4096, Ai 65536, Ai 4096, .str ([] : List UInt8), .bool false, .bool false, .bool true, .str x11, Ai x12, .map (some h3.size)]), .obj h3.size (.map 2 (BS (fun k : List UInt8 => .str k) (fun v : Bool => .bool v) x13)), .obj h.size (.cells none 2 [.slice none 0, .slice none 0, .slice none 0, .bool false, .bool false, Ai 0, .bool false, Ai 0, Ai 0, Ai 0, Ai 0, Ai 0, Ai 0, Ai 0])] F) ∨ False) ?_ ?_
 ·refine Bh (by kernel_rfl) (fun (s : (List AR) × (List UInt8) × Int × (List ((List UInt8) × Bool))) fr' h' => ∃ x2 x3 x4 x5, (x2, x3, x4, x5) = s ∧ ∃ r1, Has fr' 77 [(2, .ptr (some (h.size, 0))), (5, .ptr (some (h4.size, 0))), (6, .map (some h5.size))] ∧ HH g h' [.AI none 135 (AI AJ ([] : List Az)), .AI r1 31 (AI AE x2), .AI none 31 (AI AE ([] : List AR)), .obj h5.size (.map 2 LA.OC), .obj h4.size (.cells none 2 [AF none (([] : List AR).length), AF r1 x2.length, AF none (([] : List Az).length), .bool false, .bool false, Ai 0, .bool false, Ai 0, Ai 0, Ai 0, Ai 0, Ai 4096, Ai 65536, Ai 4096, .str ([] : List UInt8), .bool false, .bool false, .bool true, .str x3, Ai x4, .map (some h3.size)]), .obj h3.size (.map 2 (BS (fun k : List UInt8 => .str k) (fun v : Bool => .bool v) x5)), .obj h.size (.cells none 2 [.slice none 0, .slice none 0, .slice none 0, .bool false, .bool false, Ai 0, .bool false, Ai 0, Ai 0, Ai 0, Ai 0, Ai 0, Ai 0, Ai 0])] F) ho ⟨_, _, _, _, rfl, none, H.ls, A⟩ ?_
  clear ho hm H A
  intro s q fr h7 hI hm
  obtain ⟨x2, x3, x4, x5, rfl, r1, H, A⟩ := hI
  unfold JP at hm
  refine AQ (AG 5 (Ag 3 [] 26 4 18 A H fun fr t H => ?_))
  refine AO 1 [(27, .bool (!(x3 == ([] : List UInt8))))] H fun fr H => Ad 27 H hm (fun hb hm H => ?_) fun hb hm H => ?_
  ·refine Bf id (AV (id := 1) (by kernel_rfl) ?_)
   refine AG 12 (Ag 3 [] 32 4 18 A H fun fr t H => ?_)
   obtain ⟨hb, hm⟩ := BE hm
   refine Aq 33 (.tuple [.str ((Lib.cut x3 ([10] : List UInt8)).1), .str ((Lib.cut x3 ([10] : List UInt8)).2.1), .bool ((Lib.cut x3 ([10] : List UInt8)).2.2)]) h7 H (fun fr => Steps.call (by kernel_rfl) (TT (C := cfg) (f := 61) (a := 0) (by kernel_rfl) (l := exts) rfl (by kernel_rfl) hb)) fun fr t H => ?_
   refine Bc 7 [(7, .str ((Lib.cut x3 ([10] : List UInt8)).1)), (8, .str ((Lib.cut x3 ([10] : List UInt8)).2.1))] 5 H fun fr H => Ag 3 [] 40 4 19 A H fun fr t H => ?_
   refine AO 1 [(10, Ai x4)] H fun fr H => AQ (Ep 8 16 ?_)
   refine Ag 3 [(41, .ptr (some (h4.size, 0)))] 44 4 19 A H fun fr t H => ?_
   refine Ag 3 [] 48 4 18 A H fun fr t H => ?_
   obtain ⟨h8, hx, A⟩ := A.s4 19 [Ai (IntKind.i64.wrap (x4 + (IntKind.i64.wrap ((x3.length : Int) - (((Lib.cut x3 ([10] : List UInt8)).2.1).length : Int)))))] [_, _, _, _, _, _, _, _, _, _, _, _, _, _, _, _, _, _, _, _, _]
   refine FJ 7 [] hx H fun fr t H => ?_
   refine CX 5 id ?_
   obtain ⟨h9, hx, A⟩ := A.s4 18 [.str ((Lib.cut x3 ([10] : List UInt8)).2.1)] [_, _, _, _, _, _, _, _, _, _, _, _, _, _, _, _, _, _, _, _, _]
   refine FJ 4 [] hx H fun fr t H => ?_
   refine CX 7 id ?_
   replace A := A.k7 4 2 1 0 5 3 6
   obtain ⟨⟨x16, x17, x18⟩, hx, hm⟩ := bind_some hm
   obtain ⟨v1, h10, hr, r4, rfl, A1⟩ := HJ (av := [.ptr (some (h4.size, 0)), .str ((Lib.cut x3 ([10] : List UInt8)).1), Ai x4, .map (some h5.size)]) hx (A.cut 6)
   replace A : HH g h10 [.obj h4.size (.cells none 2 [_, AF r4 x17.length, _, _, _, _, _, _, _, _, _, _, _, _, _, _, _, _, _, _, _]), .AI none 31 (AI AE ([] : List AR)), .AI r4 31 (AI AE x17), .AI none 135 (AI AJ ([] : List Az)), .obj h3.size (.map 2 (BS (fun k : List UInt8 => .str k) (fun v : Bool => .bool v) x18)), .obj h5.size (.map 2 LA.OC), _] F := A.CY (n := 6) A1
   refine A0 4 [] 64 hr H fun fr t H => ?_
   obtain ⟨h11, e5, A⟩ := A.pu (.cells none 2 [Ai 0, Ai 0])
   refine BB 11 (.ptr (some (h10.size, 0))) e5 H fun fr t H => ?_
   obtain ⟨h12, hx, A⟩ := A.s0 0 [Ai x16.e_, Ai x16.at_] [_, _]
   refine F4 hx H fun fr t H => ?_
   refine BJ id (AQ (L0 11 3 [(0, []), (1, [0]), (2, [])] ?_))
   refine DE 65 (.agg [Ai x16.e_, Ai x16.at_]) h12 [(0, h10.size)] (g.Bq) H (fun fr => .of (CG (by kernel_rfl) (A.la 0 0 2))) (fun fr H => ?_)
   have A1 := A.J1 0 (pr := [h10.size]) (.cons 0 rfl (by simp [Ck.ids]) .nil)
   obtain ⟨x19, hx, hm⟩ := bind_some hm
   obtain ⟨v1, h13, hr, rfl, A1⟩ := Ip (av := []) hx A1
   replace A := A.X0 A1
   refine DE 66 (.agg [Ai x19.e_, Ai x19.at_]) h13 [(0, h10.size)] (h10.size :: g.Bq) H (fun fr => Steps.call (by kernel_rfl) hr) (fun fr H => ?_)
   obtain ⟨x20, hx, hm⟩ := bind_some hm
   refine DE 67 (.bool (!x20)) h13 [(0, h10.size)] (g.Bq) H (fun fr => .of (YN (by kernel_rfl) hx)) (fun fr H => ?_)
   refine BJ id (Ad 67 H hm (fun hb hm H => ?_) fun hb hm H => ?_)
   ·refine AQ (L0 12 8 [(0, []), (1, []), (2, []), (3, []), (4, []), (5, [2, 4]), (6, []), (7, [])] ?_)
    refine AK 2 [(68, .agg [.slice none 0, .slice none 0, .slice none 0, .bool false, .bool false, Ai 0, .bool false, Ai 0, Ai 0, Ai 0, Ai 0, Ai 0, Ai 0, Ai 0]), (69, .ptr (some (h10.size, 1)))] H fun fr H => DE 70 (Ai x16.at_) h13 [(2, h10.size)] (g.Bq) H (fun fr => .of (Da (by kernel_rfl) (A.l1 0 1))) (fun fr H => ?_)
    refine AK 1 [(71, .ptr (some (h10.size, 0)))] H fun fr H => DE 72 (Ai x16.e_) h13 [(4, h10.size), (2, h10.size)] (g.Bq) H (fun fr => .of (Da (by kernel_rfl) (A.l1 0 0))) (fun fr H => ?_)
    replace A := A.k8 7 0 1 2 3 4 5 6
    have A1 := A.J1 1 (pr := [h10.size, h10.size]) (.cons 0 rfl (by simp [Ck.ids]) (.cons 0 rfl (by simp [Ck.ids]) .nil))
    obtain ⟨h14, hx, A1⟩ := A1.st 0 rfl (o := 0) (new := [.slice none 0, .slice none 0, .slice none 0, .bool false, .bool false, Ai 0, .bool false, Ai 0, Ai 0, Ai 0, Ai 0, Ai 0, Ai 0, Ai 0]) (ds := [.slice none 0, .slice none 0, .slice none 0, .bool false, .bool false, Ai 0, .bool false, Ai 0, Ai 0, Ai 0, Ai 0, Ai 0, Ai 0, Ai 0]) (Nat.le_of_ble_eq_true rfl) rfl rfl
    replace A := A.YO A1
    refine Kv (.tuple []) h14 [(4, h10.size), (2, h10.size)] (h10.size :: h10.size :: g.Bq) H (fun fr => .of (Tv (by kernel_rfl) (RG hx rfl))) (fun fr H => ?_)
    refine AO 2 [(3, Ai x16.at_), (4, Ai x16.e_)] H fun fr H => AU ?_
    replace A := A.k7 5 4 3 7 2 6 0
    exact nr hm fun e => Or.inr (.inl ⟨_, _, _, _, _, _, rfl, e, _, H.ls, A⟩)
   refine FL ?_
   replace A := A.k7 4 3 2 6 1 5 7
   exact nx hm ⟨_, _, _, _, rfl, _, H.ls, A⟩
  refine BU (i := 0) (by kernel_rfl) ?_
  exact nr hm fun e => .inl ⟨_, _, _, _, rfl, e, _, H.ls, A⟩
 clear ho
 clear A
 intro e fr h15 hQ
 rcases hQ with ⟨x6, x7, x8, x9, rfl, rfl, r2, H, A⟩ | ⟨x10, x11, x12, x13, x14, x15, rfl, rfl, r3, H, A⟩ | hF
 ·show AW _ _ _ _ _ _ _
  refine AG 7 (Ap 3 [] 76 _ _ H (fun fr => .of (CG (by kernel_rfl) (A.HG 4 rfl (o := 0) (n := 14) ⟨Nat.le_of_ble_eq_true rfl, rfl⟩))) fun fr t H => ?_)
  obtain ⟨h16, hx, A⟩ := A.s6 0 [AF none (([] : List AR).length), AF r2 x6.length, AF none (([] : List Az).length), .bool false, .bool false, Ai 0, .bool false, Ai 0, Ai 0, Ai 0, Ai 0, Ai 4096, Ai 65536, Ai 4096] [_, _, _, _, _, _, _, _, _, _, _, _, _, _]
  refine F4 hx H fun fr t H => ?_
  refine AO 2 [(3, Ai 0), (4, Ai 0)] H fun fr H => AU ?_
  obtain ⟨rfl, rfl, rfl⟩ := IY hm
  refine ⟨.inl rfl, .tuple [.agg [AF none (([] : List AR).length), AF r2 x6.length, AF none (([] : List Az).length), .bool false, .bool false, Ai 0, .bool false, Ai 0, Ai 0, Ai 0, Ai 0, Ai 4096, Ai 65536, Ai 4096], Ai 0, Ai 0], CK (.cell (rT H) (By (by kernel_rfl) (by kernel_rfl) (A.la 6 0 14)) (.tmp (rT H) (.tmp (rT H) .nil))), ?_⟩
  obtain ⟨h17, hz0, A1⟩ := (A.front 2 rfl).Xc (n := ([] : List AR).length) (z := 4) (B4.J9 _) (by decide)
  replace A : HH g h17 [_, _, _, _, _, _] F := A1
  obtain ⟨h18, hz1, A1⟩ := (A.front 1 rfl).Xc (n := x6.length) (z := 4) (B4.J9 _) (by decide)
  replace A : HH g h18 [_, _, _, _, _] F := A1
  obtain ⟨h19, hz2, A1⟩ := (A.front 0 rfl).Xc (n := ([] : List Az).length) (z := 9) (EK.J9 _) (by decide)
  replace A : HH g h19 [_, _, _, _] F := A1
  refine ⟨.tuple [.agg [vs AE ([] : List AR), vs AE x6, vs AJ ([] : List Az), .bool false, .bool false, Ai 0, .bool false, Ai 0, Ai 0, Ai 0, Ai 0, Ai 4096, Ai 65536, Ai 4096], Ai 0, Ai 0], h19, by first | rfl | (simp only [I1, I4, JC, I5, JB, I2, I9, I7, I3, JA, I8, GY, GN, GQ, GW, GJ, GP, GL, Option.map_some, hz0, hz1, hz2] <;> rfl), ?_⟩
  replace A := A.d0
  exact ⟨rfl, A⟩
 ·obtain ⟨rfl, rfl, rfl⟩ := IY hm
  refine ⟨.inl rfl, .tuple [.agg [.slice none 0, .slice none 0, .slice none 0, .bool false, .bool false, Ai 0, .bool false, Ai 0, Ai 0, Ai 0, Ai 0, Ai 0, Ai 0, Ai 0], Ai x14, Ai x15], CK (.cell (rT H) (By (by kernel_rfl) (by kernel_rfl) (A.la 6 0 14)) (.tmp (rT H) (.tmp (rT H) .nil))), ?_⟩
  refine ⟨.tuple [.agg [vs AE ([] : List AR), vs AE ([] : List AR), vs AJ ([] : List Az), .bool false, .bool false, Ai 0, .bool false, Ai 0, Ai 0, Ai 0, Ai 0, Ai 0, Ai 0, Ai 0], Ai x14, Ai x15], h15, by first | rfl | (simp only [I1, I4, JC, I5, JB, I2, I9, I7, I3, JA, I8, GY, GN, GQ, GW, GJ, GP, GL, Option.map_some] <;> rfl), ?_⟩
  replace A := A.d0
  exact ⟨rfl, A⟩
 exact hF.elim
def C4 (p0 : Int) (p1 : Int) (p2 : Int) : Option (Bool) :=
 some ((decide (p0 ≥ p1)) && (decide (p0 ≤ p2)))
theorem Dq {p0 p1 p2 q0} (hm : C4 p0 p1 p2 = some q0) (A : HH g h [] F) (hc : BF (cfg.still 64) av = [Ai p0, Ai p1, Ai p2] := by kernel_rfl) : ∃ v h', BL cfg g h 64 av v h' ∧ v = .bool q0 ∧ HH g h' [] F := by
 refine Dr 15 [.tmp 6] hc ?_
 clear hc
 unfold C4 at hm
 refine bg 15 [(0, Ai p0), (1, Ai p1), (2, Ai p2)] fun fr H => ?_
 refine AG 1 (Bc 1 [] 9 H fun fr H => AK 4 [(10, .bool (decide (p0 ≥ p1)))] H fun fr H => A9 4 (fun fr' h' => h = h' ∧ Has fr' 15 [(14, .bool ((decide (p0 ≥ p1)) && (decide (p0 ≤ p2))))]) ?_ ?_)
 ·cases hb : (decide (p0 ≥ p1) : Bool) with
  | true =>
   replace H := H.kn 10 hb
   exact AK 4 [(14, .bool (decide (p0 ≤ p2)))] H fun fr H => BH H hb
  | false =>
   replace H := H.kn 10 hb
   exact AK 4 [(14, .bool false)] H fun fr H => BH H hb
 intro t fr h' hK
 obtain ⟨e, H⟩ := hK
 subst e
 refine AO 1 [(6, .bool ((decide (p0 ≥ p1)) && (decide (p0 ≤ p2))))] H fun fr H => AU ?_
 obtain rfl := AY hm
 exact ⟨.inl rfl, _, rH H, rfl, A⟩
def Jk (p0 : Ar) : Option (Bool) :=
 some ((((decide (p0.DF ≥ (-9007199254740991))) && (decide (p0.DF ≤ 9007199254740991))) && (decide (p0.Bn ≥ 0))) && (decide (p0.Bn < 1000000000)))
theorem Ow {p0 q0} (hm : Jk p0 = some q0) (A : HH g h [] F) (hc : BF (cfg.still 65) av = [.agg [Ai p0.DF, Ai p0.Bn]] := by kernel_rfl) : ∃ v h', BL cfg g h 65 av v h' ∧ v = .bool q0 ∧ HH g h' [] F := by
 refine Dr 21 [.tmp 2] hc ?_
 clear hc
 unfold Jk at hm
 refine bg 21 [(0, .agg [Ai p0.DF, Ai p0.Bn])] fun fr H => ?_
 refine AG 2 ?_
 obtain ⟨h1, e1, A⟩ := A.pu (.cells none 2 [Ai p0.DF, Ai p0.Bn])
 refine BB 1 (.ptr (some (h.size, 0))) e1 H fun fr t H => ?_
 refine Bc 1 [] 19 H fun fr H => Ag 1 [] 4 0 0 A H fun fr t H => ?_
 refine AK 2 [(6, .bool (decide (p0.DF ≥ (-9007199254740991))))] H fun fr H => A9 4 (fun fr' h' => h1 = h' ∧ Has fr' 21 [(1, .ptr (some (h.size, 0))), (10, .bool ((decide (p0.DF ≥ (-9007199254740991))) && (decide (p0.DF ≤ 9007199254740991))))]) ?_ ?_
 ·cases hb : (decide (p0.DF ≥ (-9007199254740991)) : Bool) with
  | true =>
   replace H := H.kn 6 hb
   refine Ag 1 [] 8 0 0 A H fun fr t H => ?_
   exact AK 2 [(10, .bool (decide (p0.DF ≤ 9007199254740991)))] H fun fr H => BH H hb
  | false =>
   replace H := H.kn 6 hb
   exact AK 4 [(10, .bool false)] H fun fr H => BH H hb
 intro t fr h' hK
 obtain ⟨e, H⟩ := hK
 subst e
 refine AK 1 [(11, .bool ((decide (p0.DF ≥ (-9007199254740991))) && (decide (p0.DF ≤ 9007199254740991))))] H fun fr H => A9 4 (fun fr' h' => h1 = h' ∧ Has fr' 21 [(1, .ptr (some (h.size, 0))), (15, .bool (((decide (p0.DF ≥ (-9007199254740991))) && (decide (p0.DF ≤ 9007199254740991))) && (decide (p0.Bn ≥ 0))))]) ?_ ?_
 ·cases hb : ((decide (p0.DF ≥ (-9007199254740991))) && (decide (p0.DF ≤ 9007199254740991)) : Bool) with
  | true =>
   replace H := H.kn 11 hb
   refine Ag 1 [] 13 0 1 A H fun fr t H => ?_
   exact AK 2 [(15, .bool (decide (p0.Bn ≥ 0)))] H fun fr H => BH H hb
  | false =>
   replace H := H.kn 11 hb
   exact AK 4 [(15, .bool false)] H fun fr H => BH H hb
 intro t fr h' hK
 obtain ⟨e, H⟩ := hK
 subst e
 refine AK 1 [(16, .bool (((decide (p0.DF ≥ (-9007199254740991))) && (decide (p0.DF ≤ 9007199254740991))) && (decide (p0.Bn ≥ 0))))] H fun fr H => A9 4 (fun fr' h' => h1 = h' ∧ Has fr' 21 [(20, .bool ((((decide (p0.DF ≥ (-9007199254740991))) && (decide (p0.DF ≤ 9007199254740991))) && (decide (p0.Bn ≥ 0))) && (decide (p0.Bn < 1000000000))))]) ?_ ?_
 ·cases hb : (((decide (p0.DF ≥ (-9007199254740991))) && (decide (p0.DF ≤ 9007199254740991))) && (decide (p0.Bn ≥ 0)) : Bool) with
  | true =>
   replace H := H.kn 16 hb
   refine Ag 1 [] 18 0 1 A H fun fr t H => ?_
   exact AK 2 [(20, .bool (decide (p0.Bn < 1000000000)))] H fun fr H => BH H hb
  | false =>
   replace H := H.kn 16 hb
   exact AK 4 [(20, .bool false)] H fun fr H => BH H hb
 intro t fr h' hK
 obtain ⟨e, H⟩ := hK
 subst e
 refine AO 1 [(2, .bool ((((decide (p0.DF ≥ (-9007199254740991))) && (decide (p0.DF ≤ 9007199254740991))) && (decide (p0.Bn ≥ 0))) && (decide (p0.Bn < 1000000000))))] H fun fr H => AU ?_
 obtain rfl := AY hm
 refine ⟨.inl rfl, .bool ((((decide (p0.DF ≥ (-9007199254740991))) && (decide (p0.DF ≤ 9007199254740991))) && (decide (p0.Bn ≥ 0))) && (decide (p0.Bn < 1000000000))), rH H, ?_⟩
 replace A := A.d0
 exact ⟨rfl, A⟩
def Ij (p0 : B1) : Option (Bool) :=
 (C4 p0.Name (1 : Int) (4096 : Int)).bind fun x1 => (Aa x1 ((C4 p0.Head (1 : Int) (65536 : Int)).bind fun x3 => some x3) (some false) : Option (Bool)).bind fun x2 => (Aa x2 ((C4 p0.Bl (1 : Int) (4096 : Int)).bind fun x5 => some x5) (some false) : Option (Bool)).bind fun x4 => (Aa x4 ((C4 p0.IH (0 : Int) (9999 : Int)).bind fun x7 => some x7) (some false) : Option (Bool)).bind fun x6 => (Aa x6 ((C4 p0.CO (0 : Int) (9999 : Int)).bind fun x9 => some x9) (some false) : Option (Bool)).bind fun x8 => (Aa x8 ((C4 p0.Bv (0 : Int) (3 : Int)).bind fun x11 => some x11) (some false) : Option (Bool)).bind fun x10 => (Aa x10 ((Aa (!p0.CR) (some true) ((Jk p0.BK).bind fun x14 => some x14) : Option (Bool)).bind fun x13 => some x13) (some false) : Option (Bool)).bind fun x12 => some x12
theorem OA {p0 q0} (hm : Ij p0 = some q0) (A : HH g h [] F) (hc : BF (cfg.still 29) av = [.agg (AS p0)] := by kernel_rfl) : ∃ v h', BL cfg g h 29 av v h' ∧ v = .bool q0 ∧ HH g h' [] F := by
 refine Dr 48 [.tmp 2] hc ?_
 clear hc
 unfold Ij at hm
 refine bg 48 [(0, .agg (AS p0))] fun fr H => ?_
 refine AG 2 ?_
 obtain ⟨h1, e1, A⟩ := A.pu (.cells none 2 (AS p0))
 refine BB 1 (.ptr (some (h.size, 0))) e1 H fun fr t H => ?_
 refine Bc 1 [] 1 H fun fr H => Bc 1 [(3, .func (.func 64) [] [])] 45 H fun fr H => Ag 2 [(4, .func (.func 64) [] [])] 6 0 11 A H fun fr t H => ?_
 obtain ⟨x1, hx, hm⟩ := bind_some hm
 obtain ⟨v1, h2, hr, rfl, A1⟩ := Dq (av := [Ai p0.Name, Ai 1, Ai 4096]) hx (A.cut 0)
 replace A : HH g h2 [.obj h.size (.cells none 2 (AS p0))] F := A.CY (n := 0) A1
 refine BA 7 hr H fun fr t H => ?_
 refine AK 1 [(8, .bool x1)] H fun fr H => ?_
 obtain ⟨x2, ho, hm⟩ := bind_some hm
 refine A9 5 (fun fr' h' => Has fr' 48 [(1, .ptr (some (h.size, 0))), (3, .func (.func 64) [] []), (13, .bool x2)] ∧ HH g h' [.obj h.size (.cells none 2 (AS p0))] F) ?_ ?_
 ·rcases AX ho with ⟨hb, hm⟩ | ⟨hb, hm⟩
  ·replace H := H.kn 8 hb
   refine Ag 2 [(9, .func (.func 64) [] [])] 11 0 12 A H fun fr t H => ?_
   obtain ⟨x3, hx, hm⟩ := bind_some hm
   obtain ⟨v1, h4, hr, rfl, A1⟩ := Dq (av := [Ai p0.Head, Ai 1, Ai 65536]) hx (A.cut 0)
   replace A := A.EX A1
   refine BA 12 hr H fun fr t H => ?_
   refine AK 1 [(13, .bool x3)] H fun fr H => ?_
   obtain rfl := AY hm
   exact at_nil ⟨H.ls, A⟩
  replace H := H.kn 8 hb
  refine AK 5 [(13, .bool false)] H fun fr H => ?_
  obtain rfl := AY hm
  exact at_nil ⟨H.ls, A⟩
 clear A
 intro t fr h3 hK
 obtain ⟨H, A⟩ := hK
 refine AK 1 [(14, .bool x2)] H fun fr H => ?_
 obtain ⟨x4, ho, hm⟩ := bind_some hm
 refine A9 5 (fun fr' h' => Has fr' 48 [(1, .ptr (some (h.size, 0))), (3, .func (.func 64) [] []), (19, .bool x4)] ∧ HH g h' [.obj h.size (.cells none 2 (AS p0))] F) ?_ ?_
 ·rcases AX ho with ⟨hb, hm⟩ | ⟨hb, hm⟩
  ·replace H := H.kn 14 hb
   refine Ag 2 [(15, .func (.func 64) [] [])] 17 0 13 A H fun fr t H => ?_
   obtain ⟨x5, hx, hm⟩ := bind_some hm
   obtain ⟨v1, h6, hr, rfl, A1⟩ := Dq (av := [Ai p0.Bl, Ai 1, Ai 4096]) hx (A.cut 0)
   replace A := A.EX A1
   refine BA 18 hr H fun fr t H => ?_
   refine AK 1 [(19, .bool x5)] H fun fr H => ?_
   obtain rfl := AY hm
   exact at_nil ⟨H.ls, A⟩
  replace H := H.kn 14 hb
  refine AK 5 [(19, .bool false)] H fun fr H => ?_
  obtain rfl := AY hm
  exact at_nil ⟨H.ls, A⟩
 clear A
 intro t fr h5 hK
 obtain ⟨H, A⟩ := hK
 refine AK 1 [(20, .bool x4)] H fun fr H => ?_
 obtain ⟨x6, ho, hm⟩ := bind_some hm
 refine A9 5 (fun fr' h' => Has fr' 48 [(1, .ptr (some (h.size, 0))), (3, .func (.func 64) [] []), (25, .bool x6)] ∧ HH g h' [.obj h.size (.cells none 2 (AS p0))] F) ?_ ?_
 ·rcases AX ho with ⟨hb, hm⟩ | ⟨hb, hm⟩
  ·replace H := H.kn 20 hb
   refine Ag 2 [(21, .func (.func 64) [] [])] 23 0 9 A H fun fr t H => ?_
   obtain ⟨x7, hx, hm⟩ := bind_some hm
   obtain ⟨v1, h8, hr, rfl, A1⟩ := Dq (av := [Ai p0.IH, Ai 0, Ai 9999]) hx (A.cut 0)
   replace A := A.EX A1
   refine BA 24 hr H fun fr t H => ?_
   refine AK 1 [(25, .bool x7)] H fun fr H => ?_
   obtain rfl := AY hm
   exact at_nil ⟨H.ls, A⟩
  replace H := H.kn 20 hb
  refine AK 5 [(25, .bool false)] H fun fr H => ?_
  obtain rfl := AY hm
  exact at_nil ⟨H.ls, A⟩
 clear A
 intro t fr h7 hK
 obtain ⟨H, A⟩ := hK
 refine AK 1 [(26, .bool x6)] H fun fr H => ?_
 obtain ⟨x8, ho, hm⟩ := bind_some hm
 refine A9 5 (fun fr' h' => Has fr' 48 [(1, .ptr (some (h.size, 0))), (3, .func (.func 64) [] []), (31, .bool x8)] ∧ HH g h' [.obj h.size (.cells none 2 (AS p0))] F) ?_ ?_
 ·rcases AX ho with ⟨hb, hm⟩ | ⟨hb, hm⟩
  ·replace H := H.kn 26 hb
   refine Ag 2 [(27, .func (.func 64) [] [])] 29 0 10 A H fun fr t H => ?_
   obtain ⟨x9, hx, hm⟩ := bind_some hm
   obtain ⟨v1, h10, hr, rfl, A1⟩ := Dq (av := [Ai p0.CO, Ai 0, Ai 9999]) hx (A.cut 0)
   replace A := A.EX A1
   refine BA 30 hr H fun fr t H => ?_
   refine AK 1 [(31, .bool x9)] H fun fr H => ?_
   obtain rfl := AY hm
   exact at_nil ⟨H.ls, A⟩
  replace H := H.kn 26 hb
  refine AK 5 [(31, .bool false)] H fun fr H => ?_
  obtain rfl := AY hm
  exact at_nil ⟨H.ls, A⟩
 clear A
 intro t fr h9 hK
 obtain ⟨H, A⟩ := hK
 refine AK 1 [(32, .bool x8)] H fun fr H => ?_
 obtain ⟨x10, ho, hm⟩ := bind_some hm
 refine A9 5 (fun fr' h' => Has fr' 48 [(1, .ptr (some (h.size, 0))), (37, .bool x10)] ∧ HH g h' [.obj h.size (.cells none 2 (AS p0))] F) ?_ ?_
 ·rcases AX ho with ⟨hb, hm⟩ | ⟨hb, hm⟩
  ·replace H := H.kn 32 hb
   refine Ag 2 [(33, .func (.func 64) [] [])] 35 0 5 A H fun fr t H => ?_
   obtain ⟨x11, hx, hm⟩ := bind_some hm
   obtain ⟨v1, h12, hr, rfl, A1⟩ := Dq (av := [Ai p0.Bv, Ai 0, Ai 3]) hx (A.cut 0)
   replace A := A.EX A1
   refine BA 36 hr H fun fr t H => ?_
   refine AK 1 [(37, .bool x11)] H fun fr H => ?_
   obtain rfl := AY hm
   exact at_nil ⟨H.ls, A⟩
  replace H := H.kn 32 hb
  refine AK 5 [(37, .bool false)] H fun fr H => ?_
  obtain rfl := AY hm
  exact at_nil ⟨H.ls, A⟩
 clear A
 intro t fr h11 hK
 obtain ⟨H, A⟩ := hK
 refine AK 1 [(38, .bool x10)] H fun fr H => ?_
 obtain ⟨x12, ho, hm⟩ := bind_some hm
 refine A9 9 (fun fr' h' => Has fr' 48 [(47, .bool x12)] ∧ HH g h' [.obj h.size (.cells none 2 (AS p0))] F) ?_ ?_
 ·rcases AX ho with ⟨hb, hm⟩ | ⟨hb, hm⟩
  ·replace H := H.kn 38 hb
   refine Ag 1 [] 40 0 6 A H fun fr t H => ?_
   refine AK 2 [(42, .bool (!p0.CR))] H fun fr H => ?_
   obtain ⟨x13, ho, hm⟩ := bind_some hm
   refine A9 4 (fun fr' h' => Has fr' 48 [(38, .bool true), (46, .bool x13)] ∧ HH g h' [.obj h.size (.cells none 2 (AS p0))] F) ?_ ?_
   ·rcases AX ho with ⟨hb, hm⟩ | ⟨hb, hm⟩
    ·replace H := H.kn 42 hb
     refine AK 4 [(46, .bool true)] H fun fr H => ?_
     obtain rfl := AY hm
     exact at_nil ⟨H.ls, A⟩
    replace H := H.kn 42 hb
    refine Ap 1 [] 44 _ _ H (fun fr => .of (CG (by kernel_rfl) (A.HG 0 rfl (o := 7) (n := 2) ⟨Nat.le_of_ble_eq_true rfl, rfl⟩))) fun fr t H => ?_
    obtain ⟨x14, hx, hm⟩ := bind_some hm
    obtain ⟨v1, h15, hr, rfl, A1⟩ := Ow (av := [.agg [Ai p0.BK.DF, Ai p0.BK.Bn]]) hx (A.cut 0)
    replace A := A.EX A1
    refine BA 45 hr H fun fr t H => ?_
    refine AK 1 [(46, .bool x14)] H fun fr H => ?_
    obtain rfl := AY hm
    exact at_nil ⟨H.ls, A⟩
   clear A
   intro t fr h14 hK
   obtain ⟨H, A⟩ := hK
   refine AK 1 [(47, .bool x13)] H fun fr H => ?_
   obtain rfl := AY hm
   exact at_nil ⟨H.ls, A⟩
  replace H := H.kn 38 hb
  refine AK 9 [(47, .bool false)] H fun fr H => ?_
  obtain rfl := AY hm
  exact at_nil ⟨H.ls, A⟩
 clear A
 intro t fr h13 hK
 obtain ⟨H, A⟩ := hK
 refine AO 1 [(2, .bool x12)] H fun fr H => AU ?_
 obtain rfl := AY hm
 refine ⟨.inl rfl, .bool x12, rH H, ?_⟩
 replace A := A.d0
 exact ⟨rfl, A⟩
def G6 (p0 : List UInt8) : Option (Bool) :=
 some (p0 == ([] : List UInt8))
theorem OD {p0 q0} (hm : G6 p0 = some q0) (A : HH g h [] F) (hc : BF (cfg.still 100) av = [.str p0] := by kernel_rfl) : ∃ v h', BL cfg g h 100 av v h' ∧ v = .bool q0 ∧ HH g h' [] F := by
 refine Dr 5 [.tmp 2] hc ?_
 clear hc
 unfold G6 at hm
 refine bg 5 [(0, .str p0)] fun fr H => ?_
 refine AG 1 (Bc 1 [] 3 H fun fr H => AO 3 [(2, .bool (p0 == ([] : List UInt8)))] H fun fr H => AU ?_)
 obtain rfl := AY hm
 exact ⟨.inl rfl, _, rH H, rfl, A⟩
end
end Go.Av.L
