/-
 Models of functions, and that the abstract run tells them. Written by lift2.py.
-/
import Derived.Test.YthnnciphldbmeaaGreatDoorKCfg
namespace Go.Av.L
open Go.Av Go.Lib
set_option maxRecDepth 10000
set_option maxHeartbeats 4000000
set_option linter.unusedVariables false
set_option linter.unusedSimpArgs false
variable {g : Gd} {h : AH} {F : List Ck} {av : List AA}
noncomputable section
def DL (p0 : List Am) (s : Int) : Option ((Int) ⊕ ((Unit) ⊕ (Bool))) :=
 match s with
 | x1 => Ae (decide (x1 < (p0.length : Int))) ((HR p0 x1).bind fun x3 => (Ae (decide ((x3.Key.length : Int) > 300)) (some true) ((HR p0 x1).bind fun x5 => some (decide ((x5.Value.length : Int) > 300))) : Option (Bool)).bind fun x4 => Ae x4 (some (.inr (.inr true))) (some (.inl (IntKind.i64.wrap (x1 + 1))))) (some (.inr (.inl ())))
def D3 (p0 : List Am) : Option (Bool) :=
 Ae (decide ((p0.length : Int) > 12)) (some true) ((loop (DL p0) (0 : Int)).bind fun o1 => (match o1 with | .inl _ => some false | .inr x2 => some x2))
theorem K8 {p0 q0} (hm : D3 p0 = some q0) (A : HH g h [] F) (hc : BI (cfg.still 35) av = [vs Af p0] := by kernel_rfl) : ∃ v h', BL cfg g h 35 av v h' ∧ v = .bool q0 ∧ HH g h' [] F := by
 refine D5 29 [.tmp 2] hc ?_
 clear hc
 unfold D3 at hm
 refine bg 29 [(0, vs Af p0)] fun fr H => ?_
 refine AG 1 (AN 1 [] H fun fr H => AQ (AG 3 (AN 3 [(6, .bool (decide ((p0.length : Int) > 12)))] H fun fr H => Ak 6 H hm (fun hb hm H => ?_) fun hb hm H => ?_)))
 ·refine AG 1 (AN 1 [(2, .bool true)] H fun fr H => AS ?_)
  obtain rfl := Aa hm
  exact ⟨.inl rfl, _, rH H, rfl, A⟩
 refine Be id (AQ (AG 1 (AN 1 [(3, Ai 0)] H fun fr H => AX (id := 0) (by kernel_rfl) ?_)))
 obtain ⟨o1, ho, hm⟩ := bind_some hm
 refine BM (Q' := fun e fr' h' => (e = .exit 0 ∧ .inl () = o1 ∧ Has fr' 29 [] ∧ HH g h' [] F) ∨ (∃ x2, e = .ret ∧ .inr x2 = o1 ∧ Has fr' 29 [(2, .bool x2)] ∧ HH g h' [] F) ∨ False) ?_ ?_
 ·refine B8 (by kernel_rfl) (fun (s : Int) fr' h' => ∃ x1, x1 = s ∧ Has fr' 29 [(0, vs Af p0), (3, Ai x1)] ∧ HH g h' [] F) ho ⟨_, rfl, H.ls, A⟩ ?_
  clear ho hm H A
  intro s q fr h1 hI hm
  obtain ⟨x1, rfl, H, A⟩ := hI
  unfold DL at hm
  refine AQ (AG 4 (AN 4 [(10, .bool (decide (x1 < (p0.length : Int))))] H fun fr H => Ak 10 H hm (fun hb hm H => ?_) fun hb hm H => ?_))
  ·refine Be id (AQ (AX (id := 1) (by kernel_rfl) ?_))
   refine AG 16 ?_
   obtain ⟨x3, hx, hm⟩ := bind_some hm
   refine As 2 [] 15 (.A7 [.str x3.Key, .str x3.Value]) h1 H (fun fr => .of (I3 (e := Af) (x := x3) Bt (by decide) (by kernel_rfl) hx)) fun fr t H => ?_
   refine As 1 [] 17 (.str x3.Key) h1 H (fun fr => .of (IQ (by kernel_rfl))) fun fr t H => ?_
   refine AF 3 [(20, .bool (decide ((x3.Key.length : Int) > 300)))] H fun fr H => ?_
   obtain ⟨x4, ho, hm⟩ := bind_some hm
   refine An 8 (fun fr' h' => Has fr' 29 [(0, vs Af p0), (3, Ai x1), (28, .bool x4)] ∧ HH g h' [] F) ?_ ?_
   ·rcases AU ho with ⟨hb, hm⟩ | ⟨hb, hm⟩
    ·replace H := H.kn 20 hb
     refine AF 8 [(28, .bool true)] H fun fr H => ?_
     obtain rfl := Aa hm
     exact at_nil ⟨H.ls, A⟩
    replace H := H.kn 20 hb
    obtain ⟨x5, hx, hm⟩ := bind_some hm
    refine As 2 [] 23 (.A7 [.str x5.Key, .str x5.Value]) h1 H (fun fr => .of (I3 (e := Af) (x := x5) Bt (by decide) (by kernel_rfl) hx)) fun fr t H => ?_
    refine As 1 [] 25 (.str x5.Value) h1 H (fun fr => .of (IQ (by kernel_rfl))) fun fr t H => ?_
    refine AF 3 [(28, .bool (decide ((x5.Value.length : Int) > 300)))] H fun fr H => ?_
    obtain rfl := Aa hm
    exact at_nil ⟨H.ls, A⟩
   clear A
   intro t fr h2 hK
   obtain ⟨H, A⟩ := hK
   refine BB id (Ak 28 H hm (fun hb hm H => ?_) fun hb hm H => ?_)
   ·refine AG 1 (AN 1 [(2, .bool true)] H fun fr H => AS ?_)
    exact nr hm fun e => Or.inr (.inl ⟨_, rfl, e, H.ls, A⟩)
   refine FH 3 id (Bi 3 [(0, vs Af p0), (3, Ai (IntKind.i64.wrap (x1 + 1)))] H fun fr H => at_nil ?_)
   exact nx hm ⟨_, rfl, H.ls, A⟩
  refine Bn (i := 0) (by kernel_rfl) ?_
  exact nr hm fun e => .inl ⟨rfl, e, H.ls, A⟩
 clear ho
 clear A
 intro e fr h3 hQ
 rcases hQ with ⟨rfl, rfl, H, A⟩ | ⟨x2, rfl, rfl, H, A⟩ | hF
 ·show AW _ _ _ _ _ _ _
  refine AG 1 (AN 1 [(2, .bool false)] H fun fr H => AS ?_)
  obtain rfl := Aa hm
  exact ⟨.inl rfl, _, rH H, rfl, A⟩
 ·obtain rfl := Aa hm
  exact ⟨.inl rfl, _, rH H, rfl, A⟩
 exact hF.elim
def Co (p0 : AV) : Option (Bool) :=
 (D3 p0.Extra).bind fun x1 => some (((((x1 || (decide ((p0.Name.length : Int) > 600))) || (decide ((p0.Bf.length : Int) > 600))) || (decide ((p0.CB.length : Int) > 100))) || (decide ((p0.Ca.length : Int) > 100))) || (decide ((p0.Data.length : Int) > 2000)))
theorem K5 {p0 q0} (hm : Co p0 = some q0) (A : HH g h [] F) (hc : BI (cfg.still 12) av = [.agg (AD p0)] := by kernel_rfl) : ∃ v h', BL cfg g h 12 av v h' ∧ v = .bool q0 ∧ HH g h' [] F := by
 refine D5 36 [.tmp 2] hc ?_
 clear hc
 unfold Co at hm
 refine bg 36 [(0, .agg (AD p0))] fun fr H => ?_
 refine AG 2 ?_
 obtain ⟨h1, e1, A⟩ := A.pu (.cells none 2 (AD p0))
 refine BC 1 (.ptr (some (h.size, 0))) e1 H fun fr t H => ?_
 refine BT 1 [] 34 H fun fr H => AR 1 [] 4 0 12 A H fun fr t H => ?_
 obtain ⟨x1, hx, hm⟩ := bind_some hm
 obtain ⟨v1, h2, hr, rfl, A1⟩ := K8 (av := [vs Af p0.Extra]) hx (A.cut 0)
 replace A : HH g h2 [.obj h.size (.cells none 2 (AD p0))] F := A.CL (n := 0) A1
 refine Ay 5 hr H fun fr t H => ?_
 refine AF 1 [(6, .bool x1)] H fun fr H => An 5 (fun fr' h' => h2 = h' ∧ Has fr' 36 [(1, .ptr (some (h.size, 0))), (11, .bool (x1 || (decide ((p0.Name.length : Int) > 600))))]) ?_ ?_
 ·cases hb : (x1 : Bool) with
  | true =>
   replace H := H.kn 6 hb
   exact AF 5 [(11, .bool true)] H fun fr H => AY H hb
  | false =>
   replace H := H.kn 6 hb
   refine AR 1 [] 8 0 0 A H fun fr t H => ?_
   exact AF 3 [(11, .bool (decide ((p0.Name.length : Int) > 600)))] H fun fr H => AY H hb
 intro t fr h' hK
 obtain ⟨e, H⟩ := hK
 subst e
 refine AF 1 [(12, .bool (x1 || (decide ((p0.Name.length : Int) > 600))))] H fun fr H => An 5 (fun fr' h' => h2 = h' ∧ Has fr' 36 [(1, .ptr (some (h.size, 0))), (17, .bool ((x1 || (decide ((p0.Name.length : Int) > 600))) || (decide ((p0.Bf.length : Int) > 600))))]) ?_ ?_
 ·cases hb : (x1 || (decide ((p0.Name.length : Int) > 600)) : Bool) with
  | true =>
   replace H := H.kn 12 hb
   exact AF 5 [(17, .bool true)] H fun fr H => AY H hb
  | false =>
   replace H := H.kn 12 hb
   refine AR 1 [] 14 0 1 A H fun fr t H => ?_
   exact AF 3 [(17, .bool (decide ((p0.Bf.length : Int) > 600)))] H fun fr H => AY H hb
 intro t fr h' hK
 obtain ⟨e, H⟩ := hK
 subst e
 refine AF 1 [(18, .bool ((x1 || (decide ((p0.Name.length : Int) > 600))) || (decide ((p0.Bf.length : Int) > 600))))] H fun fr H => An 5 (fun fr' h' => h2 = h' ∧ Has fr' 36 [(1, .ptr (some (h.size, 0))), (23, .bool (((x1 || (decide ((p0.Name.length : Int) > 600))) || (decide ((p0.Bf.length : Int) > 600))) || (decide ((p0.CB.length : Int) > 100))))]) ?_ ?_
 ·cases hb : ((x1 || (decide ((p0.Name.length : Int) > 600))) || (decide ((p0.Bf.length : Int) > 600)) : Bool) with
  | true =>
   replace H := H.kn 18 hb
   exact AF 5 [(23, .bool true)] H fun fr H => AY H hb
  | false =>
   replace H := H.kn 18 hb
   refine AR 1 [] 20 0 6 A H fun fr t H => ?_
   exact AF 3 [(23, .bool (decide ((p0.CB.length : Int) > 100)))] H fun fr H => AY H hb
 intro t fr h' hK
 obtain ⟨e, H⟩ := hK
 subst e
 refine AF 1 [(24, .bool (((x1 || (decide ((p0.Name.length : Int) > 600))) || (decide ((p0.Bf.length : Int) > 600))) || (decide ((p0.CB.length : Int) > 100))))] H fun fr H => An 5 (fun fr' h' => h2 = h' ∧ Has fr' 36 [(1, .ptr (some (h.size, 0))), (29, .bool ((((x1 || (decide ((p0.Name.length : Int) > 600))) || (decide ((p0.Bf.length : Int) > 600))) || (decide ((p0.CB.length : Int) > 100))) || (decide ((p0.Ca.length : Int) > 100))))]) ?_ ?_
 ·cases hb : (((x1 || (decide ((p0.Name.length : Int) > 600))) || (decide ((p0.Bf.length : Int) > 600))) || (decide ((p0.CB.length : Int) > 100)) : Bool) with
  | true =>
   replace H := H.kn 24 hb
   exact AF 5 [(29, .bool true)] H fun fr H => AY H hb
  | false =>
   replace H := H.kn 24 hb
   refine AR 1 [] 26 0 7 A H fun fr t H => ?_
   exact AF 3 [(29, .bool (decide ((p0.Ca.length : Int) > 100)))] H fun fr H => AY H hb
 intro t fr h' hK
 obtain ⟨e, H⟩ := hK
 subst e
 refine AF 1 [(30, .bool ((((x1 || (decide ((p0.Name.length : Int) > 600))) || (decide ((p0.Bf.length : Int) > 600))) || (decide ((p0.CB.length : Int) > 100))) || (decide ((p0.Ca.length : Int) > 100))))] H fun fr H => An 5 (fun fr' h' => h2 = h' ∧ Has fr' 36 [(35, .bool (((((x1 || (decide ((p0.Name.length : Int) > 600))) || (decide ((p0.Bf.length : Int) > 600))) || (decide ((p0.CB.length : Int) > 100))) || (decide ((p0.Ca.length : Int) > 100))) || (decide ((p0.Data.length : Int) > 2000))))]) ?_ ?_
 ·cases hb : ((((x1 || (decide ((p0.Name.length : Int) > 600))) || (decide ((p0.Bf.length : Int) > 600))) || (decide ((p0.CB.length : Int) > 100))) || (decide ((p0.Ca.length : Int) > 100)) : Bool) with
  | true =>
   replace H := H.kn 30 hb
   exact AF 5 [(35, .bool true)] H fun fr H => AY H hb
  | false =>
   replace H := H.kn 30 hb
   refine AR 1 [] 32 0 13 A H fun fr t H => ?_
   exact AF 3 [(35, .bool (decide ((p0.Data.length : Int) > 2000)))] H fun fr H => AY H hb
 intro t fr h' hK
 obtain ⟨e, H⟩ := hK
 subst e
 refine AN 1 [(2, .bool (((((x1 || (decide ((p0.Name.length : Int) > 600))) || (decide ((p0.Bf.length : Int) > 600))) || (decide ((p0.CB.length : Int) > 100))) || (decide ((p0.Ca.length : Int) > 100))) || (decide ((p0.Data.length : Int) > 2000))))] H fun fr H => AS ?_
 obtain rfl := Aa hm
 refine ⟨.inl rfl, .bool (((((x1 || (decide ((p0.Name.length : Int) > 600))) || (decide ((p0.Bf.length : Int) > 600))) || (decide ((p0.CB.length : Int) > 100))) || (decide ((p0.Ca.length : Int) > 100))) || (decide ((p0.Data.length : Int) > 2000))), rH H, ?_⟩
 replace A := A.d0
 exact ⟨rfl, A⟩
def FE : Option (Unit) :=
 some ()
theorem Iw (hm : FE = some ()) (A : HH g h [] F) (hc : BI (cfg.still 13) av = [] := by kernel_rfl) : ∃ v h', BL cfg g h 13 av v h' ∧ v = .agg [.slice none 0, .slice none 0, .slice none 0, .bool false, .bool false, Ai (0 : Int), .bool false, Ai (0 : Int), Ai (0 : Int), Ai (0 : Int), Ai (0 : Int), Ai (4096 : Int), Ai (65536 : Int), Ai (4096 : Int)] ∧ HH g h' [] F := by
 refine D5 2 [.cell 0 29] hc ?_
 clear hc
 unfold FE at hm
 refine bg 2 [] fun fr H => ?_
 refine AG 1 ?_
 obtain ⟨h1, e1, A⟩ := A.pu (.cells none 2 [.slice none 0, .slice none 0, .slice none 0, .bool false, .bool false, Ai 0, .bool false, Ai 0, Ai 0, Ai 0, Ai 0, Ai 0, Ai 0, Ai 0])
 refine BC 0 (.ptr (some (h.size, 0))) e1 H fun fr t H => ?_
 refine Cj 2 id ?_
 obtain ⟨h2, hx, A⟩ := A.s0 0 [.slice none 0, .slice none 0, .slice none 0, .bool false, .bool false, Ai 0, .bool false, Ai 0, Ai 0, Ai 0, Ai 0, Ai 4096, Ai 65536, Ai 4096] [_, _, _, _, _, _, _, _, _, _, _, _, _, _]
 refine EL 1 [] hx H fun fr t H => ?_
 refine BB id (AS ?_)
 refine ⟨.inl rfl, .agg [.slice none 0, .slice none 0, .slice none 0, .bool false, .bool false, Ai 0, .bool false, Ai 0, Ai 0, Ai 0, Ai 0, Ai 4096, Ai 65536, Ai 4096], DJ (.cell (rT H) (BS (by kernel_rfl) (by kernel_rfl) (A.la 0 0 14)) .nil), ?_⟩
 replace A := A.d0
 exact ⟨rfl, A⟩
def Fe : Option (Cb) :=
 some (⟨(0 : Int), (0 : Int)⟩ : Cb)
theorem Gu {q0} (hm : Fe = some q0) (A : HH g h [] F) (hc : BI (cfg.still 63) av = [] := by kernel_rfl) : ∃ v h', BL cfg g h 63 av v h' ∧ v = .agg [Ai q0.e_, Ai q0.at_] ∧ HH g h' [] F := by
 refine D5 2 [.cell 0 128] hc ?_
 clear hc
 unfold Fe at hm
 refine bg 2 [] fun fr H => ?_
 refine AG 1 ?_
 obtain ⟨h1, e1, A⟩ := A.pu (.cells none 2 [Ai 0, Ai 0])
 refine BC 0 (.ptr (some (h.size, 0))) e1 H fun fr t H => ?_
 refine Cj 2 id ?_
 obtain ⟨h2, hx, A⟩ := A.s0 0 [Ai 0, Ai 0] [_, _]
 refine EL 1 [] hx H fun fr t H => ?_
 refine BB id (AS ?_)
 obtain rfl := Aa hm
 refine ⟨.inl rfl, .agg [Ai 0, Ai 0], DJ (.cell (rT H) (BS (by kernel_rfl) (by kernel_rfl) (A.la 0 0 2)) .nil), ?_⟩
 replace A := A.d0
 exact ⟨rfl, A⟩
def KD (p0 : List UInt8) (s : (List AO) × Int) : Option (((List AO) × Int) ⊕ (((List AO)) ⊕ (Int × Int))) :=
 match s with
 | (x1, x2) => Ae (decide (x2 < (p0.length : Int))) (Ae ((x1.length : Int) == 1024) (some (.inr (.inr (x2, (8 : Int))))) ((Nb p0 x2).bind fun x6 => Ae (x6 == 42) (Fl (OU 48 (x1.length + ([(⟨(4 : Int), (0 : Int), (⟨(0 : Int), (0 : Int), (0 : Int), (0 : Int)⟩ : BG)⟩ : AO)] : List AO).length)) <| some (.inl ((x1 ++ ([(⟨(4 : Int), (0 : Int), (⟨(0 : Int), (0 : Int), (0 : Int), (0 : Int)⟩ : BG)⟩ : AO)] : List AO)), IntKind.i64.wrap (x2 + 1)))) (Ae (x6 == 63) (Fl (OU 48 (x1.length + ([(⟨(2 : Int), (0 : Int), (⟨(0 : Int), (0 : Int), (0 : Int), (0 : Int)⟩ : BG)⟩ : AO)] : List AO).length)) <| some (.inl ((x1 ++ ([(⟨(2 : Int), (0 : Int), (⟨(0 : Int), (0 : Int), (0 : Int), (0 : Int)⟩ : BG)⟩ : AO)] : List AO)), IntKind.i64.wrap (x2 + 1)))) (Ae (x6 == 91) (none) (Ae (x6 == 92) (Ae (x2 == (IntKind.i64.wrap ((p0.length : Int) - 1))) (some (.inr (.inr (x2, (11 : Int))))) ((Nb p0 (IntKind.i64.wrap (x2 + 1))).bind fun x7 => Fl (OU 48 (x1.length + ([(⟨(1 : Int), x7, (⟨(0 : Int), (0 : Int), (0 : Int), (0 : Int)⟩ : BG)⟩ : AO)] : List AO).length)) <| some (.inl ((x1 ++ ([(⟨(1 : Int), x7, (⟨(0 : Int), (0 : Int), (0 : Int), (0 : Int)⟩ : BG)⟩ : AO)] : List AO)), IntKind.i64.wrap (x2 + 2))))) (Fl (OU 48 (x1.length + ([(⟨(1 : Int), x6, (⟨(0 : Int), (0 : Int), (0 : Int), (0 : Int)⟩ : BG)⟩ : AO)] : List AO).length)) <| some (.inl ((x1 ++ ([(⟨(1 : Int), x6, (⟨(0 : Int), (0 : Int), (0 : Int), (0 : Int)⟩ : BG)⟩ : AO)] : List AO)), IntKind.i64.wrap (x2 + 1))))))))) (some (.inr (.inl x1)))
def IH (p0 : List UInt8) : Option ((List AO) × Int × Int) :=
 (loop (KD p0) (([] : List AO), (0 : Int))).bind fun o1 => (match o1 with | .inl x3 => some (x3, (0 : Int), (0 : Int)) | .inr (x4, x5) => some (([] : List AO), x4, x5))
theorem LQ {p0 q0 q1 q2} (hm : IH p0 = some (q0, q1, q2)) (A : HH g h [] F) (hc : BI (cfg.still 129) av = [.str p0] := by kernel_rfl) : ∃ v h', BL cfg g h 129 av v h' ∧ ∃ (rq0 : Option Nat), v = .tuple [AI rq0 q0.length, Ai q1, Ai q2] ∧ HH g h' [.AL rq0 264 (AL AM q0)] F := by
 refine D5 84 [.tmp 2, .tmp 3, .tmp 4] hc ?_
 clear hc
 unfold IH at hm
 refine bg 84 [(0, .str p0)] fun fr H => ?_
 refine AG 3 (BT 3 [] 1 H fun fr H => AN 1 [(5, .slice none 0)] H fun fr H => AQ (AG 1 (AN 1 [(6, Ai 0)] H fun fr H => AX (id := 0) (by kernel_rfl) ?_)))
 replace A : HH g h [.AL none 264 (AL AM ([] : List AO))] F := A.MV 264
 obtain ⟨o1, ho, hm⟩ := bind_some hm
 refine BM (Q' := fun e fr' h' => (∃ x3, e = .exit 0 ∧ .inl x3 = o1 ∧ ∃ r2, Has fr' 84 [(5, AI r2 x3.length)] ∧ HH g h' [.AL r2 264 (AL AM x3)] F) ∨ (∃ x4 x5, e = .ret ∧ .inr (x4, x5) = o1 ∧ Has fr' 84 [(2, .slice none 0), (3, Ai x4), (4, Ai x5)] ∧ HH g h' [] F) ∨ False) ?_ ?_
 ·refine B8 (by kernel_rfl) (fun (s : (List AO) × Int) fr' h' => ∃ x1 x2, (x1, x2) = s ∧ ∃ r1, Has fr' 84 [(0, .str p0), (5, AI r1 x1.length), (6, Ai x2)] ∧ HH g h' [.AL r1 264 (AL AM x1)] F) ho ⟨_, _, rfl, none, H.ls, A⟩ ?_
  clear ho hm H A
  intro s q fr h1 hI hm
  obtain ⟨x1, x2, rfl, r1, H, A⟩ := hI
  unfold KD at hm
  refine AQ (AG 4 (AN 4 [(14, .bool (decide (x2 < (p0.length : Int))))] H fun fr H => Ak 14 H hm (fun hb hm H => ?_) fun hb hm H => ?_))
  ·refine Be id (AX (id := 1) (by kernel_rfl) ?_)
   refine AQ (AG 3 (AN 3 [(17, .bool ((x1.length : Int) == 1024))] H fun fr H => Ak 17 H hm (fun hb hm H => ?_) fun hb hm H => ?_))
   ·refine AG 4 (AN 4 [(2, .slice none 0), (3, Ai x2), (4, Ai 8)] H fun fr H => AS ?_)
    replace A := A.d0
    exact nr hm fun e => Or.inr (.inl ⟨_, _, rfl, e, H.ls, A⟩)
   refine Cm 4 id ?_
   obtain ⟨x6, hx, hm⟩ := bind_some hm
   refine As 2 [] 21 (Ab x6) h1 H (fun fr => .of (G4 (by kernel_rfl) hx)) fun fr t H => ?_
   refine BT 1 [(7, Ab x6)] 1 H fun fr H => AN 1 [(22, Ab x6)] H fun fr H => AX (id := 2) (by kernel_rfl) ?_
   refine AG 2 (AN 2 [(30, .bool (x6 == 42))] H fun fr H => Ak 30 H hm (fun hb hm H => ?_) fun hb hm H => ?_)
   ·refine AG 5 (AF 2 [(32, AI r1 x1.length), (33, .agg [Ai 4, Ab 0, Au 0, Au 0, Au 0, Au 0])] H fun fr H => ?_)
    obtain ⟨h2, e1, A⟩ := A.pL 264 [Ai 4, Ab 0, Au 0, Au 0, Au 0, Au 0]
    refine BC 34 (AI (some h1.size) (([(⟨(4 : Int), (0 : Int), (⟨(0 : Int), (0 : Int), (0 : Int), (0 : Int)⟩ : BG)⟩ : AO)] : List AO).length)) e1 H fun fr t H => ?_
    obtain ⟨hb, hm⟩ := BZ hm
    obtain ⟨r3, h3, hx, A1⟩ := HH.NQ Br (by decide) A 1 (xs := x1) (ys := ([(⟨(4 : Int), (0 : Int), (⟨(0 : Int), (0 : Int), (0 : Int), (0 : Int)⟩ : BG)⟩ : AO)] : List AO)) rfl (EI A 0 rfl (n := ([(⟨(4 : Int), (0 : Int), (⟨(0 : Int), (0 : Int), (0 : Int), (0 : Int)⟩ : BG)⟩ : AO)] : List AO).length) (z := 6) rfl (by decide)) rfl rfl hb
    replace A : HH g h3 [.AL (some h1.size) 264 ([Ai 4, Ab 0, Au 0, Au 0, Au 0, Au 0]), .AL r3 264 (AL AM (x1 ++ ([(⟨(4 : Int), (0 : Int), (⟨(0 : Int), (0 : Int), (0 : Int), (0 : Int)⟩ : BG)⟩ : AO)] : List AO)))] F := A1
    replace A := A.k1 1
    refine Az 35 _ _ H (fun fr => .of (KF (s := D2 r1 x1.length) (by kernel_rfl) hx)) fun fr t H => ?_
    refine Bi 1 [(0, .str p0), (5, AI r3 ((x1 ++ ([(⟨(4 : Int), (0 : Int), (⟨(0 : Int), (0 : Int), (0 : Int), (0 : Int)⟩ : BG)⟩ : AO)] : List AO)).length)), (6, Ai x2)] H fun fr H => KY 3 id (Bi 3 [(0, .str p0), (5, AI r3 ((x1 ++ ([(⟨(4 : Int), (0 : Int), (⟨(0 : Int), (0 : Int), (0 : Int), (0 : Int)⟩ : BG)⟩ : AO)] : List AO)).length)), (6, Ai (IntKind.i64.wrap (x2 + 1)))] H fun fr H => at_nil ?_)
    exact nx hm ⟨_, _, rfl, _, H.ls, A⟩
   refine AG 2 (AN 2 [(38, .bool (x6 == 63))] H fun fr H => Ak 38 H hm (fun hb hm H => ?_) fun hb hm H => ?_)
   ·refine AG 5 (AF 2 [(40, AI r1 x1.length), (41, .agg [Ai 2, Ab 0, Au 0, Au 0, Au 0, Au 0])] H fun fr H => ?_)
    obtain ⟨h4, e2, A⟩ := A.pL 264 [Ai 2, Ab 0, Au 0, Au 0, Au 0, Au 0]
    refine BC 42 (AI (some h1.size) (([(⟨(2 : Int), (0 : Int), (⟨(0 : Int), (0 : Int), (0 : Int), (0 : Int)⟩ : BG)⟩ : AO)] : List AO).length)) e2 H fun fr t H => ?_
    obtain ⟨hb, hm⟩ := BZ hm
    obtain ⟨r4, h5, hx, A1⟩ := HH.NQ Br (by decide) A 1 (xs := x1) (ys := ([(⟨(2 : Int), (0 : Int), (⟨(0 : Int), (0 : Int), (0 : Int), (0 : Int)⟩ : BG)⟩ : AO)] : List AO)) rfl (EI A 0 rfl (n := ([(⟨(2 : Int), (0 : Int), (⟨(0 : Int), (0 : Int), (0 : Int), (0 : Int)⟩ : BG)⟩ : AO)] : List AO).length) (z := 6) rfl (by decide)) rfl rfl hb
    replace A : HH g h5 [.AL (some h1.size) 264 ([Ai 2, Ab 0, Au 0, Au 0, Au 0, Au 0]), .AL r4 264 (AL AM (x1 ++ ([(⟨(2 : Int), (0 : Int), (⟨(0 : Int), (0 : Int), (0 : Int), (0 : Int)⟩ : BG)⟩ : AO)] : List AO)))] F := A1
    replace A := A.k1 1
    refine Az 43 _ _ H (fun fr => .of (KF (s := D2 r1 x1.length) (by kernel_rfl) hx)) fun fr t H => ?_
    refine Bi 1 [(0, .str p0), (5, AI r4 ((x1 ++ ([(⟨(2 : Int), (0 : Int), (⟨(0 : Int), (0 : Int), (0 : Int), (0 : Int)⟩ : BG)⟩ : AO)] : List AO)).length)), (6, Ai x2)] H fun fr H => KY 3 id (Bi 3 [(0, .str p0), (5, AI r4 ((x1 ++ ([(⟨(2 : Int), (0 : Int), (⟨(0 : Int), (0 : Int), (0 : Int), (0 : Int)⟩ : BG)⟩ : AO)] : List AO)).length)), (6, Ai (IntKind.i64.wrap (x2 + 1)))] H fun fr H => at_nil ?_)
    exact nx hm ⟨_, _, rfl, _, H.ls, A⟩
   refine AG 2 (AN 2 [(46, .bool (x6 == 91))] H fun fr H => Ak 46 H hm (fun hb hm H => ?_) fun hb hm H => ?_)
   ·refine AG 11 ?_
    cases hm
   refine AG 2 (AN 2 [(65, .bool (x6 == 92))] H fun fr H => Ak 65 H hm (fun hb hm H => ?_) fun hb hm H => ?_)
   ·refine AQ (AG 5 (AN 5 [(71, .bool (x2 == (IntKind.i64.wrap ((p0.length : Int) - 1))))] H fun fr H => Ak 71 H hm (fun hb hm H => ?_) fun hb hm H => ?_))
    ·refine AG 4 (AN 4 [(2, .slice none 0), (3, Ai x2), (4, Ai 11)] H fun fr H => AS ?_)
     replace A := A.d0
     exact nr hm fun e => Or.inr (.inl ⟨_, _, rfl, e, H.ls, A⟩)
    refine Cm 9 id ?_
    obtain ⟨x7, hx, hm⟩ := bind_some hm
    refine As 4 [(73, AI r1 x1.length)] 77 (Ab x7) h1 H (fun fr => .of (G4 (by kernel_rfl) hx)) fun fr t H => ?_
    refine AF 1 [(78, .agg [Ai 1, Ab x7, Au 0, Au 0, Au 0, Au 0])] H fun fr H => ?_
    obtain ⟨h6, e3, A⟩ := A.pL 264 [Ai 1, Ab x7, Au 0, Au 0, Au 0, Au 0]
    refine BC 79 (AI (some h1.size) (([(⟨(1 : Int), x7, (⟨(0 : Int), (0 : Int), (0 : Int), (0 : Int)⟩ : BG)⟩ : AO)] : List AO).length)) e3 H fun fr t H => ?_
    obtain ⟨hb, hm⟩ := BZ hm
    obtain ⟨r5, h7, hx, A1⟩ := HH.NQ Br (by decide) A 1 (xs := x1) (ys := ([(⟨(1 : Int), x7, (⟨(0 : Int), (0 : Int), (0 : Int), (0 : Int)⟩ : BG)⟩ : AO)] : List AO)) rfl (EI A 0 rfl (n := ([(⟨(1 : Int), x7, (⟨(0 : Int), (0 : Int), (0 : Int), (0 : Int)⟩ : BG)⟩ : AO)] : List AO).length) (z := 6) rfl (by decide)) rfl rfl hb
    replace A : HH g h7 [.AL (some h1.size) 264 ([Ai 1, Ab x7, Au 0, Au 0, Au 0, Au 0]), .AL r5 264 (AL AM (x1 ++ ([(⟨(1 : Int), x7, (⟨(0 : Int), (0 : Int), (0 : Int), (0 : Int)⟩ : BG)⟩ : AO)] : List AO)))] F := A1
    replace A := A.k1 1
    refine Az 80 _ _ H (fun fr => .of (KF (s := D2 r1 x1.length) (by kernel_rfl) hx)) fun fr t H => ?_
    refine Bi 1 [(0, .str p0), (5, AI r5 ((x1 ++ ([(⟨(1 : Int), x7, (⟨(0 : Int), (0 : Int), (0 : Int), (0 : Int)⟩ : BG)⟩ : AO)] : List AO)).length)), (6, Ai x2)] H fun fr H => KY 3 id (Bi 3 [(0, .str p0), (5, AI r5 ((x1 ++ ([(⟨(1 : Int), x7, (⟨(0 : Int), (0 : Int), (0 : Int), (0 : Int)⟩ : BG)⟩ : AO)] : List AO)).length)), (6, Ai (IntKind.i64.wrap (x2 + 2)))] H fun fr H => at_nil ?_)
    exact nx hm ⟨_, _, rfl, _, H.ls, A⟩
   refine AG 6 (AF 3 [(23, AI r1 x1.length), (25, .agg [Ai 1, Ab x6, Au 0, Au 0, Au 0, Au 0])] H fun fr H => ?_)
   obtain ⟨h8, e4, A⟩ := A.pL 264 [Ai 1, Ab x6, Au 0, Au 0, Au 0, Au 0]
   refine BC 26 (AI (some h1.size) (([(⟨(1 : Int), x6, (⟨(0 : Int), (0 : Int), (0 : Int), (0 : Int)⟩ : BG)⟩ : AO)] : List AO).length)) e4 H fun fr t H => ?_
   obtain ⟨hb, hm⟩ := BZ hm
   obtain ⟨r6, h9, hx, A1⟩ := HH.NQ Br (by decide) A 1 (xs := x1) (ys := ([(⟨(1 : Int), x6, (⟨(0 : Int), (0 : Int), (0 : Int), (0 : Int)⟩ : BG)⟩ : AO)] : List AO)) rfl (EI A 0 rfl (n := ([(⟨(1 : Int), x6, (⟨(0 : Int), (0 : Int), (0 : Int), (0 : Int)⟩ : BG)⟩ : AO)] : List AO).length) (z := 6) rfl (by decide)) rfl rfl hb
   replace A : HH g h9 [.AL (some h1.size) 264 ([Ai 1, Ab x6, Au 0, Au 0, Au 0, Au 0]), .AL r6 264 (AL AM (x1 ++ ([(⟨(1 : Int), x6, (⟨(0 : Int), (0 : Int), (0 : Int), (0 : Int)⟩ : BG)⟩ : AO)] : List AO)))] F := A1
   replace A := A.k1 1
   refine Az 27 _ _ H (fun fr => .of (KF (s := D2 r1 x1.length) (by kernel_rfl) hx)) fun fr t H => ?_
   refine Bi 1 [(0, .str p0), (5, AI r6 ((x1 ++ ([(⟨(1 : Int), x6, (⟨(0 : Int), (0 : Int), (0 : Int), (0 : Int)⟩ : BG)⟩ : AO)] : List AO)).length)), (6, Ai x2)] H fun fr H => KY 3 id (Bi 3 [(0, .str p0), (5, AI r6 ((x1 ++ ([(⟨(1 : Int), x6, (⟨(0 : Int), (0 : Int), (0 : Int), (0 : Int)⟩ : BG)⟩ : AO)] : List AO)).length)), (6, Ai (IntKind.i64.wrap (x2 + 1)))] H fun fr H => at_nil ?_)
   exact nx hm ⟨_, _, rfl, _, H.ls, A⟩
  refine Bn (i := 0) (by kernel_rfl) ?_
  exact nr hm fun e => .inl ⟨_, rfl, e, _, H.ls, A⟩
 clear ho
 clear A
 intro e fr h10 hQ
 rcases hQ with ⟨x3, rfl, rfl, r2, H, A⟩ | ⟨x4, x5, rfl, rfl, H, A⟩ | hF
 ·show AW _ _ _ _ _ _ _
  refine AG 4 (AN 4 [(2, AI r2 x3.length), (3, Ai 0), (4, Ai 0)] H fun fr H => AS ?_)
  obtain ⟨rfl, rfl, rfl⟩ := Li hm
  exact ⟨.inl rfl, _, rH H, _, rfl, A⟩
 ·obtain ⟨rfl, rfl, rfl⟩ := Li hm
  refine ⟨.inl rfl, .tuple [.slice none 0, Ai x4, Ai x5], rH H, ?_⟩
  replace A : HH g h10 [.AL none 264 (AL AM ([] : List AO))] F := A.MV 264
  exact ⟨none, rfl, A⟩
 exact hF.elim
def Cf (p0 : Bx) (p1 : List UInt8) (p3 : Int) (p4 : Int) : Option (Cb × (List AP)) :=
 (IH p1).bind fun (x1, x2, x3) => Ae (x3 != 0) (some ((⟨(11 : Int), p4⟩ : Cb), p0.c_.Aj)) (Ae ((IntKind.i64.wrap ((p0.c_.Ah.length : Int) + (p0.c_.Aj.length : Int))) == 256) (some ((⟨(8 : Int), p3⟩ : Cb), p0.c_.Aj)) (Fl (OU 24 (p0.c_.Aj.length + ([(⟨p1, p0.Ar.Bh, p0.Ar.Fold, p0.Ar.Ax⟩ : AP)] : List AP).length)) <| (Fe).bind fun x4 => some (x4, (p0.c_.Aj ++ ([(⟨p1, p0.Ar.Bh, p0.Ar.Fold, p0.Ar.Ax⟩ : AP)] : List AP)))))
theorem Fm {p0 p1 p3 p4 bp0 rp0_0 rp0_1 rp0_2 bp0_20 q0 u2} (hm : Cf p0 p1 p3 p4 = some (q0, u2)) (A : HH g h [.obj bp0 (.cells none 2 [AI rp0_0 p0.c_.Ah.length, AI rp0_1 p0.c_.Aj.length, AI rp0_2 p0.c_.Bl.length, .bool p0.c_.Ho, .bool p0.c_.BP, Ai p0.c_.Bm, .bool p0.c_.CC, Ai p0.c_.BD.DF, Ai p0.c_.BD.Bp, Ai p0.c_.HG, Ai p0.c_.B3, Ai p0.c_.Name, Ai p0.c_.Head, Ai p0.c_.Bd, .str p0.Ar.Text, .bool p0.Ar.Bh, .bool p0.Ar.Fold, .bool p0.Ar.Ax, .str p0.GK, Ai p0.at_, .map (some bp0_20)]), .AL rp0_0 31 (AL AE p0.c_.Ah), .AL rp0_1 31 (AL AE p0.c_.Aj), .AL rp0_2 135 (AL AJ p0.c_.Bl), .obj bp0_20 (.map 2 (BR (fun k : List UInt8 => .str k) (fun v : Bool => .bool v) p0.Bk))] F) (hc : BI (cfg.still 109) av = [.ptr (some (bp0, 0)), .str p1, .ptr (some (bp0, 1)), Ai p3, Ai p4] := by kernel_rfl) : ∃ v h', BL cfg g h 109 av v h' ∧ ∃ (r'2 : Option Nat), v = .agg [Ai q0.e_, Ai q0.at_] ∧ HH g h' [.obj bp0 (.cells none 2 [AI rp0_0 p0.c_.Ah.length, AI r'2 u2.length, AI rp0_2 p0.c_.Bl.length, .bool p0.c_.Ho, .bool p0.c_.BP, Ai p0.c_.Bm, .bool p0.c_.CC, Ai p0.c_.BD.DF, Ai p0.c_.BD.Bp, Ai p0.c_.HG, Ai p0.c_.B3, Ai p0.c_.Name, Ai p0.c_.Head, Ai p0.c_.Bd, .str p0.Ar.Text, .bool p0.Ar.Bh, .bool p0.Ar.Fold, .bool p0.Ar.Ax, .str p0.GK, Ai p0.at_, .map (some bp0_20)]), .AL rp0_0 31 (AL AE p0.c_.Ah), .AL r'2 31 (AL AE u2), .AL rp0_2 135 (AL AJ p0.c_.Bl), .obj bp0_20 (.map 2 (BR (fun k : List UInt8 => .str k) (fun v : Bool => .bool v) p0.Bk))] F := by
 refine D5 56 [.cell 10 128] hc ?_
 clear hc
 unfold Cf at hm
 refine bg 56 [(0, .ptr (some (bp0, 0))), (1, .str p1), (2, .ptr (some (bp0, 1))), (3, Ai p3), (4, Ai p4)] fun fr H => ?_
 refine AG 1 ?_
 obtain ⟨h1, e1, A⟩ := A.pu (.cells none 2 [Ai 0, Ai 0])
 refine BC 10 (.ptr (some (h.size, 0))) e1 H fun fr t H => ?_
 refine BB id (AQ (AG 9 ?_))
 obtain ⟨⟨x1, x2, x3⟩, hx, hm⟩ := bind_some hm
 obtain ⟨v1, h2, hr, rqw1, rfl, A1⟩ := LQ (av := [.str p1]) hx (A.cut 0)
 replace A : HH g h2 [.AL rqw1 264 (AL AM x1), .obj h.size (.cells none 2 [Ai (0 : Int), Ai (0 : Int)]), _, _, _, _, _] F := A.CL (n := 0) A1
 refine BH 1 [] 17 hr H fun fr t H => ?_
 refine BT 7 [(13, Ai x3)] 2 H fun fr H => AN 2 [(22, .bool (x3 != 0))] H fun fr H => Ak 22 H hm (fun hb hm H => ?_) fun hb hm H => ?_
 ·refine AG 3 ?_
  obtain ⟨h3, hx, A⟩ := A.s1 0 [Ai 11, Ai p4] [_, _]
  refine EL 2 [] hx H fun fr t H => ?_
  refine BB id (AS ?_)
  obtain ⟨rfl, rfl⟩ := DG hm
  refine ⟨.inl rfl, .agg [Ai 11, Ai p4], DJ (.cell (rT H) (BS (by kernel_rfl) (by kernel_rfl) (A.la 1 0 2)) .nil), ?_⟩
  replace A := A.k5 2 3 4 5 6
  exact ⟨rp0_1, rfl, A⟩
 refine Be id (AQ (AQ (EZ 4 14 ?_)))
 refine AR 4 [] 29 2 0 A H fun fr t H => ?_
 refine AR 5 [(30, Ai (p0.c_.Ah.length : Int))] 35 2 1 A H fun fr t H => ?_
 refine AN 3 [(38, .bool ((IntKind.i64.wrap ((p0.c_.Ah.length : Int) + (p0.c_.Aj.length : Int))) == 256))] H fun fr H => Ak 38 H hm (fun hb hm H => ?_) fun hb hm H => ?_
 ·refine AG 3 ?_
  obtain ⟨h4, hx, A⟩ := A.s1 0 [Ai 8, Ai p3] [_, _]
  refine EL 2 [] hx H fun fr t H => ?_
  refine BB id (AS ?_)
  obtain ⟨rfl, rfl⟩ := DG hm
  refine ⟨.inl rfl, .agg [Ai 8, Ai p3], DJ (.cell (rT H) (BS (by kernel_rfl) (by kernel_rfl) (A.la 1 0 2)) .nil), ?_⟩
  replace A := A.k5 2 3 4 5 6
  exact ⟨rp0_1, rfl, A⟩
 refine Cm 6 id (As 3 [] 44 _ _ H (fun fr => .of (Bs (by kernel_rfl) (A.GA 2 rfl (o := 14) (n := 4) ⟨Nat.le_of_ble_eq_true rfl, rfl⟩))) fun fr t H => ?_)
 obtain ⟨h5, e2, A⟩ := A.pu (.cells none 2 [.str ([] : List UInt8), .bool false, .bool false, .bool false])
 refine BC 14 (.ptr (some (h2.size, 0))) e2 H fun fr t H => ?_
 obtain ⟨h6, hx, A⟩ := A.s0 0 (AE p0.Ar) [_, _, _, _]
 refine Ev hx H fun fr t H => ?_
 refine Cj 3 id ?_
 obtain ⟨h7, hx, A⟩ := A.s0 0 [.str p1] [_, _, _, _]
 refine E8 2 [] hx H fun fr t H => ?_
 refine BB id (AQ (EZ 8 9 ?_))
 refine AR 3 [(47, .ptr (some (bp0, 1)))] 50 3 1 A H fun fr t H => ?_
 refine Az 51 _ _ H (fun fr => .of (Bs (by kernel_rfl) (A.GA 0 rfl (o := 0) (n := 4) ⟨Nat.le_of_ble_eq_true rfl, rfl⟩))) fun fr t H => ?_
 obtain ⟨h8, e3, A⟩ := A.pL 31 (Jp p0.Ar (.str p1))
 refine BC 52 (AI (some h7.size) (([(⟨p1, p0.Ar.Bh, p0.Ar.Fold, p0.Ar.Ax⟩ : AP)] : List AP).length)) e3 H fun fr t H => ?_
 obtain ⟨hb, hm⟩ := BZ hm
 obtain ⟨r1, h9, hx, A1⟩ := HH.NQ B9 (by decide) A 6 (xs := p0.c_.Aj) (ys := ([(⟨p1, p0.Ar.Bh, p0.Ar.Fold, p0.Ar.Ax⟩ : AP)] : List AP)) rfl (EI A 0 rfl (n := ([(⟨p1, p0.Ar.Bh, p0.Ar.Fold, p0.Ar.Ax⟩ : AP)] : List AP).length) (z := 4) rfl (by decide)) rfl rfl hb
 replace A : HH g h9 [.AL (some h7.size) 31 ((Jp p0.Ar (.str p1))), _, _, _, _, _, .AL r1 31 (AL AE (p0.c_.Aj ++ ([(⟨p1, p0.Ar.Bh, p0.Ar.Fold, p0.Ar.Ax⟩ : AP)] : List AP))), _, _] F := A1
 replace A := A.k8 1 2 3 4 5 6 7 8
 refine Az 53 _ _ H (fun fr => .of (KF (s := D2 rp0_1 p0.c_.Aj.length) (by kernel_rfl) hx)) fun fr t H => ?_
 obtain ⟨h10, hx, A1⟩ := A.st 3 rfl (o := 1) (new := [AI r1 ((p0.c_.Aj ++ ([(⟨p1, p0.Ar.Bh, p0.Ar.Fold, p0.Ar.Ax⟩ : AP)] : List AP)).length)]) (ds := [AI rp0_0 p0.c_.Ah.length, AI r1 ((p0.c_.Aj ++ ([(⟨p1, p0.Ar.Bh, p0.Ar.Fold, p0.Ar.Ax⟩ : AP)] : List AP)).length), AI rp0_2 p0.c_.Bl.length, .bool p0.c_.Ho, .bool p0.c_.BP, Ai p0.c_.Bm, .bool p0.c_.CC, Ai p0.c_.BD.DF, Ai p0.c_.BD.Bp, Ai p0.c_.HG, Ai p0.c_.B3, Ai p0.c_.Name, Ai p0.c_.Head, Ai p0.c_.Bd, .str p0.Ar.Text, .bool p0.Ar.Bh, .bool p0.Ar.Fold, .bool p0.Ar.Ax, .str p0.GK, Ai p0.at_, .map (some bp0_20)]) (Nat.le_of_ble_eq_true rfl) rfl rfl
 replace A : HH g h10 [_, _, _, .obj bp0 (.cells none 2 [_, AI r1 ((p0.c_.Aj ++ ([(⟨p1, p0.Ar.Bh, p0.Ar.Fold, p0.Ar.Ax⟩ : AP)] : List AP)).length), _, _, _, _, _, _, _, _, _, _, _, _, _, _, _, _, _, _, _]), _, _, _, _] F := A1
 refine E8 1 [] hx H fun fr t H => ?_
 refine Cj 2 id ?_
 obtain ⟨x4, hx, hm⟩ := bind_some hm
 obtain ⟨v1, h11, hr, rfl, A1⟩ := Gu (av := []) hx (A.cut 0)
 replace A := A.EV A1
 refine Ay 55 hr H fun fr t H => ?_
 obtain ⟨h12, hx, A⟩ := A.s2 0 [Ai x4.e_, Ai x4.at_] [_, _]
 refine Ev hx H fun fr t H => ?_
 refine BB id (AS ?_)
 obtain ⟨rfl, rfl⟩ := DG hm
 refine ⟨.inl rfl, .agg [Ai x4.e_, Ai x4.at_], DJ (.cell (rT H) (BS (by kernel_rfl) (by kernel_rfl) (A.la 2 0 2)) .nil), ?_⟩
 replace A := A.k5 3 4 5 6 7
 exact ⟨r1, rfl, A⟩
def Ea (p0 : Bx) (p1 : List UInt8) (p2 : Int) (p3 : Int) : Option (Cb × (List AP)) :=
 (Cf p0 p1 p2 p3).bind fun (x1, x2) => some (x1, x2)
theorem IY {p0 p1 p2 p3 bp0 rp0_0 rp0_1 rp0_2 bp0_20 q0 u2} (hm : Ea p0 p1 p2 p3 = some (q0, u2)) (A : HH g h [.obj bp0 (.cells none 2 [AI rp0_0 p0.c_.Ah.length, AI rp0_1 p0.c_.Aj.length, AI rp0_2 p0.c_.Bl.length, .bool p0.c_.Ho, .bool p0.c_.BP, Ai p0.c_.Bm, .bool p0.c_.CC, Ai p0.c_.BD.DF, Ai p0.c_.BD.Bp, Ai p0.c_.HG, Ai p0.c_.B3, Ai p0.c_.Name, Ai p0.c_.Head, Ai p0.c_.Bd, .str p0.Ar.Text, .bool p0.Ar.Bh, .bool p0.Ar.Fold, .bool p0.Ar.Ax, .str p0.GK, Ai p0.at_, .map (some bp0_20)]), .AL rp0_0 31 (AL AE p0.c_.Ah), .AL rp0_1 31 (AL AE p0.c_.Aj), .AL rp0_2 135 (AL AJ p0.c_.Bl), .obj bp0_20 (.map 2 (BR (fun k : List UInt8 => .str k) (fun v : Bool => .bool v) p0.Bk))] F) (hc : BI (cfg.still 110) av = [.ptr (some (bp0, 0)), .str p1, Ai p2, Ai p3] := by kernel_rfl) : ∃ v h', BL cfg g h 110 av v h' ∧ ∃ (r'2 : Option Nat), v = .agg [Ai q0.e_, Ai q0.at_] ∧ HH g h' [.obj bp0 (.cells none 2 [AI rp0_0 p0.c_.Ah.length, AI r'2 u2.length, AI rp0_2 p0.c_.Bl.length, .bool p0.c_.Ho, .bool p0.c_.BP, Ai p0.c_.Bm, .bool p0.c_.CC, Ai p0.c_.BD.DF, Ai p0.c_.BD.Bp, Ai p0.c_.HG, Ai p0.c_.B3, Ai p0.c_.Name, Ai p0.c_.Head, Ai p0.c_.Bd, .str p0.Ar.Text, .bool p0.Ar.Bh, .bool p0.Ar.Fold, .bool p0.Ar.Ax, .str p0.GK, Ai p0.at_, .map (some bp0_20)]), .AL rp0_0 31 (AL AE p0.c_.Ah), .AL r'2 31 (AL AE u2), .AL rp0_2 135 (AL AJ p0.c_.Bl), .obj bp0_20 (.map 2 (BR (fun k : List UInt8 => .str k) (fun v : Bool => .bool v) p0.Bk))] F := by
 refine D5 18 [.cell 8 128] hc ?_
 clear hc
 unfold Ea at hm
 refine bg 18 [(0, .ptr (some (bp0, 0))), (1, .str p1), (2, Ai p2), (3, Ai p3)] fun fr H => ?_
 refine AG 1 ?_
 obtain ⟨h1, e1, A⟩ := A.pu (.cells none 2 [Ai 0, Ai 0])
 refine BC 8 (.ptr (some (h.size, 0))) e1 H fun fr t H => ?_
 refine Cj 10 id ?_
 replace A : HH g h1 [_, _, _, _, _, .obj h.size (.cells none 2 [Ai 0, Ai 0])] F := (((((A.front 5 rfl).front 5 rfl).front 5 rfl).front 5 rfl).front 5 rfl)
 obtain ⟨⟨x1, x2⟩, hx, hm⟩ := bind_some hm
 obtain ⟨v1, h2, hr, r1, rfl, A1⟩ := Fm (av := [.ptr (some (bp0, 0)), .str p1, .ptr (some (bp0, 1)), Ai p2, Ai p3]) hx (A.cut 5)
 replace A : HH g h2 [.obj bp0 (.cells none 2 [_, AI r1 x2.length, _, _, _, _, _, _, _, _, _, _, _, _, _, _, _, _, _, _, _]), .AL rp0_0 31 (AL AE p0.c_.Ah), .AL r1 31 (AL AE x2), .AL rp0_2 135 (AL AJ p0.c_.Bl), .obj bp0_20 (.map 2 (BR (fun k : List UInt8 => .str k) (fun v : Bool => .bool v) p0.Bk)), _] F := A.CL (n := 5) A1
 refine BH 8 [] 17 hr H fun fr t H => ?_
 obtain ⟨h3, hx, A⟩ := A.s5 0 [Ai x1.e_, Ai x1.at_] [_, _]
 refine Ev hx H fun fr t H => ?_
 refine BB id (AS ?_)
 obtain ⟨rfl, rfl⟩ := DG hm
 refine ⟨.inl rfl, .agg [Ai x1.e_, Ai x1.at_], DJ (.cell (rT H) (BS (by kernel_rfl) (by kernel_rfl) (A.la 5 0 2)) .nil), ?_⟩
 replace A := A.d5
 exact ⟨r1, rfl, A⟩
def Ig (p0 : List UInt8) (s : Int × Int) : Option ((Int × Int) ⊕ ((Int) ⊕ (Int × Bool))) :=
 match s with
 | (x3, x4) => Ae (decide (x4 < (p0.length : Int))) ((Nb p0 x4).bind fun x8 => (Ae (decide (x8 < 48)) (some true) ((Nb p0 x4).bind fun x10 => some (decide (x10 > 57))) : Option (Bool)).bind fun x9 => Ae x9 (some (.inr (.inr ((0 : Int), false)))) ((Nb p0 x4).bind fun x11 => some (.inl (IntKind.i64.wrap ((IntKind.i64.wrap ((10 : Int) * x3)) + (IntKind.i64.wrap (IntKind.u8.wrap (x11 - 48)))), IntKind.i64.wrap (x4 + 1))))) (some (.inr (.inl x3)))
def H9 (p0 : List UInt8) (p1 : Int) (p2 : Int) : Option (Int × Bool) :=
 (Ae (((p0.length : Int) == 0) || (decide ((p0.length : Int) > 5))) (some true) ((Nb p0 (0 : Int)).bind fun x2 => some ((x2 == 48) && (decide ((p0.length : Int) > 1)))) : Option (Bool)).bind fun x1 => Ae x1 (some ((0 : Int), false)) ((loop (Ig p0) ((0 : Int), (0 : Int))).bind fun o1 => (match o1 with | .inl x5 => some (x5, (decide (x5 ≥ p1)) && (decide (x5 ≤ p2))) | .inr (x6, x7) => some (x6, x7)))
theorem Me {p0 p1 p2 q0 q1} (hm : H9 p0 p1 p2 = some (q0, q1)) (A : HH g h [] F) (hc : BI (cfg.still 163) av = [.str p0, Ai p1, Ai p2] := by kernel_rfl) : ∃ v h', BL cfg g h 163 av v h' ∧ v = .tuple [Ai q0, .bool q1] ∧ HH g h' [] F := by
 refine D5 61 [.tmp 6, .tmp 7] hc ?_
 clear hc
 unfold H9 at hm
 refine bg 61 [(0, .str p0), (1, Ai p1), (2, Ai p2)] fun fr H => ?_
 refine AG 2 (AN 2 [] H fun fr H => AQ (AG 18 (AF 4 [(13, .bool ((p0.length : Int) == 0))] H fun fr H => An 4 (fun fr' h' => h = h' ∧ Has fr' 61 [(0, .str p0), (1, Ai p1), (2, Ai p2), (17, .bool (((p0.length : Int) == 0) || (decide ((p0.length : Int) > 5))))]) ?_ ?_)))
 ·cases hb : ((p0.length : Int) == 0 : Bool) with
  | true =>
   replace H := H.kn 13 hb
   exact AF 4 [(17, .bool true)] H fun fr H => AY H hb
  | false =>
   replace H := H.kn 13 hb
   exact AF 4 [(17, .bool (decide ((p0.length : Int) > 5)))] H fun fr H => AY H hb
 intro t fr h' hK
 obtain ⟨e, H⟩ := hK
 subst e
 refine AF 1 [(18, .bool (((p0.length : Int) == 0) || (decide ((p0.length : Int) > 5))))] H fun fr H => ?_
 obtain ⟨x1, ho, hm⟩ := bind_some hm
 refine An 9 (fun fr' h' => Has fr' 61 [(0, .str p0), (1, Ai p1), (2, Ai p2), (27, .bool x1)] ∧ HH g h' [] F) ?_ ?_
 ·rcases AU ho with ⟨hb, hm⟩ | ⟨hb, hm⟩
  ·replace H := H.kn 18 hb
   refine AF 9 [(27, .bool true)] H fun fr H => ?_
   obtain rfl := Aa hm
   exact at_nil ⟨H.ls, A⟩
  replace H := H.kn 18 hb
  obtain ⟨x2, hx, hm⟩ := bind_some hm
  refine As 1 [] 20 (Ab x2) h H (fun fr => .of (G4 (by kernel_rfl) hx)) fun fr t H => ?_
  refine AF 2 [(22, .bool (x2 == 48))] H fun fr H => An 4 (fun fr' h' => h = h' ∧ Has fr' 61 [(0, .str p0), (1, Ai p1), (2, Ai p2), (18, .bool false), (26, .bool ((x2 == 48) && (decide ((p0.length : Int) > 1))))]) ?_ ?_
  ·cases hb : (x2 == 48 : Bool) with
   | true =>
    replace H := H.kn 22 hb
    exact AF 4 [(26, .bool (decide ((p0.length : Int) > 1)))] H fun fr H => AY H hb
   | false =>
    replace H := H.kn 22 hb
    exact AF 4 [(26, .bool false)] H fun fr H => AY H hb
  intro t fr h' hK
  obtain ⟨e, H⟩ := hK
  subst e
  refine AF 1 [(27, .bool ((x2 == 48) && (decide ((p0.length : Int) > 1))))] H fun fr H => ?_
  obtain rfl := Aa hm
  exact at_nil ⟨H.ls, A⟩
 clear A
 intro t fr h1 hK
 obtain ⟨H, A⟩ := hK
 refine BB id (Ak 27 H hm (fun hb hm H => ?_) fun hb hm H => ?_)
 ·refine AG 2 (AN 2 [(6, Ai 0), (7, .bool false)] H fun fr H => AS ?_)
  obtain ⟨rfl, rfl⟩ := DG hm
  exact ⟨.inl rfl, _, rH H, rfl, A⟩
 refine Cm 1 id (AN 1 [(8, Ai 0)] H fun fr H => AQ (AG 3 (AN 3 [(29, Ai (p0.length : Int)), (30, Ai 0)] H fun fr H => AX (id := 0) (by kernel_rfl) ?_)))
 obtain ⟨o1, ho, hm⟩ := bind_some hm
 refine BM (Q' := fun e fr' h' => (∃ x5, e = .exit 0 ∧ .inl x5 = o1 ∧ Has fr' 61 [(1, Ai p1), (2, Ai p2), (8, Ai x5)] ∧ HH g h' [] F) ∨ (∃ x6 x7, e = .ret ∧ .inr (x6, x7) = o1 ∧ Has fr' 61 [(6, Ai x6), (7, .bool x7)] ∧ HH g h' [] F) ∨ False) ?_ ?_
 ·refine B8 (by kernel_rfl) (fun (s : Int × Int) fr' h' => ∃ x3 x4, (x3, x4) = s ∧ Has fr' 61 [(0, .str p0), (1, Ai p1), (2, Ai p2), (8, Ai x3), (29, Ai (p0.length : Int)), (30, Ai x4)] ∧ HH g h' [] F) ho ⟨_, _, rfl, H.ls, A⟩ ?_
  clear ho hm H A
  intro s q fr h2 hI hm
  obtain ⟨x3, x4, rfl, H, A⟩ := hI
  unfold Ig at hm
  refine AG 1 (AN 1 [(31, .bool (decide (x4 < (p0.length : Int))))] H fun fr H => AQ (Ak 31 H hm (fun hb hm H => ?_) fun hb hm H => ?_))
  ·refine Be id (AQ (AX (id := 1) (by kernel_rfl) ?_))
   refine AG 2 (AN 2 [(9, Ai x4)] H fun fr H => AQ (AG 10 ?_))
   obtain ⟨x8, hx, hm⟩ := bind_some hm
   refine As 2 [] 35 (Ab x8) h2 H (fun fr => .of (G4 (by kernel_rfl) hx)) fun fr t H => ?_
   refine AF 2 [(37, .bool (decide (x8 < 48)))] H fun fr H => ?_
   obtain ⟨x9, ho, hm⟩ := bind_some hm
   refine An 5 (fun fr' h' => Has fr' 61 [(0, .str p0), (1, Ai p1), (2, Ai p2), (8, Ai x3), (9, Ai x4), (29, Ai (p0.length : Int)), (30, Ai x4), (42, .bool x9)] ∧ HH g h' [] F) ?_ ?_
   ·rcases AU ho with ⟨hb, hm⟩ | ⟨hb, hm⟩
    ·replace H := H.kn 37 hb
     refine AF 5 [(42, .bool true)] H fun fr H => ?_
     obtain rfl := Aa hm
     exact at_nil ⟨H.ls, A⟩
    replace H := H.kn 37 hb
    obtain ⟨x10, hx, hm⟩ := bind_some hm
    refine As 2 [] 40 (Ab x10) h2 H (fun fr => .of (G4 (by kernel_rfl) hx)) fun fr t H => ?_
    refine AF 2 [(42, .bool (decide (x10 > 57)))] H fun fr H => ?_
    obtain rfl := Aa hm
    exact at_nil ⟨H.ls, A⟩
   clear A
   intro t fr h3 hK
   obtain ⟨H, A⟩ := hK
   refine BB id (Ak 42 H hm (fun hb hm H => ?_) fun hb hm H => ?_)
   ·refine AG 2 (AN 2 [(6, Ai 0), (7, .bool false)] H fun fr H => AS ?_)
    exact nr hm fun e => Or.inr (.inl ⟨_, _, rfl, e, H.ls, A⟩)
   refine FH 9 id ?_
   obtain ⟨x11, hx, hm⟩ := bind_some hm
   refine As 4 [(44, Ai (IntKind.i64.wrap ((10 : Int) * x3)))] 47 (Ab x11) h3 H (fun fr => .of (G4 (by kernel_rfl) hx)) fun fr t H => ?_
   refine Bi 4 [(0, .str p0), (1, Ai p1), (2, Ai p2), (8, Ai (IntKind.i64.wrap ((IntKind.i64.wrap ((10 : Int) * x3)) + (IntKind.i64.wrap (IntKind.u8.wrap (x11 - 48)))))), (29, Ai (p0.length : Int)), (30, Ai x4)] H fun fr H => KY 2 id (Bi 2 [(0, .str p0), (1, Ai p1), (2, Ai p2), (8, Ai (IntKind.i64.wrap ((IntKind.i64.wrap ((10 : Int) * x3)) + (IntKind.i64.wrap (IntKind.u8.wrap (x11 - 48)))))), (29, Ai (p0.length : Int)), (30, Ai (IntKind.i64.wrap (x4 + 1)))] H fun fr H => at_nil ?_)
   exact nx hm ⟨_, _, rfl, H.ls, A⟩
  refine Bn (i := 0) (by kernel_rfl) ?_
  exact nr hm fun e => .inl ⟨_, rfl, e, H.ls, A⟩
 clear ho
 clear A
 intro e fr h4 hQ
 rcases hQ with ⟨x5, rfl, rfl, H, A⟩ | ⟨x6, x7, rfl, rfl, H, A⟩ | hF
 ·show AW _ _ _ _ _ _ _
  refine AG 11 (AF 5 [(52, Ai x5), (56, .bool (decide (x5 ≥ p1)))] H fun fr H => An 4 (fun fr' h' => h4 = h' ∧ Has fr' 61 [(52, Ai x5), (60, .bool ((decide (x5 ≥ p1)) && (decide (x5 ≤ p2))))]) ?_ ?_)
  ·cases hb : (decide (x5 ≥ p1) : Bool) with
   | true =>
    replace H := H.kn 56 hb
    exact AF 4 [(60, .bool (decide (x5 ≤ p2)))] H fun fr H => AY H hb
   | false =>
    replace H := H.kn 56 hb
    exact AF 4 [(60, .bool false)] H fun fr H => AY H hb
  intro t fr h' hK
  obtain ⟨e, H⟩ := hK
  subst e
  refine AN 2 [(6, Ai x5), (7, .bool ((decide (x5 ≥ p1)) && (decide (x5 ≤ p2))))] H fun fr H => AS ?_
  obtain ⟨rfl, rfl⟩ := DG hm
  exact ⟨.inl rfl, _, rH H, rfl, A⟩
 ·obtain ⟨rfl, rfl⟩ := DG hm
  exact ⟨.inl rfl, _, rH H, rfl, A⟩
 exact hF.elim
def Ep (p0 : Bx) : Option (Unit) :=
 some ()
theorem Is {p0 bp0 rp0_0 rp0_1 rp0_2 bp0_20} (hm : Ep p0 = some ()) (A : HH g h [.obj bp0 (.cells none 2 [AI rp0_0 p0.c_.Ah.length, AI rp0_1 p0.c_.Aj.length, AI rp0_2 p0.c_.Bl.length, .bool p0.c_.Ho, .bool p0.c_.BP, Ai p0.c_.Bm, .bool p0.c_.CC, Ai p0.c_.BD.DF, Ai p0.c_.BD.Bp, Ai p0.c_.HG, Ai p0.c_.B3, Ai p0.c_.Name, Ai p0.c_.Head, Ai p0.c_.Bd, .str p0.Ar.Text, .bool p0.Ar.Bh, .bool p0.Ar.Fold, .bool p0.Ar.Ax, .str p0.GK, Ai p0.at_, .map (some bp0_20)]), .AL rp0_0 31 (AL AE p0.c_.Ah), .AL rp0_1 31 (AL AE p0.c_.Aj), .AL rp0_2 135 (AL AJ p0.c_.Bl), .obj bp0_20 (.map 2 (BR (fun k : List UInt8 => .str k) (fun v : Bool => .bool v) p0.Bk))] F) (hc : BI (cfg.still 123) av = [.ptr (some (bp0, 0))] := by kernel_rfl) : ∃ v h', BL cfg g h 123 av v h' ∧ v = .ptr (some (bp0, 10)) ∧ HH g h' [.obj bp0 (.cells none 2 [AI rp0_0 p0.c_.Ah.length, AI rp0_1 p0.c_.Aj.length, AI rp0_2 p0.c_.Bl.length, .bool p0.c_.Ho, .bool p0.c_.BP, Ai p0.c_.Bm, .bool p0.c_.CC, Ai p0.c_.BD.DF, Ai p0.c_.BD.Bp, Ai p0.c_.HG, Ai p0.c_.B3, Ai p0.c_.Name, Ai p0.c_.Head, Ai p0.c_.Bd, .str p0.Ar.Text, .bool p0.Ar.Bh, .bool p0.Ar.Fold, .bool p0.Ar.Ax, .str p0.GK, Ai p0.at_, .map (some bp0_20)]), .AL rp0_0 31 (AL AE p0.c_.Ah), .AL rp0_1 31 (AL AE p0.c_.Aj), .AL rp0_2 135 (AL AJ p0.c_.Bl), .obj bp0_20 (.map 2 (BR (fun k : List UInt8 => .str k) (fun v : Bool => .bool v) p0.Bk))] F := by
 refine D5 6 [.tmp 2] hc ?_
 clear hc
 unfold Ep at hm
 refine bg 6 [(0, .ptr (some (bp0, 0)))] fun fr H => ?_
 refine AG 1 (BT 1 [] 4 H fun fr H => AN 4 [(2, .ptr (some (bp0, 10)))] H fun fr H => AS ?_)
 exact ⟨.inl rfl, _, rH H, rfl, A⟩
def C2 (p0 : Bx) (p1 : List UInt8) (p2 : Int) (p3 : Int) : Option (Cb × Bx) :=
 (H9 p1 (0 : Int) (9999 : Int)).bind fun (x1, x2) => Ae (!x2) (some ((⟨(11 : Int), p3⟩ : Cb), p0)) ((Ep p0).bind fun _ => (Fe).bind fun x4 => some (x4, (⟨(⟨p0.c_.Ah, p0.c_.Aj, p0.c_.Bl, p0.c_.Ho, p0.c_.BP, p0.c_.Bm, p0.c_.CC, p0.c_.BD, p0.c_.HG, x1, p0.c_.Name, p0.c_.Head, p0.c_.Bd⟩ : Bb), p0.Ar, p0.GK, p0.at_, p0.Bk⟩ : Bx)))
theorem GL {p0 p1 p2 p3 bp0 rp0_0 rp0_1 rp0_2 bp0_20 q0 u0} (hm : C2 p0 p1 p2 p3 = some (q0, u0)) (A : HH g h [.obj bp0 (.cells none 2 [AI rp0_0 p0.c_.Ah.length, AI rp0_1 p0.c_.Aj.length, AI rp0_2 p0.c_.Bl.length, .bool p0.c_.Ho, .bool p0.c_.BP, Ai p0.c_.Bm, .bool p0.c_.CC, Ai p0.c_.BD.DF, Ai p0.c_.BD.Bp, Ai p0.c_.HG, Ai p0.c_.B3, Ai p0.c_.Name, Ai p0.c_.Head, Ai p0.c_.Bd, .str p0.Ar.Text, .bool p0.Ar.Bh, .bool p0.Ar.Fold, .bool p0.Ar.Ax, .str p0.GK, Ai p0.at_, .map (some bp0_20)]), .AL rp0_0 31 (AL AE p0.c_.Ah), .AL rp0_1 31 (AL AE p0.c_.Aj), .AL rp0_2 135 (AL AJ p0.c_.Bl), .obj bp0_20 (.map 2 (BR (fun k : List UInt8 => .str k) (fun v : Bool => .bool v) p0.Bk))] F) (hc : BI (cfg.still 175) av = [.ptr (some (bp0, 0)), .str p1, Ai p2, Ai p3, .A7 [Ai (0 : Int)], .A7 [Ai (9999 : Int)], .A7 [.func (.func 123) [] []]] := by kernel_rfl) : ∃ v h', BL cfg g h 175 av v h' ∧ v = .agg [Ai q0.e_, Ai q0.at_] ∧ HH g h' [.obj bp0 (.cells none 2 [AI rp0_0 p0.c_.Ah.length, AI rp0_1 p0.c_.Aj.length, AI rp0_2 p0.c_.Bl.length, .bool u0.c_.Ho, .bool u0.c_.BP, Ai u0.c_.Bm, .bool u0.c_.CC, Ai u0.c_.BD.DF, Ai u0.c_.BD.Bp, Ai u0.c_.HG, Ai u0.c_.B3, Ai u0.c_.Name, Ai u0.c_.Head, Ai u0.c_.Bd, .str u0.Ar.Text, .bool u0.Ar.Bh, .bool u0.Ar.Fold, .bool u0.Ar.Ax, .str u0.GK, Ai u0.at_, .map (some bp0_20)]), .AL rp0_0 31 (AL AE p0.c_.Ah), .AL rp0_1 31 (AL AE p0.c_.Aj), .AL rp0_2 135 (AL AJ p0.c_.Bl), .obj bp0_20 (.map 2 (BR (fun k : List UInt8 => .str k) (fun v : Bool => .bool v) p0.Bk))] F := by
 refine D5 33 [.cell 11 128] hc ?_
 clear hc
 unfold C2 at hm
 refine bg 33 [(0, .ptr (some (bp0, 0))), (1, .str p1), (3, Ai p3), (4, .A7 [Ai (0 : Int)]), (5, .A7 [Ai (9999 : Int)]), (6, .A7 [.func (.func 123) [] []])] fun fr H => ?_
 refine AG 1 ?_
 obtain ⟨h1, e1, A⟩ := A.pu (.cells none 2 [Ai 0, Ai 0])
 refine BC 11 (.ptr (some (h.size, 0))) e1 H fun fr t H => ?_
 refine Cj 9 id (As 1 [(15, .str p1)] 16 (Ai (0 : Int)) h1 H (fun fr => .of (IQ (by kernel_rfl))) fun fr t H => ?_)
 refine Az 17 (Ai (9999 : Int)) h1 H (fun fr => .of (IQ (by kernel_rfl))) fun fr t H => ?_
 obtain ⟨⟨x1, x2⟩, hx, hm⟩ := bind_some hm
 obtain ⟨v1, h2, hr, rfl, A1⟩ := Me (av := [.str p1, Ai 0, Ai 9999]) hx (A.cut 0)
 replace A : HH g h2 [.obj h.size (.cells none 2 [Ai (0 : Int), Ai (0 : Int)]), _, _, _, _, _] F := A.CL (n := 0) A1
 refine Ay 18 hr H fun fr t H => ?_
 refine AN 5 [(12, Ai x1), (13, .bool x2)] H fun fr H => AQ (AG 2 (AN 2 [(22, .bool (!x2))] H fun fr H => Ak 22 H hm (fun hb hm H => ?_) fun hb hm H => ?_))
 ·refine AG 3 ?_
  obtain ⟨h3, hx, A⟩ := A.s0 0 [Ai 11, Ai p3] [_, _]
  refine EL 2 [] hx H fun fr t H => ?_
  refine BB id (AS ?_)
  obtain ⟨rfl, rfl⟩ := DG hm
  refine ⟨.inl rfl, .agg [Ai 11, Ai p3], DJ (.cell (rT H) (BS (by kernel_rfl) (by kernel_rfl) (A.la 0 0 2)) .nil), ?_⟩
  replace A := A.k5 1 2 3 4 5
  exact ⟨rfl, A⟩
 refine Be id (AQ (EZ 4 8 ?_))
 refine Az 25 (.func (.func 123) [] []) h2 H (fun fr => .of (IQ (by kernel_rfl))) fun fr t H => ?_
 replace A := A.k6 1 2 3 4 5 0
 obtain ⟨⟨⟩, hx, hm⟩ := bind_some hm
 obtain ⟨v1, h4, hr, rfl, A1⟩ := Is (av := [.ptr (some (bp0, 0))]) hx (A.cut 5)
 replace A : HH g h4 [.obj bp0 (.cells none 2 [_, _, _, _, _, _, _, _, _, _, _, _, _, _, _, _, _, _, _, _, _]), .AL rp0_0 31 (AL AE p0.c_.Ah), .AL rp0_1 31 (AL AE p0.c_.Aj), .AL rp0_2 135 (AL AJ p0.c_.Bl), .obj bp0_20 (.map 2 (BR (fun k : List UInt8 => .str k) (fun v : Bool => .bool v) p0.Bk)), _] F := A.CL (n := 5) A1
 refine BH 3 [] 29 hr H fun fr t H => ?_
 obtain ⟨h5, hx, A⟩ := A.s0 10 [Ai x1] [_, _, _, _, _, _, _, _, _, _, _, _, _, _, _, _, _, _, _, _, _]
 refine E8 2 [] hx H fun fr t H => ?_
 refine Cj 2 id ?_
 obtain ⟨x4, hx, hm⟩ := bind_some hm
 obtain ⟨v1, h6, hr, rfl, A1⟩ := Gu (av := []) hx (A.cut 0)
 replace A := A.EV A1
 refine Ay 32 hr H fun fr t H => ?_
 obtain ⟨h7, hx, A⟩ := A.s5 0 [Ai x4.e_, Ai x4.at_] [_, _]
 refine Ev hx H fun fr t H => ?_
 refine BB id (AS ?_)
 obtain ⟨rfl, rfl⟩ := DG hm
 refine ⟨.inl rfl, .agg [Ai x4.e_, Ai x4.at_], DJ (.cell (rT H) (BS (by kernel_rfl) (by kernel_rfl) (A.la 5 0 2)) .nil), ?_⟩
 replace A := A.d5
 exact ⟨rfl, A⟩
def Da (p0 : Bx) (p1 : List UInt8) (p2 : Int) : Option (Cb × Bx × (List AP) × (List ((List UInt8) × Bool))) :=
 (Ae (p1 == ([] : List UInt8)) (some true) ((Nb p1 (0 : Int)).bind fun x2 => some (x2 == 35)) : Option (Bool)).bind fun x1 => Ae x1 ((Fe).bind fun x3 => some (x3, p0, p0.c_.Aj, p0.Bk)) (Fl (decide (p1.length ≤ 4294967280)) <| Ae (((Lib.cut p1 ([32] : List UInt8)).1) == ([97, 110, 99, 104, 111, 114, 101, 100] : List UInt8)) none (Ae (((Lib.cut p1 ([32] : List UInt8)).1) == ([117, 110, 97, 110, 99, 104, 111, 114, 101, 100] : List UInt8)) none (Ae (((Lib.cut p1 ([32] : List UInt8)).1) == ([102, 111, 108, 100] : List UInt8)) none (Ae (((Lib.cut p1 ([32] : List UInt8)).1) == ([110, 111, 102, 111, 108, 100] : List UInt8)) none (Ae (((Lib.cut p1 ([32] : List UInt8)).1) == ([115, 108, 97, 115, 104] : List UInt8)) none (Ae (((Lib.cut p1 ([32] : List UInt8)).1) == ([110, 111, 115, 108, 97, 115, 104] : List UInt8)) none (Ae (((Lib.cut p1 ([32] : List UInt8)).1) == ([105, 110, 99, 108, 117, 100, 101] : List UInt8)) none (Ae (((Lib.cut p1 ([32] : List UInt8)).1) == ([101, 120, 99, 108, 117, 100, 101] : List UInt8)) (Ae ((!(((Lib.cut p1 ([32] : List UInt8)).2.2) == true)) || false) (some ((⟨(11 : Int), p2⟩ : Cb), p0, p0.c_.Aj, p0.Bk)) ((Ea (⟨p0.c_, p0.Ar, p0.GK, p0.at_, (HB p0.Bk ((Lib.cut p1 ([32] : List UInt8)).1) true)⟩ : Bx) ((Lib.cut p1 ([32] : List UInt8)).2.1) p2 (IntKind.i64.wrap ((IntKind.i64.wrap (p2 + (((Lib.cut p1 ([32] : List UInt8)).1).length : Int))) + 1))).bind fun (x4, x5) => some (x4, (⟨(⟨p0.c_.Ah, x5, p0.c_.Bl, p0.c_.Ho, p0.c_.BP, p0.c_.Bm, p0.c_.CC, p0.c_.BD, p0.c_.HG, p0.c_.B3, p0.c_.Name, p0.c_.Head, p0.c_.Bd⟩ : Bb), p0.Ar, p0.GK, p0.at_, (HB p0.Bk ((Lib.cut p1 ([32] : List UInt8)).1) true)⟩ : Bx), x5, (HB p0.Bk ((Lib.cut p1 ([32] : List UInt8)).1) true)))) (Ae (((Lib.cut p1 ([32] : List UInt8)).1) == ([101, 120, 99, 108, 117, 100, 101, 45, 108, 105, 110, 101, 115] : List UInt8)) none (Ae (((Lib.cut p1 ([32] : List UInt8)).1) == ([118, 99, 115] : List UInt8)) none (Ae (((Lib.cut p1 ([32] : List UInt8)).1) == ([98, 97, 99, 107, 117, 112, 115] : List UInt8)) none (Ae (((Lib.cut p1 ([32] : List UInt8)).1) == ([99, 97, 99, 104, 101, 115] : List UInt8)) none (Ae (((Lib.cut p1 ([32] : List UInt8)).1) == ([110, 101, 119, 101, 114] : List UInt8)) none (Ae (((Lib.cut p1 ([32] : List UInt8)).1) == ([110, 116, 104] : List UInt8)) none (Ae (((Lib.cut p1 ([32] : List UInt8)).1) == ([115, 116, 114, 105, 112] : List UInt8)) (Ae ((!(((Lib.cut p1 ([32] : List UInt8)).2.2) == true)) || ((D4 p0.Bk ((Lib.cut p1 ([32] : List UInt8)).1)).getD false)) (some ((⟨(11 : Int), p2⟩ : Cb), p0, p0.c_.Aj, p0.Bk)) ((C2 (⟨p0.c_, p0.Ar, p0.GK, p0.at_, (HB p0.Bk ((Lib.cut p1 ([32] : List UInt8)).1) true)⟩ : Bx) ((Lib.cut p1 ([32] : List UInt8)).2.1) p2 (IntKind.i64.wrap ((IntKind.i64.wrap (p2 + (((Lib.cut p1 ([32] : List UInt8)).1).length : Int))) + 1))).bind fun (x6, x7) => some (x6, (⟨(⟨p0.c_.Ah, p0.c_.Aj, p0.c_.Bl, x7.c_.Ho, x7.c_.BP, x7.c_.Bm, x7.c_.CC, x7.c_.BD, x7.c_.HG, x7.c_.B3, x7.c_.Name, x7.c_.Head, x7.c_.Bd⟩ : Bb), x7.Ar, x7.GK, x7.at_, (HB p0.Bk ((Lib.cut p1 ([32] : List UInt8)).1) true)⟩ : Bx), p0.c_.Aj, (HB p0.Bk ((Lib.cut p1 ([32] : List UInt8)).1) true)))) (Ae (((Lib.cut p1 ([32] : List UInt8)).1) == ([116, 114, 97, 110, 115, 102, 111, 114, 109] : List UInt8)) none (Ae (((Lib.cut p1 ([32] : List UInt8)).1) == ([99, 97, 112, 45, 110, 97, 109, 101] : List UInt8)) none (Ae (((Lib.cut p1 ([32] : List UInt8)).1) == ([99, 97, 112, 45, 104, 101, 97, 100] : List UInt8)) none (Ae (((Lib.cut p1 ([32] : List UInt8)).1) == ([99, 97, 112, 45, 115, 116, 97, 116, 101, 115] : List UInt8)) none (some ((⟨(11 : Int), p2⟩ : Cb), p0, p0.c_.Aj, p0.Bk)))))))))))))))))))))
theorem G9 {p0 p1 p2 bp0 rp0_0 rp0_1 rp0_2 bp0_20 bp3 q0 u0 u2 u4} (hm : Da p0 p1 p2 = some (q0, u0, u2, u4)) (A : HH g h [.obj bp0 (.cells none 2 [AI rp0_0 p0.c_.Ah.length, AI rp0_1 p0.c_.Aj.length, AI rp0_2 p0.c_.Bl.length, .bool p0.c_.Ho, .bool p0.c_.BP, Ai p0.c_.Bm, .bool p0.c_.CC, Ai p0.c_.BD.DF, Ai p0.c_.BD.Bp, Ai p0.c_.HG, Ai p0.c_.B3, Ai p0.c_.Name, Ai p0.c_.Head, Ai p0.c_.Bd, .str p0.Ar.Text, .bool p0.Ar.Bh, .bool p0.Ar.Fold, .bool p0.Ar.Ax, .str p0.GK, Ai p0.at_, .map (some bp0_20)]), .AL rp0_0 31 (AL AE p0.c_.Ah), .AL rp0_1 31 (AL AE p0.c_.Aj), .AL rp0_2 135 (AL AJ p0.c_.Bl), .obj bp0_20 (.map 2 (BR (fun k : List UInt8 => .str k) (fun v : Bool => .bool v) p0.Bk)), .obj bp3 (.map 2 LA.NJ)] F) (hc : BI (cfg.still 62) av = [.ptr (some (bp0, 0)), .str p1, Ai p2, .map (some bp3)] := by kernel_rfl) : ∃ v h', BL cfg g h 62 av v h' ∧ ∃ (r'2 : Option Nat), v = .agg [Ai q0.e_, Ai q0.at_] ∧ HH g h' [.obj bp0 (.cells none 2 [AI rp0_0 p0.c_.Ah.length, AI r'2 u2.length, AI rp0_2 p0.c_.Bl.length, .bool u0.c_.Ho, .bool u0.c_.BP, Ai u0.c_.Bm, .bool u0.c_.CC, Ai u0.c_.BD.DF, Ai u0.c_.BD.Bp, Ai u0.c_.HG, Ai u0.c_.B3, Ai u0.c_.Name, Ai u0.c_.Head, Ai u0.c_.Bd, .str u0.Ar.Text, .bool u0.Ar.Bh, .bool u0.Ar.Fold, .bool u0.Ar.Ax, .str u0.GK, Ai u0.at_, .map (some bp0_20)]), .AL rp0_0 31 (AL AE p0.c_.Ah), .AL r'2 31 (AL AE u2), .AL rp0_2 135 (AL AJ p0.c_.Bl), .obj bp0_20 (.map 2 (BR (fun k : List UInt8 => .str k) (fun v : Bool => .bool v) u4)), .obj bp3 (.map 2 LA.NJ)] F := by
 refine D5 72 [.cell 8 128] hc ?_
 clear hc
 unfold Da at hm
 refine bg 72 [(0, .ptr (some (bp0, 0))), (1, .str p1), (2, Ai p2), (3, .map (some bp3))] fun fr H => ?_
 refine AG 1 ?_
 obtain ⟨h1, e1, A⟩ := A.pu (.cells none 2 [Ai 0, Ai 0])
 refine BC 8 (.ptr (some (h.size, 0))) e1 H fun fr t H => ?_
 refine BB id (AQ (AG 7 (AF 3 [(16, .bool (p1 == ([] : List UInt8)))] H fun fr H => ?_)))
 obtain ⟨x1, ho, hm⟩ := bind_some hm
 refine An 4 (fun fr' h' => Has fr' 72 [(0, .ptr (some (bp0, 0))), (1, .str p1), (2, Ai p2), (3, .map (some bp3)), (8, .ptr (some (h.size, 0))), (20, .bool x1)] ∧ HH g h' [.obj h.size (.cells none 2 [Ai 0, Ai 0]), .obj bp0 (.cells none 2 [AI rp0_0 p0.c_.Ah.length, AI rp0_1 p0.c_.Aj.length, AI rp0_2 p0.c_.Bl.length, .bool p0.c_.Ho, .bool p0.c_.BP, Ai p0.c_.Bm, .bool p0.c_.CC, Ai p0.c_.BD.DF, Ai p0.c_.BD.Bp, Ai p0.c_.HG, Ai p0.c_.B3, Ai p0.c_.Name, Ai p0.c_.Head, Ai p0.c_.Bd, .str p0.Ar.Text, .bool p0.Ar.Bh, .bool p0.Ar.Fold, .bool p0.Ar.Ax, .str p0.GK, Ai p0.at_, .map (some bp0_20)]), .AL rp0_0 31 (AL AE p0.c_.Ah), .AL rp0_1 31 (AL AE p0.c_.Aj), .AL rp0_2 135 (AL AJ p0.c_.Bl), .obj bp0_20 (.map 2 (BR (fun k : List UInt8 => .str k) (fun v : Bool => .bool v) p0.Bk)), .obj bp3 (.map 2 LA.NJ)] F) ?_ ?_
 ·rcases AU ho with ⟨hb, hm⟩ | ⟨hb, hm⟩
  ·replace H := H.kn 16 hb
   refine AF 4 [(20, .bool true)] H fun fr H => ?_
   obtain rfl := Aa hm
   exact at_nil ⟨H.ls, A⟩
  replace H := H.kn 16 hb
  obtain ⟨x2, hx, hm⟩ := bind_some hm
  refine As 1 [] 18 (Ab x2) h1 H (fun fr => .of (G4 (by kernel_rfl) hx)) fun fr t H => ?_
  refine AF 2 [(20, .bool (x2 == 35))] H fun fr H => ?_
  obtain rfl := Aa hm
  exact at_nil ⟨H.ls, A⟩
 clear A
 intro t fr h2 hK
 obtain ⟨H, A⟩ := hK
 refine BB id (Ak 20 H hm (fun hb hm H => ?_) fun hb hm H => ?_)
 ·refine AG 2 ?_
  obtain ⟨x3, hx, hm⟩ := bind_some hm
  obtain ⟨v1, h3, hr, rfl, A1⟩ := Gu (av := []) hx (A.cut 0)
  replace A := A.EV A1
  refine Ay 21 hr H fun fr t H => ?_
  obtain ⟨h4, hx, A⟩ := A.s0 0 [Ai x3.e_, Ai x3.at_] [_, _]
  refine Ev hx H fun fr t H => ?_
  refine BB id (AS ?_)
  obtain ⟨rfl, rfl, rfl, rfl⟩ := J9 hm
  refine ⟨.inl rfl, .agg [Ai x3.e_, Ai x3.at_], DJ (.cell (rT H) (BS (by kernel_rfl) (by kernel_rfl) (A.la 0 0 2)) .nil), ?_⟩
  replace A := A.k6 1 2 3 4 5 6
  exact ⟨rp0_1, rfl, A⟩
 refine Cm 9 id ?_
 obtain ⟨hb, hm⟩ := BZ hm
 refine As 1 [] 24 (.tuple [.str ((Lib.cut p1 ([32] : List UInt8)).1), .str ((Lib.cut p1 ([32] : List UInt8)).2.1), .bool ((Lib.cut p1 ([32] : List UInt8)).2.2)]) h2 H (fun fr => Steps.call (by kernel_rfl) (Sd (C := cfg) (f := 61) (a := 0) (by kernel_rfl) (l := exts) rfl (by kernel_rfl) hb)) fun fr t H => ?_
 refine BT 7 [(9, .str ((Lib.cut p1 ([32] : List UInt8)).1)), (10, .str ((Lib.cut p1 ([32] : List UInt8)).2.1)), (11, .bool ((Lib.cut p1 ([32] : List UInt8)).2.2))] 9 H fun fr H => ?_
 rcases AU hm with ⟨hb, hm⟩ | ⟨hk1, hm⟩
 ·cases hm
 rcases AU hm with ⟨hb, hm⟩ | ⟨hk2, hm⟩
 ·cases hm
 rcases AU hm with ⟨hb, hm⟩ | ⟨hk3, hm⟩
 ·cases hm
 rcases AU hm with ⟨hb, hm⟩ | ⟨hk4, hm⟩
 ·cases hm
 rcases AU hm with ⟨hb, hm⟩ | ⟨hk5, hm⟩
 ·cases hm
 rcases AU hm with ⟨hb, hm⟩ | ⟨hk6, hm⟩
 ·cases hm
 rcases AU hm with ⟨hb, hm⟩ | ⟨hk7, hm⟩
 ·cases hm
 rcases AU hm with ⟨hb, hm⟩ | ⟨hk8, hm⟩
 ·refine As 2 [] 31 (.tuple [.agg [.bool true, .bool false, .func (.func 110) [] []], .bool true]) h2 H (fun fr => .of (RL (by kernel_rfl) (HH.UO (P := cfg.P) A 6 rfl (t := 123) (kt := 9) (et := 174) (by kernel_rfl) (by kernel_rfl) (s := ((Lib.cut p1 ([32] : List UInt8)).1)) (.EH hk1 (.EH hk2 (.EH hk3 (.EH hk4 (.EH hk5 (.EH hk6 (.EH hk7 (.hit hb))))))))))) fun fr t H => ?_
  obtain ⟨h5, e2, A⟩ := A.pu (.cells none 2 [.bool false, .bool false, .nilFunc])
  refine Gy 3 [(32, .agg [.bool true, .bool false, .func (.func 110) [] []]), (33, .bool true)] 12 (.ptr (some (h2.size, 0))) e2 H fun fr t H => ?_
  obtain ⟨h6, hx, A⟩ := A.s0 0 [.bool true, .bool false, .func (.func 110) [] []] [_, _, _]
  refine Ev hx H fun fr t H => ?_
  refine AN 1 [(13, .bool true)] H fun fr H => AQ (AG 20 (AR 5 [(36, .bool false), (37, .bool ((Lib.cut p1 ([32] : List UInt8)).2.2))] 39 0 0 A H fun fr t H => ?_))
  refine AF 3 [(42, .bool (!(((Lib.cut p1 ([32] : List UInt8)).2.2) == true)))] H fun fr H => An 11 (fun fr' h' => h6 = h' ∧ Has fr' 72 [(0, .ptr (some (bp0, 0))), (2, Ai p2), (8, .ptr (some (h.size, 0))), (9, .str ((Lib.cut p1 ([32] : List UInt8)).1)), (10, .str ((Lib.cut p1 ([32] : List UInt8)).2.1)), (12, .ptr (some (h2.size, 0))), (53, .bool ((!(((Lib.cut p1 ([32] : List UInt8)).2.2) == true)) || false))]) ?_ ?_
  ·cases hb : (!(((Lib.cut p1 ([32] : List UInt8)).2.2) == true) : Bool) with
   | true =>
    replace H := H.kn 42 hb
    exact AF 11 [(53, .bool true)] H fun fr H => AY H hb
   | false =>
    replace H := H.kn 42 hb
    refine AR 1 [] 44 0 1 A H fun fr t H => ?_
    exact AF 9 [(53, .bool false)] H fun fr H => AY H hb
  intro t fr h' hK
  obtain ⟨e, H⟩ := hK
  subst e
  refine BB id (Ak 53 H hm (fun hb hm H => ?_) fun hb hm H => ?_)
  ·refine AG 3 ?_
   obtain ⟨h7, hx, A⟩ := A.s1 0 [Ai 11, Ai p2] [_, _]
   refine EL 2 [] hx H fun fr t H => ?_
   refine BB id (AS ?_)
   obtain ⟨rfl, rfl, rfl, rfl⟩ := J9 hm
   refine ⟨.inl rfl, .agg [Ai 11, Ai p2], DJ (.cell (rT H) (BS (by kernel_rfl) (by kernel_rfl) (A.la 1 0 2)) .nil), ?_⟩
   replace A := A.k6 2 3 4 5 6 7
   exact ⟨rp0_1, rfl, A⟩
  refine Cm 6 id (AR 3 [] 59 2 20 A H fun fr t H => ?_)
  refine AF 1 [(60, .str ((Lib.cut p1 ([32] : List UInt8)).1))] H fun fr H => ?_
  obtain ⟨h8, hx, A1⟩ := HH.Tp (kt := 9) (et := 4) (ek := fun k : List UInt8 => .str k) (ev := fun v : Bool => .bool v) (Ob (by kernel_rfl)) A 6 rfl (t := 115) (by kernel_rfl) ((Lib.cut p1 ([32] : List UInt8)).1) true
  replace A : HH g h8 [_, _, _, _, _, _, .obj bp0_20 (.map 2 (BR (fun k : List UInt8 => .str k) (fun v : Bool => .bool v) (HB p0.Bk ((Lib.cut p1 ([32] : List UInt8)).1) true))), _] F := A1
  refine LR (.tuple []) h8 H (fun fr => .of (SD (by kernel_rfl) hx)) fun fr t H => ?_
  refine Cj 12 id (AR 1 [] 62 0 2 A H fun fr t H => ?_)
  replace A := A.k8 2 3 4 5 6 0 1 7
  obtain ⟨⟨x4, x5⟩, hx, hm⟩ := bind_some hm
  obtain ⟨v1, h9, hr, r1, rfl, A1⟩ := IY (av := [.ptr (some (bp0, 0)), .str ((Lib.cut p1 ([32] : List UInt8)).2.1), Ai p2, Ai (IntKind.i64.wrap ((IntKind.i64.wrap (p2 + (((Lib.cut p1 ([32] : List UInt8)).1).length : Int))) + 1))]) hx (A.cut 5)
  replace A : HH g h9 [.obj bp0 (.cells none 2 [_, AI r1 x5.length, _, _, _, _, _, _, _, _, _, _, _, _, _, _, _, _, _, _, _]), .AL rp0_0 31 (AL AE p0.c_.Ah), .AL r1 31 (AL AE x5), .AL rp0_2 135 (AL AJ p0.c_.Bl), .obj bp0_20 (.map 2 (BR (fun k : List UInt8 => .str k) (fun v : Bool => .bool v) (HB p0.Bk ((Lib.cut p1 ([32] : List UInt8)).1) true))), _, _, _] F := A.CL (n := 5) A1
  refine BH 8 [] 71 hr H fun fr t H => ?_
  obtain ⟨h10, hx, A⟩ := A.s6 0 [Ai x4.e_, Ai x4.at_] [_, _]
  refine Ev hx H fun fr t H => ?_
  refine BB id (AS ?_)
  obtain ⟨rfl, rfl, rfl, rfl⟩ := J9 hm
  refine ⟨.inl rfl, .agg [Ai x4.e_, Ai x4.at_], DJ (.cell (rT H) (BS (by kernel_rfl) (by kernel_rfl) (A.la 6 0 2)) .nil), ?_⟩
  replace A := A.k6 0 1 2 3 4 7
  exact ⟨r1, rfl, A⟩
 rcases AU hm with ⟨hb, hm⟩ | ⟨hk9, hm⟩
 ·cases hm
 rcases AU hm with ⟨hb, hm⟩ | ⟨hk10, hm⟩
 ·cases hm
 rcases AU hm with ⟨hb, hm⟩ | ⟨hk11, hm⟩
 ·cases hm
 rcases AU hm with ⟨hb, hm⟩ | ⟨hk12, hm⟩
 ·cases hm
 rcases AU hm with ⟨hb, hm⟩ | ⟨hk13, hm⟩
 ·cases hm
 rcases AU hm with ⟨hb, hm⟩ | ⟨hk14, hm⟩
 ·cases hm
 rcases AU hm with ⟨hb, hm⟩ | ⟨hk15, hm⟩
 ·refine As 2 [] 31 (.tuple [.agg [.bool true, .bool true, .func (.func 175) [] [.A7 [Ai (0 : Int)], .A7 [Ai (9999 : Int)], .A7 [.func (.func 123) [] []]]], .bool true]) h2 H (fun fr => .of (RL (by kernel_rfl) (HH.UO (P := cfg.P) A 6 rfl (t := 123) (kt := 9) (et := 174) (by kernel_rfl) (by kernel_rfl) (s := ((Lib.cut p1 ([32] : List UInt8)).1)) (.EH hk1 (.EH hk2 (.EH hk3 (.EH hk4 (.EH hk5 (.EH hk6 (.EH hk7 (.EH hk8 (.EH hk9 (.EH hk10 (.EH hk11 (.EH hk12 (.EH hk13 (.EH hk14 (.hit hb)))))))))))))))))) fun fr t H => ?_
  obtain ⟨h11, e3, A⟩ := A.pu (.cells none 2 [.bool false, .bool false, .nilFunc])
  refine Gy 3 [(32, .agg [.bool true, .bool true, .func (.func 175) [] [.A7 [Ai (0 : Int)], .A7 [Ai (9999 : Int)], .A7 [.func (.func 123) [] []]]]), (33, .bool true)] 12 (.ptr (some (h2.size, 0))) e3 H fun fr t H => ?_
  obtain ⟨h12, hx, A⟩ := A.s0 0 [.bool true, .bool true, .func (.func 175) [] [.A7 [Ai 0], .A7 [Ai 9999], .A7 [.func (.func 123) [] []]]] [_, _, _]
  refine Ev hx H fun fr t H => ?_
  refine AN 1 [(13, .bool true)] H fun fr H => AQ (AG 20 (AR 5 [(36, .bool false), (37, .bool ((Lib.cut p1 ([32] : List UInt8)).2.2))] 39 0 0 A H fun fr t H => ?_))
  refine AF 3 [(42, .bool (!(((Lib.cut p1 ([32] : List UInt8)).2.2) == true)))] H fun fr H => An 11 (fun fr' h' => h12 = h' ∧ Has fr' 72 [(0, .ptr (some (bp0, 0))), (2, Ai p2), (8, .ptr (some (h.size, 0))), (9, .str ((Lib.cut p1 ([32] : List UInt8)).1)), (10, .str ((Lib.cut p1 ([32] : List UInt8)).2.1)), (12, .ptr (some (h2.size, 0))), (53, .bool ((!(((Lib.cut p1 ([32] : List UInt8)).2.2) == true)) || ((D4 p0.Bk ((Lib.cut p1 ([32] : List UInt8)).1)).getD false)))]) ?_ ?_
  ·cases hb : (!(((Lib.cut p1 ([32] : List UInt8)).2.2) == true) : Bool) with
   | true =>
    replace H := H.kn 42 hb
    exact AF 11 [(53, .bool true)] H fun fr H => AY H hb
   | false =>
    replace H := H.kn 42 hb
    refine AR 1 [] 44 0 1 A H fun fr t H => ?_
    refine AR 4 [(45, .bool true)] 49 2 20 A H fun fr t H => ?_
    refine As 1 [] 51 (.bool ((D4 p0.Bk ((Lib.cut p1 ([32] : List UInt8)).1)).getD false)) h12 H (fun fr => .of (PE (by kernel_rfl) (HH.Qe (kt := 9) (et := 4) (ek := fun k : List UInt8 => .str k) (ev := fun v : Bool => .bool v) (Ob (by kernel_rfl)) A 6 rfl (t := 115) (by kernel_rfl) (z := false) (by kernel_rfl) ((Lib.cut p1 ([32] : List UInt8)).1)))) fun fr t H => ?_
    exact AF 2 [(53, .bool ((D4 p0.Bk ((Lib.cut p1 ([32] : List UInt8)).1)).getD false))] H fun fr H => AY H hb
  intro t fr h' hK
  obtain ⟨e, H⟩ := hK
  subst e
  refine BB id (Ak 53 H hm (fun hb hm H => ?_) fun hb hm H => ?_)
  ·refine AG 3 ?_
   obtain ⟨h13, hx, A⟩ := A.s1 0 [Ai 11, Ai p2] [_, _]
   refine EL 2 [] hx H fun fr t H => ?_
   refine BB id (AS ?_)
   obtain ⟨rfl, rfl, rfl, rfl⟩ := J9 hm
   refine ⟨.inl rfl, .agg [Ai 11, Ai p2], DJ (.cell (rT H) (BS (by kernel_rfl) (by kernel_rfl) (A.la 1 0 2)) .nil), ?_⟩
   replace A := A.k6 2 3 4 5 6 7
   exact ⟨rp0_1, rfl, A⟩
  refine Cm 6 id (AR 3 [] 59 2 20 A H fun fr t H => ?_)
  refine AF 1 [(60, .str ((Lib.cut p1 ([32] : List UInt8)).1))] H fun fr H => ?_
  obtain ⟨h14, hx, A1⟩ := HH.Tp (kt := 9) (et := 4) (ek := fun k : List UInt8 => .str k) (ev := fun v : Bool => .bool v) (Ob (by kernel_rfl)) A 6 rfl (t := 115) (by kernel_rfl) ((Lib.cut p1 ([32] : List UInt8)).1) true
  replace A : HH g h14 [_, _, _, _, _, _, .obj bp0_20 (.map 2 (BR (fun k : List UInt8 => .str k) (fun v : Bool => .bool v) (HB p0.Bk ((Lib.cut p1 ([32] : List UInt8)).1) true))), _] F := A1
  refine LR (.tuple []) h14 H (fun fr => .of (SD (by kernel_rfl) hx)) fun fr t H => ?_
  refine Cj 12 id (AR 1 [] 62 0 2 A H fun fr t H => ?_)
  replace A := A.k8 2 3 4 5 6 0 1 7
  obtain ⟨⟨x6, x7⟩, hx, hm⟩ := bind_some hm
  obtain ⟨v1, h15, hr, rfl, A1⟩ := GL (av := [.ptr (some (bp0, 0)), .str ((Lib.cut p1 ([32] : List UInt8)).2.1), Ai p2, Ai (IntKind.i64.wrap ((IntKind.i64.wrap (p2 + (((Lib.cut p1 ([32] : List UInt8)).1).length : Int))) + 1)), .A7 [Ai 0], .A7 [Ai 9999], .A7 [.func (.func 123) [] []]]) hx (A.cut 5)
  replace A : HH g h15 [.obj bp0 (.cells none 2 [_, _, _, .bool x7.c_.Ho, .bool x7.c_.BP, Ai x7.c_.Bm, .bool x7.c_.CC, Ai x7.c_.BD.DF, Ai x7.c_.BD.Bp, Ai x7.c_.HG, Ai x7.c_.B3, Ai x7.c_.Name, Ai x7.c_.Head, Ai x7.c_.Bd, .str x7.Ar.Text, .bool x7.Ar.Bh, .bool x7.Ar.Fold, .bool x7.Ar.Ax, .str x7.GK, Ai x7.at_, _]), .AL rp0_0 31 (AL AE p0.c_.Ah), .AL rp0_1 31 (AL AE p0.c_.Aj), .AL rp0_2 135 (AL AJ p0.c_.Bl), .obj bp0_20 (.map 2 (BR (fun k : List UInt8 => .str k) (fun v : Bool => .bool v) (HB p0.Bk ((Lib.cut p1 ([32] : List UInt8)).1) true))), _, _, _] F := A.CL (n := 5) A1
  refine BH 8 [] 71 hr H fun fr t H => ?_
  obtain ⟨h16, hx, A⟩ := A.s6 0 [Ai x6.e_, Ai x6.at_] [_, _]
  refine Ev hx H fun fr t H => ?_
  refine BB id (AS ?_)
  obtain ⟨rfl, rfl, rfl, rfl⟩ := J9 hm
  refine ⟨.inl rfl, .agg [Ai x6.e_, Ai x6.at_], DJ (.cell (rT H) (BS (by kernel_rfl) (by kernel_rfl) (A.la 6 0 2)) .nil), ?_⟩
  replace A := A.k6 0 1 2 3 4 7
  exact ⟨rp0_1, rfl, A⟩
 rcases AU hm with ⟨hb, hm⟩ | ⟨hk16, hm⟩
 ·cases hm
 rcases AU hm with ⟨hb, hm⟩ | ⟨hk17, hm⟩
 ·cases hm
 rcases AU hm with ⟨hb, hm⟩ | ⟨hk18, hm⟩
 ·cases hm
 rcases AU hm with ⟨hb, hm⟩ | ⟨hk19, hm⟩
 ·cases hm
 refine As 2 [] 31 (.tuple [.agg [.bool false, .bool false, .nilFunc], .bool false]) h2 H (fun fr => .of (RL (by kernel_rfl) (HH.VA (P := cfg.P) A 6 rfl (t := 123) (kt := 9) (et := 174) (by kernel_rfl) (by kernel_rfl) (z := .agg [.bool false, .bool false, .nilFunc]) (by kernel_rfl) (s := ((Lib.cut p1 ([32] : List UInt8)).1)) (.EH hk1 (.EH hk2 (.EH hk3 (.EH hk4 (.EH hk5 (.EH hk6 (.EH hk7 (.EH hk8 (.EH hk9 (.EH hk10 (.EH hk11 (.EH hk12 (.EH hk13 (.EH hk14 (.EH hk15 (.EH hk16 (.EH hk17 (.EH hk18 (.EH hk19 (.nil))))))))))))))))))))))) fun fr t H => ?_
 obtain ⟨h17, e4, A⟩ := A.pu (.cells none 2 [.bool false, .bool false, .nilFunc])
 refine Gy 3 [(32, .agg [.bool false, .bool false, .nilFunc]), (33, .bool false)] 12 (.ptr (some (h2.size, 0))) e4 H fun fr t H => ?_
 obtain ⟨h18, hx, A⟩ := A.s0 0 [.bool false, .bool false, .nilFunc] [_, _, _]
 refine Ev hx H fun fr t H => ?_
 refine AN 1 [(13, .bool false)] H fun fr H => AQ (AG 20 (AN 20 [(53, .bool true)] H fun fr H => Dd (x := .tmp 53) (by kernel_rfl) H (fun fr => by kernel_rfl) ?_))
 refine AG 3 ?_
 obtain ⟨h19, hx, A⟩ := A.s1 0 [Ai 11, Ai p2] [_, _]
 refine EL 2 [] hx H fun fr t H => ?_
 refine BB id (AS ?_)
 obtain ⟨rfl, rfl, rfl, rfl⟩ := J9 hm
 refine ⟨.inl rfl, .agg [Ai 11, Ai p2], DJ (.cell (rT H) (BS (by kernel_rfl) (by kernel_rfl) (A.la 1 0 2)) .nil), ?_⟩
 replace A := A.k6 2 3 4 5 6 7
 exact ⟨rp0_1, rfl, A⟩
def DC (p0 : Int) (p1 : Int) (p2 : Int) : Option (Bool) :=
 some ((decide (p0 ≥ p1)) && (decide (p0 ≤ p2)))
theorem Ds {p0 p1 p2 q0} (hm : DC p0 p1 p2 = some q0) (A : HH g h [] F) (hc : BI (cfg.still 64) av = [Ai p0, Ai p1, Ai p2] := by kernel_rfl) : ∃ v h', BL cfg g h 64 av v h' ∧ v = .bool q0 ∧ HH g h' [] F := by
 refine D5 15 [.tmp 6] hc ?_
 clear hc
 unfold DC at hm
 refine bg 15 [(0, Ai p0), (1, Ai p1), (2, Ai p2)] fun fr H => ?_
 refine AG 1 (BT 1 [] 9 H fun fr H => AF 4 [(10, .bool (decide (p0 ≥ p1)))] H fun fr H => An 4 (fun fr' h' => h = h' ∧ Has fr' 15 [(14, .bool ((decide (p0 ≥ p1)) && (decide (p0 ≤ p2))))]) ?_ ?_)
 ·cases hb : (decide (p0 ≥ p1) : Bool) with
  | true =>
   replace H := H.kn 10 hb
   exact AF 4 [(14, .bool (decide (p0 ≤ p2)))] H fun fr H => AY H hb
  | false =>
   replace H := H.kn 10 hb
   exact AF 4 [(14, .bool false)] H fun fr H => AY H hb
 intro t fr h' hK
 obtain ⟨e, H⟩ := hK
 subst e
 refine AN 1 [(6, .bool ((decide (p0 ≥ p1)) && (decide (p0 ≤ p2))))] H fun fr H => AS ?_
 obtain rfl := Aa hm
 exact ⟨.inl rfl, _, rH H, rfl, A⟩
end
end Go.Av.L
