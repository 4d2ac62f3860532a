/-
 Models of functions, and that the abstract run tells them. Written by lift2.py.
-/
import Derived.Test.YthnnciphldbmeaaGreatDoorKCfg
namespace Go.Av.L
open Go.Av Go.Lib
set_option maxRecDepth 10000
set_option maxHeartbeats 4000000
set_option linter.unusedVariables false
set_option linter.unusedSimpArgs false
variable {g : Gd} {h : AH} {F : List Ck} {av : List AA}
noncomputable section
def H6 (p0 : B1) : Option (B1) :=
 Em (Nd 24 p0.Ak.length) <| Em (Nd 24 p0.Al.length) <| Em (Nd 56 p0.Br.length) <| some p0
theorem Nf {p0 q0} (hm : H6 p0 = some q0) (A : HH g h [] F) (hc : BF (cfg.still 30) av = [.agg (AS p0)] := by kernel_rfl) : ∃ v h', BL cfg g h 30 av v h' ∧ v = .agg (AS q0) ∧ HH g h' [] F := by
 refine Dr 16 [.cell 2 29] hc ?_
 clear hc
 unfold H6 at hm
 refine bg 16 [(0, .agg (AS p0))] fun fr H => ?_
 refine AG 2 ?_
 obtain ⟨h1, e1, A⟩ := A.pu (.cells none 2 (AS p0))
 refine BB 1 (.ptr (some (h.size, 0))) e1 H fun fr t H => ?_
 obtain ⟨h2, e2, A⟩ := A.pu (.cells none 2 [.slice none 0, .slice none 0, .slice none 0, .bool false, .bool false, Ai 0, .bool false, Ai 0, Ai 0, Ai 0, Ai 0, Ai 0, Ai 0, Ai 0])
 refine BB 2 (.ptr (some (h1.size, 0))) e2 H fun fr t H => ?_
 refine BJ id (AQ (L0 1 15 [(0, []), (1, []), (3, []), (4, []), (6, []), (7, []), (2, [4, 7]), (5, [7]), (8, []), (9, []), (10, []), (11, []), (12, []), (13, []), (14, [])] ?_))
 refine AK 1 [(3, .ptr (some (h.size, 0)))] H fun fr H => DE 4 (vs AE p0.Ak) h2 [(1, h.size)] (g.Bq) H (fun fr => .of (Da (by kernel_rfl) (A.l1 1 0))) (fun fr H => ?_)
 refine AK 1 [(6, .ptr (some (h.size, 1)))] H fun fr H => DE 7 (vs AE p0.Al) h2 [(4, h.size), (1, h.size)] (g.Bq) H (fun fr => .of (Da (by kernel_rfl) (A.l1 1 1))) (fun fr H => ?_)
 refine AK 1 [(9, .ptr (some (h.size, 2)))] H fun fr H => DE 10 (vs AJ p0.Br) h2 [(7, h.size), (4, h.size), (1, h.size)] (g.Bq) H (fun fr => .of (Da (by kernel_rfl) (A.l1 1 2))) (fun fr H => ?_)
 have A1 := A.J1 0 (pr := [h.size, h.size]) (.cons 1 rfl (by simp [Ck.ids]) (.cons 1 rfl (by simp [Ck.ids]) .nil))
 obtain ⟨hb, hm⟩ := BE hm
 refine DE 5 (vs AE p0.Ak) h2 [(7, h.size), (4, h.size), (1, h.size)] (h.size :: h.size :: g.Bq) H (fun fr => Steps.call (by kernel_rfl) (Gj (C := cfg) (f := 66) (a := 0) (t := 31) (xs := p0.Ak) B4 (by decide) (by kernel_rfl) (l := exts) rfl (by kernel_rfl) (by kernel_rfl) rfl (K3 B4 _ p0.Ak) (B4.BF _) hb)) (fun fr H => ?_)
 have A1 := A.J1 0 (pr := [h.size]) (.cons 1 rfl (by simp [Ck.ids]) .nil)
 obtain ⟨hb, hm⟩ := BE hm
 refine DE 8 (vs AE p0.Al) h2 [(7, h.size), (4, h.size), (1, h.size)] (h.size :: g.Bq) H (fun fr => Steps.call (by kernel_rfl) (Gj (C := cfg) (f := 66) (a := 0) (t := 31) (xs := p0.Al) B4 (by decide) (by kernel_rfl) (l := exts) rfl (by kernel_rfl) (by kernel_rfl) rfl (K3 B4 _ p0.Al) (B4.BF _) hb)) (fun fr H => ?_)
 have A1 := A.cut 0
 obtain ⟨hb, hm⟩ := BE hm
 refine DE 11 (vs AJ p0.Br) h2 [(7, h.size), (4, h.size), (1, h.size)] (g.Bq) H (fun fr => Steps.call (by kernel_rfl) (Gj (C := cfg) (f := 67) (a := 0) (t := 135) (xs := p0.Br) EK (by decide) (by kernel_rfl) (l := exts) rfl (by kernel_rfl) (by kernel_rfl) rfl (K3 EK _ p0.Br) (EK.BF _) hb)) (fun fr H => ?_)
 refine AK 1 [(12, .ptr (some (h.size, 0)))] H fun fr H => ?_
 obtain ⟨h6, hx, A1⟩ := A.st 1 rfl (o := 0) (new := [vs AE p0.Ak]) (ds := (AS p0)) (Nat.le_of_ble_eq_true rfl) rfl rfl
 replace A : HH g h6 [.obj h1.size (.cells none 2 [.slice none 0, .slice none 0, .slice none 0, .bool false, .bool false, Ai 0, .bool false, Ai 0, Ai 0, Ai 0, Ai 0, Ai 0, Ai 0, Ai 0]), .obj h.size (.cells none 2 (AS p0))] F := A1
 refine Kv (.tuple []) h6 [(7, h.size), (4, h.size), (1, h.size)] (g.Bq) H (fun fr => .of (OU (by kernel_rfl) rfl hx)) (fun fr H => ?_)
 refine AK 1 [(13, .ptr (some (h.size, 1)))] H fun fr H => ?_
 obtain ⟨h7, hx, A⟩ := A.s1 1 [vs AE p0.Al] [_, _, _, _, _, _, _, _, _, _, _, _, _, _]
 refine Kv (.tuple []) h7 [(7, h.size), (4, h.size), (1, h.size)] (g.Bq) H (fun fr => .of (OU (by kernel_rfl) rfl hx)) (fun fr H => ?_)
 refine AK 1 [(14, .ptr (some (h.size, 2)))] H fun fr H => ?_
 obtain ⟨h8, hx, A⟩ := A.s1 2 [vs AJ p0.Br] [_, _, _, _, _, _, _, _, _, _, _, _, _, _]
 refine Kv (.tuple []) h8 [(7, h.size), (4, h.size), (1, h.size)] (g.Bq) H (fun fr => .of (OU (by kernel_rfl) rfl hx)) (fun fr H => ?_)
 refine CX 2 id (Aq 15 _ _ H (fun fr => .of (CG (by kernel_rfl) (A.HG 1 rfl (o := 0) (n := 14) ⟨Nat.le_of_ble_eq_true rfl, rfl⟩))) fun fr t H => ?_)
 obtain ⟨h9, hx, A⟩ := A.s0 0 (AS p0) [_, _, _, _, _, _, _, _, _, _, _, _, _, _]
 refine F4 hx H fun fr t H => ?_
 refine BJ id (AU ?_)
 obtain rfl := AY hm
 refine ⟨.inl rfl, .agg (AS p0), EL (.cell (rT H) (By (by kernel_rfl) (by kernel_rfl) (A.la 0 0 14)) .nil), ?_⟩
 replace A := A.d0
 exact ⟨rfl, A⟩
def Jd (p0 : Int) : Option (Int) :=
 Aa ((decide ((Np .u8 p0 (32 : Int)) ≥ 97)) && (decide ((Np .u8 p0 (32 : Int)) ≤ 122))) (some (Xs .u8 p0 (32 : Int))) (some p0)
theorem On {p0 q0} (hm : Jd p0 = some q0) (A : HH g h [] F) (hc : BF (cfg.still 336) av = [Ab p0] := by kernel_rfl) : ∃ v h', BL cfg g h 336 av v h' ∧ v = Ab q0 ∧ HH g h' [] F := by
 refine Dr 15 [.tmp 2] hc ?_
 clear hc
 unfold Jd at hm
 refine bg 15 [(0, Ab p0)] fun fr H => ?_
 refine AG 1 (AO 1 [] H fun fr H => AQ (AG 3 (Bc 3 [(3, Ab (Np .u8 p0 (32 : Int)))] 6 H fun fr H => AK 3 [(8, .bool (decide ((Np .u8 p0 (32 : Int)) ≥ 97)))] H fun fr H => A9 3 (fun fr' h' => h = h' ∧ Has fr' 15 [(0, Ab p0), (11, .bool ((decide ((Np .u8 p0 (32 : Int)) ≥ 97)) && (decide ((Np .u8 p0 (32 : Int)) ≤ 122))))]) ?_ ?_)))
 ·cases hb : (decide ((Np .u8 p0 (32 : Int)) ≥ 97) : Bool) with
  | true =>
   replace H := H.kn 8 hb
   exact AK 3 [(11, .bool (decide ((Np .u8 p0 (32 : Int)) ≤ 122)))] H fun fr H => BH H hb
  | false =>
   replace H := H.kn 8 hb
   exact AK 3 [(11, .bool false)] H fun fr H => BH H hb
 intro t fr h' hK
 obtain ⟨e, H⟩ := hK
 subst e
 refine BJ id (Ad 11 H hm (fun hb hm H => ?_) fun hb hm H => ?_)
 ·refine AG 3 (AO 3 [(2, Ab (Xs .u8 p0 (32 : Int)))] H fun fr H => AU ?_)
  obtain rfl := AY hm
  exact ⟨.inl rfl, _, rH H, rfl, A⟩
 refine Ce 2 id (AO 2 [(2, Ab p0)] H fun fr H => AU ?_)
 obtain rfl := AY hm
 exact ⟨.inl rfl, _, rH H, rfl, A⟩
def Ej (p0 : EA) (p1 : Int) : Option (Bool) :=
 some (p0.Aw || (p1 != 47))
theorem Gh {p0 p1 q0} (hm : Ej p0 p1 = some q0) (A : HH g h [] F) (hc : BF (cfg.still 314) av = [.agg [.bool p0.Fold, .bool p0.Aw], Ab p1] := by kernel_rfl) : ∃ v h', BL cfg g h 314 av v h' ∧ v = .bool q0 ∧ HH g h' [] F := by
 refine Dr 11 [.tmp 4] hc ?_
 clear hc
 unfold Ej at hm
 refine bg 11 [(0, .agg [.bool p0.Fold, .bool p0.Aw]), (1, Ab p1)] fun fr H => ?_
 refine AG 2 ?_
 obtain ⟨h1, e1, A⟩ := A.pu (.cells none 2 [.bool p0.Fold, .bool p0.Aw])
 refine BB 2 (.ptr (some (h.size, 0))) e1 H fun fr t H => ?_
 refine Bc 1 [] 7 H fun fr H => Ag 1 [] 6 0 1 A H fun fr t H => ?_
 refine AK 1 [(7, .bool p0.Aw)] H fun fr H => A9 3 (fun fr' h' => h1 = h' ∧ Has fr' 11 [(10, .bool (p0.Aw || (p1 != 47)))]) ?_ ?_
 ·cases hb : (p0.Aw : Bool) with
  | true =>
   replace H := H.kn 7 hb
   exact AK 3 [(10, .bool true)] H fun fr H => BH H hb
  | false =>
   replace H := H.kn 7 hb
   exact AK 3 [(10, .bool (p1 != 47))] H fun fr H => BH H hb
 intro t fr h' hK
 obtain ⟨e, H⟩ := hK
 subst e
 refine AO 1 [(4, .bool (p0.Aw || (p1 != 47)))] H fun fr H => AU ?_
 obtain rfl := AY hm
 refine ⟨.inl rfl, .bool (p0.Aw || (p1 != 47)), rH H, ?_⟩
 replace A := A.d0
 exact ⟨rfl, A⟩
def Ga (p0 : BG) (p1 : Int) : Option (Bool) :=
 (Fc ([p0.w0, p0.w1, p0.w2, p0.w3] : List Int) (B3 .u8 p1 (6 : Int))).bind fun x1 => Em (decide (0 ≤ (CM .u8 p1 (63 : Int)))) <| some ((CM .u64 (B3 .u64 x1 (CM .u8 p1 (63 : Int))) (1 : Int)) == 1)
theorem J3 {p0 p1 q0} (hm : Ga p0 p1 = some q0) (A : HH g h [] F) (hc : BF (cfg.still 262) av = [.agg (EI p0), Ab p1] := by kernel_rfl) : ∃ v h', BL cfg g h 262 av v h' ∧ v = .bool q0 ∧ HH g h' [] F := by
 refine Dr 14 [.tmp 4] hc ?_
 clear hc
 unfold Ga at hm
 refine bg 14 [(0, .agg (EI p0)), (1, Ab p1)] fun fr H => ?_
 refine AG 2 ?_
 obtain ⟨h1, e1, A⟩ := A.pu (.cells none 2 (EI p0))
 refine BB 2 (.ptr (some (h.size, 0))) e1 H fun fr t H => ?_
 refine Bc 1 [] 10 H fun fr H => ?_
 obtain ⟨x1, hq1, hm⟩ := bind_some hm
 refine Ap 2 [] 7 (.ptr (some (h.size, 0 + (B3 .u8 p1 (6 : Int)).toNat * 1))) h1 H (fun fr => .of (QS (by kernel_rfl) (Wy hq1 (h.size, 0) 1 rfl))) fun fr t H => ?_
 refine Aq 8 _ _ H (fun fr => .of (Da (by kernel_rfl) (HH.ZK A 0 rfl 0 (fun w : Int => Au w) [p0.w0, p0.w1, p0.w2, p0.w3] rfl hq1))) fun fr t H => ?_
 refine AK 2 [(10, Ab (CM .u8 p1 (63 : Int)))] H fun fr H => ?_
 obtain ⟨hb, hm⟩ := BE hm
 refine Aq 11 (Au (B3 .u64 x1 (CM .u8 p1 (63 : Int)))) h1 H (fun fr => .of (Tc (by kernel_rfl) hb)) fun fr t H => ?_
 refine AO 3 [(4, .bool ((CM .u64 (B3 .u64 x1 (CM .u8 p1 (63 : Int))) (1 : Int)) == 1))] H fun fr H => AU ?_
 obtain rfl := AY hm
 refine ⟨.inl rfl, .bool ((CM .u64 (B3 .u64 x1 (CM .u8 p1 (63 : Int))) (1 : Int)) == 1), rH H, ?_⟩
 replace A := A.d0
 exact ⟨rfl, A⟩
def HU (p0 : BG) : Option (BG) :=
 some (⟨p0.w0, Np .u64 p0.w1 (Np .u64 (Ki .u64 (CM .u64 p0.w1 (134217726 : Int)) (32 : Int)) (B3 .u64 (CM .u64 p0.w1 (576460743713488896 : Int)) (32 : Int))), p0.w2, p0.w3⟩ : BG)
theorem Mw {p0 q0} (hm : HU p0 = some q0) (A : HH g h [] F) (hc : BF (cfg.still 192) av = [.agg (EI p0)] := by kernel_rfl) : ∃ v h', BL cfg g h 192 av v h' ∧ v = .agg (EI q0) ∧ HH g h' [] F := by
 refine Dr 17 [.cell 2 262] hc ?_
 clear hc
 unfold HU at hm
 refine bg 17 [(0, .agg (EI p0))] fun fr H => ?_
 refine AG 2 ?_
 obtain ⟨h1, e1, A⟩ := A.pu (.cells none 2 (EI p0))
 refine BB 1 (.ptr (some (h.size, 0))) e1 H fun fr t H => ?_
 obtain ⟨h2, e2, A⟩ := A.pu (.cells none 2 [Au 0, Au 0, Au 0, Au 0])
 refine BB 2 (.ptr (some (h1.size, 0))) e2 H fun fr t H => ?_
 refine CX 14 id (Ag 1 [] 4 1 1 A H fun fr t H => ?_)
 refine Ag 1 [] 6 1 1 A H fun fr t H => ?_
 refine Ag 3 [(8, Au (Ki .u64 (CM .u64 p0.w1 (134217726 : Int)) (32 : Int)))] 10 1 1 A H fun fr t H => ?_
 obtain ⟨h3, hx, A1⟩ := A.st 1 rfl (o := 1) (new := [Au (Np .u64 p0.w1 (Np .u64 (Ki .u64 (CM .u64 p0.w1 (134217726 : Int)) (32 : Int)) (B3 .u64 (CM .u64 p0.w1 (576460743713488896 : Int)) (32 : Int))))]) (ds := (JO p0 (Au (Np .u64 p0.w1 (Np .u64 (Ki .u64 (CM .u64 p0.w1 (134217726 : Int)) (32 : Int)) (B3 .u64 (CM .u64 p0.w1 (576460743713488896 : Int)) (32 : Int))))))) (Nat.le_of_ble_eq_true rfl) rfl rfl
 replace A : HH g h3 [.obj h1.size (.cells none 2 [Au 0, Au 0, Au 0, Au 0]), .obj h.size (.cells none 2 (JO p0 (Au (Np .u64 p0.w1 (Np .u64 (Ki .u64 (CM .u64 p0.w1 (134217726 : Int)) (32 : Int)) (B3 .u64 (CM .u64 p0.w1 (576460743713488896 : Int)) (32 : Int)))))))] F := A1
 refine FJ 5 [] hx H fun fr t H => ?_
 refine CX 2 id (Aq 16 _ _ H (fun fr => .of (CG (by kernel_rfl) (A.HG 1 rfl (o := 0) (n := 4) ⟨Nat.le_of_ble_eq_true rfl, rfl⟩))) fun fr t H => ?_)
 obtain ⟨h4, hx, A⟩ := A.s0 0 (JO p0 (Au (Np .u64 p0.w1 (Np .u64 (Ki .u64 (CM .u64 p0.w1 (134217726 : Int)) (32 : Int)) (B3 .u64 (CM .u64 p0.w1 (576460743713488896 : Int)) (32 : Int)))))) [_, _, _, _]
 refine F4 hx H fun fr t H => ?_
 refine BJ id (AU ?_)
 obtain rfl := AY hm
 refine ⟨.inl rfl, .agg (JO p0 (Au (Np .u64 p0.w1 (Np .u64 (Ki .u64 (CM .u64 p0.w1 (134217726 : Int)) (32 : Int)) (B3 .u64 (CM .u64 p0.w1 (576460743713488896 : Int)) (32 : Int)))))), EL (.cell (rT H) (By (by kernel_rfl) (by kernel_rfl) (A.la 0 0 4)) .nil), ?_⟩
 replace A := A.d0
 exact ⟨rfl, A⟩
def HR (p0 : EA) (p1 : AP) (p2 : Int) : Option (Bool) :=
 Aa (p1.Kind == 1) ((Aa (p2 == p1.B) (some true) ((Aa p0.Fold ((Jd p1.B).bind fun x3 => some (p2 == x3)) (some false) : Option (Bool)).bind fun x2 => some x2) : Option (Bool)).bind fun x1 => some x1) (Aa (p1.Kind == 2) ((Ej p0 p2).bind fun x4 => some x4) (Aa (p1.Kind == 3) ((Ej p0 p2).bind fun x5 => (Aa x5 ((Ga p1.Set p2).bind fun x7 => (Aa x7 (some true) ((Aa p0.Fold ((HU p1.Set).bind fun x10 => (Ga x10 p2).bind fun x11 => some x11) (some false) : Option (Bool)).bind fun x9 => some x9) : Option (Bool)).bind fun x8 => some x8) (some false) : Option (Bool)).bind fun x6 => some x6) (some false)))
theorem Mi {p0 p1 p2 q0} (hm : HR p0 p1 p2 = some q0) (A : HH g h [] F) (hc : BF (cfg.still 313) av = [.agg [.bool p0.Fold, .bool p0.Aw], .agg (AM p1), Ab p2] := by kernel_rfl) : ∃ v h', BL cfg g h 313 av v h' ∧ v = .bool q0 ∧ HH g h' [] F := by
 refine Dr 53 [.tmp 6] hc ?_
 clear hc
 unfold HR at hm
 refine bg 53 [(0, .agg [.bool p0.Fold, .bool p0.Aw]), (1, .agg (AM p1)), (2, Ab p2)] fun fr H => ?_
 refine AG 3 ?_
 obtain ⟨h1, e1, A⟩ := A.pu (.cells none 2 [.bool p0.Fold, .bool p0.Aw])
 refine BB 3 (.ptr (some (h.size, 0))) e1 H fun fr t H => ?_
 obtain ⟨h2, e2, A⟩ := A.pu (.cells none 2 (AM p1))
 refine BB 4 (.ptr (some (h1.size, 0))) e2 H fun fr t H => ?_
 refine AO 1 [] H fun fr H => AQ (AG 2 (Ag 1 [] 8 0 0 A H fun fr t H => ?_))
 refine BJ id (AV (id := 0) (by kernel_rfl) ?_)
 refine AG 2 (AO 2 [(9, .bool (p1.Kind == 1))] H fun fr H => Ad 9 H hm (fun hb hm H => ?_) fun hb hm H => ?_)
 ·refine AG 16 (Ag 2 [(11, Ab p2)] 13 0 1 A H fun fr t H => ?_)
  refine AK 2 [(15, .bool (p2 == p1.B))] H fun fr H => ?_
  obtain ⟨x1, ho, hm⟩ := bind_some hm
  refine A9 10 (fun fr' h' => Has fr' 53 [(25, .bool x1)] ∧ HH g h' [.obj h1.size (.cells none 2 (AM p1)), .obj h.size (.cells none 2 [.bool p0.Fold, .bool p0.Aw])] F) ?_ ?_
  ·rcases AX ho with ⟨hb, hm⟩ | ⟨hb, hm⟩
   ·replace H := H.kn 15 hb
    refine AK 10 [(25, .bool true)] H fun fr H => ?_
    obtain rfl := AY hm
    exact at_nil ⟨H.ls, A⟩
   replace H := H.kn 15 hb
   refine Ag 1 [] 17 1 0 A H fun fr t H => ?_
   refine AK 1 [(18, .bool p0.Fold)] H fun fr H => ?_
   obtain ⟨x2, ho, hm⟩ := bind_some hm
   refine A9 6 (fun fr' h' => Has fr' 53 [(15, .bool false), (24, .bool x2)] ∧ HH g h' [.obj h1.size (.cells none 2 (AM p1)), .obj h.size (.cells none 2 [.bool p0.Fold, .bool p0.Aw])] F) ?_ ?_
   ·rcases AX ho with ⟨hb, hm⟩ | ⟨hb, hm⟩
    ·replace H := H.kn 18 hb
     refine Ag 2 [(19, Ab p2)] 21 0 1 A H fun fr t H => ?_
     obtain ⟨x3, hx, hm⟩ := bind_some hm
     obtain ⟨v1, h5, hr, rfl, A1⟩ := On (av := [Ab p1.B]) hx (A.cut 0)
     replace A : HH g h5 [.obj h1.size (.cells none 2 (AM p1)), .obj h.size (.cells none 2 [.bool p0.Fold, .bool p0.Aw])] F := A.CY (n := 0) A1
     refine BA 22 hr H fun fr t H => ?_
     refine AK 2 [(24, .bool (p2 == x3))] H fun fr H => ?_
     obtain rfl := AY hm
     exact at_nil ⟨H.ls, A⟩
    replace H := H.kn 18 hb
    refine AK 6 [(24, .bool false)] H fun fr H => ?_
    obtain rfl := AY hm
    exact at_nil ⟨H.ls, A⟩
   clear A
   intro t fr h4 hK
   obtain ⟨H, A⟩ := hK
   refine AK 1 [(25, .bool x2)] H fun fr H => ?_
   obtain rfl := AY hm
   exact at_nil ⟨H.ls, A⟩
  clear A
  intro t fr h3 hK
  obtain ⟨H, A⟩ := hK
  refine AO 1 [(6, .bool x1)] H fun fr H => AU ?_
  obtain rfl := AY hm
  refine ⟨.inl rfl, .bool x1, rH H, ?_⟩
  replace A := A.d0
  exact ⟨rfl, A⟩
 refine AG 2 (AO 2 [(26, .bool (p1.Kind == 2))] H fun fr H => Ad 26 H hm (fun hb hm H => ?_) fun hb hm H => ?_)
 ·refine AG 4 (Aq 28 _ _ H (fun fr => .of (CG (by kernel_rfl) (A.HG 1 rfl (o := 0) (n := 2) ⟨Nat.le_of_ble_eq_true rfl, rfl⟩))) fun fr t H => ?_)
  obtain ⟨x4, hx, hm⟩ := bind_some hm
  obtain ⟨v1, h6, hr, rfl, A1⟩ := Gh (av := [.agg [.bool p0.Fold, .bool p0.Aw], Ab p2]) hx (A.cut 0)
  replace A : HH g h6 [.obj h1.size (.cells none 2 (AM p1)), .obj h.size (.cells none 2 [.bool p0.Fold, .bool p0.Aw])] F := A.CY (n := 0) A1
  refine A0 1 [] 30 hr H fun fr t H => ?_
  refine AO 1 [(6, .bool x4)] H fun fr H => AU ?_
  obtain rfl := AY hm
  refine ⟨.inl rfl, .bool x4, rH H, ?_⟩
  replace A := A.d0
  exact ⟨rfl, A⟩
 refine AG 2 (AO 2 [(31, .bool (p1.Kind == 3))] H fun fr H => Ad 31 H hm (fun hb hm H => ?_) fun hb hm H => ?_)
 ·refine AG 21 (Aq 33 _ _ H (fun fr => .of (CG (by kernel_rfl) (A.HG 1 rfl (o := 0) (n := 2) ⟨Nat.le_of_ble_eq_true rfl, rfl⟩))) fun fr t H => ?_)
  obtain ⟨x5, hx, hm⟩ := bind_some hm
  obtain ⟨v1, h7, hr, rfl, A1⟩ := Gh (av := [.agg [.bool p0.Fold, .bool p0.Aw], Ab p2]) hx (A.cut 0)
  replace A : HH g h7 [.obj h1.size (.cells none 2 (AM p1)), .obj h.size (.cells none 2 [.bool p0.Fold, .bool p0.Aw])] F := A.CY (n := 0) A1
  refine A0 1 [] 35 hr H fun fr t H => ?_
  refine AK 1 [(36, .bool x5)] H fun fr H => ?_
  obtain ⟨x6, ho, hm⟩ := bind_some hm
  refine A9 16 (fun fr' h' => Has fr' 53 [(52, .bool x6)] ∧ HH g h' [.obj h1.size (.cells none 2 (AM p1)), .obj h.size (.cells none 2 [.bool p0.Fold, .bool p0.Aw])] F) ?_ ?_
  ·rcases AX ho with ⟨hb, hm⟩ | ⟨hb, hm⟩
   ·replace H := H.kn 36 hb
    refine Ap 1 [] 38 _ _ H (fun fr => .of (CG (by kernel_rfl) (A.HG 0 rfl (o := 2) (n := 4) ⟨Nat.le_of_ble_eq_true rfl, rfl⟩))) fun fr t H => ?_
    obtain ⟨x7, hx, hm⟩ := bind_some hm
    obtain ⟨v1, h9, hr, rfl, A1⟩ := J3 (av := [.agg (EI p1.Set), Ab p2]) hx (A.cut 0)
    replace A := A.EX A1
    refine A0 1 [] 40 hr H fun fr t H => ?_
    refine AK 1 [(41, .bool x7)] H fun fr H => ?_
    obtain ⟨x8, ho, hm⟩ := bind_some hm
    refine A9 10 (fun fr' h' => Has fr' 53 [(36, .bool true), (51, .bool x8)] ∧ HH g h' [.obj h1.size (.cells none 2 (AM p1)), .obj h.size (.cells none 2 [.bool p0.Fold, .bool p0.Aw])] F) ?_ ?_
    ·rcases AX ho with ⟨hb, hm⟩ | ⟨hb, hm⟩
     ·replace H := H.kn 41 hb
      refine AK 10 [(51, .bool true)] H fun fr H => ?_
      obtain rfl := AY hm
      exact at_nil ⟨H.ls, A⟩
     replace H := H.kn 41 hb
     refine Ag 1 [] 43 1 0 A H fun fr t H => ?_
     refine AK 1 [(44, .bool p0.Fold)] H fun fr H => ?_
     obtain ⟨x9, ho, hm⟩ := bind_some hm
     refine A9 6 (fun fr' h' => Has fr' 53 [(36, .bool true), (41, .bool false), (50, .bool x9)] ∧ HH g h' [.obj h1.size (.cells none 2 (AM p1)), .obj h.size (.cells none 2 [.bool p0.Fold, .bool p0.Aw])] F) ?_ ?_
     ·rcases AX ho with ⟨hb, hm⟩ | ⟨hb, hm⟩
      ·replace H := H.kn 44 hb
       refine Ap 1 [] 46 _ _ H (fun fr => .of (CG (by kernel_rfl) (A.HG 0 rfl (o := 2) (n := 4) ⟨Nat.le_of_ble_eq_true rfl, rfl⟩))) fun fr t H => ?_
       obtain ⟨x10, hx, hm⟩ := bind_some hm
       obtain ⟨v1, h12, hr, rfl, A1⟩ := Mw (av := [.agg (EI p1.Set)]) hx (A.cut 0)
       replace A := A.EX A1
       refine BA 47 hr H fun fr t H => ?_
       obtain ⟨x11, hx, hm⟩ := bind_some hm
       obtain ⟨v1, h13, hr, rfl, A1⟩ := J3 (av := [.agg (EI x10), Ab p2]) hx (A.cut 0)
       replace A := A.EX A1
       refine A0 1 [] 49 hr H fun fr t H => ?_
       refine AK 1 [(50, .bool x11)] H fun fr H => ?_
       obtain rfl := AY hm
       exact at_nil ⟨H.ls, A⟩
      replace H := H.kn 44 hb
      refine AK 6 [(50, .bool false)] H fun fr H => ?_
      obtain rfl := AY hm
      exact at_nil ⟨H.ls, A⟩
     clear A
     intro t fr h11 hK
     obtain ⟨H, A⟩ := hK
     refine AK 1 [(51, .bool x9)] H fun fr H => ?_
     obtain rfl := AY hm
     exact at_nil ⟨H.ls, A⟩
    clear A
    intro t fr h10 hK
    obtain ⟨H, A⟩ := hK
    refine AK 1 [(52, .bool x8)] H fun fr H => ?_
    obtain rfl := AY hm
    exact at_nil ⟨H.ls, A⟩
   replace H := H.kn 36 hb
   refine AK 16 [(52, .bool false)] H fun fr H => ?_
   obtain rfl := AY hm
   exact at_nil ⟨H.ls, A⟩
  clear A
  intro t fr h8 hK
  obtain ⟨H, A⟩ := hK
  refine AO 1 [(6, .bool x6)] H fun fr H => AU ?_
  obtain rfl := AY hm
  refine ⟨.inl rfl, .bool x6, rH H, ?_⟩
  replace A := A.d0
  exact ⟨rfl, A⟩
 refine Ce 1 id (AO 1 [(6, .bool false)] H fun fr H => AU ?_)
 obtain rfl := AY hm
 refine ⟨.inl rfl, .bool false, rH H, ?_⟩
 replace A := A.d0
 exact ⟨rfl, A⟩
def Hs (p0 : List AP) (p1 : EA) (p2 : List UInt8) (s : Int × Int × Int × Int) : Option ((Int × Int × Int × Int) ⊕ ((Bool))) :=
 match s with
 | (x1, x2, x3, x4) => (Aa (decide (x2 < (p0.length : Int))) ((Fc p0 x2).bind fun x7 => some (x7.Kind == 4)) (some false) : Option (Bool)).bind fun x6 => Aa x6 (some (.inl (x1, IntKind.i64.wrap (x2 + 1), x2, x1))) (Aa ((x1 == (p2.length : Int)) && (x2 == (p0.length : Int))) (some (.inr true)) ((Aa ((decide (x2 < (p0.length : Int))) && (decide (x1 < (p2.length : Int)))) ((Fc p0 x2).bind fun x9 => (RD p2 x1).bind fun x10 => (HR p1 x9 x10).bind fun x11 => some x11) (some false) : Option (Bool)).bind fun x8 => Aa x8 (some (.inl (IntKind.i64.wrap (x1 + 1), IntKind.i64.wrap (x2 + 1), x3, x4))) ((Aa ((decide (x3 < 0)) || (decide (x4 ≥ (p2.length : Int)))) (some true) ((RD p2 x4).bind fun x13 => (Ej p1 x13).bind fun x14 => some (!x14)) : Option (Bool)).bind fun x12 => Aa x12 (some (.inr false)) (some (.inl (IntKind.i64.wrap (x4 + 1), IntKind.i64.wrap (x3 + 1), x3, IntKind.i64.wrap (x4 + 1)))))))
def G1 (p0 : List AP) (p1 : EA) (p2 : List UInt8) : Option (Bool) :=
 (loop (Hs p0 p1 p2) ((0 : Int), (0 : Int), (-1 : Int), (0 : Int))).bind fun x5 => some x5
theorem MU {p0 p1 p2 rp0 q0} (hm : G1 p0 p1 p2 = some q0) (A : HH g h [.AI rp0 264 (AI AM p0)] F) (hc : BF (cfg.still 289) av = [AF rp0 p0.length, .agg [.bool p1.Fold, .bool p1.Aw], .str p2] := by kernel_rfl) : ∃ v h', BL cfg g h 289 av v h' ∧ v = .bool q0 ∧ HH g h' [.AI rp0 264 (AI AM p0)] F := by
 refine Dr 83 [.tmp 6] hc ?_
 clear hc
 unfold G1 at hm
 refine bg 83 [(0, AF rp0 p0.length), (1, .agg [.bool p1.Fold, .bool p1.Aw]), (2, .str p2)] fun fr H => ?_
 refine AG 2 ?_
 obtain ⟨h1, e1, A⟩ := A.pu (.cells none 2 [.bool p1.Fold, .bool p1.Aw])
 refine BB 4 (.ptr (some (h.size, 0))) e1 H fun fr t H => ?_
 refine AO 1 [] H fun fr H => Vm (by kernel_rfl) ?_
 refine AG 2 (Bc 2 [(7, Ai 0), (8, Ai 0)] 2 H fun fr H => AO 2 [(9, Ai (-1)), (10, Ai 0)] H fun fr H => AQ (VL (by kernel_rfl) ?_))
 show AW _ _ _ _ _ _ _
 refine AV (id := 0) (by kernel_rfl) ?_
 obtain ⟨o1, ho, hm⟩ := bind_some hm
 refine Ax (Q' := fun e fr' h' => (∃ x5, e = .ret ∧ x5 = o1 ∧ Has fr' 83 [(6, .bool x5)] ∧ HH g h' [.obj h.size (.cells none 2 [.bool p1.Fold, .bool p1.Aw]), .AI rp0 264 (AI AM p0)] F) ∨ False) ?_ ?_
 ·refine Bh (by kernel_rfl) (fun (s : Int × Int × Int × Int) fr' h' => ∃ x1 x2 x3 x4, (x1, x2, x3, x4) = s ∧ Has fr' 83 [(0, AF rp0 p0.length), (2, .str p2), (4, .ptr (some (h.size, 0))), (7, Ai x1), (8, Ai x2), (9, Ai x3), (10, Ai x4)] ∧ HH g h' [.obj h.size (.cells none 2 [.bool p1.Fold, .bool p1.Aw]), .AI rp0 264 (AI AM p0)] F) ho ⟨_, _, _, _, rfl, H.ls, A⟩ ?_
  clear ho hm H A
  intro s q fr h2 hI hm
  obtain ⟨x1, x2, x3, x4, rfl, H, A⟩ := hI
  unfold Hs at hm
  refine AV (id := 1) (by kernel_rfl) ?_
  refine AQ (AG 12 (AK 5 [(15, .bool (decide (x2 < (p0.length : Int))))] H fun fr H => ?_))
  obtain ⟨x6, ho, hm⟩ := bind_some hm
  refine A9 7 (fun fr' h' => Has fr' 83 [(0, AF rp0 p0.length), (2, .str p2), (4, .ptr (some (h.size, 0))), (7, Ai x1), (8, Ai x2), (9, Ai x3), (10, Ai x4), (22, .bool x6)] ∧ HH g h' [.obj h.size (.cells none 2 [.bool p1.Fold, .bool p1.Aw]), .AI rp0 264 (AI AM p0)] F) ?_ ?_
  ·rcases AX ho with ⟨hb, hm⟩ | ⟨hb, hm⟩
   ·replace H := H.kn 15 hb
    obtain ⟨x7, hx, hm⟩ := bind_some hm
    obtain ⟨i1, er1, _, hx, hq1⟩ := HH.Kn Bk (by decide) A 1 (xs := p0) rfl hx
    refine Ap 2 [] 18 (.ptr (some (i1, x2.toNat * 6))) h2 H (fun fr => .of (Dc (s := Cs rp0 p0.length) (by kernel_rfl) hx)) fun fr t H => ?_
    refine Ap 1 [] 20 _ _ H (fun fr => .of (Da (by kernel_rfl) (DD Bk (HH.row A 1 rfl er1) hq1 (o := 0) rfl))) fun fr t H => ?_
    refine AK 2 [(22, .bool (x7.Kind == 4))] H fun fr H => ?_
    obtain rfl := AY hm
    exact at_nil ⟨H.ls, A⟩
   replace H := H.kn 15 hb
   refine AK 7 [(22, .bool false)] H fun fr H => ?_
   obtain rfl := AY hm
   exact at_nil ⟨H.ls, A⟩
  clear A
  intro t fr h3 hK
  obtain ⟨H, A⟩ := hK
  refine BJ id (Ad 22 H hm (fun hb hm H => ?_) fun hb hm H => ?_)
  ·refine AG 4 (BV 4 [(0, AF rp0 p0.length), (2, .str p2), (4, .ptr (some (h.size, 0))), (7, Ai x1), (8, Ai x2), (9, Ai x2), (10, Ai x1)] H fun fr H => CX 3 id (BV 3 [(0, AF rp0 p0.length), (2, .str p2), (4, .ptr (some (h.size, 0))), (7, Ai x1), (8, Ai (IntKind.i64.wrap (x2 + 1))), (9, Ai x2), (10, Ai x1)] H fun fr H => BJ id (BU (i := 1) (by kernel_rfl) ?_)))
   exact nx hm ⟨_, _, _, _, rfl, H.ls, A⟩
  refine Bf id (AQ (AG 10 (AK 5 [(31, .bool (x1 == (p2.length : Int)))] H fun fr H => A9 5 (fun fr' h' => h3 = h' ∧ Has fr' 83 [(0, AF rp0 p0.length), (2, .str p2), (4, .ptr (some (h.size, 0))), (7, Ai x1), (8, Ai x2), (9, Ai x3), (10, Ai x4), (36, .bool ((x1 == (p2.length : Int)) && (x2 == (p0.length : Int))))]) ?_ ?_)))
  ·cases hb : (x1 == (p2.length : Int) : Bool) with
   | true =>
    replace H := H.kn 31 hb
    exact AK 5 [(36, .bool (x2 == (p0.length : Int)))] H fun fr H => BH H hb
   | false =>
    replace H := H.kn 31 hb
    exact AK 5 [(36, .bool false)] H fun fr H => BH H hb
  intro t fr h' hK
  obtain ⟨e, H⟩ := hK
  subst e
  refine BJ id (Ad 36 H hm (fun hb hm H => ?_) fun hb hm H => ?_)
  ·refine AG 1 (AO 1 [(6, .bool true)] H fun fr H => AU ?_)
   exact nr hm fun e => .inl ⟨_, rfl, e, H.ls, A⟩
  refine Bf id (AQ (AQ (Ep 8 21 ?_)))
  refine AK 5 [(41, .bool (decide (x2 < (p0.length : Int))))] H fun fr H => A9 5 (fun fr' h' => h3 = h' ∧ Has fr' 83 [(0, AF rp0 p0.length), (2, .str p2), (4, .ptr (some (h.size, 0))), (7, Ai x1), (8, Ai x2), (9, Ai x3), (10, Ai x4), (46, .bool ((decide (x2 < (p0.length : Int))) && (decide (x1 < (p2.length : Int)))))]) ?_ ?_
  ·cases hb : (decide (x2 < (p0.length : Int)) : Bool) with
   | true =>
    replace H := H.kn 41 hb
    exact AK 5 [(46, .bool (decide (x1 < (p2.length : Int))))] H fun fr H => BH H hb
   | false =>
    replace H := H.kn 41 hb
    exact AK 5 [(46, .bool false)] H fun fr H => BH H hb
  intro t fr h' hK
  obtain ⟨e, H⟩ := hK
  subst e
  refine AK 1 [(47, .bool ((decide (x2 < (p0.length : Int))) && (decide (x1 < (p2.length : Int)))))] H fun fr H => ?_
  obtain ⟨x8, ho, hm⟩ := bind_some hm
  refine A9 10 (fun fr' h' => Has fr' 83 [(0, AF rp0 p0.length), (2, .str p2), (4, .ptr (some (h.size, 0))), (7, Ai x1), (8, Ai x2), (9, Ai x3), (10, Ai x4), (57, .bool x8)] ∧ HH g h' [.obj h.size (.cells none 2 [.bool p1.Fold, .bool p1.Aw]), .AI rp0 264 (AI AM p0)] F) ?_ ?_
  ·rcases AX ho with ⟨hb, hm⟩ | ⟨hb, hm⟩
   ·replace H := H.kn 47 hb
    refine Aq 48 _ _ H (fun fr => .of (CG (by kernel_rfl) (A.HG 0 rfl (o := 0) (n := 2) ⟨Nat.le_of_ble_eq_true rfl, rfl⟩))) fun fr t H => ?_
    obtain ⟨x9, hx, hm⟩ := bind_some hm
    obtain ⟨i2, er2, _, hx, hq2⟩ := HH.Kn Bk (by decide) A 1 (xs := p0) rfl hx
    refine Ap 2 [] 51 (.ptr (some (i2, x2.toNat * 6))) h3 H (fun fr => .of (Dc (s := Cs rp0 p0.length) (by kernel_rfl) hx)) fun fr t H => ?_
    refine Aq 52 _ _ H (fun fr => .of (CG (by kernel_rfl) (KE Bk (HH.row A 1 rfl er2) hq2 0 6 (Nat.le_of_ble_eq_true rfl)))) fun fr t H => ?_
    obtain ⟨x10, hx, hm⟩ := bind_some hm
    refine Ap 2 [] 55 (Ab x10) h3 H (fun fr => .of (JG (by kernel_rfl) hx)) fun fr t H => ?_
    obtain ⟨x11, hx, hm⟩ := bind_some hm
    obtain ⟨v1, h5, hr, rfl, A1⟩ := Mi (av := [.agg [.bool p1.Fold, .bool p1.Aw], .agg (AM x9), Ab x10]) hx (A.cut 0)
    replace A := A.EX A1
    refine BA 56 hr H fun fr t H => ?_
    refine AK 1 [(57, .bool x11)] H fun fr H => ?_
    obtain rfl := AY hm
    exact at_nil ⟨H.ls, A⟩
   replace H := H.kn 47 hb
   refine AK 10 [(57, .bool false)] H fun fr H => ?_
   obtain rfl := AY hm
   exact at_nil ⟨H.ls, A⟩
  clear A
  intro t fr h4 hK
  obtain ⟨H, A⟩ := hK
  refine BJ id (Ad 57 H hm (fun hb hm H => ?_) fun hb hm H => ?_)
  ·refine AG 3 (BV 3 [(0, AF rp0 p0.length), (2, .str p2), (4, .ptr (some (h.size, 0))), (7, Ai (IntKind.i64.wrap (x1 + 1))), (8, Ai x2), (9, Ai x3), (10, Ai x4)] H fun fr H => CX 3 id (BV 3 [(0, AF rp0 p0.length), (2, .str p2), (4, .ptr (some (h.size, 0))), (7, Ai (IntKind.i64.wrap (x1 + 1))), (8, Ai (IntKind.i64.wrap (x2 + 1))), (9, Ai x3), (10, Ai x4)] H fun fr H => BJ id (BU (i := 1) (by kernel_rfl) ?_)))
   exact nx hm ⟨_, _, _, _, rfl, H.ls, A⟩
  refine Bf id (AQ (AQ (Ep 11 16 ?_)))
  refine AK 3 [(64, .bool (decide (x3 < 0)))] H fun fr H => A9 5 (fun fr' h' => h4 = h' ∧ Has fr' 83 [(0, AF rp0 p0.length), (2, .str p2), (4, .ptr (some (h.size, 0))), (9, Ai x3), (10, Ai x4), (69, .bool ((decide (x3 < 0)) || (decide (x4 ≥ (p2.length : Int)))))]) ?_ ?_
  ·cases hb : (decide (x3 < 0) : Bool) with
   | true =>
    replace H := H.kn 64 hb
    exact AK 5 [(69, .bool true)] H fun fr H => BH H hb
   | false =>
    replace H := H.kn 64 hb
    exact AK 5 [(69, .bool (decide (x4 ≥ (p2.length : Int))))] H fun fr H => BH H hb
  intro t fr h' hK
  obtain ⟨e, H⟩ := hK
  subst e
  refine AK 1 [(70, .bool ((decide (x3 < 0)) || (decide (x4 ≥ (p2.length : Int)))))] H fun fr H => ?_
  obtain ⟨x12, ho, hm⟩ := bind_some hm
  refine A9 7 (fun fr' h' => Has fr' 83 [(0, AF rp0 p0.length), (2, .str p2), (4, .ptr (some (h.size, 0))), (9, Ai x3), (10, Ai x4), (77, .bool x12)] ∧ HH g h' [.obj h.size (.cells none 2 [.bool p1.Fold, .bool p1.Aw]), .AI rp0 264 (AI AM p0)] F) ?_ ?_
  ·rcases AX ho with ⟨hb, hm⟩ | ⟨hb, hm⟩
   ·replace H := H.kn 70 hb
    refine AK 7 [(77, .bool true)] H fun fr H => ?_
    obtain rfl := AY hm
    exact at_nil ⟨H.ls, A⟩
   replace H := H.kn 70 hb
   refine Aq 71 _ _ H (fun fr => .of (CG (by kernel_rfl) (A.HG 0 rfl (o := 0) (n := 2) ⟨Nat.le_of_ble_eq_true rfl, rfl⟩))) fun fr t H => ?_
   obtain ⟨x13, hx, hm⟩ := bind_some hm
   refine Ap 2 [] 74 (Ab x13) h4 H (fun fr => .of (JG (by kernel_rfl) hx)) fun fr t H => ?_
   obtain ⟨x14, hx, hm⟩ := bind_some hm
   obtain ⟨v1, h7, hr, rfl, A1⟩ := Gh (av := [.agg [.bool p1.Fold, .bool p1.Aw], Ab x13]) hx (A.cut 0)
   replace A := A.EX A1
   refine BA 75 hr H fun fr t H => ?_
   refine AK 2 [(77, .bool (!x14))] H fun fr H => ?_
   obtain rfl := AY hm
   exact at_nil ⟨H.ls, A⟩
  clear A
  intro t fr h6 hK
  obtain ⟨H, A⟩ := hK
  refine BJ id (Ad 77 H hm (fun hb hm H => ?_) fun hb hm H => ?_)
  ·refine AG 1 (AO 1 [(6, .bool false)] H fun fr H => AU ?_)
   exact nr hm fun e => .inl ⟨_, rfl, e, H.ls, A⟩
  refine Ce 3 id (BV 3 [(0, AF rp0 p0.length), (2, .str p2), (4, .ptr (some (h.size, 0))), (9, Ai x3), (10, Ai (IntKind.i64.wrap (x4 + 1)))] H fun fr H => Ke 5 id (AK 5 [(7, Ai (IntKind.i64.wrap (x4 + 1))), (8, Ai (IntKind.i64.wrap (x3 + 1)))] H fun fr H => at_nil ?_))
  exact nx hm ⟨_, _, _, _, rfl, H.ls, A⟩
 clear ho
 clear A
 intro e fr h8 hQ
 rcases hQ with ⟨x5, rfl, rfl, H, A⟩ | hF
 ·obtain rfl := AY hm
  refine ⟨.inl rfl, .bool x5, rH H, ?_⟩
  replace A := A.k1 1
  exact ⟨rfl, A⟩
 exact hF.elim
def Co (p0 : Bx) (p1 : AP) (p2 : Int) : Option (Bool) :=
 (XW p2).bind fun x1 => (G1 ([p1] : List AP) p0.f_ ([x1] : List UInt8)).bind fun x2 => some (x2 && (p1.Kind != 4))
theorem E5 {p0 p1 p2 bp0 rp0_0 bp0_4 rp0_4_2 rp0_4_3 rp0_5 bp0_6 rp0_7 q0} (hm : Co p0 p1 p2 = some q0) (A : HH g h [.obj bp0 (.cells none 2 [AF rp0_0 p0.l_.length, .bool p0.f_.Fold, .bool p0.f_.Aw, Ai p0.EW, .ptr (some (bp0_4, 0)), AF rp0_5 p0.DP.length, .map (some bp0_6), AF rp0_7 p0.Bs.length]), .AI rp0_0 264 (AI AM p0.l_), .obj bp0_4 (.cells none 2 (Cj 256 (AA.int .u8) p0.t_.BP ++ [Ai p0.t_.An, AF rp0_4_2 p0.t_.BO.length, AF rp0_4_3 p0.t_.A7.length])), .AI rp0_4_2 21 (AI (eI .i32) p0.t_.BO), .AI rp0_4_3 4 (AI eB p0.t_.A7), .AI rp0_5 5 (AI eY p0.DP), .obj bp0_6 (.map 2 (BS (fun k : List UInt8 => .str k) (fun v : Int => .int .i32 v) p0.B6)), .AI rp0_7 9 (AI eS p0.Bs)] F) (hc : BF (cfg.still 247) av = [.ptr (some (bp0, 0)), .agg (AM p1), Ab p2] := by kernel_rfl) : ∃ v h', BL cfg g h 247 av v h' ∧ v = .bool q0 ∧ HH g h' [.obj bp0 (.cells none 2 [AF rp0_0 p0.l_.length, .bool p0.f_.Fold, .bool p0.f_.Aw, Ai p0.EW, .ptr (some (bp0_4, 0)), AF rp0_5 p0.DP.length, .map (some bp0_6), AF rp0_7 p0.Bs.length]), .AI rp0_0 264 (AI AM p0.l_), .obj bp0_4 (.cells none 2 (Cj 256 (AA.int .u8) p0.t_.BP ++ [Ai p0.t_.An, AF rp0_4_2 p0.t_.BO.length, AF rp0_4_3 p0.t_.A7.length])), .AI rp0_4_2 21 (AI (eI .i32) p0.t_.BO), .AI rp0_4_3 4 (AI eB p0.t_.A7), .AI rp0_5 5 (AI eY p0.DP), .obj bp0_6 (.map 2 (BS (fun k : List UInt8 => .str k) (fun v : Int => .int .i32 v) p0.B6)), .AI rp0_7 9 (AI eS p0.Bs)] F := by
 refine Dr 22 [.tmp 6] hc ?_
 clear hc
 unfold Co at hm
 refine bg 22 [(0, .ptr (some (bp0, 0))), (1, .agg (AM p1)), (2, Ab p2)] fun fr H => ?_
 refine AG 2 ?_
 obtain ⟨h1, e1, A⟩ := A.pu (.cells none 2 (AM p1))
 refine BB 4 (.ptr (some (h.size, 0))) e1 H fun fr t H => ?_
 refine AO 1 [] H fun fr H => AQ (Ep 1 16 ?_)
 refine Aq 7 _ _ H (fun fr => .of (CG (by kernel_rfl) (A.HG 0 rfl (o := 0) (n := 6) ⟨Nat.le_of_ble_eq_true rfl, rfl⟩))) fun fr t H => ?_
 obtain ⟨h2, e2, A⟩ := A.pL 264 (AM p1)
 refine BB 8 (AF (some h1.size) (([p1] : List AP).length)) e2 H fun fr t H => ?_
 refine Ap 3 [] 12 _ _ H (fun fr => .of (CG (by kernel_rfl) (A.HG 2 rfl (o := 1) (n := 2) ⟨Nat.le_of_ble_eq_true rfl, rfl⟩))) fun fr t H => ?_
 refine AK 1 [(13, Ab p2)] H fun fr H => ?_
 obtain ⟨x1, hx, hm⟩ := bind_some hm
 have hx := PK hx
 have kH := hm
 have kA := A
 have kR := H
 subst hx
 have hm := kH
 have A := kA
 have H := kR
 clear kH kA kR
 obtain ⟨h3, e3, A⟩ := A.pL 5 [Ab (x1.toNat : Int)]
 refine BB 14 (AF (some h2.size) (([x1] : List UInt8).length)) e3 H fun fr t H => ?_
 refine Aq 15 (.str ([x1] : List UInt8)) h3 H (fun fr => .of (To (xs := ([x1] : List UInt8)) A 0 rfl (by kernel_rfl))) fun fr t H => ?_
 replace A : HH g h3 [.AI (some h2.size) 5 ([Ab (x1.toNat : Int)]), .AI (some h1.size) 264 (AI AM ([p1] : List AP)), .obj h.size (.cells none 2 (AM p1)), _, _, _, _, _, _, _, _] F := A
 replace A : HH g h3 [_, _, _, _, _, _, _, _, _, _, _] F := (A.front 1 rfl)
 obtain ⟨x2, hx, hm⟩ := bind_some hm
 obtain ⟨v1, h4, hr, rfl, A1⟩ := MU (av := [AF (some h1.size) (([p1] : List AP).length), .agg [.bool p0.f_.Fold, .bool p0.f_.Aw], .str ([x1] : List UInt8)]) hx (A.cut 1)
 replace A := A.g11 A1
 refine BA 16 hr H fun fr t H => ?_
 refine AK 1 [(17, .bool x2)] H fun fr H => A9 4 (fun fr' h' => h4 = h' ∧ Has fr' 22 [(21, .bool (x2 && (p1.Kind != 4)))]) ?_ ?_
 ·cases hb : (x2 : Bool) with
  | true =>
   replace H := H.kn 17 hb
   refine Ag 1 [] 19 2 0 A H fun fr t H => ?_
   exact AK 2 [(21, .bool (p1.Kind != 4))] H fun fr H => BH H hb
  | false =>
   replace H := H.kn 17 hb
   exact AK 4 [(21, .bool false)] H fun fr H => BH H hb
 intro t fr h' hK
 obtain ⟨e, H⟩ := hK
 subst e
 refine AO 1 [(6, .bool (x2 && (p1.Kind != 4)))] H fun fr H => AU ?_
 obtain rfl := AY hm
 refine ⟨.inl rfl, .bool (x2 && (p1.Kind != 4)), rH H, ?_⟩
 replace A := A.k8 3 4 5 6 7 8 9 10
 exact ⟨rfl, A⟩
def Ee (p0 : Bx) (x2 : (Nat → Int)) (x3 : List UInt8) (x4 : Int) (s : (List UInt8) × Int) : Option (((List UInt8) × Int) ⊕ (((List UInt8)))) :=
 match s with
 | (x8, x9) => Aa (decide (x9 < (p0.l_.length : Int))) (((Fc p0.l_ x9).bind fun x12 => (Co (⟨p0.l_, p0.f_, p0.EW, (⟨x2, p0.t_.An, p0.t_.BO, p0.t_.A7⟩ : Ba), x3, p0.B6, p0.Bs⟩ : Bx) x12 (IntKind.u8.wrap x4)).bind fun x13 => Aa x13 ((Fc x8 x9).bind fun x14 => some (x8.set x9.toNat (1 : UInt8))) (some x8) : Option (((List UInt8)))).bind fun x11 => some (.inl (x11, IntKind.i64.wrap (x9 + 1)))) (some (.inr x8))
def Ei (p0 : Bx) (s : (List ((List UInt8) × Int)) × (Nat → Int) × (List UInt8) × Int) : Option (((List ((List UInt8) × Int)) × (Nat → Int) × (List UInt8) × Int) ⊕ (((List ((List UInt8) × Int)) × (Nat → Int) × (List UInt8)))) :=
 match s with
 | (x1, x2, x3, x4) => Aa (decide (x4 < 256)) (Em (Ya 1 (IntKind.i64.wrap ((p0.l_.length : Int) + 1))) <| (loop (Ee p0 x2 x3 x4) ((List.replicate (IntKind.i64.wrap ((p0.l_.length : Int) + 1)).toNat (0 : UInt8)), (0 : Int))).bind fun x10 => (Aa (x4 == 47) ((Fc x10 (p0.l_.length : Int)).bind fun x16 => some (x10.set (p0.l_.length : Int).toNat (1 : UInt8))) (some x10) : Option (((List UInt8)))).bind fun x15 => (Aa (!((Di x1 x15).isSome)) ((XW (IntKind.u8.wrap x4)).bind fun x20 => Em (Nd 1 (x3.length + ([x20] : List UInt8).length)) <| some ((F7 x1 x15 (IntKind.u8.wrap (x1.length : Int))), (x3 ++ ([x20] : List UInt8)), IntKind.u8.wrap (x1.length : Int))) (some (x1, x3, ((Di x1 x15).getD (0 : Int)))) : Option (((List ((List UInt8) × Int)) × (List UInt8) × Int))).bind fun (x17, x18, x19) => (T5 256 x2 x4).bind fun x21 => some (.inl (x17, (PZ x2 x4.toNat x19), x18, IntKind.i64.wrap (x4 + 1)))) (some (.inr (x1, x2, x3)))
def Dj (p0 : Bx) : Option (Ba × (List UInt8)) :=
 (loop (Ei p0) (([] : List ((List UInt8) × Int)), p0.t_.BP, p0.DP, (0 : Int))).bind fun (x5, x6, x7) => some ((⟨x6, (x5.length : Int), p0.t_.BO, p0.t_.A7⟩ : Ba), x7)
theorem HV {p0 bp0 rp0_0 bp0_4 rp0_4_2 rp0_4_3 rp0_5 bp0_6 rp0_7 u2 u5} (hm : Dj p0 = some (u2, u5)) (A : HH g h [.obj bp0 (.cells none 2 [AF rp0_0 p0.l_.length, .bool p0.f_.Fold, .bool p0.f_.Aw, Ai p0.EW, .ptr (some (bp0_4, 0)), AF rp0_5 p0.DP.length, .map (some bp0_6), AF rp0_7 p0.Bs.length]), .AI rp0_0 264 (AI AM p0.l_), .obj bp0_4 (.cells none 2 (Cj 256 (AA.int .u8) p0.t_.BP ++ [Ai p0.t_.An, AF rp0_4_2 p0.t_.BO.length, AF rp0_4_3 p0.t_.A7.length])), .AI rp0_4_2 21 (AI (eI .i32) p0.t_.BO), .AI rp0_4_3 4 (AI eB p0.t_.A7), .AI rp0_5 5 (AI eY p0.DP), .obj bp0_6 (.map 2 (BS (fun k : List UInt8 => .str k) (fun v : Int => .int .i32 v) p0.B6)), .AI rp0_7 9 (AI eS p0.Bs)] F) (hc : BF (cfg.still 180) av = [.ptr (some (bp0, 0))] := by kernel_rfl) : ∃ v h', BL cfg g h 180 av v h' ∧ ∃ (r'5 : Option Nat), v = .tuple [] ∧ HH g h' [.obj bp0 (.cells none 2 [AF rp0_0 p0.l_.length, .bool p0.f_.Fold, .bool p0.f_.Aw, Ai p0.EW, .ptr (some (bp0_4, 0)), AF r'5 u5.length, .map (some bp0_6), AF rp0_7 p0.Bs.length]), .AI rp0_0 264 (AI AM p0.l_), .obj bp0_4 (.cells none 2 (Cj 256 (AA.int .u8) u2.BP ++ [Ai u2.An, AF rp0_4_2 p0.t_.BO.length, AF rp0_4_3 p0.t_.A7.length])), .AI rp0_4_2 21 (AI (eI .i32) p0.t_.BO), .AI rp0_4_3 4 (AI eB p0.t_.A7), .AI r'5 5 (AI eY u5), .obj bp0_6 (.map 2 (BS (fun k : List UInt8 => .str k) (fun v : Int => .int .i32 v) p0.B6)), .AI rp0_7 9 (AI eS p0.Bs)] F := by
 refine Dr 93 [] hc ?_
 clear hc
 unfold Dj at hm
 refine bg 93 [(0, .ptr (some (bp0, 0)))] fun fr H => ?_
 refine AG 2 ?_
 obtain ⟨h1, e1⟩ : ∃ x, x = h.push (.map 2 []) := ⟨_, rfl⟩
 replace A : HH g h1 [.obj h.size (.map 2 (BS (fun k : List UInt8 => .str k) (fun v : Int => Ab v) ([] : List ((List UInt8) × Int)))), _, _, _, _, _, _, _, _] F := (A.push _).to e1
 refine BB 9 (.map (some h.size)) e1 H fun fr t H => ?_
 refine AO 1 [(2, .map (some h.size))] H fun fr H => AQ (AG 1 (AO 1 [(10, Ai 0)] H fun fr H => AV (id := 0) (by kernel_rfl) ?_))
 obtain ⟨o1, ho, hm⟩ := bind_some hm
 refine Ax (Q' := fun e fr' h' => (∃ x5 x6 x7, e = .exit 0 ∧ (x5, x6, x7) = o1 ∧ ∃ r2, Has fr' 93 [(0, .ptr (some (bp0, 0))), (2, .map (some h.size))] ∧ HH g h' [.obj h.size (.map 2 (BS (fun k : List UInt8 => .str k) (fun v : Int => Ab v) x5)), .obj bp0 (.cells none 2 [AF rp0_0 p0.l_.length, .bool p0.f_.Fold, .bool p0.f_.Aw, Ai p0.EW, .ptr (some (bp0_4, 0)), AF r2 x7.length, .map (some bp0_6), AF rp0_7 p0.Bs.length]), .AI rp0_0 264 (AI AM p0.l_), .obj bp0_4 (.cells none 2 (Cj 256 (AA.int .u8) x6 ++ [Ai p0.t_.An, AF rp0_4_2 p0.t_.BO.length, AF rp0_4_3 p0.t_.A7.length])), .AI rp0_4_2 21 (AI (eI .i32) p0.t_.BO), .AI rp0_4_3 4 (AI eB p0.t_.A7), .AI r2 5 (AI eY x7), .obj bp0_6 (.map 2 (BS (fun k : List UInt8 => .str k) (fun v : Int => .int .i32 v) p0.B6)), .AI rp0_7 9 (AI eS p0.Bs)] F) ∨ False) ?_ ?_
 ·refine Bh (by kernel_rfl) (fun (s : (List ((List UInt8) × Int)) × (Nat → Int) × (List UInt8) × Int) fr' h' => ∃ x1 x2 x3 x4, (x1, x2, x3, x4) = s ∧ ∃ r1, Has fr' 93 [(0, .ptr (some (bp0, 0))), (2, .map (some h.size)), (10, Ai x4)] ∧ HH g h' [.obj h.size (.map 2 (BS (fun k : List UInt8 => .str k) (fun v : Int => Ab v) x1)), .obj bp0 (.cells none 2 [AF rp0_0 p0.l_.length, .bool p0.f_.Fold, .bool p0.f_.Aw, Ai p0.EW, .ptr (some (bp0_4, 0)), AF r1 x3.length, .map (some bp0_6), AF rp0_7 p0.Bs.length]), .AI rp0_0 264 (AI AM p0.l_), .obj bp0_4 (.cells none 2 (Cj 256 (AA.int .u8) x2 ++ [Ai p0.t_.An, AF rp0_4_2 p0.t_.BO.length, AF rp0_4_3 p0.t_.A7.length])), .AI rp0_4_2 21 (AI (eI .i32) p0.t_.BO), .AI rp0_4_3 4 (AI eB p0.t_.A7), .AI r1 5 (AI eY x3), .obj bp0_6 (.map 2 (BS (fun k : List UInt8 => .str k) (fun v : Int => .int .i32 v) p0.B6)), .AI rp0_7 9 (AI eS p0.Bs)] F) ho ⟨_, _, _, _, rfl, rp0_5, H.ls, A⟩ ?_
  clear ho hm H A
  intro s q fr h2 hI hm
  obtain ⟨x1, x2, x3, x4, rfl, r1, H, A⟩ := hI
  unfold Ei at hm
  refine AG 1 (AO 1 [(11, .bool (decide (x4 < 256)))] H fun fr H => AQ (Ad 11 H hm (fun hb hm H => ?_) fun hb hm H => ?_))
  ·refine Bf id (AQ (AV (id := 1) (by kernel_rfl) ?_))
   refine AG 2 (Bc 2 [(3, Ai x4)] 8 H fun fr H => Ag 3 [] 16 1 0 A H fun fr t H => ?_)
   obtain ⟨hb, hm⟩ := BE hm
   obtain ⟨h3, e2, A⟩ := A.pL 5 (AI eY (List.replicate (IntKind.i64.wrap ((p0.l_.length : Int) + 1)).toNat (0 : UInt8)))
   refine Ap 2 [] 19 (AF (some h2.size) (List.replicate (IntKind.i64.wrap ((p0.l_.length : Int) + 1)).toNat (0 : UInt8)).length) h3 H (fun fr => .of (U6 (e := eY) HK (x := (0 : UInt8)) (by kernel_rfl) hb (congrArg some e2.symm))) fun fr t H => ?_
   refine AO 1 [(4, AF (some h2.size) ((List.replicate (IntKind.i64.wrap ((p0.l_.length : Int) + 1)).toNat (0 : UInt8)).length))] H fun fr H => AQ (AG 6 (Ag 3 [] 23 2 0 A H fun fr t H => ?_))
   refine AO 2 [(24, Ai (p0.l_.length : Int)), (25, Ai 0)] H fun fr H => AV (id := 2) (by kernel_rfl) ?_
   obtain ⟨o2, ho, hm⟩ := bind_some hm
   refine Ax (Q' := fun e fr' h' => (∃ x10, e = .exit 2 ∧ x10 = o2 ∧ ∃ (hl2 : x10.length = (List.replicate (IntKind.i64.wrap ((p0.l_.length : Int) + 1)).toNat (0 : UInt8)).length), Has fr' 93 [(0, .ptr (some (bp0, 0))), (2, .map (some h.size)), (3, Ai x4), (4, AF (some h2.size) x10.length), (10, Ai x4)] ∧ HH g h' [.AI (some h2.size) 5 (AI eY x10), .obj h.size (.map 2 (BS (fun k : List UInt8 => .str k) (fun v : Int => Ab v) x1)), .obj bp0 (.cells none 2 [AF rp0_0 p0.l_.length, .bool p0.f_.Fold, .bool p0.f_.Aw, Ai p0.EW, .ptr (some (bp0_4, 0)), AF r1 x3.length, .map (some bp0_6), AF rp0_7 p0.Bs.length]), .AI rp0_0 264 (AI AM p0.l_), .obj bp0_4 (.cells none 2 (Cj 256 (AA.int .u8) x2 ++ [Ai p0.t_.An, AF rp0_4_2 p0.t_.BO.length, AF rp0_4_3 p0.t_.A7.length])), .AI rp0_4_2 21 (AI (eI .i32) p0.t_.BO), .AI rp0_4_3 4 (AI eB p0.t_.A7), .AI r1 5 (AI eY x3), .obj bp0_6 (.map 2 (BS (fun k : List UInt8 => .str k) (fun v : Int => .int .i32 v) p0.B6)), .AI rp0_7 9 (AI eS p0.Bs)] F) ∨ False) ?_ ?_
   ·refine Bh (by kernel_rfl) (fun (s : (List UInt8) × Int) fr' h' => ∃ x8 x9, (x8, x9) = s ∧ ∃ (hl1 : x8.length = (List.replicate (IntKind.i64.wrap ((p0.l_.length : Int) + 1)).toNat (0 : UInt8)).length), Has fr' 93 [(0, .ptr (some (bp0, 0))), (2, .map (some h.size)), (3, Ai x4), (4, AF (some h2.size) x8.length), (10, Ai x4), (23, AF rp0_0 p0.l_.length), (24, Ai (p0.l_.length : Int)), (25, Ai x9)] ∧ HH g h' [.AI (some h2.size) 5 (AI eY x8), .obj h.size (.map 2 (BS (fun k : List UInt8 => .str k) (fun v : Int => Ab v) x1)), .obj bp0 (.cells none 2 [AF rp0_0 p0.l_.length, .bool p0.f_.Fold, .bool p0.f_.Aw, Ai p0.EW, .ptr (some (bp0_4, 0)), AF r1 x3.length, .map (some bp0_6), AF rp0_7 p0.Bs.length]), .AI rp0_0 264 (AI AM p0.l_), .obj bp0_4 (.cells none 2 (Cj 256 (AA.int .u8) x2 ++ [Ai p0.t_.An, AF rp0_4_2 p0.t_.BO.length, AF rp0_4_3 p0.t_.A7.length])), .AI rp0_4_2 21 (AI (eI .i32) p0.t_.BO), .AI rp0_4_3 4 (AI eB p0.t_.A7), .AI r1 5 (AI eY x3), .obj bp0_6 (.map 2 (BS (fun k : List UInt8 => .str k) (fun v : Int => .int .i32 v) p0.B6)), .AI rp0_7 9 (AI eS p0.Bs)] F) ho ⟨_, _, rfl, rfl, H.ls, A⟩ ?_
    clear ho hm H A
    intro s q fr h4 hI hm
    obtain ⟨x8, x9, rfl, hl1, H, A⟩ := hI
    unfold Ee at hm
    refine AG 1 (AO 1 [(26, .bool (decide (x9 < (p0.l_.length : Int))))] H fun fr H => AQ (Ad 26 H hm (fun hb hm H => ?_) fun hb hm H => ?_))
    ·refine Bf id (AQ ?_)
     obtain ⟨o3, ho, hm⟩ := bind_some hm
     refine Ax (Q' := fun e fr' h' => (∃ x11, e = .normal ∧ x11 = o3 ∧ ∃ (hl3 : x11.length = (List.replicate (IntKind.i64.wrap ((p0.l_.length : Int) + 1)).toNat (0 : UInt8)).length), Has fr' 93 [(0, .ptr (some (bp0, 0))), (2, .map (some h.size)), (3, Ai x4), (4, AF (some h2.size) x11.length), (10, Ai x4), (23, AF rp0_0 p0.l_.length), (24, Ai (p0.l_.length : Int)), (25, Ai x9)] ∧ HH g h' [.AI (some h2.size) 5 (AI eY x11), .obj h.size (.map 2 (BS (fun k : List UInt8 => .str k) (fun v : Int => Ab v) x1)), .obj bp0 (.cells none 2 [AF rp0_0 p0.l_.length, .bool p0.f_.Fold, .bool p0.f_.Aw, Ai p0.EW, .ptr (some (bp0_4, 0)), AF r1 x3.length, .map (some bp0_6), AF rp0_7 p0.Bs.length]), .AI rp0_0 264 (AI AM p0.l_), .obj bp0_4 (.cells none 2 (Cj 256 (AA.int .u8) x2 ++ [Ai p0.t_.An, AF rp0_4_2 p0.t_.BO.length, AF rp0_4_3 p0.t_.A7.length])), .AI rp0_4_2 21 (AI (eI .i32) p0.t_.BO), .AI rp0_4_3 4 (AI eB p0.t_.A7), .AI r1 5 (AI eY x3), .obj bp0_6 (.map 2 (BS (fun k : List UInt8 => .str k) (fun v : Int => .int .i32 v) p0.B6)), .AI rp0_7 9 (AI eS p0.Bs)] F) ∨ False) ?_ ?_
     ·replace hm := ho
      clear ho
      refine AV (id := 3) (by kernel_rfl) ?_
      refine AG 6 ?_
      obtain ⟨x12, hx, hm⟩ := bind_some hm
      obtain ⟨i1, er1, _, hx, hq1⟩ := HH.Kn Bk (by decide) A 3 (xs := p0.l_) rfl hx
      refine Ap 1 [(27, Ai x9)] 28 (.ptr (some (i1, x9.toNat * 6))) h4 H (fun fr => .of (Dc (s := Cs rp0_0 p0.l_.length) (by kernel_rfl) hx)) fun fr t H => ?_
      refine Aq 29 _ _ H (fun fr => .of (CG (by kernel_rfl) (KE Bk (HH.row A 3 rfl er1) hq1 0 6 (Nat.le_of_ble_eq_true rfl)))) fun fr t H => ?_
      obtain ⟨h5, e3, A⟩ := A.pu (.cells none 2 [Ai 0, Ab 0, Au 0, Au 0, Au 0, Au 0])
      refine BB 6 (.ptr (some (h4.size, 0))) e3 H fun fr t H => ?_
      obtain ⟨h6, hx, A⟩ := A.s0 0 (AM x12) [_, _, _, _, _, _]
      refine Fk 1 [(5, Ai x9)] hx H fun fr t H => ?_
      refine CX 5 id (Ap 1 [(30, .ptr (some (bp0, 0)))] 31 _ _ H (fun fr => .of (CG (by kernel_rfl) (A.HG 0 rfl (o := 0) (n := 6) ⟨Nat.le_of_ble_eq_true rfl, rfl⟩))) fun fr t H => ?_)
      replace A : HH g h6 [_, _, _, _, _, _, _, _, _, _, _] F := ((((((((A.front 10 rfl).front 10 rfl).front 10 rfl).front 10 rfl).front 10 rfl).front 10 rfl).front 10 rfl).front 10 rfl)
      obtain ⟨x13, hx, hm⟩ := bind_some hm
      obtain ⟨v1, h7, hr, rfl, A1⟩ := E5 (av := [.ptr (some (bp0, 0)), .agg (AM x12), Ab (IntKind.u8.wrap x4)]) hx (A.cut 8)
      replace A : HH g h7 [.obj bp0 (.cells none 2 [_, _, _, _, _, _, _, _]), .AI rp0_0 264 (AI AM p0.l_), .obj bp0_4 (.cells none 2 (Cj 256 (AA.int .u8) x2 ++ [Ai p0.t_.An, AF rp0_4_2 p0.t_.BO.length, AF rp0_4_3 p0.t_.A7.length])), .AI rp0_4_2 21 (AI (eI .i32) p0.t_.BO), .AI rp0_4_3 4 (AI eB p0.t_.A7), .AI r1 5 (AI eY x3), .obj bp0_6 (.map 2 (BS (fun k : List UInt8 => .str k) (fun v : Int => .int .i32 v) p0.B6)), .AI rp0_7 9 (AI eS p0.Bs), _, _, _] F := A.CY (n := 8) A1
      refine A0 2 [] 34 hr H fun fr t H => ?_
      refine BJ id (Ad 34 H hm (fun hb hm H => ?_) fun hb hm H => ?_)
      ·refine Cy 4 ?_
       obtain ⟨x14, hx, hm⟩ := bind_some hm
       obtain ⟨i2, er2, _, hx, hq2⟩ := HH.Kn HK (by decide) A 9 (xs := x8) rfl hx
       refine Ap 2 [] 37 (.ptr (some (i2, x9.toNat * 1))) h7 H (fun fr => .of (Dc (s := Cs (some h2.size) x8.length) (by kernel_rfl) hx)) fun fr t H => ?_
       obtain ⟨h8, hx, A1⟩ := HH.Xg HK A 9 rfl er2 hq2 (y := (1 : UInt8)) (o := 0) (new := [Ab 1]) rfl rfl (Nat.le_of_ble_eq_true rfl)
       have hl4 : (x8.set x9.toNat (1 : UInt8)).length = (List.replicate (IntKind.i64.wrap ((p0.l_.length : Int) + 1)).toNat (0 : UInt8)).length := List.length_set.trans hl1
       have el : AF (some h2.size) x8.length = AF (some h2.size) (x8.set x9.toNat (1 : UInt8)).length := congrArg _ List.length_set.symm
       try rw [el] at H
       try rw [el] at A1
       replace A : HH g h8 [_, _, _, _, _, _, _, _, _, .AI (some h2.size) 5 (AI eY (x8.set x9.toNat (1 : UInt8))), _] F := A1
       refine GK hx H fun fr t H => ?_
       refine at_nil ?_
       replace A : HH g h8 [_, _, _, _, _, _, _, _, _, _] F := (HH.JS ((((((((((A.front 7 rfl).front 7 rfl).front 7 rfl).front 7 rfl).front 7 rfl).front 7 rfl).front 7 rfl).front 7 rfl).front 10 rfl).front 10 rfl) 10)
       exact .inl ⟨_, rfl, AY hm, hl4, H.ls, A⟩
      refine FL ?_
      replace A : HH g h7 [_, _, _, _, _, _, _, _, _, _] F := (HH.JS ((((((((((A.front 7 rfl).front 7 rfl).front 7 rfl).front 7 rfl).front 7 rfl).front 7 rfl).front 7 rfl).front 7 rfl).front 10 rfl).front 10 rfl) 10)
      exact .inl ⟨_, rfl, AY hm, hl1, H.ls, A⟩
     clear ho
     clear A
     intro e fr h9 hQ
     rcases hQ with ⟨x11, rfl, rfl, hl3, H, A⟩ | hF
     ·show AW _ _ _ _ _ _ _
      refine Cy 2 (BV 2 [(0, .ptr (some (bp0, 0))), (2, .map (some h.size)), (3, Ai x4), (4, AF (some h2.size) x11.length), (10, Ai x4), (23, AF rp0_0 p0.l_.length), (24, Ai (p0.l_.length : Int)), (25, Ai (IntKind.i64.wrap (x9 + 1)))] H fun fr H => at_nil ?_)
      exact nx hm ⟨_, _, rfl, hl3, H.ls, A⟩
     exact hF.elim
    refine BU (i := 2) (by kernel_rfl) ?_
    exact nr hm fun e => .inl ⟨_, rfl, e, hl1, H.ls, A⟩
   clear ho
   clear A
   intro e fr h10 hQ
   rcases hQ with ⟨x10, rfl, rfl, hl2, H, A⟩ | hF
   ·show AW _ _ _ _ _ _ _
    refine AQ ?_
    obtain ⟨o4, ho, hm⟩ := bind_some hm
    refine Ax (Q' := fun e fr' h' => (∃ x15, e = .normal ∧ x15 = o4 ∧ ∃ (hl5 : x15.length = (List.replicate (IntKind.i64.wrap ((p0.l_.length : Int) + 1)).toNat (0 : UInt8)).length), Has fr' 93 [(0, .ptr (some (bp0, 0))), (2, .map (some h.size)), (3, Ai x4), (4, AF (some h2.size) x15.length), (10, Ai x4)] ∧ HH g h' [.AI (some h2.size) 5 (AI eY x15), .obj h.size (.map 2 (BS (fun k : List UInt8 => .str k) (fun v : Int => Ab v) x1)), .obj bp0 (.cells none 2 [AF rp0_0 p0.l_.length, .bool p0.f_.Fold, .bool p0.f_.Aw, Ai p0.EW, .ptr (some (bp0_4, 0)), AF r1 x3.length, .map (some bp0_6), AF rp0_7 p0.Bs.length]), .AI rp0_0 264 (AI AM p0.l_), .obj bp0_4 (.cells none 2 (Cj 256 (AA.int .u8) x2 ++ [Ai p0.t_.An, AF rp0_4_2 p0.t_.BO.length, AF rp0_4_3 p0.t_.A7.length])), .AI rp0_4_2 21 (AI (eI .i32) p0.t_.BO), .AI rp0_4_3 4 (AI eB p0.t_.A7), .AI r1 5 (AI eY x3), .obj bp0_6 (.map 2 (BS (fun k : List UInt8 => .str k) (fun v : Int => .int .i32 v) p0.B6)), .AI rp0_7 9 (AI eS p0.Bs)] F) ∨ False) ?_ ?_
    ·replace hm := ho
     clear ho
     refine AG 2 (AO 2 [(40, .bool (x4 == 47))] H fun fr H => Ad 40 H hm (fun hb hm H => ?_) fun hb hm H => ?_)
     ·refine Cy 8 (Ag 4 [(41, AF (some h2.size) x10.length)] 45 2 0 A H fun fr t H => ?_)
      obtain ⟨x16, hx, hm⟩ := bind_some hm
      obtain ⟨i3, er3, _, hx, hq3⟩ := HH.Kn HK (by decide) A 0 (xs := x10) rfl hx
      refine Ap 1 [] 47 (.ptr (some (i3, (p0.l_.length : Int).toNat * 1))) h10 H (fun fr => .of (Dc (s := Cs (some h2.size) x10.length) (by kernel_rfl) hx)) fun fr t H => ?_
      obtain ⟨h11, hx, A1⟩ := HH.Xg HK A 0 rfl er3 hq3 (y := (1 : UInt8)) (o := 0) (new := [Ab 1]) rfl rfl (Nat.le_of_ble_eq_true rfl)
      have hl6 : (x10.set (p0.l_.length : Int).toNat (1 : UInt8)).length = (List.replicate (IntKind.i64.wrap ((p0.l_.length : Int) + 1)).toNat (0 : UInt8)).length := List.length_set.trans hl2
      have el : AF (some h2.size) x10.length = AF (some h2.size) (x10.set (p0.l_.length : Int).toNat (1 : UInt8)).length := congrArg _ List.length_set.symm
      try rw [el] at H
      try rw [el] at A1
      replace A : HH g h11 [.AI (some h2.size) 5 (AI eY (x10.set (p0.l_.length : Int).toNat (1 : UInt8))), _, _, _, _, _, _, _, _, _] F := A1
      refine GK hx H fun fr t H => ?_
      refine at_nil ?_
      exact .inl ⟨_, rfl, AY hm, hl6, H.ls, A⟩
     exact FL (.inl ⟨_, rfl, AY hm, hl2, H.ls, A⟩)
    clear ho
    clear A
    intro e fr h12 hQ
    rcases hQ with ⟨x15, rfl, rfl, hl5, H, A⟩ | hF
    ·show AW _ _ _ _ _ _ _
     refine AG 9 (AK 2 [(49, .map (some h.size)), (50, AF (some h2.size) x15.length)] H fun fr H => Aq 51 (.str x15) h12 H (fun fr => .of (To (xs := x15) A 0 rfl (by kernel_rfl))) fun fr t H => ?_)
     refine Aq 52 (.tuple [Ab ((Di x1 x15).getD (0 : Int)), .bool ((Di x1 x15).isSome)]) h12 H (fun fr => .of (Tj (by kernel_rfl) (HH.T3 (kt := 9) (et := 5) (ek := fun k : List UInt8 => .str k) (ev := fun v : Int => Ab v) (Rk (by kernel_rfl)) A 1 rfl (t := 341) (by kernel_rfl) (z := (0 : Int)) (by kernel_rfl) x15))) fun fr t H => ?_
     refine AO 5 [(7, Ab ((Di x1 x15).getD (0 : Int))), (8, .bool ((Di x1 x15).isSome))] H fun fr H => AQ ?_
     obtain ⟨o5, ho, hm⟩ := bind_some hm
     refine Ax (Q' := fun e fr' h' => (∃ x17 x18 x19, e = .normal ∧ (x17, x18, x19) = o5 ∧ ∃ r3, Has fr' 93 [(0, .ptr (some (bp0, 0))), (2, .map (some h.size)), (3, Ai x4), (7, Ab x19), (10, Ai x4)] ∧ HH g h' [.obj h.size (.map 2 (BS (fun k : List UInt8 => .str k) (fun v : Int => Ab v) x17)), .obj bp0 (.cells none 2 [AF rp0_0 p0.l_.length, .bool p0.f_.Fold, .bool p0.f_.Aw, Ai p0.EW, .ptr (some (bp0_4, 0)), AF r3 x18.length, .map (some bp0_6), AF rp0_7 p0.Bs.length]), .AI rp0_0 264 (AI AM p0.l_), .obj bp0_4 (.cells none 2 (Cj 256 (AA.int .u8) x2 ++ [Ai p0.t_.An, AF rp0_4_2 p0.t_.BO.length, AF rp0_4_3 p0.t_.A7.length])), .AI rp0_4_2 21 (AI (eI .i32) p0.t_.BO), .AI rp0_4_3 4 (AI eB p0.t_.A7), .AI r3 5 (AI eY x18), .obj bp0_6 (.map 2 (BS (fun k : List UInt8 => .str k) (fun v : Int => .int .i32 v) p0.B6)), .AI rp0_7 9 (AI eS p0.Bs)] F) ∨ False) ?_ ?_
     ·replace hm := ho
      clear ho
      refine AG 2 (AO 2 [(56, .bool (!((Di x1 x15).isSome)))] H fun fr H => Ad 56 H hm (fun hb hm H => ?_) fun hb hm H => ?_)
      ·refine AG 4 (AK 1 [(57, .map (some h.size))] H fun fr H => Aq 58 (Ai (x1.length : Int)) h12 H (fun fr => .of (Vj (by kernel_rfl) (HH.Xm (ek := fun k : List UInt8 => .str k) (ev := fun v : Int => Ab v) A 1 rfl))) fun fr t H => ?_)
       refine BV 2 [(0, .ptr (some (bp0, 0))), (2, .map (some h.size)), (3, Ai x4), (4, AF (some h2.size) x15.length), (7, Ab (IntKind.u8.wrap (x1.length : Int))), (10, Ai x4)] H fun fr H => CX 5 id (AK 2 [(60, .map (some h.size)), (61, AF (some h2.size) x15.length)] H fun fr H => Aq 62 (.str x15) h12 H (fun fr => .of (To (xs := x15) A 0 rfl (by kernel_rfl))) fun fr t H => ?_)
       refine AK 1 [(63, Ab (IntKind.u8.wrap (x1.length : Int)))] H fun fr H => ?_
       obtain ⟨h13, hx, A1⟩ := HH.V5 (kt := 9) (et := 5) (ek := fun k : List UInt8 => .str k) (ev := fun v : Int => Ab v) (Rk (by kernel_rfl)) A 1 rfl (t := 341) (by kernel_rfl) x15 (IntKind.u8.wrap (x1.length : Int))
       replace A : HH g h13 [_, .obj h.size (.map 2 (BS (fun k : List UInt8 => .str k) (fun v : Int => Ab v) (F7 x1 x15 (IntKind.u8.wrap (x1.length : Int))))), _, _, _, _, _, _, _, _] F := A1
       refine Mg (.tuple []) h13 H (fun fr => .of (UG (by kernel_rfl) hx)) fun fr t H => ?_
       refine Ke 12 id (Ag 4 [(64, .ptr (some (bp0, 0)))] 68 2 5 A H fun fr t H => ?_)
       refine AK 2 [(70, Ab (IntKind.u8.wrap x4))] H fun fr H => ?_
       obtain ⟨x20, hx, hm⟩ := bind_some hm
       have hx := PK hx
       rw [hx] at H
       obtain ⟨h14, e4, A⟩ := A.pL 5 [Ab (x20.toNat : Int)]
       refine BB 71 (AF (some h13.size) (([x20] : List UInt8).length)) e4 H fun fr t H => ?_
       obtain ⟨hb, hm⟩ := BE hm
       obtain ⟨r4, h15, hx, A1⟩ := HH.Ko HK (by decide) A 8 (xs := x3) (ys := ([x20] : List UInt8)) rfl (Cu A 0 rfl (n := ([x20] : List UInt8).length) (z := 1) rfl (by decide)) rfl rfl hb
       replace A : HH g h15 [.AI (some h13.size) 5 ([Ab (x20.toNat : Int)]), _, _, _, _, _, _, _, .AI r4 5 (AI eY (x3 ++ ([x20] : List UInt8))), _, _] F := A1
       replace A : HH g h15 [_, _, _, _, _, _, _, _, _, _] F := (HH.JS ((((((((((A.front 10 rfl).front 10 rfl).front 10 rfl).front 10 rfl).front 10 rfl).front 10 rfl).front 10 rfl).front 10 rfl).front 10 rfl).front 10 rfl) 10)
       refine Aq 72 _ _ H (fun fr => .of (Hh (s := Cs r1 x3.length) (by kernel_rfl) hx)) fun fr t H => ?_
       obtain ⟨h16, hx, A1⟩ := A.st 2 rfl (o := 5) (new := [AF r4 ((x3 ++ ([x20] : List UInt8)).length)]) (ds := [AF rp0_0 p0.l_.length, .bool p0.f_.Fold, .bool p0.f_.Aw, Ai p0.EW, .ptr (some (bp0_4, 0)), AF r4 ((x3 ++ ([x20] : List UInt8)).length), .map (some bp0_6), AF rp0_7 p0.Bs.length]) (Nat.le_of_ble_eq_true rfl) rfl rfl
       replace A : HH g h16 [_, _, .obj bp0 (.cells none 2 [_, _, _, _, _, AF r4 ((x3 ++ ([x20] : List UInt8)).length), _, _]), _, _, _, _, _, _, _] F := A1
       refine FJ 2 [] hx H fun fr t H => ?_
       refine at_nil ?_
       replace A := A.k9 1 2 3 4 5 6 7 8 9
       exact .inl ⟨_, _, _, rfl, AY hm, _, H.ls, A⟩
      refine FL ?_
      replace A := A.k9 1 2 3 4 5 6 7 8 9
      exact .inl ⟨_, _, _, rfl, AY hm, _, H.ls, A⟩
     clear ho
     clear A
     intro e fr h17 hQ
     rcases hQ with ⟨x17, x18, x19, rfl, rfl, r3, H, A⟩ | hF
     ·show AW _ _ _ _ _ _ _
      refine Cy 10 (Ag 3 [] 78 1 4 A H fun fr t H => ?_)
      obtain ⟨x21, hq4, hm⟩ := bind_some hm
      refine Ap 4 [(80, Ab x19)] 83 (.ptr (some (bp0_4, 0 + x4.toNat * 1))) h17 H (fun fr => .of (QS (by kernel_rfl) (M6 hq4 (bp0_4, 0) 1))) fun fr t H => ?_
      obtain ⟨h18, hx, A1⟩ := HH.Y7 A 3 (AA.int .u8) (X := x2) [] ([Ai p0.t_.An, AF rp0_4_2 p0.t_.BO.length, AF rp0_4_3 p0.t_.A7.length] : List AA) (off := 0) rfl rfl (i := x4) x19 hq4 rfl
      replace A : HH g h18 [_, _, _, .obj bp0_4 (.cells none 2 (Cj 256 (AA.int .u8) (PZ x2 x4.toNat x19) ++ [Ai p0.t_.An, AF rp0_4_2 p0.t_.BO.length, AF rp0_4_3 p0.t_.A7.length])), _, _, _, _, _] F := A1
      refine GK hx H fun fr t H => ?_
      refine Ke 2 id (BV 2 [(0, .ptr (some (bp0, 0))), (2, .map (some h.size)), (10, Ai (IntKind.i64.wrap (x4 + 1)))] H fun fr H => at_nil ?_)
      exact nx hm ⟨_, _, _, _, rfl, _, H.ls, A⟩
     exact hF.elim
    exact hF.elim
   exact hF.elim
  refine BU (i := 0) (by kernel_rfl) ?_
  exact nr hm fun e => .inl ⟨_, _, _, rfl, e, _, H.ls, A⟩
 clear ho
 clear A
 intro e fr h19 hQ
 rcases hQ with ⟨x5, x6, x7, rfl, rfl, r2, H, A⟩ | hF
 ·show AW _ _ _ _ _ _ _
  refine Ep 20 9 ?_
  refine Ag 3 [] 88 1 4 A H fun fr t H => ?_
  refine AK 1 [(89, .map (some h.size))] H fun fr H => Aq 90 (Ai (x5.length : Int)) h19 H (fun fr => .of (Vj (by kernel_rfl) (HH.Xm (ek := fun k : List UInt8 => .str k) (ev := fun v : Int => Ab v) A 0 rfl))) fun fr t H => ?_
  obtain ⟨h20, hx, A1⟩ := A.st 3 rfl (o := 256) (new := [Ai (x5.length : Int)]) (ds := (Cj 256 (AA.int .u8) x6 ++ [Ai (x5.length : Int), AF rp0_4_2 p0.t_.BO.length, AF rp0_4_3 p0.t_.A7.length])) (Nat.le_of_ble_eq_true (by kernel_rfl)) rfl (by kernel_rfl)
  replace A : HH g h20 [_, _, _, .obj bp0_4 (.cells none 2 (Cj 256 (AA.int .u8) x6 ++ [Ai (x5.length : Int), AF rp0_4_2 p0.t_.BO.length, AF rp0_4_3 p0.t_.A7.length])), _, _, _, _, _] F := A1
  refine FJ 2 [] hx H fun fr t H => ?_
  refine at_nil ?_
  obtain ⟨rfl, rfl⟩ := Cw hm
  refine ⟨.inr rfl, .tuple [], rH H, ?_⟩
  replace A := A.k8 1 2 3 4 5 6 7 8
  exact ⟨r2, rfl, A⟩
 exact hF.elim
def EY (p0 : Bx) (s : (List UInt8) × Int) : Option (((List UInt8) × Int) ⊕ (((List UInt8)))) :=
 match s with
 | (x1, x2) => Aa (decide (x2 < (p0.l_.length : Int))) (((Fc p0.l_ x2).bind fun x5 => (Aa (x5.Kind == 4) ((Fc x1 (B3 .i64 x2 (3 : Int))).bind fun x7 => Em (decide (0 ≤ (CM .i64 x2 (7 : Int)))) <| some ((CM .u8 (B3 .u8 (x7.toNat : Int) (CM .i64 x2 (7 : Int))) (1 : Int)) == 1)) (some false) : Option (Bool)).bind fun x6 => Aa x6 ((Fc x1 (B3 .i64 (IntKind.i64.wrap (x2 + 1)) (3 : Int))).bind fun x8 => Em (decide (0 ≤ (CM .i64 (IntKind.i64.wrap (x2 + 1)) (7 : Int)))) <| (Fc x1 (B3 .i64 (IntKind.i64.wrap (x2 + 1)) (3 : Int))).bind fun x9 => (XW (Np .u8 (x8.toNat : Int) (Ki .u8 (1 : Int) (CM .i64 (IntKind.i64.wrap (x2 + 1)) (7 : Int))))).bind fun x10 => some (x1.set (B3 .i64 (IntKind.i64.wrap (x2 + 1)) (3 : Int)).toNat x10)) (some x1) : Option (((List UInt8)))).bind fun x4 => some (.inl (x4, IntKind.i64.wrap (x2 + 1)))) (some (.inr x1))
def Cd (p0 : Bx) (p1 : List UInt8) : Option ((List UInt8) × (List UInt8)) :=
 (loop (EY p0) (p1, (0 : Int))).bind fun x3 => some (x3, x3)
theorem Es {p0 p1 bp0 rp0_0 bp0_4 rp0_4_2 rp0_4_3 rp0_5 bp0_6 rp0_7 rp1 q0 u8} (hm : Cd p0 p1 = some (q0, u8)) (A : HH g h [.obj bp0 (.cells none 2 [AF rp0_0 p0.l_.length, .bool p0.f_.Fold, .bool p0.f_.Aw, Ai p0.EW, .ptr (some (bp0_4, 0)), AF rp0_5 p0.DP.length, .map (some bp0_6), AF rp0_7 p0.Bs.length]), .AI rp0_0 264 (AI AM p0.l_), .obj bp0_4 (.cells none 2 (Cj 256 (AA.int .u8) p0.t_.BP ++ [Ai p0.t_.An, AF rp0_4_2 p0.t_.BO.length, AF rp0_4_3 p0.t_.A7.length])), .AI rp0_4_2 21 (AI (eI .i32) p0.t_.BO), .AI rp0_4_3 4 (AI eB p0.t_.A7), .AI rp0_5 5 (AI eY p0.DP), .obj bp0_6 (.map 2 (BS (fun k : List UInt8 => .str k) (fun v : Int => .int .i32 v) p0.B6)), .AI rp0_7 9 (AI eS p0.Bs), .AI rp1 5 (AI eY p1)] F) (hc : BF (cfg.still 182) av = [.ptr (some (bp0, 0)), AF rp1 p1.length] := by kernel_rfl) : ∃ v h', BL cfg g h 182 av v h' ∧ ∃ (hl'8 : u8.length = p1.length), v = .str q0 ∧ HH g h' [.obj bp0 (.cells none 2 [AF rp0_0 p0.l_.length, .bool p0.f_.Fold, .bool p0.f_.Aw, Ai p0.EW, .ptr (some (bp0_4, 0)), AF rp0_5 p0.DP.length, .map (some bp0_6), AF rp0_7 p0.Bs.length]), .AI rp0_0 264 (AI AM p0.l_), .obj bp0_4 (.cells none 2 (Cj 256 (AA.int .u8) p0.t_.BP ++ [Ai p0.t_.An, AF rp0_4_2 p0.t_.BO.length, AF rp0_4_3 p0.t_.A7.length])), .AI rp0_4_2 21 (AI (eI .i32) p0.t_.BO), .AI rp0_4_3 4 (AI eB p0.t_.A7), .AI rp0_5 5 (AI eY p0.DP), .obj bp0_6 (.map 2 (BS (fun k : List UInt8 => .str k) (fun v : Int => .int .i32 v) p0.B6)), .AI rp0_7 9 (AI eS p0.Bs), .AI rp1 5 (AI eY u8)] F := by
 refine Dr 47 [.tmp 4] hc ?_
 clear hc
 unfold Cd at hm
 refine bg 47 [(0, .ptr (some (bp0, 0))), (1, AF rp1 p1.length)] fun fr H => ?_
 refine AG 1 (AO 1 [] H fun fr H => AQ (AG 6 (Ag 3 [] 10 0 0 A H fun fr t H => ?_)))
 refine AO 2 [(11, Ai (p0.l_.length : Int)), (12, Ai 0)] H fun fr H => AV (id := 0) (by kernel_rfl) ?_
 obtain ⟨o1, ho, hm⟩ := bind_some hm
 refine Ax (Q' := fun e fr' h' => (∃ x3, e = .exit 0 ∧ x3 = o1 ∧ ∃ (hl2 : x3.length = p1.length), Has fr' 47 [(1, AF rp1 x3.length)] ∧ HH g h' [.obj bp0 (.cells none 2 [AF rp0_0 p0.l_.length, .bool p0.f_.Fold, .bool p0.f_.Aw, Ai p0.EW, .ptr (some (bp0_4, 0)), AF rp0_5 p0.DP.length, .map (some bp0_6), AF rp0_7 p0.Bs.length]), .AI rp0_0 264 (AI AM p0.l_), .obj bp0_4 (.cells none 2 (Cj 256 (AA.int .u8) p0.t_.BP ++ [Ai p0.t_.An, AF rp0_4_2 p0.t_.BO.length, AF rp0_4_3 p0.t_.A7.length])), .AI rp0_4_2 21 (AI (eI .i32) p0.t_.BO), .AI rp0_4_3 4 (AI eB p0.t_.A7), .AI rp0_5 5 (AI eY p0.DP), .obj bp0_6 (.map 2 (BS (fun k : List UInt8 => .str k) (fun v : Int => .int .i32 v) p0.B6)), .AI rp0_7 9 (AI eS p0.Bs), .AI rp1 5 (AI eY x3)] F) ∨ False) ?_ ?_
 ·refine Bh (by kernel_rfl) (fun (s : (List UInt8) × Int) fr' h' => ∃ x1 x2, (x1, x2) = s ∧ ∃ (hl1 : x1.length = p1.length), Has fr' 47 [(1, AF rp1 x1.length), (10, AF rp0_0 p0.l_.length), (11, Ai (p0.l_.length : Int)), (12, Ai x2)] ∧ HH g h' [.obj bp0 (.cells none 2 [AF rp0_0 p0.l_.length, .bool p0.f_.Fold, .bool p0.f_.Aw, Ai p0.EW, .ptr (some (bp0_4, 0)), AF rp0_5 p0.DP.length, .map (some bp0_6), AF rp0_7 p0.Bs.length]), .AI rp0_0 264 (AI AM p0.l_), .obj bp0_4 (.cells none 2 (Cj 256 (AA.int .u8) p0.t_.BP ++ [Ai p0.t_.An, AF rp0_4_2 p0.t_.BO.length, AF rp0_4_3 p0.t_.A7.length])), .AI rp0_4_2 21 (AI (eI .i32) p0.t_.BO), .AI rp0_4_3 4 (AI eB p0.t_.A7), .AI rp0_5 5 (AI eY p0.DP), .obj bp0_6 (.map 2 (BS (fun k : List UInt8 => .str k) (fun v : Int => .int .i32 v) p0.B6)), .AI rp0_7 9 (AI eS p0.Bs), .AI rp1 5 (AI eY x1)] F) ho ⟨_, _, rfl, rfl, H.ls, A⟩ ?_
  clear ho hm H A
  intro s q fr h1 hI hm
  obtain ⟨x1, x2, rfl, hl1, H, A⟩ := hI
  unfold EY at hm
  refine AG 1 (AO 1 [(13, .bool (decide (x2 < (p0.l_.length : Int))))] H fun fr H => AQ (Ad 13 H hm (fun hb hm H => ?_) fun hb hm H => ?_))
  ·refine Bf id (AQ ?_)
   obtain ⟨o2, ho, hm⟩ := bind_some hm
   refine Ax (Q' := fun e fr' h' => (∃ x4, e = .normal ∧ x4 = o2 ∧ ∃ (hl3 : x4.length = p1.length), Has fr' 47 [(1, AF rp1 x4.length), (10, AF rp0_0 p0.l_.length), (11, Ai (p0.l_.length : Int)), (12, Ai x2)] ∧ HH g h' [.obj bp0 (.cells none 2 [AF rp0_0 p0.l_.length, .bool p0.f_.Fold, .bool p0.f_.Aw, Ai p0.EW, .ptr (some (bp0_4, 0)), AF rp0_5 p0.DP.length, .map (some bp0_6), AF rp0_7 p0.Bs.length]), .AI rp0_0 264 (AI AM p0.l_), .obj bp0_4 (.cells none 2 (Cj 256 (AA.int .u8) p0.t_.BP ++ [Ai p0.t_.An, AF rp0_4_2 p0.t_.BO.length, AF rp0_4_3 p0.t_.A7.length])), .AI rp0_4_2 21 (AI (eI .i32) p0.t_.BO), .AI rp0_4_3 4 (AI eB p0.t_.A7), .AI rp0_5 5 (AI eY p0.DP), .obj bp0_6 (.map 2 (BS (fun k : List UInt8 => .str k) (fun v : Int => .int .i32 v) p0.B6)), .AI rp0_7 9 (AI eS p0.Bs), .AI rp1 5 (AI eY x4)] F) ∨ False) ?_ ?_
   ·replace hm := ho
    clear ho
    refine AV (id := 1) (by kernel_rfl) ?_
    refine AG 6 ?_
    obtain ⟨x5, hx, hm⟩ := bind_some hm
    obtain ⟨i1, er1, _, hx, hq1⟩ := HH.Kn Bk (by decide) A 1 (xs := p0.l_) rfl hx
    refine Ap 1 [(14, Ai x2)] 15 (.ptr (some (i1, x2.toNat * 6))) h1 H (fun fr => .of (Dc (s := Cs rp0_0 p0.l_.length) (by kernel_rfl) hx)) fun fr t H => ?_
    refine Aq 16 _ _ H (fun fr => .of (CG (by kernel_rfl) (KE Bk (HH.row A 1 rfl er1) hq1 0 6 (Nat.le_of_ble_eq_true rfl)))) fun fr t H => ?_
    obtain ⟨h2, e1, A⟩ := A.pu (.cells none 2 [Ai 0, Ab 0, Au 0, Au 0, Au 0, Au 0])
    refine BB 6 (.ptr (some (h1.size, 0))) e1 H fun fr t H => ?_
    obtain ⟨h3, hx, A⟩ := A.s0 0 (AM x5) [_, _, _, _, _, _]
    refine Fk 1 [(5, Ai x2)] hx H fun fr t H => ?_
    refine CX 15 id (Ag 1 [] 18 0 0 A H fun fr t H => ?_)
    refine AK 2 [(20, .bool (x5.Kind == 4))] H fun fr H => ?_
    obtain ⟨x6, ho, hm⟩ := bind_some hm
    refine A9 11 (fun fr' h' => Has fr' 47 [(1, AF rp1 x1.length), (5, Ai x2), (10, AF rp0_0 p0.l_.length), (11, Ai (p0.l_.length : Int)), (12, Ai x2), (31, .bool x6)] ∧ HH g h' [.obj h1.size (.cells none 2 (AM x5)), .obj bp0 (.cells none 2 [AF rp0_0 p0.l_.length, .bool p0.f_.Fold, .bool p0.f_.Aw, Ai p0.EW, .ptr (some (bp0_4, 0)), AF rp0_5 p0.DP.length, .map (some bp0_6), AF rp0_7 p0.Bs.length]), .AI rp0_0 264 (AI AM p0.l_), .obj bp0_4 (.cells none 2 (Cj 256 (AA.int .u8) p0.t_.BP ++ [Ai p0.t_.An, AF rp0_4_2 p0.t_.BO.length, AF rp0_4_3 p0.t_.A7.length])), .AI rp0_4_2 21 (AI (eI .i32) p0.t_.BO), .AI rp0_4_3 4 (AI eB p0.t_.A7), .AI rp0_5 5 (AI eY p0.DP), .obj bp0_6 (.map 2 (BS (fun k : List UInt8 => .str k) (fun v : Int => .int .i32 v) p0.B6)), .AI rp0_7 9 (AI eS p0.Bs), .AI rp1 5 (AI eY x1)] F) ?_ ?_
    ·rcases AX ho with ⟨hb, hm⟩ | ⟨hb, hm⟩
     ·replace H := H.kn 20 hb
      obtain ⟨x7, hx, hm⟩ := bind_some hm
      obtain ⟨i2, er2, _, hx, hq2⟩ := HH.Kn HK (by decide) A 9 (xs := x1) rfl hx
      refine Ap 3 [] 24 (.ptr (some (i2, (B3 .i64 x2 (3 : Int)).toNat * 1))) h3 H (fun fr => .of (Dc (s := Cs rp1 x1.length) (by kernel_rfl) hx)) fun fr t H => ?_
      refine Aq 25 _ _ H (fun fr => .of (Da (by kernel_rfl) (DD HK (HH.row A 9 rfl er2) hq2 (o := 0) rfl))) fun fr t H => ?_
      refine AK 2 [(27, Ai (CM .i64 x2 (7 : Int)))] H fun fr H => ?_
      obtain ⟨hb, hm⟩ := BE hm
      refine Aq 28 (Ab (B3 .u8 (x7.toNat : Int) (CM .i64 x2 (7 : Int)))) h3 H (fun fr => .of (Tc (by kernel_rfl) hb)) fun fr t H => ?_
      refine AK 3 [(31, .bool ((CM .u8 (B3 .u8 (x7.toNat : Int) (CM .i64 x2 (7 : Int))) (1 : Int)) == 1))] H fun fr H => ?_
      obtain rfl := AY hm
      exact at_nil ⟨H.ls, A⟩
     replace H := H.kn 20 hb
     refine AK 11 [(31, .bool false)] H fun fr H => ?_
     obtain rfl := AY hm
     exact at_nil ⟨H.ls, A⟩
    clear A
    intro t fr h4 hK
    obtain ⟨H, A⟩ := hK
    refine BJ id (Ad 31 H hm (fun hb hm H => ?_) fun hb hm H => ?_)
    ·refine Ep 5 13 ?_
     obtain ⟨x8, hx, hm⟩ := bind_some hm
     obtain ⟨i3, er3, _, hx, hq3⟩ := HH.Kn HK (by decide) A 9 (xs := x1) rfl hx
     refine Ap 4 [(32, AF rp1 x1.length), (35, Ai (B3 .i64 (IntKind.i64.wrap (x2 + 1)) (3 : Int)))] 36 (.ptr (some (i3, (B3 .i64 (IntKind.i64.wrap (x2 + 1)) (3 : Int)).toNat * 1))) h4 H (fun fr => .of (Dc (s := Cs rp1 x1.length) (by kernel_rfl) hx)) fun fr t H => ?_
     refine Aq 37 _ _ H (fun fr => .of (Da (by kernel_rfl) (DD HK (HH.row A 9 rfl er3) hq3 (o := 0) rfl))) fun fr t H => ?_
     refine AK 3 [(40, Ai (CM .i64 (IntKind.i64.wrap (x2 + 1)) (7 : Int)))] H fun fr H => ?_
     obtain ⟨hb, hm⟩ := BE hm
     refine Aq 41 (Ab (Ki .u8 (1 : Int) (CM .i64 (IntKind.i64.wrap (x2 + 1)) (7 : Int)))) h4 H (fun fr => .of (VJ (by kernel_rfl) hb)) fun fr t H => ?_
     obtain ⟨x9, hx, hm⟩ := bind_some hm
     obtain ⟨i4, er4, _, hx, hq4⟩ := HH.Kn HK (by decide) A 9 (xs := x1) rfl hx
     refine Ap 1 [(42, Ab (Np .u8 (x8.toNat : Int) (Ki .u8 (1 : Int) (CM .i64 (IntKind.i64.wrap (x2 + 1)) (7 : Int)))))] 43 (.ptr (some (i4, (B3 .i64 (IntKind.i64.wrap (x2 + 1)) (3 : Int)).toNat * 1))) h4 H (fun fr => .of (Dc (s := Cs rp1 x1.length) (by kernel_rfl) hx)) fun fr t H => ?_
     obtain ⟨x10, hx, hm⟩ := bind_some hm
     have hx := PK hx
     rw [hx] at H
     obtain ⟨h5, hx, A1⟩ := HH.Xg HK A 9 rfl er4 hq4 (y := x10) (o := 0) (new := [Ab (x10.toNat : Int)]) rfl rfl (Nat.le_of_ble_eq_true rfl)
     have hl4 : (x1.set (B3 .i64 (IntKind.i64.wrap (x2 + 1)) (3 : Int)).toNat x10).length = p1.length := List.length_set.trans hl1
     have el : AF rp1 x1.length = AF rp1 (x1.set (B3 .i64 (IntKind.i64.wrap (x2 + 1)) (3 : Int)).toNat x10).length := congrArg _ List.length_set.symm
     try rw [el] at H
     try rw [el] at A1
     replace A : HH g h5 [_, _, _, _, _, _, _, _, _, .AI rp1 5 (AI eY (x1.set (B3 .i64 (IntKind.i64.wrap (x2 + 1)) (3 : Int)).toNat x10))] F := A1
     refine GK hx H fun fr t H => ?_
     refine at_nil ?_
     replace A := A.k9 1 2 3 4 5 6 7 8 9
     exact .inl ⟨_, rfl, AY hm, hl4, H.ls, A⟩
    refine FL ?_
    replace A := A.k9 1 2 3 4 5 6 7 8 9
    exact .inl ⟨_, rfl, AY hm, hl1, H.ls, A⟩
   clear ho
   clear A
   intro e fr h6 hQ
   rcases hQ with ⟨x4, rfl, rfl, hl3, H, A⟩ | hF
   ·show AW _ _ _ _ _ _ _
    refine Cy 2 (BV 2 [(1, AF rp1 x4.length), (10, AF rp0_0 p0.l_.length), (11, Ai (p0.l_.length : Int)), (12, Ai (IntKind.i64.wrap (x2 + 1)))] H fun fr H => at_nil ?_)
    exact nx hm ⟨_, _, rfl, hl3, H.ls, A⟩
   exact hF.elim
  refine BU (i := 0) (by kernel_rfl) ?_
  exact nr hm fun e => .inl ⟨_, rfl, e, hl1, H.ls, A⟩
 clear ho
 clear A
 intro e fr h7 hQ
 rcases hQ with ⟨x3, rfl, rfl, hl2, H, A⟩ | hF
 ·show AW _ _ _ _ _ _ _
  refine AG 3 (AK 1 [(45, AF rp1 x3.length)] H fun fr H => Aq 46 (.str x3) h7 H (fun fr => .of (To (xs := x3) A 8 rfl (by kernel_rfl))) fun fr t H => ?_)
  refine AO 1 [(4, .str x3)] H fun fr H => AU ?_
  obtain ⟨rfl, rfl⟩ := Cw hm
  exact ⟨.inl rfl, _, rH H, hl2, rfl, A⟩
 exact hF.elim
def CB (p1 : Int) (s : (List UInt8)) : Option (((List UInt8)) ⊕ (((List UInt8)))) :=
 match s with
 | x1 => (Aa (decide ((x1.length : Int) > 0)) ((RD x1 (IntKind.i64.wrap ((x1.length : Int) - 1))).bind fun x4 => some (x4 == p1)) (some false) : Option (Bool)).bind fun x3 => Aa x3 ((Jx x1 none (some (IntKind.i64.wrap ((x1.length : Int) - 1)))).bind fun x5 => some (.inl x5)) (some (.inr x1))
def C7 (p0 : List UInt8) (p1 : Int) : Option ((List UInt8)) :=
 (loop (CB p1) p0).bind fun x2 => some x2
theorem GV {p0 p1 q0} (hm : C7 p0 p1 = some q0) (A : HH g h [] F) (hc : BF (cfg.still 212) av = [.str p0, Ab p1] := by kernel_rfl) : ∃ v h', BL cfg g h 212 av v h' ∧ v = .str q0 ∧ HH g h' [] F := by
 refine Dr 23 [.tmp 4] hc ?_
 clear hc
 unfold C7 at hm
 refine bg 23 [(0, .str p0), (1, Ab p1)] fun fr H => ?_
 refine AG 1 (AO 1 [] H fun fr H => AQ (AV (id := 0) (by kernel_rfl) ?_))
 obtain ⟨o1, ho, hm⟩ := bind_some hm
 refine Ax (Q' := fun e fr' h' => (∃ x2, e = .exit 0 ∧ x2 = o1 ∧ Has fr' 23 [(0, .str x2)] ∧ HH g h' [] F) ∨ False) ?_ ?_
 ·refine Bh (by kernel_rfl) (fun (s : (List UInt8)) fr' h' => ∃ x1, x1 = s ∧ Has fr' 23 [(0, .str x1), (1, Ab p1)] ∧ HH g h' [] F) ho ⟨_, rfl, H.ls, A⟩ ?_
  clear ho hm H A
  intro s q fr h1 hI hm
  obtain ⟨x1, rfl, H, A⟩ := hI
  unfold CB at hm
  refine AQ (AG 12 (AK 4 [(8, .bool (decide ((x1.length : Int) > 0)))] H fun fr H => ?_))
  obtain ⟨x3, ho, hm⟩ := bind_some hm
  refine A9 8 (fun fr' h' => Has fr' 23 [(0, .str x1), (1, Ab p1), (16, .bool x3)] ∧ HH g h' [] F) ?_ ?_
  ·rcases AX ho with ⟨hb, hm⟩ | ⟨hb, hm⟩
   ·replace H := H.kn 8 hb
    obtain ⟨x4, hx, hm⟩ := bind_some hm
    refine Ap 4 [] 13 (Ab x4) h1 H (fun fr => .of (JG (by kernel_rfl) hx)) fun fr t H => ?_
    refine AK 3 [(16, .bool (x4 == p1))] H fun fr H => ?_
    obtain rfl := AY hm
    exact at_nil ⟨H.ls, A⟩
   replace H := H.kn 8 hb
   refine AK 8 [(16, .bool false)] H fun fr H => ?_
   obtain rfl := AY hm
   exact at_nil ⟨H.ls, A⟩
  clear A
  intro t fr h2 hK
  obtain ⟨H, A⟩ := hK
  refine BJ id (Ad 16 H hm (fun hb hm H => ?_) fun hb hm H => ?_)
  ·refine Bf id (AV (id := 1) (by kernel_rfl) ?_)
   refine Cy 6 ?_
   obtain ⟨x5, hx, hm⟩ := bind_some hm
   refine Ap 4 [] 21 (.str x5) h2 H (fun fr => .of (Ib (k := .i64) (k' := .i64) (lo := none) (hi := (some (IntKind.i64.wrap ((x1.length : Int) - 1)))) (by kernel_rfl) hx)) fun fr t H => ?_
   refine BV 1 [(0, .str x5), (1, Ab p1)] H fun fr H => at_nil ?_
   exact nx hm ⟨_, rfl, H.ls, A⟩
  refine BU (i := 0) (by kernel_rfl) ?_
  exact nr hm fun e => .inl ⟨_, rfl, e, H.ls, A⟩
 clear ho
 clear A
 intro e fr h3 hQ
 rcases hQ with ⟨x2, rfl, rfl, H, A⟩ | hF
 ·show AW _ _ _ _ _ _ _
  refine AG 2 (AO 2 [(4, .str x2)] H fun fr H => AU ?_)
  obtain rfl := AY hm
  exact ⟨.inl rfl, _, rH H, rfl, A⟩
 exact hF.elim
def GD (p1 : Int) (s : (List UInt8)) : Option (((List UInt8)) ⊕ (((List UInt8)))) :=
 match s with
 | x1 => (Aa (decide ((x1.length : Int) > 0)) ((RD x1 (0 : Int)).bind fun x4 => some (x4 == p1)) (some false) : Option (Bool)).bind fun x3 => Aa x3 ((Jx x1 (some (1 : Int)) none).bind fun x5 => some (.inl x5)) (some (.inr x1))
def EC (p0 : List UInt8) (p1 : Int) : Option ((List UInt8)) :=
 (loop (GD p1) p0).bind fun x2 => some x2
theorem Gn {p0 p1 q0} (hm : EC p0 p1 = some q0) (A : HH g h [] F) (hc : BF (cfg.still 143) av = [.str p0, Ab p1] := by kernel_rfl) : ∃ v h', BL cfg g h 143 av v h' ∧ v = .str q0 ∧ HH g h' [] F := by
 refine Dr 17 [.tmp 4] hc ?_
 clear hc
 unfold EC at hm
 refine bg 17 [(0, .str p0), (1, Ab p1)] fun fr H => ?_
 refine AG 1 (AO 1 [] H fun fr H => AQ (AV (id := 0) (by kernel_rfl) ?_))
 obtain ⟨o1, ho, hm⟩ := bind_some hm
 refine Ax (Q' := fun e fr' h' => (∃ x2, e = .exit 0 ∧ x2 = o1 ∧ Has fr' 17 [(0, .str x2)] ∧ HH g h' [] F) ∨ False) ?_ ?_
 ·refine Bh (by kernel_rfl) (fun (s : (List UInt8)) fr' h' => ∃ x1, x1 = s ∧ Has fr' 17 [(0, .str x1), (1, Ab p1)] ∧ HH g h' [] F) ho ⟨_, rfl, H.ls, A⟩ ?_
  clear ho hm H A
  intro s q fr h1 hI hm
  obtain ⟨x1, rfl, H, A⟩ := hI
  unfold GD at hm
  refine AQ (AG 9 (AK 4 [(8, .bool (decide ((x1.length : Int) > 0)))] H fun fr H => ?_))
  obtain ⟨x3, ho, hm⟩ := bind_some hm
  refine A9 5 (fun fr' h' => Has fr' 17 [(0, .str x1), (1, Ab p1), (13, .bool x3)] ∧ HH g h' [] F) ?_ ?_
  ·rcases AX ho with ⟨hb, hm⟩ | ⟨hb, hm⟩
   ·replace H := H.kn 8 hb
    obtain ⟨x4, hx, hm⟩ := bind_some hm
    refine Ap 1 [] 10 (Ab x4) h1 H (fun fr => .of (JG (by kernel_rfl) hx)) fun fr t H => ?_
    refine AK 3 [(13, .bool (x4 == p1))] H fun fr H => ?_
    obtain rfl := AY hm
    exact at_nil ⟨H.ls, A⟩
   replace H := H.kn 8 hb
   refine AK 5 [(13, .bool false)] H fun fr H => ?_
   obtain rfl := AY hm
   exact at_nil ⟨H.ls, A⟩
  clear A
  intro t fr h2 hK
  obtain ⟨H, A⟩ := hK
  refine BJ id (Ad 13 H hm (fun hb hm H => ?_) fun hb hm H => ?_)
  ·refine Bf id (AV (id := 1) (by kernel_rfl) ?_)
   refine Cy 3 ?_
   obtain ⟨x5, hx, hm⟩ := bind_some hm
   refine Ap 1 [] 15 (.str x5) h2 H (fun fr => .of (Ib (k := .i64) (k' := .i64) (lo := (some (1 : Int))) (hi := none) (by kernel_rfl) hx)) fun fr t H => ?_
   refine BV 1 [(0, .str x5), (1, Ab p1)] H fun fr H => at_nil ?_
   exact nx hm ⟨_, rfl, H.ls, A⟩
  refine BU (i := 0) (by kernel_rfl) ?_
  exact nr hm fun e => .inl ⟨_, rfl, e, H.ls, A⟩
 clear ho
 clear A
 intro e fr h3 hQ
 rcases hQ with ⟨x2, rfl, rfl, H, A⟩ | hF
 ·show AW _ _ _ _ _ _ _
  refine AG 2 (AO 2 [(4, .str x2)] H fun fr H => AU ?_)
  obtain rfl := AY hm
  exact ⟨.inl rfl, _, rH H, rfl, A⟩
 exact hF.elim
end
end Go.Av.L
