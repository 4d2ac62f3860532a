/-
 A part.
-/
import Derived.Test.YtlljeoogceblmaaGreatDoorKCfg
namespace Go.Av.L
open Go.Av Go.Lib
open IntKind (i64)
set_option maxRecDepth 10000
set_option linter.unusedVariables false
set_option linter.unusedSimpArgs false
variable {g : Gd} {h : AD} {F : List Ck} {av : List AB}
noncomputable section
def B8 (p0 : List AA) (s : Int) : Option ((Int) ⊕ ((Unit) ⊕ (Bool))) :=
 match s with
 | x1 => Aa (decide (x1 < (p0.length : Int))) ((Hj p0 x1).bind fun x3 => (Aa (decide ((x3.Key.length : Int) > 300)) (some true) ((Hj p0 x1).bind fun x5 => some (decide ((x5.Value.length : Int) > 300))) : Option (Bool)).bind fun x4 => Aa x4 (some (.inr (.inr true))) (some (.inl (i64.wrap (x1 + 1))))) (some (.inr (.inl ())))
def Df (p0 : List AA) : Option (Bool) :=
 Aa (decide ((p0.length : Int) > 12)) (some true) ((loop (B8 p0) (0 : Int)).bind fun o1 => (match o1 with | .inl _ => some false | .inr x2 => some x2))
theorem J5 {p0 q0} (M : Df p0 = some q0) (A : HH g h [] F) (hc : A9 (cfg.still 44) av = [vs AJ p0] := by kernel_rfl) : ∃ v Q, BB cfg g h 44 av v Q ∧ v = .bool q0 ∧ HH g Q [] F := by
 refine Dj 29 [.tmp 2] hc ?_
 clear hc
 unfold Df at M
 refine bg 29 [(0, vs AJ p0)] fun D H => ?_
 refine AF 1 (AL 1 [] H fun D H => AN (AF 3 (AL 3 [(6, .bool (decide ((p0.length : Int) > 12)))] H fun D H => AX 6 H M (fun B M H => ?_) fun B M H => ?_)))
 ·refine AF 1 (AL 1 [(2, .bool true)] H fun D H => AQ ?_)
  obtain rfl := Ad M
  exact ⟨.inl rfl, _, rH H, rfl, A⟩
 refine Bl id (AN (AF 1 (AL 1 [(3, Ai 0)] H fun D H => Ae (id := 0) (by kernel_rfl) ?_)))
 obtain ⟨o1, O, M⟩ := bind_some M
 refine Ao (Q' := fun e N Q => (e = .exit 0 ∧ .inl () = o1 ∧ Has N 29 [] ∧ HH g Q [] F) ∨ (∃ x2, e = .ret ∧ .inr x2 = o1 ∧ Has N 29 [(2, .bool x2)] ∧ HH g Q [] F) ∨ False) ?_ ?_
 ·refine Bc (by kernel_rfl) (fun (s : Int) N Q => ∃ x1, x1 = s ∧ Has N 29 [(0, vs AJ p0), (3, Ai x1)] ∧ HH g Q [] F) O ⟨_, rfl, H.ls, A⟩ ?_
  clear O M H A
  intro s q D h1 hI M
  obtain ⟨x1, rfl, H, A⟩ := hI
  unfold B8 at M
  refine AN (AF 4 (AL 4 [(10, .bool (decide (x1 < (p0.length : Int))))] H fun D H => AX 10 H M (fun B M H => ?_) fun B M H => ?_))
  ·refine Bl id (AN (Ae (id := 1) (by kernel_rfl) ?_))
   refine AF 16 ?_
   obtain ⟨x3, X, M⟩ := bind_some M
   refine Ax 2 [] 15 (.Am [.str x3.Key, .str x3.Value]) h1 H (fun D => .of (PK (e := AJ) (x := x3) AS (by decide) (by kernel_rfl) X)) fun D t H => ?_
   refine Ax 1 [] 17 (.str x3.Key) h1 H (fun D => .of (US (by kernel_rfl))) fun D t H => ?_
   refine AG 3 [(20, .bool (decide ((x3.Key.length : Int) > 300)))] H fun D H => ?_
   obtain ⟨x4, O, M⟩ := bind_some M
   refine Al 8 (fun N Q => Has N 29 [(0, vs AJ p0), (3, Ai x1), (28, .bool x4)] ∧ HH g Q [] F) ?_ ?_
   ·rcases Ar O with ⟨B, M⟩ | ⟨B, M⟩
    ·replace H := H.kn 20 B
     refine AG 8 [(28, .bool true)] H fun D H => ?_
     obtain rfl := Ad M
     exact at_nil ⟨H.ls, A⟩
    replace H := H.kn 20 B
    obtain ⟨x5, X, M⟩ := bind_some M
    refine Ax 2 [] 23 (.Am [.str x5.Key, .str x5.Value]) h1 H (fun D => .of (PK (e := AJ) (x := x5) AS (by decide) (by kernel_rfl) X)) fun D t H => ?_
    refine Ax 1 [] 25 (.str x5.Value) h1 H (fun D => .of (US (by kernel_rfl))) fun D t H => ?_
    refine AG 3 [(28, .bool (decide ((x5.Value.length : Int) > 300)))] H fun D H => ?_
    obtain rfl := Ad M
    exact at_nil ⟨H.ls, A⟩
   clear A
   intro t D h2 hK
   obtain ⟨H, A⟩ := hK
   refine BK id (AX 28 H M (fun B M H => ?_) fun B M H => ?_)
   ·refine AF 1 (AL 1 [(2, .bool true)] H fun D H => AQ ?_)
    exact nr M fun e => Or.inr (.inl ⟨_, rfl, e, H.ls, A⟩)
   refine FL 3 id (A5 3 [(0, vs AJ p0), (3, Ai (i64.wrap (x1 + 1)))] H fun D H => at_nil ?_)
   exact nx M ⟨_, rfl, H.ls, A⟩
  refine Bb (i := 0) (by kernel_rfl) ?_
  exact nr M fun e => .inl ⟨rfl, e, H.ls, A⟩
 clear O
 clear A
 intro e D h3 hQ
 rcases hQ with ⟨rfl, rfl, H, A⟩ | ⟨x2, rfl, rfl, H, A⟩ | hF
 ·show AW _ _ _ _ _ _ _
  refine AF 1 (AL 1 [(2, .bool false)] H fun D H => AQ ?_)
  obtain rfl := Ad M
  exact ⟨.inl rfl, _, rH H, rfl, A⟩
 ·obtain rfl := Ad M
  exact ⟨.inl rfl, _, rH H, rfl, A⟩
 exact hF.elim
def Cz (p0 : AR) : Option (Bool) :=
 (Df p0.Extra).bind fun x1 => some (((((x1 || (decide ((p0.Name.length : Int) > 600))) || (decide ((p0.Az.length : Int) > 600))) || (decide ((p0.Ah.length : Int) > 100))) || (decide ((p0.Aj.length : Int) > 100))) || (decide ((p0.Data.length : Int) > 2000)))
theorem KG {p0 q0} (M : Cz p0 = some q0) (A : HH g h [] F) (hc : A9 (cfg.still 11) av = [.agg (AE p0)] := by kernel_rfl) : ∃ v Q, BB cfg g h 11 av v Q ∧ v = .bool q0 ∧ HH g Q [] F := by
 refine Dj 36 [.tmp 2] hc ?_
 clear hc
 unfold Cz at M
 refine bg 36 [(0, .agg (AE p0))] fun D H => ?_
 refine AF 2 ?_
 obtain ⟨h1, e1, A⟩ := A.pu (.cells none 2 (AE p0))
 refine BF 1 (.ptr (some (h.size, 0))) e1 H fun D t H => ?_
 refine Be 1 [] 34 H fun D H => AV 1 [] 4 0 12 A H fun D t H => ?_
 obtain ⟨x1, X, M⟩ := bind_some M
 obtain ⟨v1, h2, R, rfl, E⟩ := J5 (av := [vs AJ p0.Extra]) X (A.cut 0)
 replace A : HH g h2 [.obj h.size (.cells none 2 (AE p0))] F := A.GC (n := 0) E
 refine A0 5 R H fun D t H => ?_
 refine AG 1 [(6, .bool x1)] H fun D H => Al 5 (fun N Q => h2 = Q ∧ Has N 36 [(1, .ptr (some (h.size, 0))), (11, .bool (x1 || (decide ((p0.Name.length : Int) > 600))))]) ?_ ?_
 ·cases B : (x1 : Bool) with
  | true =>
   replace H := H.kn 6 B
   exact AG 5 [(11, .bool true)] H fun D H => Ac H B
  | false =>
   replace H := H.kn 6 B
   refine AV 1 [] 8 0 0 A H fun D t H => ?_
   exact AG 3 [(11, .bool (decide ((p0.Name.length : Int) > 600)))] H fun D H => Ac H B
 intro t D Q hK
 obtain ⟨e, H⟩ := hK
 subst e
 refine AG 1 [(12, .bool (x1 || (decide ((p0.Name.length : Int) > 600))))] H fun D H => Al 5 (fun N Q => h2 = Q ∧ Has N 36 [(1, .ptr (some (h.size, 0))), (17, .bool ((x1 || (decide ((p0.Name.length : Int) > 600))) || (decide ((p0.Az.length : Int) > 600))))]) ?_ ?_
 ·cases B : (x1 || (decide ((p0.Name.length : Int) > 600)) : Bool) with
  | true =>
   replace H := H.kn 12 B
   exact AG 5 [(17, .bool true)] H fun D H => Ac H B
  | false =>
   replace H := H.kn 12 B
   refine AV 1 [] 14 0 1 A H fun D t H => ?_
   exact AG 3 [(17, .bool (decide ((p0.Az.length : Int) > 600)))] H fun D H => Ac H B
 intro t D Q hK
 obtain ⟨e, H⟩ := hK
 subst e
 refine AG 1 [(18, .bool ((x1 || (decide ((p0.Name.length : Int) > 600))) || (decide ((p0.Az.length : Int) > 600))))] H fun D H => Al 5 (fun N Q => h2 = Q ∧ Has N 36 [(1, .ptr (some (h.size, 0))), (23, .bool (((x1 || (decide ((p0.Name.length : Int) > 600))) || (decide ((p0.Az.length : Int) > 600))) || (decide ((p0.Ah.length : Int) > 100))))]) ?_ ?_
 ·cases B : ((x1 || (decide ((p0.Name.length : Int) > 600))) || (decide ((p0.Az.length : Int) > 600)) : Bool) with
  | true =>
   replace H := H.kn 18 B
   exact AG 5 [(23, .bool true)] H fun D H => Ac H B
  | false =>
   replace H := H.kn 18 B
   refine AV 1 [] 20 0 6 A H fun D t H => ?_
   exact AG 3 [(23, .bool (decide ((p0.Ah.length : Int) > 100)))] H fun D H => Ac H B
 intro t D Q hK
 obtain ⟨e, H⟩ := hK
 subst e
 refine AG 1 [(24, .bool (((x1 || (decide ((p0.Name.length : Int) > 600))) || (decide ((p0.Az.length : Int) > 600))) || (decide ((p0.Ah.length : Int) > 100))))] H fun D H => Al 5 (fun N Q => h2 = Q ∧ Has N 36 [(1, .ptr (some (h.size, 0))), (29, .bool ((((x1 || (decide ((p0.Name.length : Int) > 600))) || (decide ((p0.Az.length : Int) > 600))) || (decide ((p0.Ah.length : Int) > 100))) || (decide ((p0.Aj.length : Int) > 100))))]) ?_ ?_
 ·cases B : (((x1 || (decide ((p0.Name.length : Int) > 600))) || (decide ((p0.Az.length : Int) > 600))) || (decide ((p0.Ah.length : Int) > 100)) : Bool) with
  | true =>
   replace H := H.kn 24 B
   exact AG 5 [(29, .bool true)] H fun D H => Ac H B
  | false =>
   replace H := H.kn 24 B
   refine AV 1 [] 26 0 7 A H fun D t H => ?_
   exact AG 3 [(29, .bool (decide ((p0.Aj.length : Int) > 100)))] H fun D H => Ac H B
 intro t D Q hK
 obtain ⟨e, H⟩ := hK
 subst e
 refine AG 1 [(30, .bool ((((x1 || (decide ((p0.Name.length : Int) > 600))) || (decide ((p0.Az.length : Int) > 600))) || (decide ((p0.Ah.length : Int) > 100))) || (decide ((p0.Aj.length : Int) > 100))))] H fun D H => Al 5 (fun N Q => h2 = Q ∧ Has N 36 [(35, .bool (((((x1 || (decide ((p0.Name.length : Int) > 600))) || (decide ((p0.Az.length : Int) > 600))) || (decide ((p0.Ah.length : Int) > 100))) || (decide ((p0.Aj.length : Int) > 100))) || (decide ((p0.Data.length : Int) > 2000))))]) ?_ ?_
 ·cases B : ((((x1 || (decide ((p0.Name.length : Int) > 600))) || (decide ((p0.Az.length : Int) > 600))) || (decide ((p0.Ah.length : Int) > 100))) || (decide ((p0.Aj.length : Int) > 100)) : Bool) with
  | true =>
   replace H := H.kn 30 B
   exact AG 5 [(35, .bool true)] H fun D H => Ac H B
  | false =>
   replace H := H.kn 30 B
   refine AV 1 [] 32 0 13 A H fun D t H => ?_
   exact AG 3 [(35, .bool (decide ((p0.Data.length : Int) > 2000)))] H fun D H => Ac H B
 intro t D Q hK
 obtain ⟨e, H⟩ := hK
 subst e
 refine AL 1 [(2, .bool (((((x1 || (decide ((p0.Name.length : Int) > 600))) || (decide ((p0.Az.length : Int) > 600))) || (decide ((p0.Ah.length : Int) > 100))) || (decide ((p0.Aj.length : Int) > 100))) || (decide ((p0.Data.length : Int) > 2000))))] H fun D H => AQ ?_
 obtain rfl := Ad M
 refine ⟨.inl rfl, .bool (((((x1 || (decide ((p0.Name.length : Int) > 600))) || (decide ((p0.Az.length : Int) > 600))) || (decide ((p0.Ah.length : Int) > 100))) || (decide ((p0.Aj.length : Int) > 100))) || (decide ((p0.Data.length : Int) > 2000))), rH H, ?_⟩
 replace A := A.d0
 exact ⟨rfl, A⟩
def JV : Option (BM) :=
 some (⟨false, false, (0 : Int), (0 : Int)⟩ : BM)
theorem PG {q00} (M : JV = some q00) (A : HH g h [] F) (hc : A9 (cfg.still 16) av = [] := by kernel_rfl) : ∃ v Q, BB cfg g h 16 av v Q ∧ ∃ (bq00 : Nat), v = .ptr (some (bq00, 0)) ∧ HH g Q [.obj bq00 (.cells none 2 (Bq q00))] F := by
 refine Dj 3 [.tmp 0] hc ?_
 clear hc
 unfold JV at M
 refine bg 3 [] fun D H => ?_
 refine AF 1 (Be 1 [] 3 H fun D H => ?_)
 obtain ⟨h1, e1, A⟩ := A.pu (.cells none 2 [.bool false, .bool false, Ai 0, Ai 0])
 refine Jg 1 [] 2 (.ptr (some (h.size, 0))) e1 H fun D t H => ?_
 refine AL 1 [(0, .ptr (some (h.size, 0)))] H fun D H => AQ ?_
 obtain rfl := Ad M
 exact ⟨.inl rfl, _, rH H, _, rfl, A⟩
def Cm (p0 : List UInt8) (p1 : Int) : Option (Int) :=
 (G3 p0 p1).bind fun x1 => some x1
theorem Iq {p0 p1 q0} (M : Cm p0 p1 = some q0) (A : HH g h [] F) (hc : A9 (cfg.still 189) av = [.str p0, Ab p1] := by kernel_rfl) : ∃ v Q, BB cfg g h 189 av v Q ∧ v = Ai q0 ∧ HH g Q [] F := by
 refine Dj 8 [.tmp 4] hc ?_
 clear hc
 unfold Cm at M
 refine bg 8 [(0, .str p0), (1, Ab p1)] fun D H => ?_
 refine AF 1 (Be 1 [] 4 H fun D H => ?_)
 obtain ⟨x1, X, M⟩ := bind_some M
 refine Ax 2 [] 7 (Ai x1) h H (fun D => Steps.call (by kernel_rfl) (XR (C := cfg) (f := 224) (by kernel_rfl) (l := exts) rfl (by kernel_rfl) X)) fun D t H => ?_
 refine AL 1 [(4, Ai x1)] H fun D H => AQ ?_
 obtain rfl := Ad M
 exact ⟨.inl rfl, _, rH H, rfl, A⟩
def BX (p0 : List UInt8) (p1 : Int) : Option (Int) :=
 (Cm p0 p1).bind fun x1 => some x1
theorem EE {p0 p1 q0} (M : BX p0 p1 = some q0) (A : HH g h [] F) (hc : A9 (cfg.still 134) av = [.str p0, Ab p1] := by kernel_rfl) : ∃ v Q, BB cfg g h 134 av v Q ∧ v = Ai q0 ∧ HH g Q [] F := by
 refine Dj 8 [.tmp 4] hc ?_
 clear hc
 unfold BX at M
 refine bg 8 [(0, .str p0), (1, Ab p1)] fun D H => ?_
 refine AF 1 (Be 1 [] 4 H fun D H => ?_)
 obtain ⟨x1, X, M⟩ := bind_some M
 obtain ⟨v1, h1, R, rfl, E⟩ := Iq (av := [.str p0, Ab p1]) X (A.cut 0)
 replace A := A.De E
 refine Aq 2 [] 7 R H fun D t H => ?_
 refine AL 1 [(4, Ai x1)] H fun D H => AQ ?_
 obtain rfl := Ad M
 exact ⟨.inl rfl, _, rH H, rfl, A⟩
def Ds (p0 : List AA) (s : Int) : Option ((Int) ⊕ ((Unit) ⊕ (Bool))) :=
 match s with
 | x1 => Aa (decide (x1 < (p0.length : Int))) ((Hj p0 x1).bind fun x3 => Aa (x3.Key == ([103, 105, 100] : UV)) (some (.inr (.inr false))) (Aa (x3.Key == ([117, 105, 100] : UV)) (some (.inr (.inr false))) (Aa (x3.Key == ([115, 105, 122, 101] : UV)) (some (.inr (.inr false))) (Aa (x3.Key == ([103, 110, 97, 109, 101] : UV)) (some (.inr (.inr false))) (Aa (x3.Key == ([117, 110, 97, 109, 101] : UV)) (some (.inr (.inr false))) (Aa (x3.Key == ([112, 97, 116, 104] : UV)) (some (.inr (.inr false))) (Aa (x3.Key == ([108, 105, 110, 107, 112, 97, 116, 104] : UV)) (some (.inr (.inr false))) (Aa (x3.Key == ([109, 116, 105, 109, 101] : UV)) (some (.inr (.inr false))) ((Aa ((x3.Key == ([] : UV)) || (x3.Value == ([] : UV))) (some true) ((BX x3.Key (61 : Int)).bind fun x5 => some (decide (x5 ≥ 0))) : Option (Bool)).bind fun x4 => (Aa x4 (some true) ((Aa (decide (x1 > 0)) ((Hj p0 (i64.wrap (x1 - 1))).bind fun x8 => some (!(Op.bytesLess x8.Key x3.Key))) (some false) : Option (Bool)).bind fun x7 => some x7) : Option (Bool)).bind fun x6 => Aa x6 (some (.inr (.inr false))) (some (.inl (i64.wrap (x1 + 1))))))))))))) (some (.inr (.inl ())))
def Fb (p0 : List AA) : Option (Bool) :=
 (loop (Ds p0) (0 : Int)).bind fun o1 => (match o1 with | .inl _ => some true | .inr x2 => some x2)
theorem N6 {p0 q0} (M : Fb p0 = some q0) (A : HH g h [] F) (hc : A9 (cfg.still 159) av = [vs AJ p0] := by kernel_rfl) : ∃ v Q, BB cfg g h 159 av v Q ∧ v = .bool q0 ∧ HH g Q [] F := by
 refine Dj 59 [.tmp 2] hc ?_
 clear hc
 unfold Fb at M
 refine bg 59 [(0, vs AJ p0)] fun D H => ?_
 refine AF 1 (Be 1 [] 5 H fun D H => ?_)
 obtain ⟨h1, e1, A⟩ := A.pu (.cells none 2 [.str ([] : UV), .str ([] : UV), Ab 0, Ai 0, Ai 0, Ai 0, .str ([] : UV), .str ([] : UV), Ai 0, Ai 0, Ai 0, Ai 0, .slice none 0, .str ([] : UV)])
 refine Jg 1 [] 9 (.ptr (some (h.size, 0))) e1 H fun D t H => ?_
 obtain ⟨h2, e2, A⟩ := A.pu (.cells none 2 [Ai 0])
 refine BF 10 (.ptr (some (h1.size, 0))) e2 H fun D t H => ?_
 obtain ⟨h3, e3⟩ : ∃ x, x = h2.push (.map 3 [(.str ([103, 105, 100] : UV), .func (.func 194) [] [.Am [.ptr (some (h.size, 5))]]), (.str ([117, 105, 100] : UV), .func (.func 194) [] [.Am [.ptr (some (h.size, 4))]]), (.str ([115, 105, 122, 101] : UV), .func (.func 194) [] [.Am [.ptr (some (h1.size, 0))]]), (.str ([103, 110, 97, 109, 101] : UV), .func (.func 195) [] [.Am [.ptr (some (h.size, 7))]]), (.str ([117, 110, 97, 109, 101] : UV), .func (.func 195) [] [.Am [.ptr (some (h.size, 6))]]), (.str ([112, 97, 116, 104] : UV), .func (.func 195) [] [.Am [.ptr (some (h.size, 0))]]), (.str ([108, 105, 110, 107, 112, 97, 116, 104] : UV), .func (.func 195) [] [.Am [.ptr (some (h.size, 1))]]), (.str ([109, 116, 105, 109, 101] : UV), .func (.func 142) [] [.Am [.ptr (some (h.size, 0))]])]) := ⟨_, rfl⟩
 replace A : HH g h3 [.obj h2.size (.map 3 [(.str ([103, 105, 100] : UV), .func (.func 194) [] [.Am [.ptr (some (h.size, 5))]]), (.str ([117, 105, 100] : UV), .func (.func 194) [] [.Am [.ptr (some (h.size, 4))]]), (.str ([115, 105, 122, 101] : UV), .func (.func 194) [] [.Am [.ptr (some (h1.size, 0))]]), (.str ([103, 110, 97, 109, 101] : UV), .func (.func 195) [] [.Am [.ptr (some (h.size, 7))]]), (.str ([117, 110, 97, 109, 101] : UV), .func (.func 195) [] [.Am [.ptr (some (h.size, 6))]]), (.str ([112, 97, 116, 104] : UV), .func (.func 195) [] [.Am [.ptr (some (h.size, 0))]]), (.str ([108, 105, 110, 107, 112, 97, 116, 104] : UV), .func (.func 195) [] [.Am [.ptr (some (h.size, 1))]]), (.str ([109, 116, 105, 109, 101] : UV), .func (.func 142) [] [.Am [.ptr (some (h.size, 0))]])]), .obj h1.size (.cells none 2 [Ai 0]), .obj h.size (.cells none 2 [.str ([] : UV), .str ([] : UV), Ab 0, Ai 0, Ai 0, Ai 0, .str ([] : UV), .str ([] : UV), Ai 0, Ai 0, Ai 0, Ai 0, .slice none 0, .str ([] : UV)])] F := (A.push _).to e3
 have R : ∀ g, BB cfg g h2 82 [.ptr (some (h.size, 0)), .ptr (some (h1.size, 0))] (.map (some h2.size)) h3 := fun g => by rw [e3]; exact Y6 (C := cfg) (f := 82) (j := 0) (n := 2) (es := [(.str ([103, 105, 100] : UV), .func (.func 194) [] [.Am [.ptr (some (h.size, 5))]]), (.str ([117, 105, 100] : UV), .func (.func 194) [] [.Am [.ptr (some (h.size, 4))]]), (.str ([115, 105, 122, 101] : UV), .func (.func 194) [] [.Am [.ptr (some (h1.size, 0))]]), (.str ([103, 110, 97, 109, 101] : UV), .func (.func 195) [] [.Am [.ptr (some (h.size, 7))]]), (.str ([117, 110, 97, 109, 101] : UV), .func (.func 195) [] [.Am [.ptr (some (h.size, 6))]]), (.str ([112, 97, 116, 104] : UV), .func (.func 195) [] [.Am [.ptr (some (h.size, 0))]]), (.str ([108, 105, 110, 107, 112, 97, 116, 104] : UV), .func (.func 195) [] [.Am [.ptr (some (h.size, 1))]]), (.str ([109, 116, 105, 109, 101] : UV), .func (.func 142) [] [.Am [.ptr (some (h.size, 0))]])]) (by kernel_rfl) (l := exts) rfl (by kernel_rfl) (by kernel_rfl) (by kernel_rfl)
 refine AZ 11 _ _ H (fun D => Steps.call (by kernel_rfl) (R _)) fun D t H => ?_
 refine AL 1 [(3, .map (some h2.size))] H fun D H => AN (AF 3 (AL 3 [(12, vs AJ p0), (13, Ai (p0.length : Int)), (14, Ai 0)] H fun D H => Ae (id := 0) (by kernel_rfl) ?_))
 obtain ⟨o1, O, M⟩ := bind_some M
 refine Ao (Q' := fun e N Q => (e = .exit 0 ∧ .inl () = o1 ∧ Has N 59 [] ∧ HH g Q [.obj h2.size (.map 3 [(.str ([103, 105, 100] : UV), .func (.func 194) [] [.Am [.ptr (some (h.size, 5))]]), (.str ([117, 105, 100] : UV), .func (.func 194) [] [.Am [.ptr (some (h.size, 4))]]), (.str ([115, 105, 122, 101] : UV), .func (.func 194) [] [.Am [.ptr (some (h1.size, 0))]]), (.str ([103, 110, 97, 109, 101] : UV), .func (.func 195) [] [.Am [.ptr (some (h.size, 7))]]), (.str ([117, 110, 97, 109, 101] : UV), .func (.func 195) [] [.Am [.ptr (some (h.size, 6))]]), (.str ([112, 97, 116, 104] : UV), .func (.func 195) [] [.Am [.ptr (some (h.size, 0))]]), (.str ([108, 105, 110, 107, 112, 97, 116, 104] : UV), .func (.func 195) [] [.Am [.ptr (some (h.size, 1))]]), (.str ([109, 116, 105, 109, 101] : UV), .func (.func 142) [] [.Am [.ptr (some (h.size, 0))]])]), .obj h1.size (.cells none 2 [Ai 0]), .obj h.size (.cells none 2 [.str ([] : UV), .str ([] : UV), Ab 0, Ai 0, Ai 0, Ai 0, .str ([] : UV), .str ([] : UV), Ai 0, Ai 0, Ai 0, Ai 0, .slice none 0, .str ([] : UV)])] F) ∨ (∃ x2, e = .ret ∧ .inr x2 = o1 ∧ Has N 59 [(2, .bool x2)] ∧ HH g Q [.obj h2.size (.map 3 [(.str ([103, 105, 100] : UV), .func (.func 194) [] [.Am [.ptr (some (h.size, 5))]]), (.str ([117, 105, 100] : UV), .func (.func 194) [] [.Am [.ptr (some (h.size, 4))]]), (.str ([115, 105, 122, 101] : UV), .func (.func 194) [] [.Am [.ptr (some (h1.size, 0))]]), (.str ([103, 110, 97, 109, 101] : UV), .func (.func 195) [] [.Am [.ptr (some (h.size, 7))]]), (.str ([117, 110, 97, 109, 101] : UV), .func (.func 195) [] [.Am [.ptr (some (h.size, 6))]]), (.str ([112, 97, 116, 104] : UV), .func (.func 195) [] [.Am [.ptr (some (h.size, 0))]]), (.str ([108, 105, 110, 107, 112, 97, 116, 104] : UV), .func (.func 195) [] [.Am [.ptr (some (h.size, 1))]]), (.str ([109, 116, 105, 109, 101] : UV), .func (.func 142) [] [.Am [.ptr (some (h.size, 0))]])]), .obj h1.size (.cells none 2 [Ai 0]), .obj h.size (.cells none 2 [.str ([] : UV), .str ([] : UV), Ab 0, Ai 0, Ai 0, Ai 0, .str ([] : UV), .str ([] : UV), Ai 0, Ai 0, Ai 0, Ai 0, .slice none 0, .str ([] : UV)])] F) ∨ False) ?_ ?_
 ·refine Bc (by kernel_rfl) (fun (s : Int) N Q => ∃ x1, x1 = s ∧ Has N 59 [(0, vs AJ p0), (3, .map (some h2.size)), (12, vs AJ p0), (13, Ai (p0.length : Int)), (14, Ai x1)] ∧ HH g Q [.obj h2.size (.map 3 [(.str ([103, 105, 100] : UV), .func (.func 194) [] [.Am [.ptr (some (h.size, 5))]]), (.str ([117, 105, 100] : UV), .func (.func 194) [] [.Am [.ptr (some (h.size, 4))]]), (.str ([115, 105, 122, 101] : UV), .func (.func 194) [] [.Am [.ptr (some (h1.size, 0))]]), (.str ([103, 110, 97, 109, 101] : UV), .func (.func 195) [] [.Am [.ptr (some (h.size, 7))]]), (.str ([117, 110, 97, 109, 101] : UV), .func (.func 195) [] [.Am [.ptr (some (h.size, 6))]]), (.str ([112, 97, 116, 104] : UV), .func (.func 195) [] [.Am [.ptr (some (h.size, 0))]]), (.str ([108, 105, 110, 107, 112, 97, 116, 104] : UV), .func (.func 195) [] [.Am [.ptr (some (h.size, 1))]]), (.str ([109, 116, 105, 109, 101] : UV), .func (.func 142) [] [.Am [.ptr (some (h.size, 0))]])]), .obj h1.size (.cells none 2 [Ai 0]), .obj h.size (.cells none 2 [.str ([] : UV), .str ([] : UV), Ab 0, Ai 0, Ai 0, Ai 0, .str ([] : UV), .str ([] : UV), Ai 0, Ai 0, Ai 0, Ai 0, .slice none 0, .str ([] : UV)])] F) O ⟨_, rfl, H.ls, A⟩ ?_
  clear O M H A
  intro s q D h4 hI M
  obtain ⟨x1, rfl, H, A⟩ := hI
  unfold Ds at M
  refine AF 1 (AL 1 [(15, .bool (decide (x1 < (p0.length : Int))))] H fun D H => AN (AX 15 H M (fun B M H => ?_) fun B M H => ?_))
  ·refine Bl id (AN (Ae (id := 1) (by kernel_rfl) ?_))
   refine AF 6 ?_
   obtain ⟨x3, X, M⟩ := bind_some M
   refine Ax 1 [(16, Ai x1)] 17 (.Am [.str x3.Key, .str x3.Value]) h4 H (fun D => .of (PK (e := AJ) (x := x3) AS (by decide) (by kernel_rfl) X)) fun D t H => ?_
   refine AZ 18 (.agg [.str x3.Key, .str x3.Value]) h4 H (fun D => .of (US (by kernel_rfl))) fun D t H => ?_
   obtain ⟨h5, e4, A⟩ := A.pu (.cells none 2 [.str ([] : UV), .str ([] : UV)])
   refine BF 5 (.ptr (some (h4.size, 0))) e4 H fun D t H => ?_
   obtain ⟨h6, X, A⟩ := A.s0 0 [.str x3.Key, .str x3.Value] [_, _]
   refine JI 1 [(4, Ai x1)] X H fun D t H => ?_
   refine CT 9 id (AV 2 [(20, .map (some h2.size))] 22 0 0 A H fun D t H => ?_)
   rcases Ar M with ⟨B, M⟩ | ⟨hk1, M⟩
   ·refine AZ 23 (.tuple [.func (.func 194) [] [.Am [.ptr (some (h.size, 5))]], .bool true]) h6 H (fun D => .of (L5 (by kernel_rfl) (HH.KI (P := cfg.P) A 1 rfl (t := 140) (kt := 9) (et := 144) (by kernel_rfl) (by kernel_rfl) (s := x3.Key) (.hit B)))) fun D t H => ?_
    refine AL 5 [(7, .bool true)] H fun D H => AN (HB 6 32 ?_)
    refine AL 32 [(57, .bool true)] H fun D H => GS (x := .tmp 57) (by kernel_rfl) H (fun D => by kernel_rfl) ?_
    refine AF 1 (AL 1 [(2, .bool false)] H fun D H => AQ ?_)
    replace A := A.k3 1 2 3
    exact nr M fun e => Or.inr (.inl ⟨_, rfl, e, H.ls, A⟩)
   rcases Ar M with ⟨B, M⟩ | ⟨hk2, M⟩
   ·refine AZ 23 (.tuple [.func (.func 194) [] [.Am [.ptr (some (h.size, 4))]], .bool true]) h6 H (fun D => .of (L5 (by kernel_rfl) (HH.KI (P := cfg.P) A 1 rfl (t := 140) (kt := 9) (et := 144) (by kernel_rfl) (by kernel_rfl) (s := x3.Key) (.EX hk1 (.hit B))))) fun D t H => ?_
    refine AL 5 [(7, .bool true)] H fun D H => AN (HB 6 32 ?_)
    refine AL 32 [(57, .bool true)] H fun D H => GS (x := .tmp 57) (by kernel_rfl) H (fun D => by kernel_rfl) ?_
    refine AF 1 (AL 1 [(2, .bool false)] H fun D H => AQ ?_)
    replace A := A.k3 1 2 3
    exact nr M fun e => Or.inr (.inl ⟨_, rfl, e, H.ls, A⟩)
   rcases Ar M with ⟨B, M⟩ | ⟨hk3, M⟩
   ·refine AZ 23 (.tuple [.func (.func 194) [] [.Am [.ptr (some (h1.size, 0))]], .bool true]) h6 H (fun D => .of (L5 (by kernel_rfl) (HH.KI (P := cfg.P) A 1 rfl (t := 140) (kt := 9) (et := 144) (by kernel_rfl) (by kernel_rfl) (s := x3.Key) (.EX hk1 (.EX hk2 (.hit B)))))) fun D t H => ?_
    refine AL 5 [(7, .bool true)] H fun D H => AN (HB 6 32 ?_)
    refine AL 32 [(57, .bool true)] H fun D H => GS (x := .tmp 57) (by kernel_rfl) H (fun D => by kernel_rfl) ?_
    refine AF 1 (AL 1 [(2, .bool false)] H fun D H => AQ ?_)
    replace A := A.k3 1 2 3
    exact nr M fun e => Or.inr (.inl ⟨_, rfl, e, H.ls, A⟩)
   rcases Ar M with ⟨B, M⟩ | ⟨hk4, M⟩
   ·refine AZ 23 (.tuple [.func (.func 195) [] [.Am [.ptr (some (h.size, 7))]], .bool true]) h6 H (fun D => .of (L5 (by kernel_rfl) (HH.KI (P := cfg.P) A 1 rfl (t := 140) (kt := 9) (et := 144) (by kernel_rfl) (by kernel_rfl) (s := x3.Key) (.EX hk1 (.EX hk2 (.EX hk3 (.hit B))))))) fun D t H => ?_
    refine AL 5 [(7, .bool true)] H fun D H => AN (HB 6 32 ?_)
    refine AL 32 [(57, .bool true)] H fun D H => GS (x := .tmp 57) (by kernel_rfl) H (fun D => by kernel_rfl) ?_
    refine AF 1 (AL 1 [(2, .bool false)] H fun D H => AQ ?_)
    replace A := A.k3 1 2 3
    exact nr M fun e => Or.inr (.inl ⟨_, rfl, e, H.ls, A⟩)
   rcases Ar M with ⟨B, M⟩ | ⟨hk5, M⟩
   ·refine AZ 23 (.tuple [.func (.func 195) [] [.Am [.ptr (some (h.size, 6))]], .bool true]) h6 H (fun D => .of (L5 (by kernel_rfl) (HH.KI (P := cfg.P) A 1 rfl (t := 140) (kt := 9) (et := 144) (by kernel_rfl) (by kernel_rfl) (s := x3.Key) (.EX hk1 (.EX hk2 (.EX hk3 (.EX hk4 (.hit B)))))))) fun D t H => ?_
    refine AL 5 [(7, .bool true)] H fun D H => AN (HB 6 32 ?_)
    refine AL 32 [(57, .bool true)] H fun D H => GS (x := .tmp 57) (by kernel_rfl) H (fun D => by kernel_rfl) ?_
    refine AF 1 (AL 1 [(2, .bool false)] H fun D H => AQ ?_)
    replace A := A.k3 1 2 3
    exact nr M fun e => Or.inr (.inl ⟨_, rfl, e, H.ls, A⟩)
   rcases Ar M with ⟨B, M⟩ | ⟨hk6, M⟩
   ·refine AZ 23 (.tuple [.func (.func 195) [] [.Am [.ptr (some (h.size, 0))]], .bool true]) h6 H (fun D => .of (L5 (by kernel_rfl) (HH.KI (P := cfg.P) A 1 rfl (t := 140) (kt := 9) (et := 144) (by kernel_rfl) (by kernel_rfl) (s := x3.Key) (.EX hk1 (.EX hk2 (.EX hk3 (.EX hk4 (.EX hk5 (.hit B))))))))) fun D t H => ?_
    refine AL 5 [(7, .bool true)] H fun D H => AN (HB 6 32 ?_)
    refine AL 32 [(57, .bool true)] H fun D H => GS (x := .tmp 57) (by kernel_rfl) H (fun D => by kernel_rfl) ?_
    refine AF 1 (AL 1 [(2, .bool false)] H fun D H => AQ ?_)
    replace A := A.k3 1 2 3
    exact nr M fun e => Or.inr (.inl ⟨_, rfl, e, H.ls, A⟩)
   rcases Ar M with ⟨B, M⟩ | ⟨hk7, M⟩
   ·refine AZ 23 (.tuple [.func (.func 195) [] [.Am [.ptr (some (h.size, 1))]], .bool true]) h6 H (fun D => .of (L5 (by kernel_rfl) (HH.KI (P := cfg.P) A 1 rfl (t := 140) (kt := 9) (et := 144) (by kernel_rfl) (by kernel_rfl) (s := x3.Key) (.EX hk1 (.EX hk2 (.EX hk3 (.EX hk4 (.EX hk5 (.EX hk6 (.hit B)))))))))) fun D t H => ?_
    refine AL 5 [(7, .bool true)] H fun D H => AN (HB 6 32 ?_)
    refine AL 32 [(57, .bool true)] H fun D H => GS (x := .tmp 57) (by kernel_rfl) H (fun D => by kernel_rfl) ?_
    refine AF 1 (AL 1 [(2, .bool false)] H fun D H => AQ ?_)
    replace A := A.k3 1 2 3
    exact nr M fun e => Or.inr (.inl ⟨_, rfl, e, H.ls, A⟩)
   rcases Ar M with ⟨B, M⟩ | ⟨hk8, M⟩
   ·refine AZ 23 (.tuple [.func (.func 142) [] [.Am [.ptr (some (h.size, 0))]], .bool true]) h6 H (fun D => .of (L5 (by kernel_rfl) (HH.KI (P := cfg.P) A 1 rfl (t := 140) (kt := 9) (et := 144) (by kernel_rfl) (by kernel_rfl) (s := x3.Key) (.EX hk1 (.EX hk2 (.EX hk3 (.EX hk4 (.EX hk5 (.EX hk6 (.EX hk7 (.hit B))))))))))) fun D t H => ?_
    refine AL 5 [(7, .bool true)] H fun D H => AN (HB 6 32 ?_)
    refine AL 32 [(57, .bool true)] H fun D H => GS (x := .tmp 57) (by kernel_rfl) H (fun D => by kernel_rfl) ?_
    refine AF 1 (AL 1 [(2, .bool false)] H fun D H => AQ ?_)
    replace A := A.k3 1 2 3
    exact nr M fun e => Or.inr (.inl ⟨_, rfl, e, H.ls, A⟩)
   refine AZ 23 (.tuple [.nilFunc, .bool false]) h6 H (fun D => .of (L5 (by kernel_rfl) (HH.XZ (P := cfg.P) A 1 rfl (t := 140) (kt := 9) (et := 144) (by kernel_rfl) (by kernel_rfl) (z := .nilFunc) (by kernel_rfl) (s := x3.Key) (.EX hk1 (.EX hk2 (.EX hk3 (.EX hk4 (.EX hk5 (.EX hk6 (.EX hk7 (.EX hk8 (.nil)))))))))))) fun D t H => ?_
   refine AL 5 [(7, .bool false)] H fun D H => AN (HB 6 32 ?_)
   refine AV 3 [(27, .bool false)] 29 0 0 A H fun D t H => ?_
   refine AG 3 [(32, .bool (x3.Key == ([] : UV)))] H fun D H => Al 4 (fun N Q => h6 = Q ∧ Has N 59 [(0, vs AJ p0), (3, .map (some h2.size)), (4, Ai x1), (5, .ptr (some (h4.size, 0))), (12, vs AJ p0), (13, Ai (p0.length : Int)), (14, Ai x1), (36, .bool ((x3.Key == ([] : UV)) || (x3.Value == ([] : UV))))]) ?_ ?_
   ·cases B : (x3.Key == ([] : UV) : Bool) with
    | true =>
     replace H := H.kn 32 B
     exact AG 4 [(36, .bool true)] H fun D H => Ac H B
    | false =>
     replace H := H.kn 32 B
     refine AV 1 [] 34 0 1 A H fun D t H => ?_
     exact AG 2 [(36, .bool (x3.Value == ([] : UV)))] H fun D H => Ac H B
   intro t D Q hK
   obtain ⟨e, H⟩ := hK
   subst e
   refine AG 1 [(37, .bool ((x3.Key == ([] : UV)) || (x3.Value == ([] : UV))))] H fun D H => ?_
   obtain ⟨x4, O, M⟩ := bind_some M
   refine Al 5 (fun N Q => Has N 59 [(0, vs AJ p0), (3, .map (some h2.size)), (4, Ai x1), (5, .ptr (some (h4.size, 0))), (12, vs AJ p0), (13, Ai (p0.length : Int)), (14, Ai x1), (42, .bool x4)] ∧ HH g Q [.obj h4.size (.cells none 2 [.str x3.Key, .str x3.Value]), .obj h2.size (.map 3 [(.str ([103, 105, 100] : UV), .func (.func 194) [] [.Am [.ptr (some (h.size, 5))]]), (.str ([117, 105, 100] : UV), .func (.func 194) [] [.Am [.ptr (some (h.size, 4))]]), (.str ([115, 105, 122, 101] : UV), .func (.func 194) [] [.Am [.ptr (some (h1.size, 0))]]), (.str ([103, 110, 97, 109, 101] : UV), .func (.func 195) [] [.Am [.ptr (some (h.size, 7))]]), (.str ([117, 110, 97, 109, 101] : UV), .func (.func 195) [] [.Am [.ptr (some (h.size, 6))]]), (.str ([112, 97, 116, 104] : UV), .func (.func 195) [] [.Am [.ptr (some (h.size, 0))]]), (.str ([108, 105, 110, 107, 112, 97, 116, 104] : UV), .func (.func 195) [] [.Am [.ptr (some (h.size, 1))]]), (.str ([109, 116, 105, 109, 101] : UV), .func (.func 142) [] [.Am [.ptr (some (h.size, 0))]])]), .obj h1.size (.cells none 2 [Ai 0]), .obj h.size (.cells none 2 [.str ([] : UV), .str ([] : UV), Ab 0, Ai 0, Ai 0, Ai 0, .str ([] : UV), .str ([] : UV), Ai 0, Ai 0, Ai 0, Ai 0, .slice none 0, .str ([] : UV)])] F) ?_ ?_
   ·rcases Ar O with ⟨B, M⟩ | ⟨B, M⟩
    ·replace H := H.kn 37 B
     refine AG 5 [(42, .bool true)] H fun D H => ?_
     obtain rfl := Ad M
     exact at_nil ⟨H.ls, A⟩
    replace H := H.kn 37 B
    refine AV 1 [] 39 0 0 A H fun D t H => ?_
    obtain ⟨x5, X, M⟩ := bind_some M
    obtain ⟨v1, h8, R, rfl, E⟩ := EE (av := [.str x3.Key, Ab 61]) X (A.cut 0)
    replace A := A.De E
    refine A0 40 R H fun D t H => ?_
    refine AG 2 [(42, .bool (decide (x5 ≥ 0)))] H fun D H => ?_
    obtain rfl := Ad M
    exact at_nil ⟨H.ls, A⟩
   clear A
   intro t D h7 hK
   obtain ⟨H, A⟩ := hK
   refine AG 1 [(43, .bool x4)] H fun D H => ?_
   obtain ⟨x6, O, M⟩ := bind_some M
   refine Al 14 (fun N Q => Has N 59 [(0, vs AJ p0), (3, .map (some h2.size)), (12, vs AJ p0), (13, Ai (p0.length : Int)), (14, Ai x1), (57, .bool x6)] ∧ HH g Q [.obj h4.size (.cells none 2 [.str x3.Key, .str x3.Value]), .obj h2.size (.map 3 [(.str ([103, 105, 100] : UV), .func (.func 194) [] [.Am [.ptr (some (h.size, 5))]]), (.str ([117, 105, 100] : UV), .func (.func 194) [] [.Am [.ptr (some (h.size, 4))]]), (.str ([115, 105, 122, 101] : UV), .func (.func 194) [] [.Am [.ptr (some (h1.size, 0))]]), (.str ([103, 110, 97, 109, 101] : UV), .func (.func 195) [] [.Am [.ptr (some (h.size, 7))]]), (.str ([117, 110, 97, 109, 101] : UV), .func (.func 195) [] [.Am [.ptr (some (h.size, 6))]]), (.str ([112, 97, 116, 104] : UV), .func (.func 195) [] [.Am [.ptr (some (h.size, 0))]]), (.str ([108, 105, 110, 107, 112, 97, 116, 104] : UV), .func (.func 195) [] [.Am [.ptr (some (h.size, 1))]]), (.str ([109, 116, 105, 109, 101] : UV), .func (.func 142) [] [.Am [.ptr (some (h.size, 0))]])]), .obj h1.size (.cells none 2 [Ai 0]), .obj h.size (.cells none 2 [.str ([] : UV), .str ([] : UV), Ab 0, Ai 0, Ai 0, Ai 0, .str ([] : UV), .str ([] : UV), Ai 0, Ai 0, Ai 0, Ai 0, .slice none 0, .str ([] : UV)])] F) ?_ ?_
   ·rcases Ar O with ⟨B, M⟩ | ⟨B, M⟩
    ·replace H := H.kn 43 B
     refine AG 14 [(57, .bool true)] H fun D H => ?_
     obtain rfl := Ad M
     exact at_nil ⟨H.ls, A⟩
    replace H := H.kn 43 B
    refine AG 3 [(46, .bool (decide (x1 > 0)))] H fun D H => ?_
    obtain ⟨x7, O, M⟩ := bind_some M
    refine Al 10 (fun N Q => Has N 59 [(0, vs AJ p0), (3, .map (some h2.size)), (12, vs AJ p0), (13, Ai (p0.length : Int)), (14, Ai x1), (43, .bool false), (56, .bool x7)] ∧ HH g Q [.obj h4.size (.cells none 2 [.str x3.Key, .str x3.Value]), .obj h2.size (.map 3 [(.str ([103, 105, 100] : UV), .func (.func 194) [] [.Am [.ptr (some (h.size, 5))]]), (.str ([117, 105, 100] : UV), .func (.func 194) [] [.Am [.ptr (some (h.size, 4))]]), (.str ([115, 105, 122, 101] : UV), .func (.func 194) [] [.Am [.ptr (some (h1.size, 0))]]), (.str ([103, 110, 97, 109, 101] : UV), .func (.func 195) [] [.Am [.ptr (some (h.size, 7))]]), (.str ([117, 110, 97, 109, 101] : UV), .func (.func 195) [] [.Am [.ptr (some (h.size, 6))]]), (.str ([112, 97, 116, 104] : UV), .func (.func 195) [] [.Am [.ptr (some (h.size, 0))]]), (.str ([108, 105, 110, 107, 112, 97, 116, 104] : UV), .func (.func 195) [] [.Am [.ptr (some (h.size, 1))]]), (.str ([109, 116, 105, 109, 101] : UV), .func (.func 142) [] [.Am [.ptr (some (h.size, 0))]])]), .obj h1.size (.cells none 2 [Ai 0]), .obj h.size (.cells none 2 [.str ([] : UV), .str ([] : UV), Ab 0, Ai 0, Ai 0, Ai 0, .str ([] : UV), .str ([] : UV), Ai 0, Ai 0, Ai 0, Ai 0, .slice none 0, .str ([] : UV)])] F) ?_ ?_
    ·rcases Ar O with ⟨B, M⟩ | ⟨B, M⟩
     ·replace H := H.kn 46 B
      obtain ⟨x8, X, M⟩ := bind_some M
      refine Ax 3 [] 50 (.Am [.str x8.Key, .str x8.Value]) h7 H (fun D => .of (PK (e := AJ) (x := x8) AS (by decide) (by kernel_rfl) X)) fun D t H => ?_
      refine Ax 1 [] 52 (.str x8.Key) h7 H (fun D => .of (US (by kernel_rfl))) fun D t H => ?_
      refine AV 1 [] 54 0 0 A H fun D t H => ?_
      refine AG 2 [(56, .bool (!(Op.bytesLess x8.Key x3.Key)))] H fun D H => ?_
      obtain rfl := Ad M
      exact at_nil ⟨H.ls, A⟩
     replace H := H.kn 46 B
     refine AG 10 [(56, .bool false)] H fun D H => ?_
     obtain rfl := Ad M
     exact at_nil ⟨H.ls, A⟩
    clear A
    intro t D h10 hK
    obtain ⟨H, A⟩ := hK
    refine AG 1 [(57, .bool x7)] H fun D H => ?_
    obtain rfl := Ad M
    exact at_nil ⟨H.ls, A⟩
   clear A
   intro t D h9 hK
   obtain ⟨H, A⟩ := hK
   refine BK id (AX 57 H M (fun B M H => ?_) fun B M H => ?_)
   ·refine AF 1 (AL 1 [(2, .bool false)] H fun D H => AQ ?_)
    replace A := A.k3 1 2 3
    exact nr M fun e => Or.inr (.inl ⟨_, rfl, e, H.ls, A⟩)
   refine FL 2 id (A5 2 [(0, vs AJ p0), (3, .map (some h2.size)), (12, vs AJ p0), (13, Ai (p0.length : Int)), (14, Ai (i64.wrap (x1 + 1)))] H fun D H => at_nil ?_)
   replace A := A.k3 1 2 3
   exact nx M ⟨_, rfl, H.ls, A⟩
  refine Bb (i := 0) (by kernel_rfl) ?_
  exact nr M fun e => .inl ⟨rfl, e, H.ls, A⟩
 clear O
 clear A
 intro e D h11 hQ
 rcases hQ with ⟨rfl, rfl, H, A⟩ | ⟨x2, rfl, rfl, H, A⟩ | hF
 ·show AW _ _ _ _ _ _ _
  refine AF 1 (AL 1 [(2, .bool true)] H fun D H => AQ ?_)
  obtain rfl := Ad M
  refine ⟨.inl rfl, .bool true, rH H, ?_⟩
  replace A := A.d0
  exact ⟨rfl, A⟩
 ·obtain rfl := Ad M
  refine ⟨.inl rfl, .bool x2, rH H, ?_⟩
  replace A := A.d0
  exact ⟨rfl, A⟩
 exact hF.elim
def CS (p0 : Int) (p1 : List Int) (s : Int) : Option ((Int) ⊕ ((Unit) ⊕ (Bool))) :=
 match s with
 | x1 => Aa (decide (x1 < (p1.length : Int))) ((Hj p1 x1).bind fun x3 => Aa ((decide (x3 < 0)) || (decide (x3 ≥ p0))) (some (.inr (.inr false))) (some (.inl (i64.wrap (x1 + 1))))) (some (.inr (.inl ())))
def Cc (p0 : Int) (p1 : List Int) : Option (Bool) :=
 (loop (CS p0 p1) (0 : Int)).bind fun o1 => (match o1 with | .inl _ => some true | .inr x2 => some x2)
theorem FQ {p0 p1 rp1 q0} (M : Cc p0 p1 = some q0) (A : HH g h [.Ag rp1 3 (Ag (eI .i64) p1)] F) (hc : A9 (cfg.still 119) av = [Ai p0, AP rp1 p1.length] := by kernel_rfl) : ∃ v Q, BB cfg g h 119 av v Q ∧ v = .bool q0 ∧ HH g Q [.Ag rp1 3 (Ag (eI .i64) p1)] F := by
 refine Dj 21 [.tmp 4] hc ?_
 clear hc
 unfold Cc at M
 refine bg 21 [(0, Ai p0), (1, AP rp1 p1.length)] fun D H => ?_
 refine AF 1 (AL 1 [] H fun D H => AN (AF 3 (AL 3 [(7, AP rp1 p1.length), (8, Ai (p1.length : Int)), (9, Ai 0)] H fun D H => Ae (id := 0) (by kernel_rfl) ?_)))
 obtain ⟨o1, O, M⟩ := bind_some M
 refine Ao (Q' := fun e N Q => (e = .exit 0 ∧ .inl () = o1 ∧ Has N 21 [] ∧ HH g Q [.Ag rp1 3 (Ag (eI .i64) p1)] F) ∨ (∃ x2, e = .ret ∧ .inr x2 = o1 ∧ Has N 21 [(4, .bool x2)] ∧ HH g Q [.Ag rp1 3 (Ag (eI .i64) p1)] F) ∨ False) ?_ ?_
 ·refine Bc (by kernel_rfl) (fun (s : Int) N Q => ∃ x1, x1 = s ∧ Has N 21 [(0, Ai p0), (7, AP rp1 p1.length), (8, Ai (p1.length : Int)), (9, Ai x1)] ∧ HH g Q [.Ag rp1 3 (Ag (eI .i64) p1)] F) O ⟨_, rfl, H.ls, A⟩ ?_
  clear O M H A
  intro s q D h1 hI M
  obtain ⟨x1, rfl, H, A⟩ := hI
  unfold CS at M
  refine AF 1 (AL 1 [(10, .bool (decide (x1 < (p1.length : Int))))] H fun D H => AN (AX 10 H M (fun B M H => ?_) fun B M H => ?_))
  ·refine Bl id (AN (Ae (id := 1) (by kernel_rfl) ?_))
   refine AF 3 ?_
   obtain ⟨x3, X, M⟩ := bind_some M
   obtain ⟨i1, er1, _, X, hq1⟩ := HH.SL (encI .i64) (by decide) A 0 (xs := p1) rfl X
   refine AZ 11 (.ptr (some (i1, x1.toNat * 1))) h1 H (fun D => .of (HN (s := DT rp1 p1.length) (by kernel_rfl) X)) fun D t H => ?_
   refine AZ 12 _ _ H (fun D => .of (GN (by kernel_rfl) (IW (encI .i64) (HH.row A 0 rfl er1) hq1 (o := 0) rfl))) fun D t H => ?_
   refine Be 1 [(6, Ai x3)] 7 H fun D H => AG 3 [(15, .bool (decide (x3 < 0)))] H fun D H => Al 4 (fun N Q => h1 = Q ∧ Has N 21 [(0, Ai p0), (7, AP rp1 p1.length), (8, Ai (p1.length : Int)), (9, Ai x1), (19, .bool ((decide (x3 < 0)) || (decide (x3 ≥ p0))))]) ?_ ?_
   ·cases B : (decide (x3 < 0) : Bool) with
    | true =>
     replace H := H.kn 15 B
     exact AG 4 [(19, .bool true)] H fun D H => Ac H B
    | false =>
     replace H := H.kn 15 B
     exact AG 4 [(19, .bool (decide (x3 ≥ p0)))] H fun D H => Ac H B
   intro t D Q hK
   obtain ⟨e, H⟩ := hK
   subst e
   refine BK id (AX 19 H M (fun B M H => ?_) fun B M H => ?_)
   ·refine AF 1 (AL 1 [(4, .bool false)] H fun D H => AQ ?_)
    exact nr M fun e => Or.inr (.inl ⟨_, rfl, e, H.ls, A⟩)
   refine FL 2 id (A5 2 [(0, Ai p0), (7, AP rp1 p1.length), (8, Ai (p1.length : Int)), (9, Ai (i64.wrap (x1 + 1)))] H fun D H => at_nil ?_)
   exact nx M ⟨_, rfl, H.ls, A⟩
  refine Bb (i := 0) (by kernel_rfl) ?_
  exact nr M fun e => .inl ⟨rfl, e, H.ls, A⟩
 clear O
 clear A
 intro e D h2 hQ
 rcases hQ with ⟨rfl, rfl, H, A⟩ | ⟨x2, rfl, rfl, H, A⟩ | hF
 ·show AW _ _ _ _ _ _ _
  refine AF 1 (AL 1 [(4, .bool true)] H fun D H => AQ ?_)
  obtain rfl := Ad M
  exact ⟨.inl rfl, _, rH H, rfl, A⟩
 ·obtain rfl := Ad M
  exact ⟨.inl rfl, _, rH H, rfl, A⟩
 exact hF.elim
def EK (p0 : BZ) : Option (Bool) :=
 some ((((decide (p0.Cn ≥ (-9007199254740991))) && (decide (p0.Cn ≤ 9007199254740991))) && (decide (p0.BV ≥ 0))) && (decide (p0.BV < 1000000000)))
theorem Ko {p0 q0} (M : EK p0 = some q0) (A : HH g h [] F) (hc : A9 (cfg.still 160) av = [.agg [Ai p0.Cn, Ai p0.BV]] := by kernel_rfl) : ∃ v Q, BB cfg g h 160 av v Q ∧ v = .bool q0 ∧ HH g Q [] F := by
 refine Dj 21 [.tmp 2] hc ?_
 clear hc
 unfold EK at M
 refine bg 21 [(0, .agg [Ai p0.Cn, Ai p0.BV])] fun D H => ?_
 refine AF 2 ?_
 obtain ⟨h1, e1, A⟩ := A.pu (.cells none 2 [Ai p0.Cn, Ai p0.BV])
 refine BF 1 (.ptr (some (h.size, 0))) e1 H fun D t H => ?_
 refine Be 1 [] 19 H fun D H => AV 1 [] 4 0 0 A H fun D t H => ?_
 refine AG 2 [(6, .bool (decide (p0.Cn ≥ (-9007199254740991))))] H fun D H => Al 4 (fun N Q => h1 = Q ∧ Has N 21 [(1, .ptr (some (h.size, 0))), (10, .bool ((decide (p0.Cn ≥ (-9007199254740991))) && (decide (p0.Cn ≤ 9007199254740991))))]) ?_ ?_
 ·cases B : (decide (p0.Cn ≥ (-9007199254740991)) : Bool) with
  | true =>
   replace H := H.kn 6 B
   refine AV 1 [] 8 0 0 A H fun D t H => ?_
   exact AG 2 [(10, .bool (decide (p0.Cn ≤ 9007199254740991)))] H fun D H => Ac H B
  | false =>
   replace H := H.kn 6 B
   exact AG 4 [(10, .bool false)] H fun D H => Ac H B
 intro t D Q hK
 obtain ⟨e, H⟩ := hK
 subst e
 refine AG 1 [(11, .bool ((decide (p0.Cn ≥ (-9007199254740991))) && (decide (p0.Cn ≤ 9007199254740991))))] H fun D H => Al 4 (fun N Q => h1 = Q ∧ Has N 21 [(1, .ptr (some (h.size, 0))), (15, .bool (((decide (p0.Cn ≥ (-9007199254740991))) && (decide (p0.Cn ≤ 9007199254740991))) && (decide (p0.BV ≥ 0))))]) ?_ ?_
 ·cases B : ((decide (p0.Cn ≥ (-9007199254740991))) && (decide (p0.Cn ≤ 9007199254740991)) : Bool) with
  | true =>
   replace H := H.kn 11 B
   refine AV 1 [] 13 0 1 A H fun D t H => ?_
   exact AG 2 [(15, .bool (decide (p0.BV ≥ 0)))] H fun D H => Ac H B
  | false =>
   replace H := H.kn 11 B
   exact AG 4 [(15, .bool false)] H fun D H => Ac H B
 intro t D Q hK
 obtain ⟨e, H⟩ := hK
 subst e
 refine AG 1 [(16, .bool (((decide (p0.Cn ≥ (-9007199254740991))) && (decide (p0.Cn ≤ 9007199254740991))) && (decide (p0.BV ≥ 0))))] H fun D H => Al 4 (fun N Q => h1 = Q ∧ Has N 21 [(20, .bool ((((decide (p0.Cn ≥ (-9007199254740991))) && (decide (p0.Cn ≤ 9007199254740991))) && (decide (p0.BV ≥ 0))) && (decide (p0.BV < 1000000000))))]) ?_ ?_
 ·cases B : (((decide (p0.Cn ≥ (-9007199254740991))) && (decide (p0.Cn ≤ 9007199254740991))) && (decide (p0.BV ≥ 0)) : Bool) with
  | true =>
   replace H := H.kn 16 B
   refine AV 1 [] 18 0 1 A H fun D t H => ?_
   exact AG 2 [(20, .bool (decide (p0.BV < 1000000000)))] H fun D H => Ac H B
  | false =>
   replace H := H.kn 16 B
   exact AG 4 [(20, .bool false)] H fun D H => Ac H B
 intro t D Q hK
 obtain ⟨e, H⟩ := hK
 subst e
 refine AL 1 [(2, .bool ((((decide (p0.Cn ≥ (-9007199254740991))) && (decide (p0.Cn ≤ 9007199254740991))) && (decide (p0.BV ≥ 0))) && (decide (p0.BV < 1000000000))))] H fun D H => AQ ?_
 obtain rfl := Ad M
 refine ⟨.inl rfl, .bool ((((decide (p0.Cn ≥ (-9007199254740991))) && (decide (p0.Cn ≤ 9007199254740991))) && (decide (p0.BV ≥ 0))) && (decide (p0.BV < 1000000000))), rH H, ?_⟩
 replace A := A.d0
 exact ⟨rfl, A⟩
def Gl (p0 : AR) (s : Int) : Option ((Int) ⊕ ((Unit) ⊕ (Int))) :=
 match s with
 | x1 => Aa (decide (x1 < (([p0.Name, p0.Az, p0.Ah, p0.Aj] : List (List UInt8)).length : Int))) ((Hj ([p0.Name, p0.Az, p0.Ah, p0.Aj] : List (List UInt8)) x1).bind fun x3 => (BX x3 (0 : Int)).bind fun x4 => Aa (decide (x4 ≥ 0)) (some (.inr (.inr (2 : Int)))) (some (.inl (i64.wrap (x1 + 1))))) (some (.inr (.inl ())))
def Eh (p0 : AR) : Option (Int) :=
 (loop (Gl p0) (0 : Int)).bind fun o1 => (match o1 with | .inl _ => (Aa (p0.Name == ([] : UV)) (some true) ((Fb p0.Extra).bind fun x6 => some (!x6)) : Option (Bool)).bind fun x5 => Aa x5 (some (2 : Int)) ((Cc (9007199254740992 : Int) ([p0.Br, p0.CH] : List Int)).bind fun x7 => (Aa (!x7) (some true) ((Cc (2097152 : Int) ([p0.Mode, p0.An, p0.A2] : List Int)).bind fun x9 => some (!x9)) : Option (Bool)).bind fun x8 => (Aa x8 (some true) ((EK p0.Time).bind fun x11 => some (!x11)) : Option (Bool)).bind fun x10 => Aa x10 (some (6 : Int)) (some (0 : Int))) | .inr x2 => some x2)
theorem KJ {p0 q0} (M : Eh p0 = some q0) (A : HH g h [] F) (hc : A9 (cfg.still 96) av = [.agg (AE p0)] := by kernel_rfl) : ∃ v Q, BB cfg g h 96 av v Q ∧ v = Ai q0 ∧ HH g Q [] F := by
 refine Dj 58 [.tmp 2] hc ?_
 clear hc
 unfold Eh at M
 refine bg 58 [(0, .agg (AE p0))] fun D H => ?_
 refine AF 2 ?_
 obtain ⟨h1, e1, A⟩ := A.pu (.cells none 2 (AE p0))
 refine BF 1 (.ptr (some (h.size, 0))) e1 H fun D t H => ?_
 refine AL 1 [] H fun D H => AN (AF 11 (AV 1 [] 6 0 0 A H fun D t H => ?_))
 refine AV 1 [] 8 0 1 A H fun D t H => ?_
 refine AV 1 [] 10 0 6 A H fun D t H => ?_
 refine AV 1 [] 12 0 7 A H fun D t H => ?_
 obtain ⟨h2, e2, A⟩ := A.pL 9 [.str p0.Name, .str p0.Az, .str p0.Ah, .str p0.Aj]
 refine BF 13 (AP (some h1.size) (([p0.Name, p0.Az, p0.Ah, p0.Aj] : List (List UInt8)).length)) e2 H fun D t H => ?_
 refine AL 2 [(14, Ai (([p0.Name, p0.Az, p0.Ah, p0.Aj] : List (List UInt8)).length : Int)), (15, Ai 0)] H fun D H => Ae (id := 0) (by kernel_rfl) ?_
 replace A : HH g h2 [.Ag (some h1.size) 9 (Ag eS ([p0.Name, p0.Az, p0.Ah, p0.Aj] : List (List UInt8))), .obj h.size (.cells none 2 (AE p0))] F := A
 obtain ⟨o1, O, M⟩ := bind_some M
 refine Ao (Q' := fun e N Q => (e = .exit 0 ∧ .inl () = o1 ∧ Has N 58 [(1, .ptr (some (h.size, 0)))] ∧ HH g Q [.obj h.size (.cells none 2 (AE p0))] F) ∨ (∃ x2, e = .ret ∧ .inr x2 = o1 ∧ Has N 58 [(2, Ai x2)] ∧ HH g Q [.obj h.size (.cells none 2 (AE p0))] F) ∨ False) ?_ ?_
 ·refine Bc (by kernel_rfl) (fun (s : Int) N Q => ∃ x1, x1 = s ∧ Has N 58 [(1, .ptr (some (h.size, 0))), (13, AP (some h1.size) (([p0.Name, p0.Az, p0.Ah, p0.Aj] : List (List UInt8)).length)), (14, Ai (([p0.Name, p0.Az, p0.Ah, p0.Aj] : List (List UInt8)).length : Int)), (15, Ai x1)] ∧ HH g Q [.Ag (some h1.size) 9 (Ag eS ([p0.Name, p0.Az, p0.Ah, p0.Aj] : List (List UInt8))), .obj h.size (.cells none 2 (AE p0))] F) O ⟨_, rfl, H.ls, A⟩ ?_
  clear O M H A
  intro s q D h3 hI M
  obtain ⟨x1, rfl, H, A⟩ := hI
  unfold Gl at M
  refine AF 1 (AL 1 [(16, .bool (decide (x1 < (([p0.Name, p0.Az, p0.Ah, p0.Aj] : List (List UInt8)).length : Int))))] H fun D H => AN (AX 16 H M (fun B M H => ?_) fun B M H => ?_))
  ·refine Bl id (AN (Ae (id := 1) (by kernel_rfl) ?_))
   refine AF 3 ?_
   obtain ⟨x3, X, M⟩ := bind_some M
   obtain ⟨i1, er1, _, X, hq1⟩ := HH.SL encS (by decide) A 0 (xs := ([p0.Name, p0.Az, p0.Ah, p0.Aj] : List (List UInt8))) rfl X
   refine AZ 17 (.ptr (some (i1, x1.toNat * 1))) h3 H (fun D => .of (HN (s := DT (some h1.size) (([p0.Name, p0.Az, p0.Ah, p0.Aj] : List (List UInt8)).length)) (by kernel_rfl) X)) fun D t H => ?_
   refine AZ 18 _ _ H (fun D => .of (GN (by kernel_rfl) (IW encS (HH.row A 0 rfl er1) hq1 (o := 0) rfl))) fun D t H => ?_
   refine Be 1 [(4, .str x3)] 3 H fun D H => ?_
   obtain ⟨x4, X, M⟩ := bind_some M
   obtain ⟨v1, h4, R, rfl, E⟩ := EE (av := [.str x3, Ab 0]) X (A.cut 0)
   replace A := A.De E
   refine Aq 1 [] 20 R H fun D t H => ?_
   refine AL 1 [(21, .bool (decide (x4 ≥ 0)))] H fun D H => AX 21 H M (fun B M H => ?_) fun B M H => ?_
   ·refine AF 1 (AL 1 [(2, Ai 2)] H fun D H => AQ ?_)
    replace A := A.k1 1
    exact nr M fun e => Or.inr (.inl ⟨_, rfl, e, H.ls, A⟩)
   refine FL 2 id (A5 2 [(1, .ptr (some (h.size, 0))), (13, AP (some h1.size) (([p0.Name, p0.Az, p0.Ah, p0.Aj] : List (List UInt8)).length)), (14, Ai (([p0.Name, p0.Az, p0.Ah, p0.Aj] : List (List UInt8)).length : Int)), (15, Ai (i64.wrap (x1 + 1)))] H fun D H => at_nil ?_)
   exact nx M ⟨_, rfl, H.ls, A⟩
  refine Bb (i := 0) (by kernel_rfl) ?_
  replace A := A.k1 1
  exact nr M fun e => .inl ⟨rfl, e, H.ls, A⟩
 clear O
 clear A
 intro e D h5 hQ
 rcases hQ with ⟨rfl, rfl, H, A⟩ | ⟨x2, rfl, rfl, H, A⟩ | hF
 ·show AW _ _ _ _ _ _ _
  refine AN (Ae (id := 2) (by kernel_rfl) ?_)
  refine AF 10 (AV 1 [] 25 0 0 A H fun D t H => ?_)
  refine AG 2 [(27, .bool (p0.Name == ([] : UV)))] H fun D H => ?_
  obtain ⟨x5, O, M⟩ := bind_some M
  refine Al 5 (fun N Q => Has N 58 [(1, .ptr (some (h.size, 0))), (32, .bool x5)] ∧ HH g Q [.obj h.size (.cells none 2 (AE p0))] F) ?_ ?_
  ·rcases Ar O with ⟨B, M⟩ | ⟨B, M⟩
   ·replace H := H.kn 27 B
    refine AG 5 [(32, .bool true)] H fun D H => ?_
    obtain rfl := Ad M
    exact at_nil ⟨H.ls, A⟩
   replace H := H.kn 27 B
   refine AV 1 [] 29 0 12 A H fun D t H => ?_
   obtain ⟨x6, X, M⟩ := bind_some M
   obtain ⟨v1, h7, R, rfl, E⟩ := N6 (av := [vs AJ p0.Extra]) X (A.cut 0)
   replace A := A.De E
   refine A0 30 R H fun D t H => ?_
   refine AG 2 [(32, .bool (!x6))] H fun D H => ?_
   obtain rfl := Ad M
   exact at_nil ⟨H.ls, A⟩
  clear A
  intro t D h6 hK
  obtain ⟨H, A⟩ := hK
  refine AL 1 [(23, .bool x5)] H fun D H => AX 23 H M (fun B M H => ?_) fun B M H => ?_
  ·refine AF 1 (AL 1 [(2, Ai 2)] H fun D H => AQ ?_)
   obtain rfl := Ad M
   refine ⟨.inl rfl, Ai 2, rH H, ?_⟩
   replace A := A.d0
   exact ⟨rfl, A⟩
  refine AF 25 (AV 1 [] 35 0 4 A H fun D t H => ?_)
  refine AV 1 [] 37 0 5 A H fun D t H => ?_
  obtain ⟨h8, e3, A⟩ := A.pL 3 [Ai p0.Br, Ai p0.CH]
  refine BF 38 (AP (some h6.size) (([p0.Br, p0.CH] : List Int).length)) e3 H fun D t H => ?_
  replace A : HH g h8 [.Ag (some h6.size) 3 (Ag (eI .i64) ([p0.Br, p0.CH] : List Int)), _] F := A
  obtain ⟨x7, X, M⟩ := bind_some M
  obtain ⟨v1, h9, R, rfl, E⟩ := FQ (av := [Ai 9007199254740992, AP (some h6.size) (([p0.Br, p0.CH] : List Int).length)]) X (A.cut 1)
  replace A := A.g11 E
  refine A0 39 R H fun D t H => ?_
  refine AG 2 [(41, .bool (!x7))] H fun D H => ?_
  obtain ⟨x8, O, M⟩ := bind_some M
  refine Al 10 (fun N Q => Has N 58 [(1, .ptr (some (h.size, 0))), (51, .bool x8)] ∧ HH g Q [.obj h.size (.cells none 2 (AE p0))] F) ?_ ?_
  ·rcases Ar O with ⟨B, M⟩ | ⟨B, M⟩
   ·replace H := H.kn 41 B
    refine AG 10 [(51, .bool true)] H fun D H => ?_
    obtain rfl := Ad M
    replace A := A.k1 1
    exact at_nil ⟨H.ls, A⟩
   replace H := H.kn 41 B
   refine AV 1 [] 43 1 3 A H fun D t H => ?_
   refine AV 1 [] 45 1 8 A H fun D t H => ?_
   refine AV 1 [] 47 1 9 A H fun D t H => ?_
   obtain ⟨h11, e4, A⟩ := A.pL 3 [Ai p0.Mode, Ai p0.An, Ai p0.A2]
   refine BF 48 (AP (some h9.size) (([p0.Mode, p0.An, p0.A2] : List Int).length)) e4 H fun D t H => ?_
   replace A : HH g h11 [.Ag (some h9.size) 3 (Ag (eI .i64) ([p0.Mode, p0.An, p0.A2] : List Int)), _, _] F := A
   obtain ⟨x9, X, M⟩ := bind_some M
   obtain ⟨v1, h12, R, rfl, E⟩ := FQ (av := [Ai 2097152, AP (some h9.size) (([p0.Mode, p0.An, p0.A2] : List Int).length)]) X (A.cut 1)
   replace A := A.g11 E
   refine A0 49 R H fun D t H => ?_
   refine AG 2 [(51, .bool (!x9))] H fun D H => ?_
   obtain rfl := Ad M
   replace A := A.k1 2
   exact at_nil ⟨H.ls, A⟩
  clear A
  intro t D h10 hK
  obtain ⟨H, A⟩ := hK
  refine AG 1 [(52, .bool x8)] H fun D H => ?_
  obtain ⟨x10, O, M⟩ := bind_some M
  refine Al 5 (fun N Q => Has N 58 [(57, .bool x10)] ∧ HH g Q [.obj h.size (.cells none 2 (AE p0))] F) ?_ ?_
  ·rcases Ar O with ⟨B, M⟩ | ⟨B, M⟩
   ·replace H := H.kn 52 B
    refine AG 5 [(57, .bool true)] H fun D H => ?_
    obtain rfl := Ad M
    exact at_nil ⟨H.ls, A⟩
   replace H := H.kn 52 B
   refine Ax 1 [] 54 _ _ H (fun D => .of (BD (by kernel_rfl) (A.ET 0 rfl (o := 10) (n := 2) ⟨Nat.le_of_ble_eq_true rfl, rfl⟩))) fun D t H => ?_
   obtain ⟨x11, X, M⟩ := bind_some M
   obtain ⟨v1, h14, R, rfl, E⟩ := Ko (av := [.agg [Ai p0.Time.Cn, Ai p0.Time.BV]]) X (A.cut 0)
   replace A := A.De E
   refine A0 55 R H fun D t H => ?_
   refine AG 2 [(57, .bool (!x11))] H fun D H => ?_
   obtain rfl := Ad M
   exact at_nil ⟨H.ls, A⟩
  clear A
  intro t D h13 hK
  obtain ⟨H, A⟩ := hK
  refine AL 1 [(33, .bool x10)] H fun D H => AX 33 H M (fun B M H => ?_) fun B M H => ?_
  ·refine AF 1 (AL 1 [(2, Ai 6)] H fun D H => AQ ?_)
   obtain rfl := Ad M
   refine ⟨.inl rfl, Ai 6, rH H, ?_⟩
   replace A := A.d0
   exact ⟨rfl, A⟩
  refine Bs 1 id (AL 1 [(2, Ai 0)] H fun D H => AQ ?_)
  obtain rfl := Ad M
  refine ⟨.inl rfl, Ai 0, rH H, ?_⟩
  replace A := A.d0
  exact ⟨rfl, A⟩
 ·obtain rfl := Ad M
  refine ⟨.inl rfl, Ai x2, rH H, ?_⟩
  replace A := A.d0
  exact ⟨rfl, A⟩
 exact hF.elim
def E5 (p0 : Int) : Option (Bool) :=
 some ((p0 == 48) || (p0 == 55))
theorem NY {p0 q0} (M : E5 p0 = some q0) (A : HH g h [] F) (hc : A9 (cfg.still 97) av = [Ab p0] := by kernel_rfl) : ∃ v Q, BB cfg g h 97 av v Q ∧ v = .bool q0 ∧ HH g Q [] F := by
 refine Dj 9 [.tmp 2] hc ?_
 clear hc
 unfold E5 at M
 refine bg 9 [(0, Ab p0)] fun D H => ?_
 refine AF 1 (Be 1 [] 7 H fun D H => AG 3 [(5, .bool (p0 == 48))] H fun D H => Al 3 (fun N Q => h = Q ∧ Has N 9 [(8, .bool ((p0 == 48) || (p0 == 55)))]) ?_ ?_)
 ·cases B : (p0 == 48 : Bool) with
  | true =>
   replace H := H.kn 5 B
   exact AG 3 [(8, .bool true)] H fun D H => Ac H B
  | false =>
   replace H := H.kn 5 B
   exact AG 3 [(8, .bool (p0 == 55))] H fun D H => Ac H B
 intro t D Q hK
 obtain ⟨e, H⟩ := hK
 subst e
 refine AL 1 [(2, .bool ((p0 == 48) || (p0 == 55)))] H fun D H => AQ ?_
 obtain rfl := Ad M
 exact ⟨.inl rfl, _, rH H, rfl, A⟩
def GO (p0 : AR) (p1 : Int) : Option (Int) :=
 (Eh p0).bind fun x1 => Aa (x1 != 0) (some x1) (Aa ((decide (p0.Kind < 48)) || (decide (p0.Kind > 55))) (some (5 : Int)) ((Aa ((decide (p1 < 0)) || (decide (p1 > 1099511627776))) (some true) ((Aa (p1 != 0) ((E5 p0.Kind).bind fun x4 => some (!x4)) (some false) : Option (Bool)).bind fun x3 => some x3) : Option (Bool)).bind fun x2 => Aa x2 (some (6 : Int)) (some (0 : Int))))
theorem Ng {p0 p1 q0} (M : GO p0 p1 = some q0) (A : HH g h [] F) (hc : A9 (cfg.still 45) av = [.agg (AE p0), Ai p1] := by kernel_rfl) : ∃ v Q, BB cfg g h 45 av v Q ∧ v = Ai q0 ∧ HH g Q [] F := by
 refine Dj 37 [.tmp 4] hc ?_
 clear hc
 unfold GO at M
 refine bg 37 [(0, .agg (AE p0)), (1, Ai p1)] fun D H => ?_
 refine AF 2 ?_
 obtain ⟨h1, e1, A⟩ := A.pu (.cells none 2 (AE p0))
 refine BF 2 (.ptr (some (h.size, 0))) e1 H fun D t H => ?_
 refine AL 1 [] H fun D H => AN (AF 3 (AZ 6 _ _ H (fun D => .of (BD (by kernel_rfl) (A.ET 0 rfl (o := 0) (n := 14) ⟨Nat.le_of_ble_eq_true rfl, rfl⟩))) fun D t H => ?_))
 obtain ⟨x1, X, M⟩ := bind_some M
 obtain ⟨v1, h2, R, rfl, E⟩ := KJ (av := [.agg (AE p0)]) X (A.cut 0)
 replace A : HH g h2 [.obj h.size (.cells none 2 (AE p0))] F := A.GC (n := 0) E
 refine A0 7 R H fun D t H => ?_
 refine Be 1 [(5, Ai x1)] 2 H fun D H => AL 2 [(9, .bool (x1 != 0))] H fun D H => AX 9 H M (fun B M H => ?_) fun B M H => ?_
 ·refine AF 2 (AL 2 [(4, Ai x1)] H fun D H => AQ ?_)
  obtain rfl := Ad M
  refine ⟨.inl rfl, Ai x1, rH H, ?_⟩
  replace A := A.d0
  exact ⟨rfl, A⟩
 refine Bl id (AN (Ae (id := 0) (by kernel_rfl) ?_))
 refine AF 9 (AV 1 [] 13 0 2 A H fun D t H => ?_)
 refine AG 2 [(15, .bool (decide (p0.Kind < 48)))] H fun D H => Al 4 (fun N Q => h2 = Q ∧ Has N 37 [(1, Ai p1), (2, .ptr (some (h.size, 0))), (19, .bool ((decide (p0.Kind < 48)) || (decide (p0.Kind > 55))))]) ?_ ?_
 ·cases B : (decide (p0.Kind < 48) : Bool) with
  | true =>
   replace H := H.kn 15 B
   exact AG 4 [(19, .bool true)] H fun D H => Ac H B
  | false =>
   replace H := H.kn 15 B
   refine AV 1 [] 17 0 2 A H fun D t H => ?_
   exact AG 2 [(19, .bool (decide (p0.Kind > 55)))] H fun D H => Ac H B
 intro t D Q hK
 obtain ⟨e, H⟩ := hK
 subst e
 refine AL 1 [(11, .bool ((decide (p0.Kind < 48)) || (decide (p0.Kind > 55))))] H fun D H => AX 11 H M (fun B M H => ?_) fun B M H => ?_
 ·refine AF 1 (AL 1 [(4, Ai 5)] H fun D H => AQ ?_)
  obtain rfl := Ad M
  refine ⟨.inl rfl, Ai 5, rH H, ?_⟩
  replace A := A.d0
  exact ⟨rfl, A⟩
 refine AF 17 (AG 3 [(23, .bool (decide (p1 < 0)))] H fun D H => Al 3 (fun N Q => h2 = Q ∧ Has N 37 [(1, Ai p1), (2, .ptr (some (h.size, 0))), (26, .bool ((decide (p1 < 0)) || (decide (p1 > 1099511627776))))]) ?_ ?_)
 ·cases B : (decide (p1 < 0) : Bool) with
  | true =>
   replace H := H.kn 23 B
   exact AG 3 [(26, .bool true)] H fun D H => Ac H B
  | false =>
   replace H := H.kn 23 B
   exact AG 3 [(26, .bool (decide (p1 > 1099511627776)))] H fun D H => Ac H B
 intro t D Q hK
 obtain ⟨e, H⟩ := hK
 subst e
 refine AG 1 [(27, .bool ((decide (p1 < 0)) || (decide (p1 > 1099511627776))))] H fun D H => ?_
 obtain ⟨x2, O, M⟩ := bind_some M
 refine Al 9 (fun N Q => Has N 37 [(36, .bool x2)] ∧ HH g Q [.obj h.size (.cells none 2 (AE p0))] F) ?_ ?_
 ·rcases Ar O with ⟨B, M⟩ | ⟨B, M⟩
  ·replace H := H.kn 27 B
   refine AG 9 [(36, .bool true)] H fun D H => ?_
   obtain rfl := Ad M
   exact at_nil ⟨H.ls, A⟩
  replace H := H.kn 27 B
  refine AG 3 [(30, .bool (p1 != 0))] H fun D H => ?_
  obtain ⟨x3, O, M⟩ := bind_some M
  refine Al 5 (fun N Q => Has N 37 [(27, .bool false), (35, .bool x3)] ∧ HH g Q [.obj h.size (.cells none 2 (AE p0))] F) ?_ ?_
  ·rcases Ar O with ⟨B, M⟩ | ⟨B, M⟩
   ·replace H := H.kn 30 B
    refine AV 1 [] 32 0 2 A H fun D t H => ?_
    obtain ⟨x4, X, M⟩ := bind_some M
    obtain ⟨v1, h5, R, rfl, E⟩ := NY (av := [Ab p0.Kind]) X (A.cut 0)
    replace A := A.De E
    refine A0 33 R H fun D t H => ?_
    refine AG 2 [(35, .bool (!x4))] H fun D H => ?_
    obtain rfl := Ad M
    exact at_nil ⟨H.ls, A⟩
   replace H := H.kn 30 B
   refine AG 5 [(35, .bool false)] H fun D H => ?_
   obtain rfl := Ad M
   exact at_nil ⟨H.ls, A⟩
  clear A
  intro t D h4 hK
  obtain ⟨H, A⟩ := hK
  refine AG 1 [(36, .bool x3)] H fun D H => ?_
  obtain rfl := Ad M
  exact at_nil ⟨H.ls, A⟩
 clear A
 intro t D h3 hK
 obtain ⟨H, A⟩ := hK
 refine AL 1 [(20, .bool x2)] H fun D H => AX 20 H M (fun B M H => ?_) fun B M H => ?_
 ·refine AF 1 (AL 1 [(4, Ai 6)] H fun D H => AQ ?_)
  obtain rfl := Ad M
  refine ⟨.inl rfl, Ai 6, rH H, ?_⟩
  replace A := A.d0
  exact ⟨rfl, A⟩
 refine Bs 1 id (AL 1 [(4, Ai 0)] H fun D H => AQ ?_)
 obtain rfl := Ad M
 refine ⟨.inl rfl, Ai 0, rH H, ?_⟩
 replace A := A.d0
 exact ⟨rfl, A⟩
def Ei (p0 : AR) (p1 : Int) : Option (Int) :=
 (Eh p0).bind fun x1 => Aa (x1 != 0) (some x1) ((Cc (9007199254740992 : Int) ([p1] : List Int)).bind fun x2 => Aa (!x2) (some (6 : Int)) (some (0 : Int)))
theorem Kk {p0 p1 q0} (M : Ei p0 p1 = some q0) (A : HH g h [] F) (hc : A9 (cfg.still 65) av = [.agg (AE p0), Ai p1] := by kernel_rfl) : ∃ v Q, BB cfg g h 65 av v Q ∧ v = Ai q0 ∧ HH g Q [] F := by
 refine Dj 15 [.tmp 4] hc ?_
 clear hc
 unfold Ei at M
 refine bg 15 [(0, .agg (AE p0)), (1, Ai p1)] fun D H => ?_
 refine AF 2 ?_
 obtain ⟨h1, e1, A⟩ := A.pu (.cells none 2 (AE p0))
 refine BF 2 (.ptr (some (h.size, 0))) e1 H fun D t H => ?_
 refine AL 1 [] H fun D H => AN (AF 3 (AZ 6 _ _ H (fun D => .of (BD (by kernel_rfl) (A.ET 0 rfl (o := 0) (n := 14) ⟨Nat.le_of_ble_eq_true rfl, rfl⟩))) fun D t H => ?_))
 obtain ⟨x1, X, M⟩ := bind_some M
 obtain ⟨v1, h2, R, rfl, E⟩ := KJ (av := [.agg (AE p0)]) X (A.cut 0)
 replace A : HH g h2 [.obj h.size (.cells none 2 (AE p0))] F := A.GC (n := 0) E
 refine A0 7 R H fun D t H => ?_
 refine Be 1 [(5, Ai x1)] 2 H fun D H => AL 2 [(9, .bool (x1 != 0))] H fun D H => AX 9 H M (fun B M H => ?_) fun B M H => ?_
 ·refine AF 2 (AL 2 [(4, Ai x1)] H fun D H => AQ ?_)
  obtain rfl := Ad M
  refine ⟨.inl rfl, Ai x1, rH H, ?_⟩
  replace A := A.d0
  exact ⟨rfl, A⟩
 refine Bl id (AN (AF 4 (AG 1 [(11, Ai p1)] H fun D H => ?_)))
 obtain ⟨h3, e2, A⟩ := A.pL 3 [Ai p1]
 refine BF 12 (AP (some h2.size) (([p1] : List Int).length)) e2 H fun D t H => ?_
 replace A : HH g h3 [.Ag (some h2.size) 3 (Ag (eI .i64) ([p1] : List Int)), _] F := A
 obtain ⟨x2, X, M⟩ := bind_some M
 obtain ⟨v1, h4, R, rfl, E⟩ := FQ (av := [Ai 9007199254740992, AP (some h2.size) (([p1] : List Int).length)]) X (A.cut 1)
 replace A := A.g11 E
 refine A0 13 R H fun D t H => ?_
 refine AL 1 [(14, .bool (!x2))] H fun D H => AX 14 H M (fun B M H => ?_) fun B M H => ?_
 ·refine AF 1 (AL 1 [(4, Ai 6)] H fun D H => AQ ?_)
  obtain rfl := Ad M
  refine ⟨.inl rfl, Ai 6, rH H, ?_⟩
  replace A := A.d0
  exact ⟨rfl, A⟩
 refine Bs 1 id (AL 1 [(4, Ai 0)] H fun D H => AQ ?_)
 obtain rfl := Ad M
 refine ⟨.inl rfl, Ai 0, rH H, ?_⟩
 replace A := A.d0
 exact ⟨rfl, A⟩
def Fj (p0 : AK) (p1 : AR) : Option (AK) :=
 some (⟨p0.Name, p0.Az, p0.Kind, p0.Mode, p0.Br, p1.CH, p0.Eu, p0.Time, p0.Ah, p0.Aj, p0.An, p0.A2, p0.Form⟩ : AK)
theorem LI {p0 p1 bp0 bp1 u0} (M : Fj p0 p1 = some u0) (A : HH g h [.obj bp0 (.cells none 2 (AI p0)), .obj bp1 (.cells none 2 (AE p1))] F) (hc : A9 (cfg.still 122) av = [.ptr (some (bp0, 0)), .ptr (some (bp1, 0))] := by kernel_rfl) : ∃ v Q, BB cfg g h 122 av v Q ∧ v = .tuple [] ∧ HH g Q [.obj bp0 (.cells none 2 (AI u0)), .obj bp1 (.cells none 2 (AE p1))] F := by
 refine Dj 8 [] hc ?_
 clear hc
 unfold Fj at M
 refine bg 8 [(0, .ptr (some (bp0, 0))), (1, .ptr (some (bp1, 0)))] fun D H => ?_
 refine BO 6 (AV 2 [(3, .ptr (some (bp0, 0)))] 5 1 5 A H fun D t H => ?_)
 obtain ⟨h1, X, A⟩ := A.s0 5 [Ai p1.CH] [_, _, _, _, _, _, _, _, _, _, _, _, _]
 refine CO 2 [] X H fun D t H => ?_
 refine at_nil ?_
 obtain rfl := Ad M
 refine ⟨.inr rfl, .tuple [], rH H, ?_⟩
 exact ⟨rfl, A⟩
def Cp (p0 : List UInt8) (p1 : Int) (s : Int) : Option ((Int) ⊕ ((Unit) ⊕ (Int))) :=
 match s with
 | x1 => Aa (decide (x1 ≥ 0)) ((MZ p0 x1).bind fun x3 => Aa (x3 == p1) (some (.inr (.inr x1))) (some (.inl (i64.wrap (x1 - 1))))) (some (.inr (.inl ())))
def CL (p0 : List UInt8) (p1 : Int) : Option (Int) :=
 (loop (Cp p0 p1) (i64.wrap ((p0.length : Int) - 1))).bind fun o1 => (match o1 with | .inl _ => some (-1 : Int) | .inr x2 => some x2)
theorem Gh {p0 p1 q0} (M : CL p0 p1 = some q0) (A : HH g h [] F) (hc : A9 (cfg.still 225) av = [.str p0, Ab p1] := by kernel_rfl) : ∃ v Q, BB cfg g h 225 av v Q ∧ v = Ai q0 ∧ HH g Q [] F := by
 refine Dj 19 [.tmp 4] hc ?_
 clear hc
 unfold CL at M
 refine bg 19 [(0, .str p0), (1, Ab p1)] fun D H => ?_
 refine AF 1 (AL 1 [] H fun D H => AN (AF 4 (AL 4 [(5, Ai (i64.wrap ((p0.length : Int) - 1)))] H fun D H => Ae (id := 0) (by kernel_rfl) ?_)))
 obtain ⟨o1, O, M⟩ := bind_some M
 refine Ao (Q' := fun e N Q => (e = .exit 0 ∧ .inl () = o1 ∧ Has N 19 [] ∧ HH g Q [] F) ∨ (∃ x2, e = .ret ∧ .inr x2 = o1 ∧ Has N 19 [(4, Ai x2)] ∧ HH g Q [] F) ∨ False) ?_ ?_
 ·refine Bc (by kernel_rfl) (fun (s : Int) N Q => ∃ x1, x1 = s ∧ Has N 19 [(0, .str p0), (1, Ab p1), (5, Ai x1)] ∧ HH g Q [] F) O ⟨_, rfl, H.ls, A⟩ ?_
  clear O M H A
  intro s q D h1 hI M
  obtain ⟨x1, rfl, H, A⟩ := hI
  unfold Cp at M
  refine AN (AF 2 (AL 2 [(10, .bool (decide (x1 ≥ 0)))] H fun D H => AX 10 H M (fun B M H => ?_) fun B M H => ?_))
  ·refine Bl id (AN (Ae (id := 1) (by kernel_rfl) ?_))
   refine AF 5 ?_
   obtain ⟨x3, X, M⟩ := bind_some M
   refine Ax 2 [] 15 (Ab x3) h1 H (fun D => .of (FK (by kernel_rfl) X)) fun D t H => ?_
   refine AL 2 [(17, .bool (x3 == p1))] H fun D H => AX 17 H M (fun B M H => ?_) fun B M H => ?_
   ·refine AF 2 (AL 2 [(4, Ai x1)] H fun D H => AQ ?_)
    exact nr M fun e => Or.inr (.inl ⟨_, rfl, e, H.ls, A⟩)
   refine FL 3 id (A5 3 [(0, .str p0), (1, Ab p1), (5, Ai (i64.wrap (x1 - 1)))] H fun D H => at_nil ?_)
   exact nx M ⟨_, rfl, H.ls, A⟩
  refine Bb (i := 0) (by kernel_rfl) ?_
  exact nr M fun e => .inl ⟨rfl, e, H.ls, A⟩
 clear O
 clear A
 intro e D h2 hQ
 rcases hQ with ⟨rfl, rfl, H, A⟩ | ⟨x2, rfl, rfl, H, A⟩ | hF
 ·show AW _ _ _ _ _ _ _
  refine AF 1 (AL 1 [(4, Ai (-1))] H fun D H => AQ ?_)
  obtain rfl := Ad M
  exact ⟨.inl rfl, _, rH H, rfl, A⟩
 ·obtain rfl := Ad M
  exact ⟨.inl rfl, _, rH H, rfl, A⟩
 exact hF.elim
def Bt (p0 : List UInt8) (p1 : Int) : Option (Int) :=
 (CL p0 p1).bind fun x1 => some x1
theorem Fc {p0 p1 q0} (M : Bt p0 p1 = some q0) (A : HH g h [] F) (hc : A9 (cfg.still 190) av = [.str p0, Ab p1] := by kernel_rfl) : ∃ v Q, BB cfg g h 190 av v Q ∧ v = Ai q0 ∧ HH g Q [] F := by
 refine Dj 8 [.tmp 4] hc ?_
 clear hc
 unfold Bt at M
 refine bg 8 [(0, .str p0), (1, Ab p1)] fun D H => ?_
 refine AF 1 (Be 1 [] 4 H fun D H => ?_)
 obtain ⟨x1, X, M⟩ := bind_some M
 obtain ⟨v1, h1, R, rfl, E⟩ := Gh (av := [.str p0, Ab p1]) X (A.cut 0)
 replace A := A.De E
 refine Aq 2 [] 7 R H fun D t H => ?_
 refine AL 1 [(4, Ai x1)] H fun D H => AQ ?_
 obtain rfl := Ad M
 exact ⟨.inl rfl, _, rH H, rfl, A⟩
def Hg (p0 : List UInt8) (s : Int) : Option ((Int) ⊕ ((Int))) :=
 match s with
 | x3 => Aa ((decide (x3 > 0)) && (x3 == (i64.wrap ((p0.length : Int) - 1)))) ((D7 p0 none (some x3)).bind fun x5 => (Bt x5 (47 : Int)).bind fun x6 => some (.inl x6)) (some (.inr x3))
def DN (p0 : List UInt8) : Option ((List UInt8) × (List UInt8) × Bool) :=
 Aa (decide ((p0.length : Int) ≤ 100)) (some (([] : UV), p0, true)) ((D7 p0 none (some (mn (p0.length : Int) (156 : Int)))).bind fun x1 => (Bt x1 (47 : Int)).bind fun x2 => (loop (Hg p0) x2).bind fun x4 => Aa ((decide (x4 < 1)) || (decide ((i64.wrap ((i64.wrap ((p0.length : Int) - x4)) - 1)) > 100))) (some (([] : UV), ([] : UV), false)) ((D7 p0 none (some x4)).bind fun x7 => (D7 p0 (some (i64.wrap (x4 + 1))) none).bind fun x8 => some (x7, x8, true)))
theorem Qb {p0 q0 q1 q2} (M : DN p0 = some (q0, q1, q2)) (A : HH g h [] F) (hc : A9 (cfg.still 135) av = [.str p0] := by kernel_rfl) : ∃ v Q, BB cfg g h 135 av v Q ∧ v = .tuple [.str q0, .str q1, .bool q2] ∧ HH g Q [] F := by
 refine Dj 46 [.tmp 2, .tmp 3, .tmp 4] hc ?_
 clear hc
 unfold DN at M
 refine bg 46 [(0, .str p0)] fun D H => ?_
 refine AF 3 (AL 3 [] H fun D H => AN (AF 3 (AL 3 [(8, .bool (decide ((p0.length : Int) ≤ 100)))] H fun D H => AX 8 H M (fun B M H => ?_) fun B M H => ?_)))
 ·refine AF 4 (AL 4 [(2, .str ([] : UV)), (3, .str p0), (4, .bool true)] H fun D H => AQ ?_)
  obtain ⟨rfl, rfl, rfl⟩ := KN M
  exact ⟨.inl rfl, _, rH H, rfl, A⟩
 refine Bs 7 id ?_
 obtain ⟨x1, X, M⟩ := bind_some M
 refine Ax 4 [] 14 (.str x1) h H (fun D => .of (Cs (k := .i64) (k' := .i64) (lo := none) (hi := (some (mn (p0.length : Int) (156 : Int)))) (by kernel_rfl) X)) fun D t H => ?_
 obtain ⟨x2, X, M⟩ := bind_some M
 obtain ⟨v1, h1, R, rfl, E⟩ := Fc (av := [.str x1, Ab 47]) X (A.cut 0)
 replace A := A.De E
 refine A0 15 R H fun D t H => ?_
 refine AL 1 [(5, Ai x2)] H fun D H => AN (Ae (id := 0) (by kernel_rfl) ?_)
 obtain ⟨o1, O, M⟩ := bind_some M
 refine Ao (Q' := fun e N Q => (∃ x4, e = .exit 0 ∧ x4 = o1 ∧ Has N 46 [(0, .str p0), (5, Ai x4)] ∧ HH g Q [] F) ∨ False) ?_ ?_
 ·refine Bc (by kernel_rfl) (fun (s : Int) N Q => ∃ x3, x3 = s ∧ Has N 46 [(0, .str p0), (5, Ai x3)] ∧ HH g Q [] F) O ⟨_, rfl, H.ls, A⟩ ?_
  clear O M H A
  intro s q D h2 hI M
  obtain ⟨x3, rfl, H, A⟩ := hI
  unfold Hg at M
  refine AN (AF 9 (AG 3 [(18, .bool (decide (x3 > 0)))] H fun D H => Al 6 (fun N Q => h2 = Q ∧ Has N 46 [(0, .str p0), (5, Ai x3), (24, .bool ((decide (x3 > 0)) && (x3 == (i64.wrap ((p0.length : Int) - 1)))))]) ?_ ?_))
  ·cases B : (decide (x3 > 0) : Bool) with
   | true =>
    replace H := H.kn 18 B
    exact AG 6 [(24, .bool (x3 == (i64.wrap ((p0.length : Int) - 1))))] H fun D H => Ac H B
   | false =>
    replace H := H.kn 18 B
    exact AG 6 [(24, .bool false)] H fun D H => Ac H B
  intro t D Q hK
  obtain ⟨e, H⟩ := hK
  subst e
  refine BK id (AX 24 H M (fun B M H => ?_) fun B M H => ?_)
  ·refine Bl id (Ae (id := 1) (by kernel_rfl) ?_)
   refine BO 5 ?_
   obtain ⟨x5, X, M⟩ := bind_some M
   refine Ax 2 [] 27 (.str x5) h2 H (fun D => .of (Cs (k := .i64) (k' := .i64) (lo := none) (hi := (some x3)) (by kernel_rfl) X)) fun D t H => ?_
   obtain ⟨x6, X, M⟩ := bind_some M
   obtain ⟨v1, h3, R, rfl, E⟩ := Fc (av := [.str x5, Ab 47]) X (A.cut 0)
   replace A := A.De E
   refine A0 28 R H fun D t H => ?_
   refine A5 1 [(0, .str p0), (5, Ai x6)] H fun D H => at_nil ?_
   exact nx M ⟨_, rfl, H.ls, A⟩
  refine Bb (i := 0) (by kernel_rfl) ?_
  exact nr M fun e => .inl ⟨_, rfl, e, H.ls, A⟩
 clear O
 clear A
 intro e D h4 hQ
 rcases hQ with ⟨x4, rfl, rfl, H, A⟩ | hF
 ·show AW _ _ _ _ _ _ _
  refine AN (AF 10 (AG 3 [(31, .bool (decide (x4 < 1)))] H fun D H => Al 7 (fun N Q => h4 = Q ∧ Has N 46 [(0, .str p0), (5, Ai x4), (38, .bool ((decide (x4 < 1)) || (decide ((i64.wrap ((i64.wrap ((p0.length : Int) - x4)) - 1)) > 100))))]) ?_ ?_))
  ·cases B : (decide (x4 < 1) : Bool) with
   | true =>
    replace H := H.kn 31 B
    exact AG 7 [(38, .bool true)] H fun D H => Ac H B
   | false =>
    replace H := H.kn 31 B
    exact AG 7 [(38, .bool (decide ((i64.wrap ((i64.wrap ((p0.length : Int) - x4)) - 1)) > 100)))] H fun D H => Ac H B
  intro t D Q hK
  obtain ⟨e, H⟩ := hK
  subst e
  refine BK id (AX 38 H M (fun B M H => ?_) fun B M H => ?_)
  ·refine AF 3 (AL 3 [(2, .str ([] : UV)), (3, .str ([] : UV)), (4, .bool false)] H fun D H => AQ ?_)
   obtain ⟨rfl, rfl, rfl⟩ := KN M
   exact ⟨.inl rfl, _, rH H, rfl, A⟩
  refine Bl id (AN (HB 8 10 ?_))
  obtain ⟨x7, X, M⟩ := bind_some M
  refine Ax 2 [] 41 (.str x7) h4 H (fun D => .of (Cs (k := .i64) (k' := .i64) (lo := none) (hi := (some x4)) (by kernel_rfl) X)) fun D t H => ?_
  obtain ⟨x8, X, M⟩ := bind_some M
  refine Ax 3 [] 45 (.str x8) h4 H (fun D => .of (Cs (k := .i64) (k' := .i64) (lo := (some (i64.wrap (x4 + 1)))) (hi := none) (by kernel_rfl) X)) fun D t H => ?_
  refine AL 3 [(2, .str x7), (3, .str x8), (4, .bool true)] H fun D H => AQ ?_
  obtain ⟨rfl, rfl, rfl⟩ := KN M
  exact ⟨.inl rfl, _, rH H, rfl, A⟩
 exact hF.elim
def Ic (p0 : Int) : Option (Bool) :=
 some ((decide (p0 ≥ 2)) && (decide (p0 ≤ 12)))
theorem QG {p0 q0} (M : Ic p0 = some q0) (A : HH g h [] F) (hc : A9 (cfg.still 136) av = [Ai p0] := by kernel_rfl) : ∃ v Q, BB cfg g h 136 av v Q ∧ v = .bool q0 ∧ HH g Q [] F := by
 refine Dj 9 [.tmp 2] hc ?_
 clear hc
 unfold Ic at M
 refine bg 9 [(0, Ai p0)] fun D H => ?_
 refine AF 1 (Be 1 [] 7 H fun D H => AG 3 [(5, .bool (decide (p0 ≥ 2)))] H fun D H => Al 3 (fun N Q => h = Q ∧ Has N 9 [(8, .bool ((decide (p0 ≥ 2)) && (decide (p0 ≤ 12))))]) ?_ ?_)
 ·cases B : (decide (p0 ≥ 2) : Bool) with
  | true =>
   replace H := H.kn 5 B
   exact AG 3 [(8, .bool (decide (p0 ≤ 12)))] H fun D H => Ac H B
  | false =>
   replace H := H.kn 5 B
   exact AG 3 [(8, .bool false)] H fun D H => Ac H B
 intro t D Q hK
 obtain ⟨e, H⟩ := hK
 subst e
 refine AL 1 [(2, .bool ((decide (p0 ≥ 2)) && (decide (p0 ≤ 12))))] H fun D H => AQ ?_
 obtain rfl := Ad M
 exact ⟨.inl rfl, _, rH H, rfl, A⟩
def Fm (p0 : AK) (p1 : AR) : Option (AK) :=
 some (⟨p0.Name, p0.Az, p0.Kind, p0.Mode, p0.Br, p0.CH, p0.Eu, p0.Time, p0.Ah, p1.Aj, p0.An, p0.A2, p0.Form⟩ : AK)
theorem LG {p0 p1 bp0 bp1 u0} (M : Fm p0 p1 = some u0) (A : HH g h [.obj bp0 (.cells none 2 (AI p0)), .obj bp1 (.cells none 2 (AE p1))] F) (hc : A9 (cfg.still 123) av = [.ptr (some (bp0, 0)), .ptr (some (bp1, 0))] := by kernel_rfl) : ∃ v Q, BB cfg g h 123 av v Q ∧ v = .tuple [] ∧ HH g Q [.obj bp0 (.cells none 2 (AI u0)), .obj bp1 (.cells none 2 (AE p1))] F := by
 refine Dj 8 [] hc ?_
 clear hc
 unfold Fm at M
 refine bg 8 [(0, .ptr (some (bp0, 0))), (1, .ptr (some (bp1, 0)))] fun D H => ?_
 refine BO 6 (AV 2 [(3, .ptr (some (bp0, 0)))] 5 1 7 A H fun D t H => ?_)
 obtain ⟨h1, X, A⟩ := A.s0 9 [.str p1.Aj] [_, _, _, _, _, _, _, _, _, _, _, _, _]
 refine CO 2 [] X H fun D t H => ?_
 refine at_nil ?_
 obtain rfl := Ad M
 refine ⟨.inr rfl, .tuple [], rH H, ?_⟩
 exact ⟨rfl, A⟩
end
end Go.Av.L
