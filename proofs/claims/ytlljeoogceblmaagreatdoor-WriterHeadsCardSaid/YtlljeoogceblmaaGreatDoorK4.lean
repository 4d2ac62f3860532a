/-
 A part.
-/
import Derived.Test.YtlljeoogceblmaaGreatDoorKCfg
namespace Go.Av.L
open Go.Av Go.Lib
open IntKind (i64)
set_option maxRecDepth 10000
set_option linter.unusedVariables false
set_option linter.unusedSimpArgs false
variable {g : Gd} {h : AD} {F : List Ck} {av : List AB}
noncomputable section
def EV (p0 : List UInt8) (s : Int) : Option ((Int) ⊕ ((Int))) :=
 match s with
 | x1 => (Aa (decide (x1 < (p0.length : Int))) ((MZ p0 x1).bind fun x4 => some (x4 != 0)) (some false) : Option (Bool)).bind fun x3 => Aa x3 (some (.inl (i64.wrap (x1 + 1)))) (some (.inr x1))
def Aw (p0 : List UInt8) : Option ((List UInt8)) :=
 (loop (EV p0) (0 : Int)).bind fun x2 => (D7 p0 none (some x2)).bind fun x5 => some x5
theorem BR {p0 q0} (M : Aw p0 = some q0) (A : HH g h [] F) (hc : A9 (cfg.still 56) av = [.str p0] := by kernel_rfl) : ∃ v Q, BB cfg g h 56 av v Q ∧ v = .str q0 ∧ HH g Q [] F := by
 refine Dj 19 [.tmp 2] hc ?_
 clear hc
 unfold Aw at M
 refine bg 19 [(0, .str p0)] fun D H => ?_
 refine AF 1 (Be 1 [] 1 H fun D H => AL 1 [(3, Ai 0)] H fun D H => AN (Ae (id := 0) (by kernel_rfl) ?_))
 obtain ⟨o1, O, M⟩ := bind_some M
 refine Ao (Q' := fun e N Q => (∃ x2, e = .exit 0 ∧ x2 = o1 ∧ Has N 19 [(0, .str p0), (3, Ai x2)] ∧ HH g Q [] F) ∨ False) ?_ ?_
 ·refine Bc (by kernel_rfl) (fun (s : Int) N Q => ∃ x1, x1 = s ∧ Has N 19 [(0, .str p0), (3, Ai x1)] ∧ HH g Q [] F) O ⟨_, rfl, H.ls, A⟩ ?_
  clear O M H A
  intro s q D h1 hI M
  obtain ⟨x1, rfl, H, A⟩ := hI
  unfold EV at M
  refine AN (AF 10 (AG 5 [(8, .bool (decide (x1 < (p0.length : Int))))] H fun D H => ?_))
  obtain ⟨x3, O, M⟩ := bind_some M
  refine Al 5 (fun N Q => Has N 19 [(0, .str p0), (3, Ai x1), (13, .bool x3)] ∧ HH g Q [] F) ?_ ?_
  ·rcases Ar O with ⟨B, M⟩ | ⟨B, M⟩
   ·replace H := H.kn 8 B
    obtain ⟨x4, X, M⟩ := bind_some M
    refine Ax 2 [] 11 (Ab x4) h1 H (fun D => .of (FK (by kernel_rfl) X)) fun D t H => ?_
    refine AG 2 [(13, .bool (x4 != 0))] H fun D H => ?_
    obtain rfl := Ad M
    exact at_nil ⟨H.ls, A⟩
   replace H := H.kn 8 B
   refine AG 5 [(13, .bool false)] H fun D H => ?_
   obtain rfl := Ad M
   exact at_nil ⟨H.ls, A⟩
  clear A
  intro t D h2 hK
  obtain ⟨H, A⟩ := hK
  refine BK id (AX 13 H M (fun B M H => ?_) fun B M H => ?_)
  ·refine Bl id (Ae (id := 1) (by kernel_rfl) ?_)
   refine BO 3 (A5 3 [(0, .str p0), (3, Ai (i64.wrap (x1 + 1)))] H fun D H => at_nil ?_)
   exact nx M ⟨_, rfl, H.ls, A⟩
  refine Bb (i := 0) (by kernel_rfl) ?_
  exact nr M fun e => .inl ⟨_, rfl, e, H.ls, A⟩
 clear O
 clear A
 intro e D h3 hQ
 rcases hQ with ⟨x2, rfl, rfl, H, A⟩ | hF
 ·show AW _ _ _ _ _ _ _
  refine AF 4 ?_
  obtain ⟨x5, X, M⟩ := bind_some M
  refine Ax 2 [] 18 (.str x5) h3 H (fun D => .of (Cs (k := .i64) (k' := .i64) (lo := none) (hi := (some x2)) (by kernel_rfl) X)) fun D t H => ?_
  refine AL 1 [(2, .str x5)] H fun D H => AQ ?_
  obtain rfl := Ad M
  exact ⟨.inl rfl, _, rH H, rfl, A⟩
 exact hF.elim
def Bv (p0 : AA) (s : Int) : Option ((Int) ⊕ ((Unit) ⊕ (Bool))) :=
 match s with
 | x1 => Aa (decide (x1 < (p0.Key.length : Int))) ((MZ p0.Key x1).bind fun x3 => Aa (x3 == 61) (some (.inr (.inr false))) (some (.inl (i64.wrap (x1 + 1))))) (some (.inr (.inl ())))
def Bz (p0 : AA) : Option (Bool) :=
 (loop (Bv p0) (0 : Int)).bind fun o1 => (match o1 with | .inl _ => some (!(p0.Key == ([] : UV))) | .inr x2 => some x2)
theorem GZ {p0 q0} (M : Bz p0 = some q0) (A : HH g h [] F) (hc : A9 (cfg.still 100) av = [.agg [.str p0.Key, .str p0.Value]] := by kernel_rfl) : ∃ v Q, BB cfg g h 100 av v Q ∧ v = .bool q0 ∧ HH g Q [] F := by
 refine Dj 19 [.tmp 2] hc ?_
 clear hc
 unfold Bz at M
 refine bg 19 [(0, .agg [.str p0.Key, .str p0.Value])] fun D H => ?_
 refine AF 2 ?_
 obtain ⟨h1, e1, A⟩ := A.pu (.cells none 2 [.str p0.Key, .str p0.Value])
 refine BF 1 (.ptr (some (h.size, 0))) e1 H fun D t H => ?_
 refine AL 1 [] H fun D H => AN (AF 1 (AL 1 [(3, Ai 0)] H fun D H => Ae (id := 0) (by kernel_rfl) ?_))
 obtain ⟨o1, O, M⟩ := bind_some M
 refine Ao (Q' := fun e N Q => (e = .exit 0 ∧ .inl () = o1 ∧ Has N 19 [(1, .ptr (some (h.size, 0)))] ∧ HH g Q [.obj h.size (.cells none 2 [.str p0.Key, .str p0.Value])] F) ∨ (∃ x2, e = .ret ∧ .inr x2 = o1 ∧ Has N 19 [(2, .bool x2)] ∧ HH g Q [.obj h.size (.cells none 2 [.str p0.Key, .str p0.Value])] F) ∨ False) ?_ ?_
 ·refine Bc (by kernel_rfl) (fun (s : Int) N Q => ∃ x1, x1 = s ∧ Has N 19 [(1, .ptr (some (h.size, 0))), (3, Ai x1)] ∧ HH g Q [.obj h.size (.cells none 2 [.str p0.Key, .str p0.Value])] F) O ⟨_, rfl, H.ls, A⟩ ?_
  clear O M H A
  intro s q D h2 hI M
  obtain ⟨x1, rfl, H, A⟩ := hI
  unfold Bv at M
  refine AN (AF 5 (AV 2 [(4, Ai x1)] 6 0 0 A H fun D t H => ?_))
  refine AL 2 [(8, .bool (decide (x1 < (p0.Key.length : Int))))] H fun D H => AX 8 H M (fun B M H => ?_) fun B M H => ?_
  ·refine Bl id (AN (Ae (id := 1) (by kernel_rfl) ?_))
   refine AF 5 (AV 1 [] 12 0 0 A H fun D t H => ?_)
   obtain ⟨x3, X, M⟩ := bind_some M
   refine Ax 1 [] 14 (Ab x3) h2 H (fun D => .of (FK (by kernel_rfl) X)) fun D t H => ?_
   refine AL 1 [(15, .bool (x3 == 61))] H fun D H => AX 15 H M (fun B M H => ?_) fun B M H => ?_
   ·refine AF 1 (AL 1 [(2, .bool false)] H fun D H => AQ ?_)
    exact nr M fun e => Or.inr (.inl ⟨_, rfl, e, H.ls, A⟩)
   refine FL 3 id (A5 3 [(1, .ptr (some (h.size, 0))), (3, Ai (i64.wrap (x1 + 1)))] H fun D H => at_nil ?_)
   exact nx M ⟨_, rfl, H.ls, A⟩
  refine Bb (i := 0) (by kernel_rfl) ?_
  exact nr M fun e => .inl ⟨rfl, e, H.ls, A⟩
 clear O
 clear A
 intro e D h3 hQ
 rcases hQ with ⟨rfl, rfl, H, A⟩ | ⟨x2, rfl, rfl, H, A⟩ | hF
 ·show AW _ _ _ _ _ _ _
  refine AF 4 (AV 1 [] 17 0 0 A H fun D t H => ?_)
  refine AL 2 [(2, .bool (!(p0.Key == ([] : UV))))] H fun D H => AQ ?_
  obtain rfl := Ad M
  refine ⟨.inl rfl, .bool (!(p0.Key == ([] : UV))), rH H, ?_⟩
  replace A := A.d0
  exact ⟨rfl, A⟩
 ·obtain rfl := Ad M
  refine ⟨.inl rfl, .bool x2, rH H, ?_⟩
  replace A := A.d0
  exact ⟨rfl, A⟩
 exact hF.elim
def DJ (p0 : List UInt8) : Option (Bool) :=
 some ((((((((p0 == ([103, 105, 100] : UV)) || (p0 == ([103, 110, 97, 109, 101] : UV))) || (p0 == ([108, 105, 110, 107, 112, 97, 116, 104] : UV))) || (p0 == ([109, 116, 105, 109, 101] : UV))) || (p0 == ([112, 97, 116, 104] : UV))) || (p0 == ([115, 105, 122, 101] : UV))) || (p0 == ([117, 105, 100] : UV))) || (p0 == ([117, 110, 97, 109, 101] : UV)))
theorem J2 {p0 q0} (M : DJ p0 = some q0) (A : HH g h [] F) (hc : A9 (cfg.still 101) av = [.str p0] := by kernel_rfl) : ∃ v Q, BB cfg g h 101 av v Q ∧ v = .bool q0 ∧ HH g Q [] F := by
 refine Dj 33 [.tmp 2] hc ?_
 clear hc
 unfold DJ at M
 refine bg 33 [(0, .str p0)] fun D H => ?_
 refine AF 1 (Be 1 [] 31 H fun D H => AG 3 [(5, .bool (p0 == ([103, 105, 100] : UV)))] H fun D H => Al 3 (fun N Q => h = Q ∧ Has N 33 [(0, .str p0), (8, .bool ((p0 == ([103, 105, 100] : UV)) || (p0 == ([103, 110, 97, 109, 101] : UV))))]) ?_ ?_)
 ·cases B : (p0 == ([103, 105, 100] : UV) : Bool) with
  | true =>
   replace H := H.kn 5 B
   exact AG 3 [(8, .bool true)] H fun D H => Ac H B
  | false =>
   replace H := H.kn 5 B
   exact AG 3 [(8, .bool (p0 == ([103, 110, 97, 109, 101] : UV)))] H fun D H => Ac H B
 intro t D Q hK
 obtain ⟨e, H⟩ := hK
 subst e
 refine AG 1 [(9, .bool ((p0 == ([103, 105, 100] : UV)) || (p0 == ([103, 110, 97, 109, 101] : UV))))] H fun D H => Al 3 (fun N Q => h = Q ∧ Has N 33 [(0, .str p0), (12, .bool (((p0 == ([103, 105, 100] : UV)) || (p0 == ([103, 110, 97, 109, 101] : UV))) || (p0 == ([108, 105, 110, 107, 112, 97, 116, 104] : UV))))]) ?_ ?_
 ·cases B : ((p0 == ([103, 105, 100] : UV)) || (p0 == ([103, 110, 97, 109, 101] : UV)) : Bool) with
  | true =>
   replace H := H.kn 9 B
   exact AG 3 [(12, .bool true)] H fun D H => Ac H B
  | false =>
   replace H := H.kn 9 B
   exact AG 3 [(12, .bool (p0 == ([108, 105, 110, 107, 112, 97, 116, 104] : UV)))] H fun D H => Ac H B
 intro t D Q hK
 obtain ⟨e, H⟩ := hK
 subst e
 refine AG 1 [(13, .bool (((p0 == ([103, 105, 100] : UV)) || (p0 == ([103, 110, 97, 109, 101] : UV))) || (p0 == ([108, 105, 110, 107, 112, 97, 116, 104] : UV))))] H fun D H => Al 3 (fun N Q => h = Q ∧ Has N 33 [(0, .str p0), (16, .bool ((((p0 == ([103, 105, 100] : UV)) || (p0 == ([103, 110, 97, 109, 101] : UV))) || (p0 == ([108, 105, 110, 107, 112, 97, 116, 104] : UV))) || (p0 == ([109, 116, 105, 109, 101] : UV))))]) ?_ ?_
 ·cases B : (((p0 == ([103, 105, 100] : UV)) || (p0 == ([103, 110, 97, 109, 101] : UV))) || (p0 == ([108, 105, 110, 107, 112, 97, 116, 104] : UV)) : Bool) with
  | true =>
   replace H := H.kn 13 B
   exact AG 3 [(16, .bool true)] H fun D H => Ac H B
  | false =>
   replace H := H.kn 13 B
   exact AG 3 [(16, .bool (p0 == ([109, 116, 105, 109, 101] : UV)))] H fun D H => Ac H B
 intro t D Q hK
 obtain ⟨e, H⟩ := hK
 subst e
 refine AG 1 [(17, .bool ((((p0 == ([103, 105, 100] : UV)) || (p0 == ([103, 110, 97, 109, 101] : UV))) || (p0 == ([108, 105, 110, 107, 112, 97, 116, 104] : UV))) || (p0 == ([109, 116, 105, 109, 101] : UV))))] H fun D H => Al 3 (fun N Q => h = Q ∧ Has N 33 [(0, .str p0), (20, .bool (((((p0 == ([103, 105, 100] : UV)) || (p0 == ([103, 110, 97, 109, 101] : UV))) || (p0 == ([108, 105, 110, 107, 112, 97, 116, 104] : UV))) || (p0 == ([109, 116, 105, 109, 101] : UV))) || (p0 == ([112, 97, 116, 104] : UV))))]) ?_ ?_
 ·cases B : ((((p0 == ([103, 105, 100] : UV)) || (p0 == ([103, 110, 97, 109, 101] : UV))) || (p0 == ([108, 105, 110, 107, 112, 97, 116, 104] : UV))) || (p0 == ([109, 116, 105, 109, 101] : UV)) : Bool) with
  | true =>
   replace H := H.kn 17 B
   exact AG 3 [(20, .bool true)] H fun D H => Ac H B
  | false =>
   replace H := H.kn 17 B
   exact AG 3 [(20, .bool (p0 == ([112, 97, 116, 104] : UV)))] H fun D H => Ac H B
 intro t D Q hK
 obtain ⟨e, H⟩ := hK
 subst e
 refine AG 1 [(21, .bool (((((p0 == ([103, 105, 100] : UV)) || (p0 == ([103, 110, 97, 109, 101] : UV))) || (p0 == ([108, 105, 110, 107, 112, 97, 116, 104] : UV))) || (p0 == ([109, 116, 105, 109, 101] : UV))) || (p0 == ([112, 97, 116, 104] : UV))))] H fun D H => Al 3 (fun N Q => h = Q ∧ Has N 33 [(0, .str p0), (24, .bool ((((((p0 == ([103, 105, 100] : UV)) || (p0 == ([103, 110, 97, 109, 101] : UV))) || (p0 == ([108, 105, 110, 107, 112, 97, 116, 104] : UV))) || (p0 == ([109, 116, 105, 109, 101] : UV))) || (p0 == ([112, 97, 116, 104] : UV))) || (p0 == ([115, 105, 122, 101] : UV))))]) ?_ ?_
 ·cases B : (((((p0 == ([103, 105, 100] : UV)) || (p0 == ([103, 110, 97, 109, 101] : UV))) || (p0 == ([108, 105, 110, 107, 112, 97, 116, 104] : UV))) || (p0 == ([109, 116, 105, 109, 101] : UV))) || (p0 == ([112, 97, 116, 104] : UV)) : Bool) with
  | true =>
   replace H := H.kn 21 B
   exact AG 3 [(24, .bool true)] H fun D H => Ac H B
  | false =>
   replace H := H.kn 21 B
   exact AG 3 [(24, .bool (p0 == ([115, 105, 122, 101] : UV)))] H fun D H => Ac H B
 intro t D Q hK
 obtain ⟨e, H⟩ := hK
 subst e
 refine AG 1 [(25, .bool ((((((p0 == ([103, 105, 100] : UV)) || (p0 == ([103, 110, 97, 109, 101] : UV))) || (p0 == ([108, 105, 110, 107, 112, 97, 116, 104] : UV))) || (p0 == ([109, 116, 105, 109, 101] : UV))) || (p0 == ([112, 97, 116, 104] : UV))) || (p0 == ([115, 105, 122, 101] : UV))))] H fun D H => Al 3 (fun N Q => h = Q ∧ Has N 33 [(0, .str p0), (28, .bool (((((((p0 == ([103, 105, 100] : UV)) || (p0 == ([103, 110, 97, 109, 101] : UV))) || (p0 == ([108, 105, 110, 107, 112, 97, 116, 104] : UV))) || (p0 == ([109, 116, 105, 109, 101] : UV))) || (p0 == ([112, 97, 116, 104] : UV))) || (p0 == ([115, 105, 122, 101] : UV))) || (p0 == ([117, 105, 100] : UV))))]) ?_ ?_
 ·cases B : ((((((p0 == ([103, 105, 100] : UV)) || (p0 == ([103, 110, 97, 109, 101] : UV))) || (p0 == ([108, 105, 110, 107, 112, 97, 116, 104] : UV))) || (p0 == ([109, 116, 105, 109, 101] : UV))) || (p0 == ([112, 97, 116, 104] : UV))) || (p0 == ([115, 105, 122, 101] : UV)) : Bool) with
  | true =>
   replace H := H.kn 25 B
   exact AG 3 [(28, .bool true)] H fun D H => Ac H B
  | false =>
   replace H := H.kn 25 B
   exact AG 3 [(28, .bool (p0 == ([117, 105, 100] : UV)))] H fun D H => Ac H B
 intro t D Q hK
 obtain ⟨e, H⟩ := hK
 subst e
 refine AG 1 [(29, .bool (((((((p0 == ([103, 105, 100] : UV)) || (p0 == ([103, 110, 97, 109, 101] : UV))) || (p0 == ([108, 105, 110, 107, 112, 97, 116, 104] : UV))) || (p0 == ([109, 116, 105, 109, 101] : UV))) || (p0 == ([112, 97, 116, 104] : UV))) || (p0 == ([115, 105, 122, 101] : UV))) || (p0 == ([117, 105, 100] : UV))))] H fun D H => Al 3 (fun N Q => h = Q ∧ Has N 33 [(32, .bool ((((((((p0 == ([103, 105, 100] : UV)) || (p0 == ([103, 110, 97, 109, 101] : UV))) || (p0 == ([108, 105, 110, 107, 112, 97, 116, 104] : UV))) || (p0 == ([109, 116, 105, 109, 101] : UV))) || (p0 == ([112, 97, 116, 104] : UV))) || (p0 == ([115, 105, 122, 101] : UV))) || (p0 == ([117, 105, 100] : UV))) || (p0 == ([117, 110, 97, 109, 101] : UV))))]) ?_ ?_
 ·cases B : (((((((p0 == ([103, 105, 100] : UV)) || (p0 == ([103, 110, 97, 109, 101] : UV))) || (p0 == ([108, 105, 110, 107, 112, 97, 116, 104] : UV))) || (p0 == ([109, 116, 105, 109, 101] : UV))) || (p0 == ([112, 97, 116, 104] : UV))) || (p0 == ([115, 105, 122, 101] : UV))) || (p0 == ([117, 105, 100] : UV)) : Bool) with
  | true =>
   replace H := H.kn 29 B
   exact AG 3 [(32, .bool true)] H fun D H => Ac H B
  | false =>
   replace H := H.kn 29 B
   exact AG 3 [(32, .bool (p0 == ([117, 110, 97, 109, 101] : UV)))] H fun D H => Ac H B
 intro t D Q hK
 obtain ⟨e, H⟩ := hK
 subst e
 refine AL 1 [(2, .bool ((((((((p0 == ([103, 105, 100] : UV)) || (p0 == ([103, 110, 97, 109, 101] : UV))) || (p0 == ([108, 105, 110, 107, 112, 97, 116, 104] : UV))) || (p0 == ([109, 116, 105, 109, 101] : UV))) || (p0 == ([112, 97, 116, 104] : UV))) || (p0 == ([115, 105, 122, 101] : UV))) || (p0 == ([117, 105, 100] : UV))) || (p0 == ([117, 110, 97, 109, 101] : UV))))] H fun D H => AQ ?_
 obtain rfl := Ad M
 exact ⟨.inl rfl, _, rH H, rfl, A⟩
def EG (p0 : Int) (p1 : Int) : Option (Bool) :=
 some ((((decide (p0 ≥ (-9007199254740991))) && (decide (p0 ≤ 9007199254740991))) && (decide (p1 ≥ 0))) && (decide (p1 ≤ 999999999)))
theorem J0 {p0 p1 q0} (M : EG p0 p1 = some q0) (A : HH g h [] F) (hc : A9 (cfg.still 102) av = [Ai p0, Ai p1] := by kernel_rfl) : ∃ v Q, BB cfg g h 102 av v Q ∧ v = .bool q0 ∧ HH g Q [] F := by
 refine Dj 19 [.tmp 4] hc ?_
 clear hc
 unfold EG at M
 refine bg 19 [(0, Ai p0), (1, Ai p1)] fun D H => ?_
 refine AF 1 (Be 1 [] 15 H fun D H => AG 3 [(7, .bool (decide (p0 ≥ (-9007199254740991))))] H fun D H => Al 3 (fun N Q => h = Q ∧ Has N 19 [(1, Ai p1), (10, .bool ((decide (p0 ≥ (-9007199254740991))) && (decide (p0 ≤ 9007199254740991))))]) ?_ ?_)
 ·cases B : (decide (p0 ≥ (-9007199254740991)) : Bool) with
  | true =>
   replace H := H.kn 7 B
   exact AG 3 [(10, .bool (decide (p0 ≤ 9007199254740991)))] H fun D H => Ac H B
  | false =>
   replace H := H.kn 7 B
   exact AG 3 [(10, .bool false)] H fun D H => Ac H B
 intro t D Q hK
 obtain ⟨e, H⟩ := hK
 subst e
 refine AG 1 [(11, .bool ((decide (p0 ≥ (-9007199254740991))) && (decide (p0 ≤ 9007199254740991))))] H fun D H => Al 3 (fun N Q => h = Q ∧ Has N 19 [(1, Ai p1), (14, .bool (((decide (p0 ≥ (-9007199254740991))) && (decide (p0 ≤ 9007199254740991))) && (decide (p1 ≥ 0))))]) ?_ ?_
 ·cases B : ((decide (p0 ≥ (-9007199254740991))) && (decide (p0 ≤ 9007199254740991)) : Bool) with
  | true =>
   replace H := H.kn 11 B
   exact AG 3 [(14, .bool (decide (p1 ≥ 0)))] H fun D H => Ac H B
  | false =>
   replace H := H.kn 11 B
   exact AG 3 [(14, .bool false)] H fun D H => Ac H B
 intro t D Q hK
 obtain ⟨e, H⟩ := hK
 subst e
 refine AG 1 [(15, .bool (((decide (p0 ≥ (-9007199254740991))) && (decide (p0 ≤ 9007199254740991))) && (decide (p1 ≥ 0))))] H fun D H => Al 3 (fun N Q => h = Q ∧ Has N 19 [(18, .bool ((((decide (p0 ≥ (-9007199254740991))) && (decide (p0 ≤ 9007199254740991))) && (decide (p1 ≥ 0))) && (decide (p1 ≤ 999999999))))]) ?_ ?_
 ·cases B : (((decide (p0 ≥ (-9007199254740991))) && (decide (p0 ≤ 9007199254740991))) && (decide (p1 ≥ 0)) : Bool) with
  | true =>
   replace H := H.kn 15 B
   exact AG 3 [(18, .bool (decide (p1 ≤ 999999999)))] H fun D H => Ac H B
  | false =>
   replace H := H.kn 15 B
   exact AG 3 [(18, .bool false)] H fun D H => Ac H B
 intro t D Q hK
 obtain ⟨e, H⟩ := hK
 subst e
 refine AL 1 [(4, .bool ((((decide (p0 ≥ (-9007199254740991))) && (decide (p0 ≤ 9007199254740991))) && (decide (p1 ≥ 0))) && (decide (p1 ≤ 999999999))))] H fun D H => AQ ?_
 obtain rfl := Ad M
 exact ⟨.inl rfl, _, rH H, rfl, A⟩
def Bu (p0 : AR) (s : Int) : Option ((Int) ⊕ ((Unit) ⊕ (Int))) :=
 match s with
 | x6 => Aa (decide (x6 < (p0.Extra.length : Int))) ((Hj p0.Extra x6).bind fun x8 => (Bz x8).bind fun x9 => (Aa ((!x9) || (x8.Value == ([] : UV))) (some true) ((DJ x8.Key).bind fun x11 => some x11) : Option (Bool)).bind fun x10 => (Aa x10 (some true) ((Aa (decide (x6 > 0)) ((Hj p0.Extra (i64.wrap (x6 - 1))).bind fun x14 => some (!(Op.bytesLess x14.Key x8.Key))) (some false) : Option (Bool)).bind fun x13 => some x13) : Option (Bool)).bind fun x12 => Aa x12 (some (.inr (.inr (2 : Int)))) (some (.inl (i64.wrap (x6 + 1))))) (some (.inr (.inl ())))
def DQ (p0 : AR) : Option (Int) :=
 (Aw p0.Name).bind fun x1 => Aa (!(x1 == p0.Name)) (some (2 : Int)) ((Aw p0.Az).bind fun x2 => Aa (!(x2 == p0.Az)) (some (2 : Int)) ((Aw p0.Ah).bind fun x3 => (Aa (!(x3 == p0.Ah)) (some true) ((Aw p0.Aj).bind fun x5 => some (!(x5 == p0.Aj))) : Option (Bool)).bind fun x4 => Aa (x4 || (p0.Name == ([] : UV))) (some (2 : Int)) ((loop (Bu p0) (0 : Int)).bind fun o1 => (match o1 with | .inl _ => (Aa ((((((((((decide (p0.Br < 0)) || (decide (p0.Br > 9007199254740991))) || (decide (p0.CH < 0))) || (decide (p0.CH > 9007199254740991))) || (decide (p0.Mode < 0))) || (decide (p0.Mode ≥ 2097152))) || (decide (p0.An < 0))) || (decide (p0.An ≥ 2097152))) || (decide (p0.A2 < 0))) || (decide (p0.A2 ≥ 2097152))) (some true) ((EG p0.Time.Cn p0.Time.BV).bind fun x16 => some (!x16)) : Option (Bool)).bind fun x15 => Aa x15 (some (6 : Int)) (some (0 : Int)) | .inr x7 => some x7))))
theorem Jr {p0 q0} (M : DQ p0 = some q0) (A : HH g h [] F) (hc : A9 (cfg.still 48) av = [.agg (AE p0)] := by kernel_rfl) : ∃ v Q, BB cfg g h 48 av v Q ∧ v = Ai q0 ∧ HH g Q [] F := by
 refine Dj 142 [.tmp 2] hc ?_
 clear hc
 unfold DQ at M
 refine bg 142 [(0, .agg (AE p0))] fun D H => ?_
 refine AF 2 ?_
 obtain ⟨h1, e1, A⟩ := A.pu (.cells none 2 (AE p0))
 refine BF 1 (.ptr (some (h.size, 0))) e1 H fun D t H => ?_
 refine AL 1 [] H fun D H => AN (AN (UI 1 35 [(0, []), (1, []), (3, []), (4, []), (2, [4]), (5, []), (6, []), (7, []), (8, []), (10, []), (11, []), (9, [11]), (12, []), (13, []), (14, []), (15, []), (16, []), (18, []), (19, []), (17, [19]), (20, []), (21, []), (22, []), (23, []), (24, []), (26, []), (27, []), (25, [27]), (28, []), (29, []), (30, []), (31, []), (32, []), (33, []), (34, [])] ?_))
 refine AG 1 [(6, .ptr (some (h.size, 0)))] H fun D H => BN 7 (.str p0.Name) h1 [(1, h.size)] (g.BP) H (fun D => .of (GN (by kernel_rfl) (A.l1 0 0))) (fun D H => ?_)
 refine AG 1 [(9, .ptr (some (h.size, 0)))] H fun D H => BN 10 (.str p0.Name) h1 [(4, h.size), (1, h.size)] (g.BP) H (fun D => .of (GN (by kernel_rfl) (A.l1 0 0))) (fun D H => ?_)
 have E := A.HD 0 (pr := [h.size]) (.cons 0 rfl (by simp [Ck.ids]) .nil)
 obtain ⟨x1, X, M⟩ := bind_some M
 obtain ⟨v1, h2, R, rfl, E⟩ := BR (av := [.str p0.Name]) X E
 replace A : HH g h2 [.obj h.size (.cells none 2 (AE p0))] F := A.VC (n := 0) E
 refine BN 8 (.str x1) h2 [(4, h.size), (1, h.size)] (h.size :: g.BP) H (fun D => Steps.call (by kernel_rfl) R) (fun D H => ?_)
 refine AG 2 [(12, .bool (!(x1 == p0.Name)))] H fun D H => ?_
 rcases Ar M with ⟨B, M⟩ | ⟨B, M⟩
 ·replace H := H.kn 12 B
  refine AG 4 [(14, .tuple []), (17, .tuple [])] H fun D H => K3 [(1, .ptr (some (h.size, 0))), (12, .bool true), (15, .tuple []), (17, .tuple [])] H (fun D => by kernel_rfl) ?_
  intro D H
  refine AG 7 [(20, .bool true), (22, .tuple []), (25, .tuple [])] H fun D H => K3 [(1, .ptr (some (h.size, 0))), (20, .bool true), (23, .tuple []), (25, .tuple [])] H (fun D => by kernel_rfl) ?_
  intro D H
  refine AG 7 [(28, .bool true), (30, .tuple []), (33, .tuple [])] H fun D H => K3 [(1, .ptr (some (h.size, 0))), (28, .bool true), (31, .tuple []), (33, .tuple [])] H (fun D => by kernel_rfl) ?_
  intro D H
  refine AL 7 [(40, .bool true)] H fun D H => GS (x := .tmp 40) (by kernel_rfl) H (fun D => by kernel_rfl) ?_
  refine AF 1 (AL 1 [(2, Ai 2)] H fun D H => AQ ?_)
  obtain rfl := Ad M
  refine ⟨.inl rfl, Ai 2, rH H, ?_⟩
  replace A := A.d0
  exact ⟨rfl, A⟩
 replace H := H.kn 12 B
 refine AG 1 [(13, .ptr (some (h.size, 1)))] H fun D H => BN 14 (.str p0.Az) h2 [(8, h.size), (4, h.size), (1, h.size)] (g.BP) H (fun D => .of (GN (by kernel_rfl) (A.l1 0 1))) (fun D H => ?_)
 refine AG 1 [(16, .ptr (some (h.size, 1)))] H fun D H => BN 17 (.str p0.Az) h2 [(11, h.size), (8, h.size), (4, h.size), (1, h.size)] (g.BP) H (fun D => .of (GN (by kernel_rfl) (A.l1 0 1))) (fun D H => ?_)
 have E := A.HD 0 (pr := [h.size]) (.cons 0 rfl (by simp [Ck.ids]) .nil)
 obtain ⟨x2, X, M⟩ := bind_some M
 obtain ⟨v1, h3, R, rfl, E⟩ := BR (av := [.str p0.Az]) X E
 replace A := A.Sm E
 refine BN 15 (.str x2) h3 [(11, h.size), (8, h.size), (4, h.size), (1, h.size)] (h.size :: g.BP) H (fun D => Steps.call (by kernel_rfl) R) (fun D H => ?_)
 refine AG 3 [(20, .bool (!(x2 == p0.Az)))] H fun D H => ?_
 rcases Ar M with ⟨B, M⟩ | ⟨B, M⟩
 ·replace H := H.kn 20 B
  refine AG 4 [(22, .tuple []), (25, .tuple [])] H fun D H => K3 [(1, .ptr (some (h.size, 0))), (20, .bool true), (23, .tuple []), (25, .tuple [])] H (fun D => by kernel_rfl) ?_
  intro D H
  refine AG 7 [(28, .bool true), (30, .tuple []), (33, .tuple [])] H fun D H => K3 [(1, .ptr (some (h.size, 0))), (28, .bool true), (31, .tuple []), (33, .tuple [])] H (fun D => by kernel_rfl) ?_
  intro D H
  refine AL 7 [(40, .bool true)] H fun D H => GS (x := .tmp 40) (by kernel_rfl) H (fun D => by kernel_rfl) ?_
  refine AF 1 (AL 1 [(2, Ai 2)] H fun D H => AQ ?_)
  obtain rfl := Ad M
  refine ⟨.inl rfl, Ai 2, rH H, ?_⟩
  replace A := A.d0
  exact ⟨rfl, A⟩
 replace H := H.kn 20 B
 refine AG 1 [(21, .ptr (some (h.size, 6)))] H fun D H => BN 22 (.str p0.Ah) h3 [(16, h.size), (11, h.size), (8, h.size), (4, h.size), (1, h.size)] (g.BP) H (fun D => .of (GN (by kernel_rfl) (A.l1 0 6))) (fun D H => ?_)
 refine AG 1 [(24, .ptr (some (h.size, 6)))] H fun D H => BN 25 (.str p0.Ah) h3 [(19, h.size), (16, h.size), (11, h.size), (8, h.size), (4, h.size), (1, h.size)] (g.BP) H (fun D => .of (GN (by kernel_rfl) (A.l1 0 6))) (fun D H => ?_)
 have E := A.HD 0 (pr := [h.size]) (.cons 0 rfl (by simp [Ck.ids]) .nil)
 obtain ⟨x3, X, M⟩ := bind_some M
 obtain ⟨v1, h4, R, rfl, E⟩ := BR (av := [.str p0.Ah]) X E
 replace A := A.Sm E
 refine BN 23 (.str x3) h4 [(19, h.size), (16, h.size), (11, h.size), (8, h.size), (4, h.size), (1, h.size)] (h.size :: g.BP) H (fun D => Steps.call (by kernel_rfl) R) (fun D H => ?_)
 refine AG 3 [(28, .bool (!(x3 == p0.Ah)))] H fun D H => ?_
 obtain ⟨x4, O, M⟩ := bind_some M
 refine Al 7 (fun N Q => Has N 142 [(1, .ptr (some (h.size, 0))), (35, .bool x4)] ∧ HH g Q [.obj h.size (.cells none 2 (AE p0))] F) ?_ ?_
 ·rcases Ar O with ⟨B, M⟩ | ⟨B, M⟩
  ·replace H := H.kn 28 B
   refine AG 4 [(30, .tuple []), (33, .tuple [])] H fun D H => K3 [(1, .ptr (some (h.size, 0))), (28, .bool true), (31, .tuple []), (33, .tuple [])] H (fun D => by kernel_rfl) ?_
   intro D H
   refine AG 2 [(35, .bool true)] H fun D H => ?_
   obtain rfl := Ad M
   exact at_nil ⟨H.ls, A⟩
  replace H := H.kn 28 B
  refine AG 1 [(29, .ptr (some (h.size, 7)))] H fun D H => BN 30 (.str p0.Aj) h4 [(24, h.size), (19, h.size), (16, h.size), (11, h.size), (8, h.size), (4, h.size), (1, h.size)] (g.BP) H (fun D => .of (GN (by kernel_rfl) (A.l1 0 7))) (fun D H => ?_)
  refine AG 1 [(32, .ptr (some (h.size, 7)))] H fun D H => BN 33 (.str p0.Aj) h4 [(27, h.size), (24, h.size), (19, h.size), (16, h.size), (11, h.size), (8, h.size), (4, h.size), (1, h.size)] (g.BP) H (fun D => .of (GN (by kernel_rfl) (A.l1 0 7))) (fun D H => ?_)
  have E := A.HD 0 (pr := [h.size]) (.cons 0 rfl (by simp [Ck.ids]) .nil)
  obtain ⟨x5, X, M⟩ := bind_some M
  obtain ⟨v1, h6, R, rfl, E⟩ := BR (av := [.str p0.Aj]) X E
  replace A := A.Sm E
  refine BN 31 (.str x5) h6 [(27, h.size), (24, h.size), (19, h.size), (16, h.size), (11, h.size), (8, h.size), (4, h.size), (1, h.size)] (h.size :: g.BP) H (fun D => Steps.call (by kernel_rfl) R) (fun D H => ?_)
  refine AG 2 [(35, .bool (!(x5 == p0.Aj)))] H fun D H => ?_
  obtain rfl := Ad M
  exact at_nil ⟨H.ls, A⟩
 clear A
 intro t D h5 hK
 obtain ⟨H, A⟩ := hK
 refine AG 1 [(36, .bool x4)] H fun D H => Al 4 (fun N Q => h5 = Q ∧ Has N 142 [(1, .ptr (some (h.size, 0))), (40, .bool (x4 || (p0.Name == ([] : UV))))]) ?_ ?_
 ·cases B : (x4 : Bool) with
  | true =>
   replace H := H.kn 36 B
   exact AG 4 [(40, .bool true)] H fun D H => Ac H B
  | false =>
   replace H := H.kn 36 B
   refine AV 1 [] 38 0 0 A H fun D t H => ?_
   exact AG 2 [(40, .bool (p0.Name == ([] : UV)))] H fun D H => Ac H B
 intro t D Q hK
 obtain ⟨e, H⟩ := hK
 subst e
 refine BK id (AX 40 H M (fun B M H => ?_) fun B M H => ?_)
 ·refine AF 1 (AL 1 [(2, Ai 2)] H fun D H => AQ ?_)
  obtain rfl := Ad M
  refine ⟨.inl rfl, Ai 2, rH H, ?_⟩
  replace A := A.d0
  exact ⟨rfl, A⟩
 refine Bl id (AN (AF 1 (AL 1 [(3, Ai 0)] H fun D H => Ae (id := 0) (by kernel_rfl) ?_)))
 obtain ⟨o1, O, M⟩ := bind_some M
 refine Ao (Q' := fun e N Q => (e = .exit 0 ∧ .inl () = o1 ∧ Has N 142 [(1, .ptr (some (h.size, 0)))] ∧ HH g Q [.obj h.size (.cells none 2 (AE p0))] F) ∨ (∃ x7, e = .ret ∧ .inr x7 = o1 ∧ Has N 142 [(2, Ai x7)] ∧ HH g Q [.obj h.size (.cells none 2 (AE p0))] F) ∨ False) ?_ ?_
 ·refine Bc (by kernel_rfl) (fun (s : Int) N Q => ∃ x6, x6 = s ∧ Has N 142 [(1, .ptr (some (h.size, 0))), (3, Ai x6)] ∧ HH g Q [.obj h.size (.cells none 2 (AE p0))] F) O ⟨_, rfl, H.ls, A⟩ ?_
  clear O M H A
  intro s q D h7 hI M
  obtain ⟨x6, rfl, H, A⟩ := hI
  unfold Bu at M
  refine AN (AF 5 (AV 2 [(41, Ai x6)] 43 0 12 A H fun D t H => ?_))
  refine AL 2 [(45, .bool (decide (x6 < (p0.Extra.length : Int))))] H fun D H => AX 45 H M (fun B M H => ?_) fun B M H => ?_
  ·refine Bl id (AN (Ae (id := 1) (by kernel_rfl) ?_))
   refine AF 7 (AV 1 [] 49 0 12 A H fun D t H => ?_)
   obtain ⟨x8, X, M⟩ := bind_some M
   refine Ax 1 [] 51 (.Am [.str x8.Key, .str x8.Value]) h7 H (fun D => .of (PK (e := AJ) (x := x8) AS (by decide) (by kernel_rfl) X)) fun D t H => ?_
   refine AZ 52 (.agg [.str x8.Key, .str x8.Value]) h7 H (fun D => .of (US (by kernel_rfl))) fun D t H => ?_
   obtain ⟨h8, e2, A⟩ := A.pu (.cells none 2 [.str ([] : UV), .str ([] : UV)])
   refine BF 4 (.ptr (some (h7.size, 0))) e2 H fun D t H => ?_
   obtain ⟨h9, X, A⟩ := A.s0 0 [.str x8.Key, .str x8.Value] [_, _]
   refine DG X H fun D t H => ?_
   refine BK id (AN (HB 7 29 ?_))
   refine AZ 53 _ _ H (fun D => .of (BD (by kernel_rfl) (A.ET 0 rfl (o := 0) (n := 2) ⟨Nat.le_of_ble_eq_true rfl, rfl⟩))) fun D t H => ?_
   obtain ⟨x9, X, M⟩ := bind_some M
   obtain ⟨v1, h10, R, rfl, E⟩ := GZ (av := [.agg [.str x8.Key, .str x8.Value]]) X (A.cut 0)
   replace A := A.De E
   refine A0 54 R H fun D t H => ?_
   refine AG 2 [(56, .bool (!x9))] H fun D H => Al 4 (fun N Q => h10 = Q ∧ Has N 142 [(1, .ptr (some (h.size, 0))), (3, Ai x6), (4, .ptr (some (h7.size, 0))), (60, .bool ((!x9) || (x8.Value == ([] : UV))))]) ?_ ?_
   ·cases B : (!x9 : Bool) with
    | true =>
     replace H := H.kn 56 B
     exact AG 4 [(60, .bool true)] H fun D H => Ac H B
    | false =>
     replace H := H.kn 56 B
     refine AV 1 [] 58 0 1 A H fun D t H => ?_
     exact AG 2 [(60, .bool (x8.Value == ([] : UV)))] H fun D H => Ac H B
   intro t D Q hK
   obtain ⟨e, H⟩ := hK
   subst e
   refine AG 1 [(61, .bool ((!x9) || (x8.Value == ([] : UV))))] H fun D H => ?_
   obtain ⟨x10, O, M⟩ := bind_some M
   refine Al 4 (fun N Q => Has N 142 [(1, .ptr (some (h.size, 0))), (3, Ai x6), (4, .ptr (some (h7.size, 0))), (65, .bool x10)] ∧ HH g Q [.obj h7.size (.cells none 2 [.str x8.Key, .str x8.Value]), .obj h.size (.cells none 2 (AE p0))] F) ?_ ?_
   ·rcases Ar O with ⟨B, M⟩ | ⟨B, M⟩
    ·replace H := H.kn 61 B
     refine AG 4 [(65, .bool true)] H fun D H => ?_
     obtain rfl := Ad M
     exact at_nil ⟨H.ls, A⟩
    replace H := H.kn 61 B
    refine AV 1 [] 63 0 0 A H fun D t H => ?_
    obtain ⟨x11, X, M⟩ := bind_some M
    obtain ⟨v1, h12, R, rfl, E⟩ := J2 (av := [.str x8.Key]) X (A.cut 0)
    replace A := A.De E
    refine A0 64 R H fun D t H => ?_
    refine AG 1 [(65, .bool x11)] H fun D H => ?_
    obtain rfl := Ad M
    exact at_nil ⟨H.ls, A⟩
   clear A
   intro t D h11 hK
   obtain ⟨H, A⟩ := hK
   refine AG 1 [(66, .bool x10)] H fun D H => ?_
   obtain ⟨x12, O, M⟩ := bind_some M
   refine Al 15 (fun N Q => Has N 142 [(1, .ptr (some (h.size, 0))), (3, Ai x6), (81, .bool x12)] ∧ HH g Q [.obj h7.size (.cells none 2 [.str x8.Key, .str x8.Value]), .obj h.size (.cells none 2 (AE p0))] F) ?_ ?_
   ·rcases Ar O with ⟨B, M⟩ | ⟨B, M⟩
    ·replace H := H.kn 66 B
     refine AG 15 [(81, .bool true)] H fun D H => ?_
     obtain rfl := Ad M
     exact at_nil ⟨H.ls, A⟩
    replace H := H.kn 66 B
    refine AG 3 [(69, .bool (decide (x6 > 0)))] H fun D H => ?_
    obtain ⟨x13, O, M⟩ := bind_some M
    refine Al 11 (fun N Q => Has N 142 [(1, .ptr (some (h.size, 0))), (3, Ai x6), (66, .bool false), (80, .bool x13)] ∧ HH g Q [.obj h7.size (.cells none 2 [.str x8.Key, .str x8.Value]), .obj h.size (.cells none 2 (AE p0))] F) ?_ ?_
    ·rcases Ar O with ⟨B, M⟩ | ⟨B, M⟩
     ·replace H := H.kn 69 B
      refine AV 1 [] 71 1 12 A H fun D t H => ?_
      obtain ⟨x14, X, M⟩ := bind_some M
      refine Ax 2 [] 74 (.Am [.str x14.Key, .str x14.Value]) h11 H (fun D => .of (PK (e := AJ) (x := x14) AS (by decide) (by kernel_rfl) X)) fun D t H => ?_
      refine Ax 1 [] 76 (.str x14.Key) h11 H (fun D => .of (US (by kernel_rfl))) fun D t H => ?_
      refine AV 1 [] 78 0 0 A H fun D t H => ?_
      refine AG 2 [(80, .bool (!(Op.bytesLess x14.Key x8.Key)))] H fun D H => ?_
      obtain rfl := Ad M
      exact at_nil ⟨H.ls, A⟩
     replace H := H.kn 69 B
     refine AG 11 [(80, .bool false)] H fun D H => ?_
     obtain rfl := Ad M
     exact at_nil ⟨H.ls, A⟩
    clear A
    intro t D h14 hK
    obtain ⟨H, A⟩ := hK
    refine AG 1 [(81, .bool x13)] H fun D H => ?_
    obtain rfl := Ad M
    exact at_nil ⟨H.ls, A⟩
   clear A
   intro t D h13 hK
   obtain ⟨H, A⟩ := hK
   refine BK id (AX 81 H M (fun B M H => ?_) fun B M H => ?_)
   ·refine AF 1 (AL 1 [(2, Ai 2)] H fun D H => AQ ?_)
    replace A := A.k1 1
    exact nr M fun e => Or.inr (.inl ⟨_, rfl, e, H.ls, A⟩)
   refine FL 3 id (A5 3 [(1, .ptr (some (h.size, 0))), (3, Ai (i64.wrap (x6 + 1)))] H fun D H => at_nil ?_)
   replace A := A.k1 1
   exact nx M ⟨_, rfl, H.ls, A⟩
  refine Bb (i := 0) (by kernel_rfl) ?_
  exact nr M fun e => .inl ⟨rfl, e, H.ls, A⟩
 clear O
 clear A
 intro e D h15 hQ
 rcases hQ with ⟨rfl, rfl, H, A⟩ | ⟨x7, rfl, rfl, H, A⟩ | hF
 ·show AW _ _ _ _ _ _ _
  refine AF 1 (AL 1 [(5, Ai 9007199254740991)] H fun D H => AN (AF 60 (AV 1 [] 83 0 4 A H fun D t H => ?_)))
  refine AG 2 [(85, .bool (decide (p0.Br < 0)))] H fun D H => Al 5 (fun N Q => h15 = Q ∧ Has N 142 [(1, .ptr (some (h.size, 0))), (5, Ai 9007199254740991), (90, .bool ((decide (p0.Br < 0)) || (decide (p0.Br > 9007199254740991))))]) ?_ ?_
  ·cases B : (decide (p0.Br < 0) : Bool) with
   | true =>
    replace H := H.kn 85 B
    exact AG 5 [(90, .bool true)] H fun D H => Ac H B
   | false =>
    replace H := H.kn 85 B
    refine AV 1 [] 87 0 4 A H fun D t H => ?_
    exact AG 3 [(90, .bool (decide (p0.Br > 9007199254740991)))] H fun D H => Ac H B
  intro t D Q hK
  obtain ⟨e, H⟩ := hK
  subst e
  refine AG 1 [(91, .bool ((decide (p0.Br < 0)) || (decide (p0.Br > 9007199254740991))))] H fun D H => Al 4 (fun N Q => h15 = Q ∧ Has N 142 [(1, .ptr (some (h.size, 0))), (5, Ai 9007199254740991), (95, .bool (((decide (p0.Br < 0)) || (decide (p0.Br > 9007199254740991))) || (decide (p0.CH < 0))))]) ?_ ?_
  ·cases B : ((decide (p0.Br < 0)) || (decide (p0.Br > 9007199254740991)) : Bool) with
   | true =>
    replace H := H.kn 91 B
    exact AG 4 [(95, .bool true)] H fun D H => Ac H B
   | false =>
    replace H := H.kn 91 B
    refine AV 1 [] 93 0 5 A H fun D t H => ?_
    exact AG 2 [(95, .bool (decide (p0.CH < 0)))] H fun D H => Ac H B
  intro t D Q hK
  obtain ⟨e, H⟩ := hK
  subst e
  refine AG 1 [(96, .bool (((decide (p0.Br < 0)) || (decide (p0.Br > 9007199254740991))) || (decide (p0.CH < 0))))] H fun D H => Al 5 (fun N Q => h15 = Q ∧ Has N 142 [(1, .ptr (some (h.size, 0))), (101, .bool ((((decide (p0.Br < 0)) || (decide (p0.Br > 9007199254740991))) || (decide (p0.CH < 0))) || (decide (p0.CH > 9007199254740991))))]) ?_ ?_
  ·cases B : (((decide (p0.Br < 0)) || (decide (p0.Br > 9007199254740991))) || (decide (p0.CH < 0)) : Bool) with
   | true =>
    replace H := H.kn 96 B
    exact AG 5 [(101, .bool true)] H fun D H => Ac H B
   | false =>
    replace H := H.kn 96 B
    refine AV 1 [] 98 0 5 A H fun D t H => ?_
    exact AG 3 [(101, .bool (decide (p0.CH > 9007199254740991)))] H fun D H => Ac H B
  intro t D Q hK
  obtain ⟨e, H⟩ := hK
  subst e
  refine AG 1 [(102, .bool ((((decide (p0.Br < 0)) || (decide (p0.Br > 9007199254740991))) || (decide (p0.CH < 0))) || (decide (p0.CH > 9007199254740991))))] H fun D H => Al 4 (fun N Q => h15 = Q ∧ Has N 142 [(1, .ptr (some (h.size, 0))), (106, .bool (((((decide (p0.Br < 0)) || (decide (p0.Br > 9007199254740991))) || (decide (p0.CH < 0))) || (decide (p0.CH > 9007199254740991))) || (decide (p0.Mode < 0))))]) ?_ ?_
  ·cases B : ((((decide (p0.Br < 0)) || (decide (p0.Br > 9007199254740991))) || (decide (p0.CH < 0))) || (decide (p0.CH > 9007199254740991)) : Bool) with
   | true =>
    replace H := H.kn 102 B
    exact AG 4 [(106, .bool true)] H fun D H => Ac H B
   | false =>
    replace H := H.kn 102 B
    refine AV 1 [] 104 0 3 A H fun D t H => ?_
    exact AG 2 [(106, .bool (decide (p0.Mode < 0)))] H fun D H => Ac H B
  intro t D Q hK
  obtain ⟨e, H⟩ := hK
  subst e
  refine AG 1 [(107, .bool (((((decide (p0.Br < 0)) || (decide (p0.Br > 9007199254740991))) || (decide (p0.CH < 0))) || (decide (p0.CH > 9007199254740991))) || (decide (p0.Mode < 0))))] H fun D H => Al 4 (fun N Q => h15 = Q ∧ Has N 142 [(1, .ptr (some (h.size, 0))), (111, .bool ((((((decide (p0.Br < 0)) || (decide (p0.Br > 9007199254740991))) || (decide (p0.CH < 0))) || (decide (p0.CH > 9007199254740991))) || (decide (p0.Mode < 0))) || (decide (p0.Mode ≥ 2097152))))]) ?_ ?_
  ·cases B : (((((decide (p0.Br < 0)) || (decide (p0.Br > 9007199254740991))) || (decide (p0.CH < 0))) || (decide (p0.CH > 9007199254740991))) || (decide (p0.Mode < 0)) : Bool) with
   | true =>
    replace H := H.kn 107 B
    exact AG 4 [(111, .bool true)] H fun D H => Ac H B
   | false =>
    replace H := H.kn 107 B
    refine AV 1 [] 109 0 3 A H fun D t H => ?_
    exact AG 2 [(111, .bool (decide (p0.Mode ≥ 2097152)))] H fun D H => Ac H B
  intro t D Q hK
  obtain ⟨e, H⟩ := hK
  subst e
  refine AG 1 [(112, .bool ((((((decide (p0.Br < 0)) || (decide (p0.Br > 9007199254740991))) || (decide (p0.CH < 0))) || (decide (p0.CH > 9007199254740991))) || (decide (p0.Mode < 0))) || (decide (p0.Mode ≥ 2097152))))] H fun D H => Al 4 (fun N Q => h15 = Q ∧ Has N 142 [(1, .ptr (some (h.size, 0))), (116, .bool (((((((decide (p0.Br < 0)) || (decide (p0.Br > 9007199254740991))) || (decide (p0.CH < 0))) || (decide (p0.CH > 9007199254740991))) || (decide (p0.Mode < 0))) || (decide (p0.Mode ≥ 2097152))) || (decide (p0.An < 0))))]) ?_ ?_
  ·cases B : ((((((decide (p0.Br < 0)) || (decide (p0.Br > 9007199254740991))) || (decide (p0.CH < 0))) || (decide (p0.CH > 9007199254740991))) || (decide (p0.Mode < 0))) || (decide (p0.Mode ≥ 2097152)) : Bool) with
   | true =>
    replace H := H.kn 112 B
    exact AG 4 [(116, .bool true)] H fun D H => Ac H B
   | false =>
    replace H := H.kn 112 B
    refine AV 1 [] 114 0 8 A H fun D t H => ?_
    exact AG 2 [(116, .bool (decide (p0.An < 0)))] H fun D H => Ac H B
  intro t D Q hK
  obtain ⟨e, H⟩ := hK
  subst e
  refine AG 1 [(117, .bool (((((((decide (p0.Br < 0)) || (decide (p0.Br > 9007199254740991))) || (decide (p0.CH < 0))) || (decide (p0.CH > 9007199254740991))) || (decide (p0.Mode < 0))) || (decide (p0.Mode ≥ 2097152))) || (decide (p0.An < 0))))] H fun D H => Al 4 (fun N Q => h15 = Q ∧ Has N 142 [(1, .ptr (some (h.size, 0))), (121, .bool ((((((((decide (p0.Br < 0)) || (decide (p0.Br > 9007199254740991))) || (decide (p0.CH < 0))) || (decide (p0.CH > 9007199254740991))) || (decide (p0.Mode < 0))) || (decide (p0.Mode ≥ 2097152))) || (decide (p0.An < 0))) || (decide (p0.An ≥ 2097152))))]) ?_ ?_
  ·cases B : (((((((decide (p0.Br < 0)) || (decide (p0.Br > 9007199254740991))) || (decide (p0.CH < 0))) || (decide (p0.CH > 9007199254740991))) || (decide (p0.Mode < 0))) || (decide (p0.Mode ≥ 2097152))) || (decide (p0.An < 0)) : Bool) with
   | true =>
    replace H := H.kn 117 B
    exact AG 4 [(121, .bool true)] H fun D H => Ac H B
   | false =>
    replace H := H.kn 117 B
    refine AV 1 [] 119 0 8 A H fun D t H => ?_
    exact AG 2 [(121, .bool (decide (p0.An ≥ 2097152)))] H fun D H => Ac H B
  intro t D Q hK
  obtain ⟨e, H⟩ := hK
  subst e
  refine AG 1 [(122, .bool ((((((((decide (p0.Br < 0)) || (decide (p0.Br > 9007199254740991))) || (decide (p0.CH < 0))) || (decide (p0.CH > 9007199254740991))) || (decide (p0.Mode < 0))) || (decide (p0.Mode ≥ 2097152))) || (decide (p0.An < 0))) || (decide (p0.An ≥ 2097152))))] H fun D H => Al 4 (fun N Q => h15 = Q ∧ Has N 142 [(1, .ptr (some (h.size, 0))), (126, .bool (((((((((decide (p0.Br < 0)) || (decide (p0.Br > 9007199254740991))) || (decide (p0.CH < 0))) || (decide (p0.CH > 9007199254740991))) || (decide (p0.Mode < 0))) || (decide (p0.Mode ≥ 2097152))) || (decide (p0.An < 0))) || (decide (p0.An ≥ 2097152))) || (decide (p0.A2 < 0))))]) ?_ ?_
  ·cases B : ((((((((decide (p0.Br < 0)) || (decide (p0.Br > 9007199254740991))) || (decide (p0.CH < 0))) || (decide (p0.CH > 9007199254740991))) || (decide (p0.Mode < 0))) || (decide (p0.Mode ≥ 2097152))) || (decide (p0.An < 0))) || (decide (p0.An ≥ 2097152)) : Bool) with
   | true =>
    replace H := H.kn 122 B
    exact AG 4 [(126, .bool true)] H fun D H => Ac H B
   | false =>
    replace H := H.kn 122 B
    refine AV 1 [] 124 0 9 A H fun D t H => ?_
    exact AG 2 [(126, .bool (decide (p0.A2 < 0)))] H fun D H => Ac H B
  intro t D Q hK
  obtain ⟨e, H⟩ := hK
  subst e
  refine AG 1 [(127, .bool (((((((((decide (p0.Br < 0)) || (decide (p0.Br > 9007199254740991))) || (decide (p0.CH < 0))) || (decide (p0.CH > 9007199254740991))) || (decide (p0.Mode < 0))) || (decide (p0.Mode ≥ 2097152))) || (decide (p0.An < 0))) || (decide (p0.An ≥ 2097152))) || (decide (p0.A2 < 0))))] H fun D H => Al 4 (fun N Q => h15 = Q ∧ Has N 142 [(1, .ptr (some (h.size, 0))), (131, .bool ((((((((((decide (p0.Br < 0)) || (decide (p0.Br > 9007199254740991))) || (decide (p0.CH < 0))) || (decide (p0.CH > 9007199254740991))) || (decide (p0.Mode < 0))) || (decide (p0.Mode ≥ 2097152))) || (decide (p0.An < 0))) || (decide (p0.An ≥ 2097152))) || (decide (p0.A2 < 0))) || (decide (p0.A2 ≥ 2097152))))]) ?_ ?_
  ·cases B : (((((((((decide (p0.Br < 0)) || (decide (p0.Br > 9007199254740991))) || (decide (p0.CH < 0))) || (decide (p0.CH > 9007199254740991))) || (decide (p0.Mode < 0))) || (decide (p0.Mode ≥ 2097152))) || (decide (p0.An < 0))) || (decide (p0.An ≥ 2097152))) || (decide (p0.A2 < 0)) : Bool) with
   | true =>
    replace H := H.kn 127 B
    exact AG 4 [(131, .bool true)] H fun D H => Ac H B
   | false =>
    replace H := H.kn 127 B
    refine AV 1 [] 129 0 9 A H fun D t H => ?_
    exact AG 2 [(131, .bool (decide (p0.A2 ≥ 2097152)))] H fun D H => Ac H B
  intro t D Q hK
  obtain ⟨e, H⟩ := hK
  subst e
  refine AG 1 [(132, .bool ((((((((((decide (p0.Br < 0)) || (decide (p0.Br > 9007199254740991))) || (decide (p0.CH < 0))) || (decide (p0.CH > 9007199254740991))) || (decide (p0.Mode < 0))) || (decide (p0.Mode ≥ 2097152))) || (decide (p0.An < 0))) || (decide (p0.An ≥ 2097152))) || (decide (p0.A2 < 0))) || (decide (p0.A2 ≥ 2097152))))] H fun D H => ?_
  obtain ⟨x15, O, M⟩ := bind_some M
  refine Al 9 (fun N Q => Has N 142 [(141, .bool x15)] ∧ HH g Q [.obj h.size (.cells none 2 (AE p0))] F) ?_ ?_
  ·rcases Ar O with ⟨B, M⟩ | ⟨B, M⟩
   ·replace H := H.kn 132 B
    refine AG 9 [(141, .bool true)] H fun D H => ?_
    obtain rfl := Ad M
    exact at_nil ⟨H.ls, A⟩
   replace H := H.kn 132 B
   refine AV 2 [] 135 0 10 A H fun D t H => ?_
   refine AV 2 [] 138 0 11 A H fun D t H => ?_
   obtain ⟨x16, X, M⟩ := bind_some M
   obtain ⟨v1, h17, R, rfl, E⟩ := J0 (av := [Ai p0.Time.Cn, Ai p0.Time.BV]) X (A.cut 0)
   replace A := A.De E
   refine A0 139 R H fun D t H => ?_
   refine AG 2 [(141, .bool (!x16))] H fun D H => ?_
   obtain rfl := Ad M
   exact at_nil ⟨H.ls, A⟩
  clear A
  intro t D h16 hK
  obtain ⟨H, A⟩ := hK
  refine BK id (AX 141 H M (fun B M H => ?_) fun B M H => ?_)
  ·refine AF 1 (AL 1 [(2, Ai 6)] H fun D H => AQ ?_)
   obtain rfl := Ad M
   refine ⟨.inl rfl, Ai 6, rH H, ?_⟩
   replace A := A.d0
   exact ⟨rfl, A⟩
  refine Bs 1 id (AL 1 [(2, Ai 0)] H fun D H => AQ ?_)
  obtain rfl := Ad M
  refine ⟨.inl rfl, Ai 0, rH H, ?_⟩
  replace A := A.d0
  exact ⟨rfl, A⟩
 ·obtain rfl := Ad M
  refine ⟨.inl rfl, Ai x7, rH H, ?_⟩
  replace A := A.d0
  exact ⟨rfl, A⟩
 exact hF.elim
def Ea (p0 : List UInt8) (s : Int × Int) : Option ((Int × Int) ⊕ ((Int))) :=
 match s with
 | (x1, x2) => Aa (decide (x2 < (p0.length : Int))) (((MZ p0 x2).bind fun x5 => Aa ((((x5 == 47) && (decide (x2 ≤ 155))) && (decide ((i64.wrap ((i64.wrap ((p0.length : Int) - x2)) - 1)) ≥ 1))) && (decide ((i64.wrap ((i64.wrap ((p0.length : Int) - x2)) - 1)) ≤ 100))) (some x2) (some x1) : Option ((Int))).bind fun x4 => some (.inl (x4, i64.wrap (x2 + 1)))) (some (.inr x1))
def C0 (p0 : List UInt8) : Option ((List UInt8) × (List UInt8) × Bool) :=
 Aa (decide ((p0.length : Int) ≤ 100)) (some (([] : UV), p0, true)) ((loop (Ea p0) ((-1 : Int), (1 : Int))).bind fun x3 => Aa (decide (x3 < 0)) (some (([] : UV), ([] : UV), false)) ((D7 p0 none (some x3)).bind fun x6 => (D7 p0 (some (i64.wrap (x3 + 1))) none).bind fun x7 => some (x6, x7, true)))
theorem G1 {p0 q0 q1 q2} (M : C0 p0 = some (q0, q1, q2)) (A : HH g h [] F) (hc : A9 (cfg.still 103) av = [.str p0] := by kernel_rfl) : ∃ v Q, BB cfg g h 103 av v Q ∧ v = .tuple [.str q0, .str q1, .bool q2] ∧ HH g Q [] F := by
 refine Dj 49 [.tmp 2, .tmp 3, .tmp 4] hc ?_
 clear hc
 unfold C0 at M
 refine bg 49 [(0, .str p0)] fun D H => ?_
 refine AF 3 (AL 3 [] H fun D H => AN (AF 3 (AL 3 [(10, .bool (decide ((p0.length : Int) ≤ 100)))] H fun D H => AX 10 H M (fun B M H => ?_) fun B M H => ?_)))
 ·refine AF 4 (AL 4 [(2, .str ([] : UV)), (3, .str p0), (4, .bool true)] H fun D H => AQ ?_)
  obtain ⟨rfl, rfl, rfl⟩ := KN M
  exact ⟨.inl rfl, _, rH H, rfl, A⟩
 refine Bs 1 id (AL 1 [(5, Ai (-1))] H fun D H => AN (AF 1 (AL 1 [(6, Ai 1)] H fun D H => Ae (id := 0) (by kernel_rfl) ?_)))
 obtain ⟨o1, O, M⟩ := bind_some M
 refine Ao (Q' := fun e N Q => (∃ x3, e = .exit 0 ∧ x3 = o1 ∧ Has N 49 [(0, .str p0), (5, Ai x3)] ∧ HH g Q [] F) ∨ False) ?_ ?_
 ·refine Bc (by kernel_rfl) (fun (s : Int × Int) N Q => ∃ x1 x2, (x1, x2) = s ∧ Has N 49 [(0, .str p0), (5, Ai x1), (6, Ai x2)] ∧ HH g Q [] F) O ⟨_, _, rfl, H.ls, A⟩ ?_
  clear O M H A
  intro s q D h1 hI M
  obtain ⟨x1, x2, rfl, H, A⟩ := hI
  unfold Ea at M
  refine AN (AF 4 (AL 4 [(15, .bool (decide (x2 < (p0.length : Int))))] H fun D H => AX 15 H M (fun B M H => ?_) fun B M H => ?_))
  ·refine Bl id (AN ?_)
   obtain ⟨o2, O, M⟩ := bind_some M
   refine Ao (Q' := fun e N Q => (∃ x4, e = .normal ∧ x4 = o2 ∧ Has N 49 [(0, .str p0), (5, Ai x4), (6, Ai x2)] ∧ HH g Q [] F) ∨ False) ?_ ?_
   ·replace M := O
    clear O
    refine Ae (id := 1) (by kernel_rfl) ?_
    refine AF 6 (Be 6 [(7, Ai (i64.wrap ((i64.wrap ((p0.length : Int) - x2)) - 1)))] 16 H fun D H => ?_)
    obtain ⟨x5, X, M⟩ := bind_some M
    refine Ax 2 [] 25 (Ab x5) h1 H (fun D => .of (FK (by kernel_rfl) X)) fun D t H => ?_
    refine AG 2 [(27, .bool (x5 == 47))] H fun D H => Al 3 (fun N Q => h1 = Q ∧ Has N 49 [(0, .str p0), (5, Ai x1), (6, Ai x2), (7, Ai (i64.wrap ((i64.wrap ((p0.length : Int) - x2)) - 1))), (30, .bool ((x5 == 47) && (decide (x2 ≤ 155))))]) ?_ ?_
    ·cases B : (x5 == 47 : Bool) with
     | true =>
      replace H := H.kn 27 B
      exact AG 3 [(30, .bool (decide (x2 ≤ 155)))] H fun D H => Ac H B
     | false =>
      replace H := H.kn 27 B
      exact AG 3 [(30, .bool false)] H fun D H => Ac H B
    intro t D Q hK
    obtain ⟨e, H⟩ := hK
    subst e
    refine AG 1 [(31, .bool ((x5 == 47) && (decide (x2 ≤ 155))))] H fun D H => Al 3 (fun N Q => h1 = Q ∧ Has N 49 [(0, .str p0), (5, Ai x1), (6, Ai x2), (7, Ai (i64.wrap ((i64.wrap ((p0.length : Int) - x2)) - 1))), (34, .bool (((x5 == 47) && (decide (x2 ≤ 155))) && (decide ((i64.wrap ((i64.wrap ((p0.length : Int) - x2)) - 1)) ≥ 1))))]) ?_ ?_
    ·cases B : ((x5 == 47) && (decide (x2 ≤ 155)) : Bool) with
     | true =>
      replace H := H.kn 31 B
      exact AG 3 [(34, .bool (decide ((i64.wrap ((i64.wrap ((p0.length : Int) - x2)) - 1)) ≥ 1)))] H fun D H => Ac H B
     | false =>
      replace H := H.kn 31 B
      exact AG 3 [(34, .bool false)] H fun D H => Ac H B
    intro t D Q hK
    obtain ⟨e, H⟩ := hK
    subst e
    refine AG 1 [(35, .bool (((x5 == 47) && (decide (x2 ≤ 155))) && (decide ((i64.wrap ((i64.wrap ((p0.length : Int) - x2)) - 1)) ≥ 1))))] H fun D H => Al 3 (fun N Q => h1 = Q ∧ Has N 49 [(0, .str p0), (5, Ai x1), (6, Ai x2), (38, .bool ((((x5 == 47) && (decide (x2 ≤ 155))) && (decide ((i64.wrap ((i64.wrap ((p0.length : Int) - x2)) - 1)) ≥ 1))) && (decide ((i64.wrap ((i64.wrap ((p0.length : Int) - x2)) - 1)) ≤ 100))))]) ?_ ?_
    ·cases B : (((x5 == 47) && (decide (x2 ≤ 155))) && (decide ((i64.wrap ((i64.wrap ((p0.length : Int) - x2)) - 1)) ≥ 1)) : Bool) with
     | true =>
      replace H := H.kn 35 B
      exact AG 3 [(38, .bool (decide ((i64.wrap ((i64.wrap ((p0.length : Int) - x2)) - 1)) ≤ 100)))] H fun D H => Ac H B
     | false =>
      replace H := H.kn 35 B
      exact AG 3 [(38, .bool false)] H fun D H => Ac H B
    intro t D Q hK
    obtain ⟨e, H⟩ := hK
    subst e
    refine BK id (AX 38 H M (fun B M H => ?_) fun B M H => ?_)
    ·refine BO 2 (A5 2 [(0, .str p0), (5, Ai x2), (6, Ai x2)] H fun D H => at_nil ?_)
     exact .inl ⟨_, rfl, Ad M, H.ls, A⟩
    exact F9 (.inl ⟨_, rfl, Ad M, H.ls, A⟩)
   clear O
   clear A
   intro e D h2 hQ
   rcases hQ with ⟨x4, rfl, rfl, H, A⟩ | hF
   ·show AW _ _ _ _ _ _ _
    refine BO 3 (A5 3 [(0, .str p0), (5, Ai x4), (6, Ai (i64.wrap (x2 + 1)))] H fun D H => at_nil ?_)
    exact nx M ⟨_, _, rfl, H.ls, A⟩
   exact hF.elim
  refine Bb (i := 0) (by kernel_rfl) ?_
  exact nr M fun e => .inl ⟨_, rfl, e, H.ls, A⟩
 clear O
 clear A
 intro e D h3 hQ
 rcases hQ with ⟨x3, rfl, rfl, H, A⟩ | hF
 ·show AW _ _ _ _ _ _ _
  refine AN (AF 2 (AL 2 [(41, .bool (decide (x3 < 0)))] H fun D H => AX 41 H M (fun B M H => ?_) fun B M H => ?_))
  ·refine AF 3 (AL 3 [(2, .str ([] : UV)), (3, .str ([] : UV)), (4, .bool false)] H fun D H => AQ ?_)
   obtain ⟨rfl, rfl, rfl⟩ := KN M
   exact ⟨.inl rfl, _, rH H, rfl, A⟩
  refine Bl id (AN (HB 12 10 ?_))
  obtain ⟨x6, X, M⟩ := bind_some M
  refine Ax 2 [] 44 (.str x6) h3 H (fun D => .of (Cs (k := .i64) (k' := .i64) (lo := none) (hi := (some x3)) (by kernel_rfl) X)) fun D t H => ?_
  obtain ⟨x7, X, M⟩ := bind_some M
  refine Ax 3 [] 48 (.str x7) h3 H (fun D => .of (Cs (k := .i64) (k' := .i64) (lo := (some (i64.wrap (x3 + 1)))) (hi := none) (by kernel_rfl) X)) fun D t H => ?_
  refine AL 3 [(2, .str x6), (3, .str x7), (4, .bool true)] H fun D H => AQ ?_
  obtain ⟨rfl, rfl, rfl⟩ := KN M
  exact ⟨.inl rfl, _, rH H, rfl, A⟩
 exact hF.elim
def C5 (p0 : List AA) (p1 : AA) (s : (List AA) × Bool × Int) : Option (((List AA) × Bool × Int) ⊕ (((List AA) × Bool))) :=
 match s with
 | (x1, x2, x3) => Aa (decide (x3 < (p0.length : Int))) ((((Aa (!x2) ((Hj p0 x3).bind fun x11 => some (Op.bytesLess p1.Key x11.Key || p1.Key == x11.Key)) (some false) : Option (Bool)).bind fun x10 => Aa x10 (BS (Ov 32 (x1.length + ([p1] : List AA).length)) <| some ((x1 ++ ([p1] : List AA)), true)) (some (x1, x2)) : Option (((List AA) × Bool))).bind fun (x8, x9) => (Hj p0 x3).bind fun x12 => Aa (!(x12.Key == p1.Key)) ((Hj p0 x3).bind fun x13 => BS (Ov 32 (x8.length + ([x13] : List AA).length)) <| some ((x8 ++ ([x13] : List AA)), x9)) (some (x8, x9)) : Option (((List AA) × Bool))).bind fun (x6, x7) => some (.inl (x6, x7, i64.wrap (x3 + 1)))) (some (.inr (x1, x2)))
def Ay (p0 : List AA) (p1 : AA) : Option ((List AA)) :=
 (loop (C5 p0 p1) (([] : List AA), false, (0 : Int))).bind fun (x4, x5) => (Aa (!x5) (BS (Ov 32 (x4.length + ([p1] : List AA).length)) <| some (x4 ++ ([p1] : List AA))) (some x4) : Option (((List AA)))).bind fun x14 => some x14
theorem BT {p0 p1 rp0 q0} (M : Ay p0 p1 = some q0) (A : HH g h [.Ag rp0 117 (Ag AJ p0)] F) (hc : A9 (cfg.still 104) av = [AP rp0 p0.length, .agg [.str p1.Key, .str p1.Value]] := by kernel_rfl) : ∃ v Q, BB cfg g h 104 av v Q ∧ ∃ (rq0 : Option Nat), v = AP rq0 q0.length ∧ HH g Q [.Ag rq0 117 (Ag AJ q0), .Ag rp0 117 (Ag AJ p0)] F := by
 refine Dj 53 [.tmp 4] hc ?_
 clear hc
 unfold Ay at M
 refine bg 53 [(0, AP rp0 p0.length), (1, .agg [.str p1.Key, .str p1.Value])] fun D H => ?_
 refine AF 2 ?_
 obtain ⟨h1, e1, A⟩ := A.pu (.cells none 2 [.str p1.Key, .str p1.Value])
 refine BF 3 (.ptr (some (h.size, 0))) e1 H fun D t H => ?_
 refine Be 1 [] 2 H fun D H => ?_
 obtain ⟨h2, e2, A⟩ := A.pL 117 []
 refine BF 8 (AP (some h1.size) (([] : List AA).length)) e2 H fun D t H => ?_
 refine Be 1 [(5, AP (some h1.size) (([] : List AA).length))] 1 H fun D H => AL 1 [(6, .bool false)] H fun D H => AN (AF 1 (AL 1 [(7, Ai 0)] H fun D H => Ae (id := 0) (by kernel_rfl) ?_))
 replace A : HH g h2 [.Ag (some h1.size) 117 (Ag AJ ([] : List AA)), .obj h.size (.cells none 2 [.str p1.Key, .str p1.Value]), _] F := A
 obtain ⟨o1, O, M⟩ := bind_some M
 refine Ao (Q' := fun e N Q => (∃ x4 x5, e = .exit 0 ∧ (x4, x5) = o1 ∧ ∃ r2, Has N 53 [(3, .ptr (some (h.size, 0))), (5, AP r2 x4.length), (6, .bool x5)] ∧ HH g Q [.Ag r2 117 (Ag AJ x4), .obj h.size (.cells none 2 [.str p1.Key, .str p1.Value]), .Ag rp0 117 (Ag AJ p0)] F) ∨ False) ?_ ?_
 ·refine Bc (by kernel_rfl) (fun (s : (List AA) × Bool × Int) N Q => ∃ x1 x2 x3, (x1, x2, x3) = s ∧ ∃ r1, Has N 53 [(0, AP rp0 p0.length), (3, .ptr (some (h.size, 0))), (5, AP r1 x1.length), (6, .bool x2), (7, Ai x3)] ∧ HH g Q [.Ag r1 117 (Ag AJ x1), .obj h.size (.cells none 2 [.str p1.Key, .str p1.Value]), .Ag rp0 117 (Ag AJ p0)] F) O ⟨_, _, _, rfl, some h1.size, H.ls, A⟩ ?_
  clear O M H A
  intro s q D h3 hI M
  obtain ⟨x1, x2, x3, rfl, r1, H, A⟩ := hI
  unfold C5 at M
  refine AN (AF 4 (AL 4 [(12, .bool (decide (x3 < (p0.length : Int))))] H fun D H => AX 12 H M (fun B M H => ?_) fun B M H => ?_))
  ·refine Bl id (AN ?_)
   obtain ⟨o2, O, M⟩ := bind_some M
   refine Ao (Q' := fun e N Q => (∃ x6 x7, e = .normal ∧ (x6, x7) = o2 ∧ ∃ r3, Has N 53 [(0, AP rp0 p0.length), (3, .ptr (some (h.size, 0))), (5, AP r3 x6.length), (6, .bool x7), (7, Ai x3)] ∧ HH g Q [.Ag r3 117 (Ag AJ x6), .obj h.size (.cells none 2 [.str p1.Key, .str p1.Value]), .Ag rp0 117 (Ag AJ p0)] F) ∨ False) ?_ ?_
   ·replace M := O
    clear O
    refine Ae (id := 1) (by kernel_rfl) ?_
    refine AN ?_
    obtain ⟨o3, O, M⟩ := bind_some M
    refine Ao (Q' := fun e N Q => (∃ x8 x9, e = .normal ∧ (x8, x9) = o3 ∧ ∃ r4, Has N 53 [(0, AP rp0 p0.length), (3, .ptr (some (h.size, 0))), (5, AP r4 x8.length), (6, .bool x9), (7, Ai x3)] ∧ HH g Q [.Ag r4 117 (Ag AJ x8), .obj h.size (.cells none 2 [.str p1.Key, .str p1.Value]), .Ag rp0 117 (Ag AJ p0)] F) ∨ False) ?_ ?_
    ·replace M := O
     clear O
     refine AN (HB 6 12 ?_)
     refine AG 3 [(17, .bool (!x2))] H fun D H => ?_
     obtain ⟨x10, O, M⟩ := bind_some M
     refine Al 9 (fun N Q => Has N 53 [(0, AP rp0 p0.length), (3, .ptr (some (h.size, 0))), (5, AP r1 x1.length), (6, .bool x2), (7, Ai x3), (26, .bool x10)] ∧ HH g Q [.Ag r1 117 (Ag AJ x1), .obj h.size (.cells none 2 [.str p1.Key, .str p1.Value]), .Ag rp0 117 (Ag AJ p0)] F) ?_ ?_
     ·rcases Ar O with ⟨B, M⟩ | ⟨B, M⟩
      ·replace H := H.kn 17 B
       refine AV 1 [] 19 1 0 A H fun D t H => ?_
       obtain ⟨x11, X, M⟩ := bind_some M
       obtain ⟨i1, er1, _, X, hq1⟩ := HH.SL AS (by decide) A 2 (xs := p0) rfl X
       refine Ax 2 [] 22 (.ptr (some (i1, x3.toNat * 2))) h3 H (fun D => .of (HN (s := DT rp0 p0.length) (by kernel_rfl) X)) fun D t H => ?_
       refine Ax 1 [] 24 _ _ H (fun D => .of (GN (by kernel_rfl) (IW AS (HH.row A 2 rfl er1) hq1 (o := 0) rfl))) fun D t H => ?_
       refine AG 2 [(26, .bool (Op.bytesLess p1.Key x11.Key || p1.Key == x11.Key))] H fun D H => ?_
       obtain rfl := Ad M
       exact at_nil ⟨H.ls, A⟩
      replace H := H.kn 17 B
      refine AG 9 [(26, .bool false)] H fun D H => ?_
      obtain rfl := Ad M
      exact at_nil ⟨H.ls, A⟩
     clear A
     intro t D h4 hK
     obtain ⟨H, A⟩ := hK
     refine BK id (AX 26 H M (fun B M H => ?_) fun B M H => ?_)
     ·refine AF 5 (Ax 1 [(27, AP r1 x1.length)] 28 _ _ H (fun D => .of (BD (by kernel_rfl) (A.ET 1 rfl (o := 0) (n := 2) ⟨Nat.le_of_ble_eq_true rfl, rfl⟩))) fun D t H => ?_)
      obtain ⟨h5, e3, A⟩ := A.pL 117 [.str p1.Key, .str p1.Value]
      refine BF 29 (AP (some h4.size) (([p1] : List AA).length)) e3 H fun D t H => ?_
      obtain ⟨B, M⟩ := AO M
      obtain ⟨r5, h6, X, E⟩ := HH.Ju AS (by decide) A 1 (xs := x1) (ys := ([p1] : List AA)) rfl (Dr A 0 rfl (n := ([p1] : List AA).length) (z := 2) rfl (by decide)) rfl rfl B
      replace A : HH g h6 [.Ag (some h4.size) 117 ([.str p1.Key, .str p1.Value]), .Ag r5 117 (Ag AJ (x1 ++ ([p1] : List AA))), _, _] F := E
      replace A := A.k3 1 2 3
      refine AZ 30 _ _ H (fun D => .of (GY (s := DT r1 x1.length) (by kernel_rfl) X)) fun D t H => ?_
      refine A5 1 [(0, AP rp0 p0.length), (3, .ptr (some (h.size, 0))), (5, AP r5 ((x1 ++ ([p1] : List AA)).length)), (7, Ai x3)] H fun D H => FY 1 id (AG 1 [(6, .bool true)] H fun D H => at_nil ?_)
      exact .inl ⟨_, _, rfl, Ad M, _, H.ls, A⟩
     exact F9 (.inl ⟨_, _, rfl, Ad M, _, H.ls, A⟩)
    clear O
    clear A
    intro e D h7 hQ
    rcases hQ with ⟨x8, x9, rfl, rfl, r4, H, A⟩ | hF
    ·show AW _ _ _ _ _ _ _
     refine AN (HB 9 8 ?_)
     obtain ⟨x12, X, M⟩ := bind_some M
     obtain ⟨i2, er2, _, X, hq2⟩ := HH.SL AS (by decide) A 2 (xs := p0) rfl X
     refine Ax 2 [] 33 (.ptr (some (i2, x3.toNat * 2))) h7 H (fun D => .of (HN (s := DT rp0 p0.length) (by kernel_rfl) X)) fun D t H => ?_
     refine Ax 1 [] 35 _ _ H (fun D => .of (GN (by kernel_rfl) (IW AS (HH.row A 2 rfl er2) hq2 (o := 0) rfl))) fun D t H => ?_
     refine AV 1 [] 37 1 0 A H fun D t H => ?_
     refine AL 1 [(38, .bool (!(x12.Key == p1.Key)))] H fun D H => AX 38 H M (fun B M H => ?_) fun B M H => ?_
     ·refine BO 8 ?_
      obtain ⟨x13, X, M⟩ := bind_some M
      obtain ⟨i3, er3, _, X, hq3⟩ := HH.SL AS (by decide) A 2 (xs := p0) rfl X
      refine Ax 3 [(39, AP r4 x8.length)] 42 (.ptr (some (i3, x3.toNat * 2))) h7 H (fun D => .of (HN (s := DT rp0 p0.length) (by kernel_rfl) X)) fun D t H => ?_
      refine AZ 43 _ _ H (fun D => .of (BD (by kernel_rfl) (Kt AS (HH.row A 2 rfl er3) hq3 0 2 (Nat.le_of_ble_eq_true rfl)))) fun D t H => ?_
      obtain ⟨h8, e4, A⟩ := A.pL 117 [.str x13.Key, .str x13.Value]
      refine BF 44 (AP (some h7.size) (([x13] : List AA).length)) e4 H fun D t H => ?_
      obtain ⟨B, M⟩ := AO M
      obtain ⟨r6, h9, X, E⟩ := HH.Ju AS (by decide) A 1 (xs := x8) (ys := ([x13] : List AA)) rfl (Dr A 0 rfl (n := ([x13] : List AA).length) (z := 2) rfl (by decide)) rfl rfl B
      replace A : HH g h9 [.Ag (some h7.size) 117 ([.str x13.Key, .str x13.Value]), .Ag r6 117 (Ag AJ (x8 ++ ([x13] : List AA))), _, _] F := E
      replace A := A.k3 1 2 3
      refine AZ 45 _ _ H (fun D => .of (GY (s := DT r4 x8.length) (by kernel_rfl) X)) fun D t H => ?_
      refine A5 1 [(0, AP rp0 p0.length), (3, .ptr (some (h.size, 0))), (5, AP r6 ((x8 ++ ([x13] : List AA)).length)), (6, .bool x9), (7, Ai x3)] H fun D H => at_nil ?_
      exact .inl ⟨_, _, rfl, Ad M, _, H.ls, A⟩
     exact F9 (.inl ⟨_, _, rfl, Ad M, _, H.ls, A⟩)
    exact hF.elim
   clear O
   clear A
   intro e D h10 hQ
   rcases hQ with ⟨x6, x7, rfl, rfl, r3, H, A⟩ | hF
   ·show AW _ _ _ _ _ _ _
    refine BO 3 (A5 3 [(0, AP rp0 p0.length), (3, .ptr (some (h.size, 0))), (5, AP r3 x6.length), (6, .bool x7), (7, Ai (i64.wrap (x3 + 1)))] H fun D H => at_nil ?_)
    exact nx M ⟨_, _, _, rfl, _, H.ls, A⟩
   exact hF.elim
  refine Bb (i := 0) (by kernel_rfl) ?_
  exact nr M fun e => .inl ⟨_, _, rfl, e, _, H.ls, A⟩
 clear O
 clear A
 intro e D h11 hQ
 rcases hQ with ⟨x4, x5, rfl, rfl, r2, H, A⟩ | hF
 ·show AW _ _ _ _ _ _ _
  refine AN ?_
  obtain ⟨o4, O, M⟩ := bind_some M
  refine Ao (Q' := fun e N Q => (∃ x14, e = .normal ∧ x14 = o4 ∧ ∃ r7, Has N 53 [(5, AP r7 x14.length)] ∧ HH g Q [.Ag r7 117 (Ag AJ x14), .obj h.size (.cells none 2 [.str p1.Key, .str p1.Value]), .Ag rp0 117 (Ag AJ p0)] F) ∨ False) ?_ ?_
  ·replace M := O
   clear O
   refine AF 2 (AL 2 [(47, .bool (!x5))] H fun D H => AX 47 H M (fun B M H => ?_) fun B M H => ?_)
   ·refine BO 5 (Ax 1 [(48, AP r2 x4.length)] 49 _ _ H (fun D => .of (BD (by kernel_rfl) (A.ET 1 rfl (o := 0) (n := 2) ⟨Nat.le_of_ble_eq_true rfl, rfl⟩))) fun D t H => ?_)
    obtain ⟨h12, e5, A⟩ := A.pL 117 [.str p1.Key, .str p1.Value]
    refine BF 50 (AP (some h11.size) (([p1] : List AA).length)) e5 H fun D t H => ?_
    obtain ⟨B, M⟩ := AO M
    obtain ⟨r8, h13, X, E⟩ := HH.Ju AS (by decide) A 1 (xs := x4) (ys := ([p1] : List AA)) rfl (Dr A 0 rfl (n := ([p1] : List AA).length) (z := 2) rfl (by decide)) rfl rfl B
    replace A : HH g h13 [.Ag (some h11.size) 117 ([.str p1.Key, .str p1.Value]), .Ag r8 117 (Ag AJ (x4 ++ ([p1] : List AA))), _, _] F := E
    replace A := A.k3 1 2 3
    refine AZ 51 _ _ H (fun D => .of (GY (s := DT r2 x4.length) (by kernel_rfl) X)) fun D t H => ?_
    refine A5 1 [(5, AP r8 ((x4 ++ ([p1] : List AA)).length))] H fun D H => at_nil ?_
    exact .inl ⟨_, rfl, Ad M, _, H.ls, A⟩
   exact F9 (.inl ⟨_, rfl, Ad M, _, H.ls, A⟩)
  clear O
  clear A
  intro e D h14 hQ
  rcases hQ with ⟨x14, rfl, rfl, r7, H, A⟩ | hF
  ·show AW _ _ _ _ _ _ _
   refine AF 2 (AL 2 [(4, AP r7 x14.length)] H fun D H => AQ ?_)
   obtain rfl := Ad M
   refine ⟨.inl rfl, AP r7 x14.length, rH H, ?_⟩
   replace A := A.k2 0 2
   exact ⟨r7, rfl, A⟩
  exact hF.elim
 exact hF.elim
structure Dn where
 Ap : Int → Option ((List UInt8))
structure Fa (S : Dn) : Prop where
 BH : ∀ {g : Gd} {h : AD} {F : List Ck} {p0 : Int} {q0 : List UInt8} {av : List AB} (M : S.Ap p0 = some q0) (hc : A9 (cfg.still 105) av = [Ai p0]) (A : HH g h [] F), ∃ v Q, BB cfg g h 105 av v Q ∧ v = .str q0 ∧ HH g Q [] F
def C9 (S : Dn) (p0 : Int) : Option ((List UInt8)) :=
 Aa (decide (p0 < 10)) ((D7 ([48, 49, 50, 51, 52, 53, 54, 55, 56, 57] : UV) (some p0) (some (i64.wrap (p0 + 1)))).bind fun x1 => some x1) ((S.Ap (i64.wrap (Int.tdiv p0 (10 : Int)))).bind fun x2 => (D7 ([48, 49, 50, 51, 52, 53, 54, 55, 56, 57] : UV) (some (Int.tmod p0 (10 : Int))) (some (i64.wrap ((Int.tmod p0 (10 : Int)) + 1)))).bind fun x3 => BS (decide (x2.length + x3.length ≤ 9223372036854775807)) <| some (x2 ++ x3))
theorem JD {S : Dn} (hS : Fa S) {p0 q0} (M : C9 S p0 = some q0) (hc : A9 (cfg.still 105) av = [Ai p0]) (A : HH g h [] F) : ∃ v Q, BB cfg g h 105 av v Q ∧ v = .str q0 ∧ HH g Q [] F := by
 refine Dj 22 [.tmp 2] hc ?_
 clear hc
 unfold C9 at M
 refine bg 22 [(0, Ai p0)] fun D H => ?_
 refine AF 1 (Be 1 [] 1 H fun D H => AL 1 [(3, .str ([48, 49, 50, 51, 52, 53, 54, 55, 56, 57] : UV))] H fun D H => AN (AF 2 (AL 2 [(5, .bool (decide (p0 < 10)))] H fun D H => AX 5 H M (fun B M H => ?_) fun B M H => ?_)))
 ·refine AF 6 ?_
  obtain ⟨x1, X, M⟩ := bind_some M
  refine Ax 4 [] 10 (.str x1) h H (fun D => .of (Cs (k := .i64) (k' := .i64) (lo := (some p0)) (hi := (some (i64.wrap (p0 + 1)))) (by kernel_rfl) X)) fun D t H => ?_
  refine AL 1 [(2, .str x1)] H fun D H => AQ ?_
  obtain rfl := Ad M
  exact ⟨.inl rfl, _, rH H, rfl, A⟩
 refine Bl id (AN (HB 4 12 ?_))
 have E := A.cut 0
 obtain ⟨x2, X, M⟩ := bind_some M
 obtain ⟨v1, h1, R, rfl, E⟩ := hS.BH (av := [Ai (i64.wrap (Int.tdiv p0 (10 : Int)))]) X (by kernel_rfl) E
 replace A := A.De E
 refine Aq 2 [] 13 R H fun D t H => ?_
 obtain ⟨x3, X, M⟩ := bind_some M
 refine Ax 6 [] 20 (.str x3) h1 H (fun D => .of (Cs (k := .i64) (k' := .i64) (lo := (some (Int.tmod p0 (10 : Int)))) (hi := (some (i64.wrap ((Int.tmod p0 (10 : Int)) + 1)))) (by kernel_rfl) X)) fun D t H => ?_
 obtain ⟨B, M⟩ := AO M
 refine AZ 21 (.str (x2 ++ x3)) h1 H (fun D => .of (B1 (by kernel_rfl) B)) fun D t H => ?_
 refine AL 1 [(2, .str (x2 ++ x3))] H fun D H => AQ ?_
 obtain rfl := Ad M
 exact ⟨.inl rfl, _, rH H, rfl, A⟩
def Cg : Nat → Dn
 | 0 => ⟨fun _ => none⟩
 | n + 1 => ⟨C9 (Cg n)⟩
theorem FM  : ∀ n, Fa (Cg n)
 | 0 => ⟨fun M => (by cases M)⟩
 | n + 1 => ⟨fun M hc A => JD (FM n) M hc A⟩
def Ap : Int → Option ((List UInt8)) := (Cg Ve).Ap
theorem BH {p0 q0} (M : Ap p0 = some q0) (A : HH g h [] F) (hc : A9 (cfg.still 105) av = [Ai p0] := by kernel_rfl) : ∃ v Q, BB cfg g h 105 av v Q ∧ v = .str q0 ∧ HH g Q [] F := (FM Ve).BH M hc A
def Bi (s : Int × (List UInt8) × Int) : Option ((Int × (List UInt8) × Int) ⊕ (((List UInt8)))) :=
 match s with
 | (x5, x6, x7) => Aa (decide (x5 > 0)) (BS (x7 != 0) <| (Ap (i64.wrap (Int.tdiv x5 x7))).bind fun x9 => BS (decide (x6.length + x9.length ≤ 9223372036854775807)) <| BS (x7 != 0) <| some (.inl (Int.tmod x5 x7, x6 ++ x9, i64.wrap (Int.tdiv x7 (10 : Int))))) (some (.inr x6))
def CI (p0 : Int) (p1 : Int) : Option ((List UInt8)) :=
 (Aa (decide (p0 < 0)) (Aa (p1 == 0) (some (i64.wrap (0 - p0), p1, ([45] : UV))) (some (i64.wrap ((i64.wrap (0 - p0)) - 1), i64.wrap ((1000000000 : Int) - p1), ([45] : UV)))) (some (p0, p1, ([] : UV))) : Option ((Int × Int × (List UInt8)))).bind fun (x1, x2, x3) => (Ap x1).bind fun x4 => BS (decide (x3.length + x4.length ≤ 9223372036854775807)) <| Aa (x2 == 0) (some (x3 ++ x4)) (BS (decide ((x3 ++ x4).length + ([46] : UV).length ≤ 9223372036854775807)) <| (loop (Bi) (x2, (x3 ++ x4) ++ ([46] : UV), (100000000 : Int))).bind fun x8 => some x8)
theorem KL {p0 p1 q0} (M : CI p0 p1 = some q0) (A : HH g h [] F) (hc : A9 (cfg.still 106) av = [Ai p0, Ai p1] := by kernel_rfl) : ∃ v Q, BB cfg g h 106 av v Q ∧ v = .str q0 ∧ HH g Q [] F := by
 refine Dj 41 [.tmp 4] hc ?_
 clear hc
 unfold CI at M
 refine bg 41 [(0, Ai p0), (1, Ai p1)] fun D H => ?_
 refine AF 1 (Be 1 [] 1 H fun D H => AL 1 [(5, .str ([] : UV))] H fun D H => AN ?_)
 obtain ⟨o1, O, M⟩ := bind_some M
 refine Ao (Q' := fun e N Q => (∃ x1 x2 x3, e = .normal ∧ (x1, x2, x3) = o1 ∧ Has N 41 [(0, Ai x1), (1, Ai x2), (5, .str x3)] ∧ HH g Q [] F) ∨ False) ?_ ?_
 ·replace M := O
  clear O
  refine AF 2 (AL 2 [(8, .bool (decide (p0 < 0)))] H fun D H => AX 8 H M (fun B M H => ?_) fun B M H => ?_)
  ·refine AF 1 (A5 1 [(0, Ai p0), (1, Ai p1), (5, .str ([45] : UV))] H fun D H => CT 2 id (AL 2 [(10, .bool (p1 == 0))] H fun D H => AX 10 H M (fun B M H => ?_) fun B M H => ?_))
   ·refine BO 3 (A5 3 [(0, Ai (i64.wrap (0 - p0))), (1, Ai p1), (5, .str ([45] : UV))] H fun D H => at_nil ?_)
    exact .inl ⟨_, _, _, rfl, Ad M, H.ls, A⟩
   refine AF 4 (A5 4 [(0, Ai (i64.wrap ((i64.wrap (0 - p0)) - 1))), (1, Ai p1), (5, .str ([45] : UV))] H fun D H => FY 3 id (A5 3 [(0, Ai (i64.wrap ((i64.wrap (0 - p0)) - 1))), (1, Ai (i64.wrap ((1000000000 : Int) - p1))), (5, .str ([45] : UV))] H fun D H => at_nil ?_))
   exact .inl ⟨_, _, _, rfl, Ad M, H.ls, A⟩
  exact F9 (.inl ⟨_, _, _, rfl, Ad M, H.ls, A⟩)
 clear O
 clear A
 intro e D h1 hQ
 rcases hQ with ⟨x1, x2, x3, rfl, rfl, H, A⟩ | hF
 ·show AW _ _ _ _ _ _ _
  refine AF 5 ?_
  obtain ⟨x4, X, M⟩ := bind_some M
  obtain ⟨v1, h2, R, rfl, E⟩ := BH (av := [Ai x1]) X (A.cut 0)
  replace A := A.De E
  refine Aq 2 [(18, .str x3)] 20 R H fun D t H => ?_
  obtain ⟨B, M⟩ := AO M
  refine AZ 21 (.str (x3 ++ x4)) h2 H (fun D => .of (B1 (by kernel_rfl) B)) fun D t H => ?_
  refine A5 1 [(1, Ai x2), (5, .str (x3 ++ x4))] H fun D H => BK id (AN (AF 2 (AL 2 [(23, .bool (x2 == 0))] H fun D H => AX 23 H M (fun B M H => ?_) fun B M H => ?_)))
  ·refine AF 2 (AL 2 [(4, .str (x3 ++ x4))] H fun D H => AQ ?_)
   obtain rfl := Ad M
   exact ⟨.inl rfl, _, rH H, rfl, A⟩
  refine Bs 3 id (AG 1 [(25, .str (x3 ++ x4))] H fun D H => ?_)
  obtain ⟨B, M⟩ := AO M
  refine AZ 26 (.str ((x3 ++ x4) ++ ([46] : UV))) h2 H (fun D => .of (B1 (by kernel_rfl) B)) fun D t H => ?_
  refine A5 1 [(1, Ai x2), (5, .str ((x3 ++ x4) ++ ([46] : UV)))] H fun D H => CT 1 id (AL 1 [(6, Ai 100000000)] H fun D H => AN (Ae (id := 0) (by kernel_rfl) ?_))
  obtain ⟨o2, O, M⟩ := bind_some M
  refine Ao (Q' := fun e N Q => (∃ x8, e = .exit 0 ∧ x8 = o2 ∧ Has N 41 [(5, .str x8)] ∧ HH g Q [] F) ∨ False) ?_ ?_
  ·refine Bc (by kernel_rfl) (fun (s : Int × (List UInt8) × Int) N Q => ∃ x5 x6 x7, (x5, x6, x7) = s ∧ Has N 41 [(1, Ai x5), (5, .str x6), (6, Ai x7)] ∧ HH g Q [] F) O ⟨_, _, _, rfl, H.ls, A⟩ ?_
   clear O M H A
   intro s q D h3 hI M
   obtain ⟨x5, x6, x7, rfl, H, A⟩ := hI
   unfold Bi at M
   refine AN (AF 2 (AL 2 [(28, .bool (decide (x5 > 0)))] H fun D H => AX 28 H M (fun B M H => ?_) fun B M H => ?_))
   ·refine Bl id (Ae (id := 1) (by kernel_rfl) ?_)
    refine AF 7 (AG 3 [(29, .str x6), (30, Ai x5), (31, Ai x7)] H fun D H => ?_)
    obtain ⟨B, M⟩ := AO M
    refine AZ 32 (Ai (i64.wrap (Int.tdiv x5 x7))) h3 H (fun D => .of (Z6 (by kernel_rfl) B)) fun D t H => ?_
    obtain ⟨x9, X, M⟩ := bind_some M
    obtain ⟨v1, h4, R, rfl, E⟩ := BH (av := [Ai (i64.wrap (Int.tdiv x5 x7))]) X (A.cut 0)
    replace A := A.De E
    refine A0 33 R H fun D t H => ?_
    obtain ⟨B, M⟩ := AO M
    refine AZ 34 (.str (x6 ++ x9)) h4 H (fun D => .of (B1 (by kernel_rfl) B)) fun D t H => ?_
    refine A5 1 [(1, Ai x5), (5, .str (x6 ++ x9)), (6, Ai x7)] H fun D H => CT 4 id (AG 2 [(35, Ai x5), (36, Ai x7)] H fun D H => ?_)
    obtain ⟨B, M⟩ := AO M
    refine AZ 37 (Ai (Int.tmod x5 x7)) h4 H (fun D => .of (Zp (by kernel_rfl) B)) fun D t H => ?_
    refine A5 1 [(1, Ai (Int.tmod x5 x7)), (5, .str (x6 ++ x9)), (6, Ai x7)] H fun D H => FY 3 id (A5 3 [(1, Ai (Int.tmod x5 x7)), (5, .str (x6 ++ x9)), (6, Ai (i64.wrap (Int.tdiv x7 (10 : Int))))] H fun D H => at_nil ?_)
    exact nx M ⟨_, _, _, rfl, H.ls, A⟩
   refine Bb (i := 0) (by kernel_rfl) ?_
   exact nr M fun e => .inl ⟨_, rfl, e, H.ls, A⟩
  clear O
  clear A
  intro e D h5 hQ
  rcases hQ with ⟨x8, rfl, rfl, H, A⟩ | hF
  ·show AW _ _ _ _ _ _ _
   refine AF 2 (AL 2 [(4, .str x8)] H fun D H => AQ ?_)
   obtain rfl := Ad M
   exact ⟨.inl rfl, _, rH H, rfl, A⟩
  exact hF.elim
 exact hF.elim
def Cv (p0 : AA) (s : Int) : Option ((Int) ⊕ ((Unit) ⊕ (Int))) :=
 match s with
 | x1 => Aa (decide (x1 ≤ (i64.wrap ((i64.wrap ((i64.wrap ((p0.Key.length : Int) + (p0.Value.length : Int))) + 3)) + 20)))) ((Ap x1).bind fun x3 => Aa ((i64.wrap ((i64.wrap ((i64.wrap ((p0.Key.length : Int) + (p0.Value.length : Int))) + 3)) + (x3.length : Int))) == x1) (some (.inr (.inr x1))) (some (.inl (i64.wrap (x1 + 1))))) (some (.inr (.inl ())))
def Dg (p0 : AA) : Option (Int) :=
 (loop (Cv p0) (i64.wrap ((i64.wrap ((i64.wrap ((p0.Key.length : Int) + (p0.Value.length : Int))) + 3)) + 1))).bind fun o1 => (match o1 with | .inl _ => some (0 : Int) | .inr x2 => some x2)
theorem J7 {p0 q0} (M : Dg p0 = some q0) (A : HH g h [] F) (hc : A9 (cfg.still 107) av = [.agg [.str p0.Key, .str p0.Value]] := by kernel_rfl) : ∃ v Q, BB cfg g h 107 av v Q ∧ v = Ai q0 ∧ HH g Q [] F := by
 refine Dj 29 [.tmp 2] hc ?_
 clear hc
 unfold Dg at M
 refine bg 29 [(0, .agg [.str p0.Key, .str p0.Value])] fun D H => ?_
 refine AF 2 ?_
 obtain ⟨h1, e1, A⟩ := A.pu (.cells none 2 [.str p0.Key, .str p0.Value])
 refine BF 1 (.ptr (some (h.size, 0))) e1 H fun D t H => ?_
 refine Be 1 [] 9 H fun D H => AV 1 [] 6 0 0 A H fun D t H => ?_
 refine AV 2 [(7, Ai (p0.Key.length : Int))] 9 0 1 A H fun D t H => ?_
 refine AL 4 [(3, Ai (i64.wrap ((i64.wrap ((p0.Key.length : Int) + (p0.Value.length : Int))) + 3)))] H fun D H => AN (AF 3 (AL 3 [(4, Ai (i64.wrap ((i64.wrap ((i64.wrap ((p0.Key.length : Int) + (p0.Value.length : Int))) + 3)) + 1)))] H fun D H => Ae (id := 0) (by kernel_rfl) ?_))
 obtain ⟨o1, O, M⟩ := bind_some M
 refine Ao (Q' := fun e N Q => (e = .exit 0 ∧ .inl () = o1 ∧ Has N 29 [] ∧ HH g Q [.obj h.size (.cells none 2 [.str p0.Key, .str p0.Value])] F) ∨ (∃ x2, e = .ret ∧ .inr x2 = o1 ∧ Has N 29 [(2, Ai x2)] ∧ HH g Q [.obj h.size (.cells none 2 [.str p0.Key, .str p0.Value])] F) ∨ False) ?_ ?_
 ·refine Bc (by kernel_rfl) (fun (s : Int) N Q => ∃ x1, x1 = s ∧ Has N 29 [(3, Ai (i64.wrap ((i64.wrap ((p0.Key.length : Int) + (p0.Value.length : Int))) + 3))), (4, Ai x1)] ∧ HH g Q [.obj h.size (.cells none 2 [.str p0.Key, .str p0.Value])] F) O ⟨_, rfl, H.ls, A⟩ ?_
  clear O M H A
  intro s q D h2 hI M
  obtain ⟨x1, rfl, H, A⟩ := hI
  unfold Cv at M
  refine AN (AF 4 (AL 4 [(18, .bool (decide (x1 ≤ (i64.wrap ((i64.wrap ((i64.wrap ((p0.Key.length : Int) + (p0.Value.length : Int))) + 3)) + 20)))))] H fun D H => AX 18 H M (fun B M H => ?_) fun B M H => ?_))
  ·refine Bl id (AN (Ae (id := 1) (by kernel_rfl) ?_))
   refine AF 7 ?_
   obtain ⟨x3, X, M⟩ := bind_some M
   obtain ⟨v1, h3, R, rfl, E⟩ := BH (av := [Ai x1]) X (A.cut 0)
   replace A := A.De E
   refine Aq 2 [(21, Ai (i64.wrap ((i64.wrap ((p0.Key.length : Int) + (p0.Value.length : Int))) + 3)))] 23 R H fun D t H => ?_
   refine AL 4 [(27, .bool ((i64.wrap ((i64.wrap ((i64.wrap ((p0.Key.length : Int) + (p0.Value.length : Int))) + 3)) + (x3.length : Int))) == x1))] H fun D H => AX 27 H M (fun B M H => ?_) fun B M H => ?_
   ·refine AF 2 (AL 2 [(2, Ai x1)] H fun D H => AQ ?_)
    exact nr M fun e => Or.inr (.inl ⟨_, rfl, e, H.ls, A⟩)
   refine FL 3 id (A5 3 [(3, Ai (i64.wrap ((i64.wrap ((p0.Key.length : Int) + (p0.Value.length : Int))) + 3))), (4, Ai (i64.wrap (x1 + 1)))] H fun D H => at_nil ?_)
   exact nx M ⟨_, rfl, H.ls, A⟩
  refine Bb (i := 0) (by kernel_rfl) ?_
  exact nr M fun e => .inl ⟨rfl, e, H.ls, A⟩
 clear O
 clear A
 intro e D h4 hQ
 rcases hQ with ⟨rfl, rfl, H, A⟩ | ⟨x2, rfl, rfl, H, A⟩ | hF
 ·show AW _ _ _ _ _ _ _
  refine AF 1 (AL 1 [(2, Ai 0)] H fun D H => AQ ?_)
  obtain rfl := Ad M
  refine ⟨.inl rfl, Ai 0, rH H, ?_⟩
  replace A := A.d0
  exact ⟨rfl, A⟩
 ·obtain rfl := Ad M
  refine ⟨.inl rfl, Ai x2, rH H, ?_⟩
  replace A := A.d0
  exact ⟨rfl, A⟩
 exact hF.elim
end
end Go.Av.L
