/-
  Several texts in one.
-/
import Derived.Test.YtdjbadhilkmiiaaGreatDoorAvMap
import Derived.Test.YtdjbadhilkmiiaaGreatDoorK0
import Derived.Test.YtdjbadhilkmiiaaGreatDoorK1
import Derived.Test.YtdjbadhilkmiiaaGreatDoorK2
import Derived.Test.YtdjbadhilkmiiaaGreatDoorK3
import Derived.Test.YtdjbadhilkmiiaaGreatDoorK4
import Derived.Test.YtdjbadhilkmiiaaGreatDoorK5
import Derived.Test.YtdjbadhilkmiiaaGreatDoorK6
import Derived.Test.YtdjbadhilkmiiaaGreatDoorK7
import Derived.Test.YtdjbadhilkmiiaaGreatDoorK8
import Derived.Test.YtdjbadhilkmiiaaGreatDoorK9
import Derived.Test.YtdjbadhilkmiiaaGreatDoorNwG
/-
 A part.
-/
section
namespace Go.Av.L
open Go.Av Go.Lib
set_option maxRecDepth 100000
theorem LI : CQ = some true := by kernel_rfl
end Go.Av.L
end
/-
 A part.
-/
section
namespace Go.Av.L
open Go.Av Go.Lib
set_option linter.unusedVariables false
set_option linter.unusedSimpArgs false
theorem T0 {r : AD} (hr : r.Text.length ≤ 1000) {Ha : Int} (h1 : 1 ≤ Ha) (h2 : Ha ≤ 4096) : ∃ p b p' e, CB r.Text = some (b, p', e) ∧ ((e ≠ 0 ∧ EO r Ha = some (none, p, e)) ∨ (e = 0 ∧ ((∃ T, EO r Ha = some (some T, 0, 0)) ∨ EO r Ha = some (none, 0, 7)))) := by
 obtain ⟨a, p, e, b, p', e1, e2, hl⟩ := TA hr
 refine ⟨p, b, p', e, e2, ?_⟩
 unfold EO
 rw [e1, Option.bind_some]
 dsimp only
 by_cases he : e = 0
 ·subst he
  refine .inr ⟨rfl, ?_⟩
  rw [bne_self_eq_false, AX]
  obtain ⟨⟨w, f⟩, ec, ⟨T, hT⟩ | hT⟩ := R0 (by have := hl rfl; omega : a.length ≤ 1000) (⟨r.Fold, r.BG⟩ : C3) h1 h2
  ·rw [ec, hT]
   exact .inl ⟨_, rfl⟩
  ·rw [ec, hT]
   exact .inr rfl
 ·refine .inl ⟨he, ?_⟩
  rw [bne_iff_ne.2 he, BT]
theorem TN {r : AD} (hr : r.Text.length ≤ 1000) {Ha : Int} (h1 : 1 ≤ Ha) (h2 : Ha ≤ 4096) : ∃ l f b p' e, CU [r] Ha = some (l, f) ∧ CB r.Text = some (b, p', e) ∧ (e ≠ 0 → f = e) ∧ (e = 0 → f = 0 ∨ f = 7) := by
 obtain ⟨p, b, p', e, e2, h⟩ := T0 hr h1 h2
 have ix : HO [r] (0 : Int) = some r := rfl
 have hd : decide ((0 : Int) < (([r] : List AD).length : Int)) = true := rfl
 unfold CU
 rcases h with ⟨he, hn⟩ | ⟨rfl, ⟨T, hn⟩ | hn⟩
 ·refine ⟨[], e, b, p', e, ?_, e2, fun _ => rfl, fun h => absurd h he⟩
  rw [El (r := .inr e) (by rw [CC, hd, BT, ix, Option.bind_some, hn, Option.bind_some]; dsimp only; rw [bne_iff_ne.2 he, BT])]
  rfl
 ·refine ⟨[T], 0, b, p', 0, ?_, e2, fun h => absurd rfl h, fun _ => .inl rfl⟩
  rw [Jg (s' := ([T], 1)) (by rw [CC, hd, BT, ix, Option.bind_some, hn, Option.bind_some]; rfl), El (r := .inl [T]) (by rw [CC]; rfl)]
  rfl
 ·refine ⟨[], 7, b, p', 0, ?_, e2, fun h => absurd rfl h, fun _ => .inr rfl⟩
  rw [El (r := .inr 7) (by rw [CC, hd, BT, ix, Option.bind_some, hn, Option.bind_some]; rfl)]
  rfl
theorem Us : CB [97] = some ([⟨1, 97, []⟩], 0, 0) := by kernel_rfl
theorem TK {l : List AD} (hl : l.length ≤ 1000) (ha : ∀ r ∈ l, r.Text = [97]) {Ha : Int} (h1 : 1 ≤ Ha) (h2 : Ha ≤ 4096) : W (CU l Ha) fun r => r.2 = 0 ∨ r.2 = 7 := by
 unfold CU
 refine W.bind (W.mono (W.list (l := l) (enc := fun (s : List AV) i => (s, (i : Int))) (P := fun s i => s.length = i) (Q := fun r => match r with | .inl _ => True | .inr f => f = 7) ?_ ?_ [] rfl) ?_)
 ·intro s hs
  rw [CC, BH, if_neg (by omega)]
  exact W.ret trivial
 ·intro s i hi hs
  rw [CC, BH, if_pos (by omega), Fh hi, Option.bind_some]
  have hx := ha _ (List.getElem_mem hi)
  obtain ⟨p, b, p', e, e2, h⟩ := T0 (r := l[i]) (by rw [hx]; simp) h1 h2
  have e0 : e = 0 := by
   rw [hx, Us] at e2
   simp only [Option.some.injEq, Prod.mk.injEq] at e2
   exact e2.2.2.symm
  subst e0
  rcases h with ⟨he, _⟩ | ⟨_, ⟨T, hn⟩ | hn⟩
  ·exact absurd rfl he
  ·rw [hn, Option.bind_some]
   dsimp only
   rw [bne_self_eq_false, AX]
   refine W.Ca (Im (by simp only [List.length_cons, List.length_nil]; omega) (by simp only [List.length_cons, List.length_nil]; omega)) (W.ret ⟨s ++ [T], by rw [Ff (by omega)], by simp [hs]⟩)
  ·rw [hn]
   exact W.ret rfl
 ·rintro (l' | f) hr
  ·exact W.ret (.inl rfl)
  ·simp only at hr
   subst hr
   exact W.ret (.inr rfl)
def wi (a lo hi : Int) : Bool := decide (a ≥ lo) && decide (a ≤ hi)
def WX (t : Bb) : Bool := ((decide (t.CX ≥ (-9007199254740991)) && decide (t.CX ≤ 9007199254740991)) && decide (t.BS ≥ 0)) && decide (t.BS < 1000000000)
theorem X3 (a lo hi : Int) : BB a lo hi = some (wi a lo hi) := rfl
theorem X0 (a lo hi : Int) : Bv a lo hi = some (wi a lo hi) := rfl
theorem YF (t : Bb) : GM t = some (WX t) := rfl
theorem X5 (t : Bb) : DJ t.CX t.BS = some (WX t) := by
 unfold DJ WX
 rw [show decide (t.BS ≤ 999999999) = decide (t.BS < 1000000000) from decide_eq_decide.2 (by omega)]
def KM (name head states nth strip caches : Int) (t : Bb) (dated : Bool) : Bool :=
 (((((wi name 1 4096 && wi head 1 65536) && wi states 1 4096) && wi nth 0 9999) && wi strip 0 9999) && wi caches 0 3) && (!dated || WX t)
theorem UZ (c : BI) : Dx c = some (KM c.Name c.Head c.BF c.Eu c.Bf c.BN c.An c.Be) := by
 unfold Dx KM
 simp only [X0, YF, Option.bind_some, Qj, Sr]
theorem TM (name head states nth strip caches : Int) (t : Bb) (dated : Bool) : ((((((!wi name 1 4096 || !wi head 1 65536) || !wi states 1 4096) || !wi nth 0 9999) || !wi strip 0 9999) || !wi caches 0 3) || (dated && !WX t)) = !KM name head states nth strip caches t dated := by
 unfold KM
 cases wi name 1 4096 <;> cases wi head 1 65536 <;> cases wi states 1 4096 <;> cases wi nth 0 9999 <;> cases wi strip 0 9999 <;> cases wi caches 0 3 <;> cases dated <;> cases WX t <;> rfl
theorem UL {a lo hi : Int} (h : wi a lo hi = true) : lo ≤ a ∧ a ≤ hi := by
 unfold wi at h
 simp only [Bool.and_eq_true, decide_eq_true_eq] at h
 exact ⟨h.1, h.2⟩
theorem Rq {name head states nth strip caches : Int} {t : Bb} {dated : Bool} {text : List UInt8} (ht : text.length ≤ 40) {l : List AD} (hl : l.length ≤ 1000) (ha : ∀ r ∈ l, r.Text = [97]) :
  ∃ w f, EV (⟨([(⟨text, false, false, false⟩ : AD)] : List AD), l, ([] : List Ao), false, false, caches, dated, t, nth, strip, name, head, states⟩ : BI) = some (w, f) ∧
   (bif KM name head states nth strip caches t dated then
    (if l.length + 1 > 256 then w = none ∧ f = 8 else ∃ b p' e, CB text = some (b, p', e) ∧ (e ≠ 0 → w = none ∧ f = e) ∧ (e = 0 → (w = none ∧ f = 7) ∨ (∃ r, w = some r ∧ f = 0)))
   else w = none ∧ f = 6) := by
 unfold EV
 rw [UZ, Option.bind_some]
 dsimp only
 cases hR : KM name head states nth strip caches t dated with
 | false => exact ⟨_, _, rfl, rfl, rfl⟩
 | true =>
  unfold KM at hR
  simp only [Bool.and_eq_true] at hR
  obtain ⟨⟨⟨⟨⟨⟨r1, _⟩, r3⟩, r4⟩, _⟩, _⟩, _⟩ := hR
  have r1 := UL r1
  have r3 := UL r3
  have r4 := UL r4
  rw [Bool.not_true, AX, show ((([(⟨text, false, false, false⟩ : AD)] : List AD).length : Int)) = 1 from rfl, J4 (by omega) (by omega), Bool.or_false, BH]
  by_cases hk : l.length + 1 > 256
  ·rw [if_pos (by omega)]
   exact ⟨none, 8, rfl, by rw [cond_true, if_pos hk]; exact ⟨rfl, rfl⟩⟩
  ·rw [if_neg (by omega)]
   unfold Ed
   rw [Im (by simp) (by simp), DZ, Im (by dsimp only; omega) (by dsimp only; omega), DZ, Im (by simp) (by simp), DZ, Option.bind_some]
   obtain ⟨l1, f1, b, p', e, c1, c2, c3, c4⟩ := TN (r := ⟨text, false, false, false⟩) (by dsimp only; omega) r3.1 r3.2
   rw [c1, Option.bind_some]
   dsimp only at c2 ⊢
   by_cases he : e = 0
   ·subst he
    rcases c4 rfl with rfl | rfl
    ·rw [bne_self_eq_false, AX]
     obtain ⟨⟨l2, f2⟩, d1, d2⟩ := TK hl ha r3.1 r3.2
     rw [d1, Option.bind_some]
     dsimp only at d2 ⊢
     rcases d2 with rfl | rfl
     ·rw [bne_self_eq_false, AX]
      have hs : Gg [] states name = some (some (⟨[], name⟩ : DS), 0, 0) := by
       unfold Gg
       rw [decide_eq_false (by omega), decide_eq_false (by omega), Bool.or_false, AX, show decide ((([] : List Ao).length : Int) > 256) = false from rfl, AX, El (r := ()) (by rw [IL]; rfl)]
       rfl
      have ho : FN nth (mx 1 1) = some (some (⟨nth, 1, Pr⟩ : Cf), 0) := by
       unfold FN
       rw [show mx 1 1 = 1 from rfl, decide_eq_false (by omega), decide_eq_false (by omega)]
       rfl
      rw [hs, Option.bind_some]
      dsimp only
      rw [bne_self_eq_false, AX, ho, Option.bind_some]
      exact ⟨_, _, rfl, by rw [cond_true, if_neg hk]; exact ⟨b, p', 0, c2, fun h => absurd rfl h, fun _ => .inr ⟨_, rfl, rfl⟩⟩⟩
     ·exact ⟨none, 7, rfl, by rw [cond_true, if_neg hk]; exact ⟨b, p', 0, c2, fun h => absurd rfl h, fun _ => .inl ⟨rfl, rfl⟩⟩⟩
    ·exact ⟨none, 7, rfl, by rw [cond_true, if_neg hk]; exact ⟨b, p', 0, c2, fun h => absurd rfl h, fun _ => .inl ⟨rfl, rfl⟩⟩⟩
   ·have := c3 he
    subst this
    rw [bne_iff_ne.2 he, BT]
    exact ⟨none, f1, rfl, by rw [cond_true, if_neg hk]; exact ⟨b, p', f1, c2, fun _ => ⟨rfl, rfl⟩, fun h => absurd h he⟩⟩
theorem P5 (x0 : Int) {Q0 : Prop} (k0 : Q0) (x1 : Int) {Q1 : Prop} (k1 : Q1) (x2 : Int) {Q2 : Prop} (k2 : Q2) (x3 : Int) {Q3 : Prop} (k3 : Q3) (x4 : Int) {Q4 : Prop} (k4 : Q4) (x5 : Int) {Q5 : Prop} (k5 : Q5) (x6 : Bb) {Q6 : Prop} (k6 : Q6) (x7 : Bool) {Q7 : Prop} (k7 : Q7) (x8 : Int) {Q8 : Prop} (k8 : Q8) (x9 : List UInt8) {Q9 : Prop} (k9 : Q9) : Dt x0 x1 x2 x3 x4 x5 x6 x7 x8 x9 = some true := by
 unfold Dt
 rw [BH]
 by_cases ht : (x9.length : Int) > 40
 ·rw [if_pos ht, LI]; rfl
 rw [if_neg ht]
 obtain ⟨K, hK⟩ : ∃ K, Int.tmod (IntKind.i64.wrap x8) 300 = K := ⟨_, rfl⟩
 have hK1 : -300 < K ∧ K < 300 := by
  subst hK
  have h1 := Int.tmod_lt_of_pos (IntKind.i64.wrap x8) (show (0 : Int) < 300 by decide)
  have h2 := Int.lt_tmod_of_pos (IntKind.i64.wrap x8) (show (0 : Int) < 300 by decide)
  exact ⟨by omega, h1⟩
 have hloop : W (Av.loop (DO x8) (([] : List AD), (0 : Int))) fun l => l.length = K.toNat ∧ ∀ r ∈ l, r.Text = [97] := by
  refine W.loop (fun s => 0 ≤ s.2 ∧ s.2 ≤ (K.toNat : Int) ∧ (s.1.length : Int) = s.2 ∧ ∀ r ∈ s.1, r.Text = [97]) (fun s => (K - s.2).toNat) ⟨by simp, by simp only; omega, by simp, by simp⟩ ?_
  rintro ⟨l, j⟩ ⟨h0, h1, h2, h3⟩
  simp only at h0 h1 h2 h3
  unfold DO
  rw [hK]
  refine W.Mu (fun hlt => W.Ca (Im (by simp only [List.length_cons, List.length_nil]; omega) (by simp only [List.length_cons, List.length_nil]; omega)) (W.ret ?_)) fun hge => W.ret ⟨by omega, h3⟩
  simp only
  rw [J4 (by omega) (by omega)]
  refine ⟨⟨by omega, by omega, by simp only [List.length_append, List.length_cons, List.length_nil]; omega, ?_⟩, by omega⟩
  intro r hr
  rcases List.mem_append.1 hr with hr | hr
  ·exact h3 r hr
  ·rw [List.mem_singleton] at hr
   subst hr
   rfl
 obtain ⟨l, el, hl, ha⟩ := hloop
 obtain ⟨w, f, ew, hw⟩ := Rq (name := x0) (head := x1) (states := x2) (nth := x3) (strip := x4) (caches := x5) (t := x6) (dated := x7) (text := x9) (by omega) (by omega : l.length ≤ 1000) ha
 rw [el, Option.bind_some, ew, Option.bind_some]
 dsimp only
 have hN := TM x0 x1 x2 x3 x4 x5 x6 x7
 simp only [X3, X5, Option.bind_some, Sr, Qj, hN, hK]
 rw [J4 (x := K + 1) (by omega) (by omega)]
 cases hR : KM x0 x1 x2 x3 x4 x5 x6 x7 with
 | false =>
  rw [hR, cond_false] at hw
  obtain ⟨rfl, rfl⟩ := hw
  simp only [Bool.not_false, BT, beq_self_eq_true]
  rw [LI]; rfl
 | true =>
  rw [hR, cond_true] at hw
  simp only [Bool.not_true, AX]
  rw [BH, BH]
  by_cases hk : l.length + 1 > 256
  ·rw [if_pos hk] at hw
   obtain ⟨rfl, rfl⟩ := hw
   dsimp only
   rw [if_pos (by omega), beq_self_eq_true, BT, LI]; rfl
  ·rw [if_neg hk] at hw
   obtain ⟨b, p', e, ep, h1, h2⟩ := hw
   have hkk : ¬ (K + 1 > 256) := by omega
   rw [if_neg hkk, if_neg hkk, ep]
   simp only [Option.bind_some]
   by_cases he : e = 0
   ·subst he
    rcases h2 rfl with ⟨rfl, rfl⟩ | ⟨r, rfl, rfl⟩
    ·dsimp only
     rw [LI]; rfl
    ·dsimp only
     rw [LI]; rfl
   ·obtain ⟨rfl, rfl⟩ := h1 he
    dsimp only
    rw [bne_iff_ne.2 he, BT, beq_self_eq_true, BT, LI]; rfl
end Go.Av.L
end
