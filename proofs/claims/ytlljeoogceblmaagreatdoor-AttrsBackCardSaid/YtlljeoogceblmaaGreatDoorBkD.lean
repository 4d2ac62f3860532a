/-
 A part.
-/
import Derived.Test.YtlljeoogceblmaaGreatDoorBkC
import Derived.Test.YtlljeoogceblmaaGreatDoorBkM
import Derived.Test.YtlljeoogceblmaaGreatDoorHdE
namespace Go.Av.L
open Go.Av Go.Lib
set_option linter.unusedVariables false
set_option linter.unusedSimpArgs false
set_option maxRecDepth 10000
def UZ (m : Mem) (n : Int) (i : Nat) : (List AB) × Int × (List UInt8) × (List UInt8) × Int × Int × Int × Int × (List UInt8) × (List UInt8) × Int × Int × Int × Int × (List UInt8) × Int :=
 (m.Extra, n, m.Name, m.AU, m.Kind, m.Mode, m.BP, m.BQ, m.AN, m.AO, m.Aa, m.Ag, m.Time.B6, m.Time.BA, m.Data, (i : Int))
noncomputable def tP (v : Gh) : Ac := ((CC v).getD (⟨0, 0⟩, 2)).1
theorem Yf {α β : Type} {m : Option α} {x : α} {k : α → Option β} (h : m = some x) : m.bind k = k x := by rw [h]; rfl
noncomputable def BL (s : Mem × Int) (p : Pr) : Mem × Int :=
 if p.Key = JJ then ({ s.1 with BQ := (GU p.Value).1 }, s.2)
 else if p.Key = JN then ({ s.1 with BP := (GU p.Value).1 }, s.2)
 else if p.Key = F9 then (s.1, (GU p.Value).1)
 else if p.Key = EO then ({ s.1 with AO := p.Value }, s.2)
 else if p.Key = Eu then ({ s.1 with AN := p.Value }, s.2)
 else if p.Key = Fz then ({ s.1 with Name := p.Value }, s.2)
 else if p.Key = Fu then ({ s.1 with AU := p.Value }, s.2)
 else if p.Key = Fy then ({ s.1 with Time := tP p.Value }, s.2)
 else ({ s.1 with Extra := s.1.Extra ++ [p] }, s.2)
structure XF (p : Pr) : Prop where
 num : p.Key = JJ ∨ p.Key = JN ∨ p.Key = F9 → (GU p.Value).2 = 0
 cC : p.Key = EO ∨ p.Key = Eu ∨ p.Key = Fz ∨ p.Key = Fu → Rc p.Value = false
 b9 : p.Key = Fy → ∃ t, CC p.Value = some (t, 0)
theorem step_ok {l : List Pr} {i : Nat} (hi : i < l.length) (hl : l.length ≤ 1000) (ho : XF l[i]) {s : Mem × Int} (hx : s.1.Extra.length ≤ i) : Bn l (UZ s.1 s.2 i) = some (.inl (UZ (BL s l[i]).1 (BL s l[i]).2 (i + 1))) := by
 obtain ⟨m, n⟩ := s
 dsimp only at hx
 unfold Bn UZ BL
 simp only []
 rw [decide_eq_true (show (i : Int) < (l.length : Int) by omega), Ah, Gv hi, Option.bind_some]
 generalize l[i] = p at ho
 obtain ⟨k, v⟩ := p
 obtain ⟨o1, o2, o3⟩ := ho
 dsimp only at o1 o2 o3
 simp only
 by_cases h1 : k = JJ
 ·subst h1
  have h0 := o1 (.inl rfl)
  rw [if_pos rfl, show (JJ == ([103, 105, 100] : List UInt8)) = true from rfl, Ah, ah, Option.bind_some]
  unfold Rn
  rw [if_pos h0, ← HM (by omega)]
  rfl
 rw [if_neg h1, show (k == ([103, 105, 100] : List UInt8)) = false from beq_eq_false_iff_ne.2 h1, AQ]
 by_cases h2 : k = JN
 ·subst h2
  have h0 := o1 (.inr (.inl rfl))
  rw [if_pos rfl, show (JN == ([117, 105, 100] : List UInt8)) = true from rfl, Ah, aV, Option.bind_some]
  unfold Rn
  rw [if_pos h0, ← HM (by omega)]
  rfl
 rw [if_neg h2, show (k == ([117, 105, 100] : List UInt8)) = false from beq_eq_false_iff_ne.2 h2, AQ]
 by_cases h3 : k = F9
 ·subst h3
  have h0 := o1 (.inr (.inr rfl))
  rw [if_pos rfl, show (F9 == ([115, 105, 122, 101] : List UInt8)) = true from rfl, Ah, ae, Option.bind_some]
  unfold Rn
  rw [if_pos h0, ← HM (by omega)]
  rfl
 rw [if_neg h3, show (k == ([115, 105, 122, 101] : List UInt8)) = false from beq_eq_false_iff_ne.2 h3, AQ]
 by_cases h4 : k = EO
 ·subst h4
  have h0 := o2 (.inl rfl)
  rw [if_pos rfl, show (EO == ([103, 110, 97, 109, 101] : List UInt8)) = true from rfl, Ah, Yo, Option.bind_some]
  unfold O4
  rw [if_neg (by rw [h0]; decide), ← HM (by omega)]
  rfl
 rw [if_neg h4, show (k == ([103, 110, 97, 109, 101] : List UInt8)) = false from beq_eq_false_iff_ne.2 h4, AQ]
 by_cases h5 : k = Eu
 ·subst h5
  have h0 := o2 (.inr (.inl rfl))
  rw [if_pos rfl, show (Eu == ([117, 110, 97, 109, 101] : List UInt8)) = true from rfl, Ah, Y5, Option.bind_some]
  unfold O4
  rw [if_neg (by rw [h0]; decide), ← HM (by omega)]
  rfl
 rw [if_neg h5, show (k == ([117, 110, 97, 109, 101] : List UInt8)) = false from beq_eq_false_iff_ne.2 h5, AQ]
 by_cases h6 : k = Fz
 ·subst h6
  have h0 := o2 (.inr (.inr (.inl rfl)))
  rw [if_pos rfl, show (Fz == ([112, 97, 116, 104] : List UInt8)) = true from rfl, Ah, Yg, Option.bind_some]
  unfold O4
  rw [if_neg (by rw [h0]; decide), ← HM (by omega)]
  rfl
 rw [if_neg h6, show (k == ([112, 97, 116, 104] : List UInt8)) = false from beq_eq_false_iff_ne.2 h6, AQ]
 by_cases h7 : k = Fu
 ·subst h7
  have h0 := o2 (.inr (.inr (.inr rfl)))
  rw [if_pos rfl, show (Fu == ([108, 105, 110, 107, 112, 97, 116, 104] : List UInt8)) = true from rfl, Ah, Yu, Option.bind_some]
  unfold O4
  rw [if_neg (by rw [h0]; decide), ← HM (by omega)]
  rfl
 rw [if_neg h7, show (k == ([108, 105, 110, 107, 112, 97, 116, 104] : List UInt8)) = false from beq_eq_false_iff_ne.2 h7, AQ]
 by_cases h8 : k = Fy
 ·subst h8
  obtain ⟨t, ht⟩ := o3 rfl
  rw [if_pos rfl, show (Fy == ([109, 116, 105, 109, 101] : List UInt8)) = true from rfl, Ah]
  unfold Dg tP
  rw [ht, ← HM (by omega)]
  rfl
 rw [if_neg h8, show (k == ([109, 116, 105, 109, 101] : List UInt8)) = false from beq_eq_false_iff_ne.2 h8, AQ]
 rw [show R4 32 (m.Extra.length + ([(⟨k, v⟩ : Pr)] : List Pr).length) = true from QE (by simp; omega) (by simp; omega), BO, ← HM (by omega)]
 rfl
theorem Uu (s : Mem × Int) (p : Pr) : (BL s p).1.Extra.length ≤ s.1.Extra.length + 1 := by
 unfold BL
 repeat' split
 all_goals simp
def He (h : AJ) : Mem := ⟨h.Name, h.AU, h.Kind, h.Mode, h.BP, h.BQ, h.AN, h.AO, h.Aa, h.Ag, ⟨h.Time, 0⟩, [], []⟩
theorem Vd {h : AJ} {l : List Pr} (hl : l.length ≤ 1000) (ho : ∀ p ∈ l, XF p) : Dh h l = some ((l.foldl BL (He h, h.BU)).1, (l.foldl BL (He h, h.BU)).2, 0) := by
 unfold Dh
 have key : W (loop (Bn l) (UZ (He h) h.BU 0)) fun r => r = .inl ((l.foldl BL (He h, h.BU)).1.Extra, (l.foldl BL (He h, h.BU)).2, (l.foldl BL (He h, h.BU)).1.Name, (l.foldl BL (He h, h.BU)).1.AU, (l.foldl BL (He h, h.BU)).1.Kind, (l.foldl BL (He h, h.BU)).1.Mode, (l.foldl BL (He h, h.BU)).1.BP, (l.foldl BL (He h, h.BU)).1.BQ, (l.foldl BL (He h, h.BU)).1.AN, (l.foldl BL (He h, h.BU)).1.AO, (l.foldl BL (He h, h.BU)).1.Aa, (l.foldl BL (He h, h.BU)).1.Ag, (l.foldl BL (He h, h.BU)).1.Time.B6, (l.foldl BL (He h, h.BU)).1.Time.BA, (l.foldl BL (He h, h.BU)).1.Data) := by
  refine W.list (l := l) (fun (s : Mem × Int) (i : Nat) => UZ s.1 s.2 i) (fun s i => s = (l.take i).foldl BL (He h, h.BU) ∧ s.1.Extra.length ≤ i) ?_ ?_ (He h, h.BU) ⟨rfl, Nat.le_refl _⟩
  ·intro s hs
   obtain ⟨h1, _⟩ := hs
   rw [List.take_length] at h1
   rw [← h1]
   unfold Bn UZ
   simp only []
   rw [decide_eq_false (by omega), AQ]
   exact W.ret rfl
  ·intro s i hi hs
   obtain ⟨h1, h2⟩ := hs
   refine ⟨_, step_ok hi hl (ho _ (List.getElem_mem hi)) h2, BL s l[i], rfl, ?_, ?_⟩
   ·rw [FQ (List.getElem?_eq_getElem hi), List.foldl_append, ← h1]; rfl
   ·have := Uu s l[i]; omega
 exact (Yf (show loop (Bn l) _ = _ from key.eq)).trans rfl
section
variable {β : Type} {π : Mem × Int → β} {K : Gh} {F : Gh → β}
theorem GM (hO : ∀ s p, p.Key ≠ K → π (BL s p) = π s) : ∀ (l : List Pr) (s : Mem × Int), (∀ p ∈ l, p.Key ≠ K) → π (l.foldl BL s) = π s
 | [], s, _ => rfl
 | p :: l, s, h => by
  rw [List.foldl_cons, GM hO l _ fun q hq => h q (by simp [hq]), hO s p (h p (by simp))]
theorem Gs (hK : ∀ s p, p.Key = K → π (BL s p) = F p.Value) (hO : ∀ s p, p.Key ≠ K → π (BL s p) = π s) : ∀ (l : List Pr) (s : Mem × Int) (v : Gh), PZ l → (⟨K, v⟩ : Pr) ∈ l → π (l.foldl BL s) = F v
 | [], s, v, _, h => by cases h
 | p :: l, s, v, hs, h => by
  obtain ⟨h1, h2⟩ := List.pairwise_cons.1 hs
  rw [List.foldl_cons]
  rcases List.mem_cons.1 h with e | e
  ·rw [GM hO l _ fun q hq e2 => ?_, hK s p (by rw [← e]), ← e]
   have := h1 q hq
   rw [e2, ← e] at this
   exact absurd this (List.lt_irrefl _)
  ·exact Gs hK hO l _ v h2 e
end
theorem Nt : ∀ (l : List Pr) (s : Mem × Int), (l.foldl BL s).1.Extra = s.1.Extra ++ l.filter fun p => !Fm p.Key
 | [], s => by simp
 | p :: l, s => by
  rw [List.foldl_cons, Nt l]
  have e : (BL s p).1.Extra = s.1.Extra ++ if Fm p.Key = true then [] else [p] := by
   unfold BL Fm
   by_cases h1 : p.Key = JJ
   ·rw [if_pos h1, h1]; simp [JJ]
   rw [if_neg h1]
   by_cases h2 : p.Key = JN
   ·rw [if_pos h2, h2]; simp [JN]
   rw [if_neg h2]
   by_cases h3 : p.Key = F9
   ·rw [if_pos h3, h3]; simp [F9]
   rw [if_neg h3]
   by_cases h4 : p.Key = EO
   ·rw [if_pos h4, h4]; simp [EO]
   rw [if_neg h4]
   by_cases h5 : p.Key = Eu
   ·rw [if_pos h5, h5]; simp [Eu]
   rw [if_neg h5]
   by_cases h6 : p.Key = Fz
   ·rw [if_pos h6, h6]; simp [Fz]
   rw [if_neg h6]
   by_cases h7 : p.Key = Fu
   ·rw [if_pos h7, h7]; simp [Fu]
   rw [if_neg h7]
   by_cases h8 : p.Key = Fy
   ·rw [if_pos h8, h8]; simp [Fy]
   rw [if_neg h8]
   rw [show (p.Key == ([103, 105, 100] : List UInt8)) = false from beq_eq_false_iff_ne.2 h1, show (p.Key == ([117, 105, 100] : List UInt8)) = false from beq_eq_false_iff_ne.2 h2, show (p.Key == ([115, 105, 122, 101] : List UInt8)) = false from beq_eq_false_iff_ne.2 h3,
    show (p.Key == ([103, 110, 97, 109, 101] : List UInt8)) = false from beq_eq_false_iff_ne.2 h4, show (p.Key == ([117, 110, 97, 109, 101] : List UInt8)) = false from beq_eq_false_iff_ne.2 h5, show (p.Key == ([112, 97, 116, 104] : List UInt8)) = false from beq_eq_false_iff_ne.2 h6,
    show (p.Key == ([108, 105, 110, 107, 112, 97, 116, 104] : List UInt8)) = false from beq_eq_false_iff_ne.2 h7, show (p.Key == ([109, 116, 105, 109, 101] : List UInt8)) = false from beq_eq_false_iff_ne.2 h8]
   rfl
  rw [e, List.append_assoc, List.filter_cons]
  cases Fm p.Key <;> simp
theorem SQ (s : Mem × Int) (p : Pr) : (BL s p).1.Kind = s.1.Kind ∧ (BL s p).1.Mode = s.1.Mode ∧ (BL s p).1.Aa = s.1.Aa ∧ (BL s p).1.Ag = s.1.Ag ∧ (BL s p).1.Data = s.1.Data := by
 unfold BL
 repeat' split
 all_goals exact ⟨rfl, rfl, rfl, rfl, rfl⟩
theorem OO : ∀ (l : List Pr) (s : Mem × Int), (l.foldl BL s).1.Kind = s.1.Kind ∧ (l.foldl BL s).1.Mode = s.1.Mode ∧ (l.foldl BL s).1.Aa = s.1.Aa ∧ (l.foldl BL s).1.Ag = s.1.Ag ∧ (l.foldl BL s).1.Data = s.1.Data
 | [], s => ⟨rfl, rfl, rfl, rfl, rfl⟩
 | p :: l, s => by
  obtain ⟨a1, a2, a3, a4, a5⟩ := OO l (BL s p)
  obtain ⟨b1, b2, b3, b4, b5⟩ := SQ s p
  rw [List.foldl_cons]
  exact ⟨a1.trans b1, a2.trans b2, a3.trans b3, a4.trans b4, a5.trans b5⟩
theorem ZU (l : List Pr) (s : Mem × Int) : ((∀ p ∈ l, p.Key ≠ JJ) → (l.foldl BL s).1.BQ = s.1.BQ) ∧ ∀ v, PZ l → (⟨JJ, v⟩ : Pr) ∈ l → (l.foldl BL s).1.BQ = (GU v).1 := by
 have hO : ∀ (s : Mem × Int) (p : Pr), p.Key ≠ JJ → (BL s p).1.BQ = s.1.BQ := fun s p h => by
  unfold BL
  rw [if_neg h]
  repeat' split
  all_goals rfl
 refine ⟨GM (π := fun s => s.1.BQ) hO l s, fun v hs hm => Gs (π := fun s => s.1.BQ) (F := fun v => (GU v).1) (fun s p h => ?_) hO l s v hs hm⟩
 unfold BL; rw [if_pos h]
theorem Zs (l : List Pr) (s : Mem × Int) : ((∀ p ∈ l, p.Key ≠ JN) → (l.foldl BL s).1.BP = s.1.BP) ∧ ∀ v, PZ l → (⟨JN, v⟩ : Pr) ∈ l → (l.foldl BL s).1.BP = (GU v).1 := by
 have hO : ∀ (s : Mem × Int) (p : Pr), p.Key ≠ JN → (BL s p).1.BP = s.1.BP := fun s p h => by
  unfold BL
  rw [if_neg h]
  repeat' split
  all_goals rfl
 refine ⟨GM (π := fun s => s.1.BP) hO l s, fun v hs hm => Gs (π := fun s => s.1.BP) (F := fun v => (GU v).1) (fun s p h => ?_) hO l s v hs hm⟩
 unfold BL; rw [h, if_neg (by decide), if_pos rfl]
theorem Y9 (l : List Pr) (s : Mem × Int) : ((∀ p ∈ l, p.Key ≠ F9) → (l.foldl BL s).2 = s.2) ∧ ∀ v, PZ l → (⟨F9, v⟩ : Pr) ∈ l → (l.foldl BL s).2 = (GU v).1 := by
 have hO : ∀ (s : Mem × Int) (p : Pr), p.Key ≠ F9 → (BL s p).2 = s.2 := fun s p h => by
  unfold BL
  rw [if_neg h]
  repeat' split
  all_goals rfl
 refine ⟨GM (π := fun s => s.2) hO l s, fun v hs hm => Gs (π := fun s => s.2) (F := fun v => (GU v).1) (fun s p h => ?_) hO l s v hs hm⟩
 unfold BL; rw [h, if_neg (by decide), if_neg (by decide), if_pos rfl]
theorem Ws (l : List Pr) (s : Mem × Int) : ((∀ p ∈ l, p.Key ≠ EO) → (l.foldl BL s).1.AO = s.1.AO) ∧ ∀ v, PZ l → (⟨EO, v⟩ : Pr) ∈ l → (l.foldl BL s).1.AO = v := by
 have hO : ∀ (s : Mem × Int) (p : Pr), p.Key ≠ EO → (BL s p).1.AO = s.1.AO := fun s p h => by
  unfold BL
  rw [if_neg h]
  repeat' split
  all_goals rfl
 refine ⟨GM (π := fun s => s.1.AO) hO l s, fun v hs hm => Gs (π := fun s => s.1.AO) (F := fun v => v) (fun s p h => ?_) hO l s v hs hm⟩
 unfold BL; rw [h, if_neg (by decide), if_neg (by decide), if_neg (by decide), if_pos rfl]
theorem Xf (l : List Pr) (s : Mem × Int) : ((∀ p ∈ l, p.Key ≠ Eu) → (l.foldl BL s).1.AN = s.1.AN) ∧ ∀ v, PZ l → (⟨Eu, v⟩ : Pr) ∈ l → (l.foldl BL s).1.AN = v := by
 have hO : ∀ (s : Mem × Int) (p : Pr), p.Key ≠ Eu → (BL s p).1.AN = s.1.AN := fun s p h => by
  unfold BL
  rw [if_neg h]
  repeat' split
  all_goals rfl
 refine ⟨GM (π := fun s => s.1.AN) hO l s, fun v hs hm => Gs (π := fun s => s.1.AN) (F := fun v => v) (fun s p h => ?_) hO l s v hs hm⟩
 unfold BL; rw [h, if_neg (by decide), if_neg (by decide), if_neg (by decide), if_neg (by decide), if_pos rfl]
theorem Y8 (l : List Pr) (s : Mem × Int) : ((∀ p ∈ l, p.Key ≠ Fz) → (l.foldl BL s).1.Name = s.1.Name) ∧ ∀ v, PZ l → (⟨Fz, v⟩ : Pr) ∈ l → (l.foldl BL s).1.Name = v := by
 have hO : ∀ (s : Mem × Int) (p : Pr), p.Key ≠ Fz → (BL s p).1.Name = s.1.Name := fun s p h => by
  unfold BL
  rw [if_neg h]
  repeat' split
  all_goals rfl
 refine ⟨GM (π := fun s => s.1.Name) hO l s, fun v hs hm => Gs (π := fun s => s.1.Name) (F := fun v => v) (fun s p h => ?_) hO l s v hs hm⟩
 unfold BL; rw [h, if_neg (by decide), if_neg (by decide), if_neg (by decide), if_neg (by decide), if_neg (by decide), if_pos rfl]
theorem YM (l : List Pr) (s : Mem × Int) : ((∀ p ∈ l, p.Key ≠ Fu) → (l.foldl BL s).1.AU = s.1.AU) ∧ ∀ v, PZ l → (⟨Fu, v⟩ : Pr) ∈ l → (l.foldl BL s).1.AU = v := by
 have hO : ∀ (s : Mem × Int) (p : Pr), p.Key ≠ Fu → (BL s p).1.AU = s.1.AU := fun s p h => by
  unfold BL
  rw [if_neg h]
  repeat' split
  all_goals rfl
 refine ⟨GM (π := fun s => s.1.AU) hO l s, fun v hs hm => Gs (π := fun s => s.1.AU) (F := fun v => v) (fun s p h => ?_) hO l s v hs hm⟩
 unfold BL; rw [h, if_neg (by decide), if_neg (by decide), if_neg (by decide), if_neg (by decide), if_neg (by decide), if_neg (by decide), if_pos rfl]
theorem YY (l : List Pr) (s : Mem × Int) : ((∀ p ∈ l, p.Key ≠ Fy) → (l.foldl BL s).1.Time = s.1.Time) ∧ ∀ v, PZ l → (⟨Fy, v⟩ : Pr) ∈ l → (l.foldl BL s).1.Time = tP v := by
 have hO : ∀ (s : Mem × Int) (p : Pr), p.Key ≠ Fy → (BL s p).1.Time = s.1.Time := fun s p h => by
  unfold BL
  rw [if_neg h]
  repeat' split
  all_goals rfl
 refine ⟨GM (π := fun s => s.1.Time) hO l s, fun v hs hm => Gs (π := fun s => s.1.Time) (F := tP) (fun s p h => ?_) hO l s v hs hm⟩
 unfold BL; rw [h, if_neg (by decide), if_neg (by decide), if_neg (by decide), if_neg (by decide), if_neg (by decide), if_neg (by decide), if_neg (by decide), if_pos rfl]
end Go.Av.L
