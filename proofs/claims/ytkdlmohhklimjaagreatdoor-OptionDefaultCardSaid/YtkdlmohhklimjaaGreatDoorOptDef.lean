/-
  OptionDefault: of blank lines and remarks nothing is said.
-/
import Derived.Test.YtkdlmohhklimjaaGreatDoorKAll
import Derived.Test.YtkdlmohhklimjaaGreatDoorAvNum
import Derived.Test.YtkdlmohhklimjaaGreatDoorAvSm
namespace Go.Av.L
open Go.Av Go.Lib
set_option linter.unusedVariables false
set_option linter.unusedSimpArgs false

theorem cut_at {a r : List UInt8} (h : (10 : UInt8) ∉ a) : Lib.cut (a ++ 10 :: r) [10] = (a, r, true) := by
  have hi : Lib.index (a ++ 10 :: r) [10] = (a.length : Int) := by
    refine Lib.index_first (by simp) ?_ fun j hj => ?_
    · unfold Lib.occAt
      simp [List.isPrefixOf]
    · unfold Lib.occAt
      rw [List.drop_append_of_le_length (by omega), List.drop_eq_getElem_cons hj]
      have : (10 : UInt8) ≠ a[j] := fun e => h (by rw [e]; exact List.getElem_mem hj)
      rw [List.cons_append]
      simp [List.isPrefixOf, this]
  unfold Lib.cut
  rw [hi, if_pos (by omega)]
  simp
theorem in_ok {b : UInt8} {x : List UInt8} (hx : x.length ≤ 1000) : W (M_boulterref13_In (b.toNat : Int) x) fun r => r = false → b ∉ x := by
  unfold M_boulterref13_In
  refine W.bind (W.list (l := x) (Q := fun o => ∀ r, (match o with | Sum.inl _ => some false | .inr x2 => some x2) = some r → (r = false → b ∉ x)) (enc := fun (_ : Unit) i => (i : Int)) (fun _ i => b ∉ x.take i) ?_ ?_ () (by simp) |>.mono ?_)
  · intro _ hp
    unfold M_boulterref13_In_L0
    simp only []
    rw [iteB_dec, if_neg (by omega)]
    refine W.ret ?_
    intro r hr _
    simpa using hp
  · intro _ i hi hp
    unfold M_boulterref13_In_L0
    simp only []
    rw [iteB_dec, if_pos (by omega), ixS_get hi, Option.bind_some, byte_eq b.toNat_lt, UInt8.ofNat_toNat, iteB_beq]
    by_cases hb : x[i] = b
    · rw [if_pos hb]
      refine W.ret ?_
      intro r hr hf
      simp only [Option.some.injEq] at hr
      rw [← hr] at hf
      cases hf
    · rw [if_neg hb]
      refine W.ret ⟨(), ek64 (by omega), ?_⟩
      rw [take_snoc (List.getElem?_eq_getElem hi), List.mem_append, List.mem_singleton]
      rintro (h | h)
      · exact hp h
      · exact hb h.symm
  · intro o ho
    rcases o with _ | r
    · exact W.ret (ho false rfl)
    · exact W.ret (ho r rfl)

def lin (x : List UInt8) : List UInt8 := 35 :: (x ++ [10, 10])
def txt (l : List (List UInt8)) : List UInt8 := l.flatMap lin
def GoodL (l : List (List UInt8)) : Prop := ∀ x ∈ l, x.length ≤ 60 ∧ (10 : UInt8) ∉ x
theorem txt_len {l : List (List UInt8)} (h : GoodL l) : (txt l).length ≤ 63 * l.length := by
  induction l with
  | nil => simp [txt]
  | cons x l ih =>
    have h1 := (h x List.mem_cons_self).1
    have h2 := ih fun y hy => h y (List.mem_cons_of_mem _ hy)
    simp only [txt, List.flatMap_cons, List.length_append, lin, List.length_cons] at h2 ⊢
    simp only [List.length_nil]
    omega
theorem line_none {x : S_option_reading} {s : List UInt8} {at_ : Int} (h : s = [] ∨ ∃ t, s = 35 :: t) : M_option_reading_line x s at_ = some (⟨0, 0⟩ : S_option_flaw) := by
  rcases h with rfl | ⟨t, rfl⟩
  · rfl
  · unfold M_option_reading_line
    rw [show ((35 :: t : List UInt8) == []) = false from rfl, iteB_false, ixS_head]
    rfl
theorem parse_ok {l : List (List UInt8)} (h : GoodL l) (hl : l.length ≤ 20) {c : S_option_Config} (hc : M_option_Default = some c) : M_option_Parse (txt l) = some (c, 0, 0) := by
  refine W.eq ?_
  unfold M_option_Parse
  have h1 := txt_len h
  rw [iteB_dec, if_neg (by omega), hc]
  refine W.bind (W.ret (W.bind (W.loop (inv := fun s => ∃ l', GoodL l' ∧ l'.length ≤ 20 ∧ (s.1 = txt l' ∨ s.1 = 10 :: txt l')) (μ := fun s => s.1.length) ⟨l, h, hl, .inl rfl⟩ (Q := fun o => ∃ a, o = .inl a) ?_ |>.mono ?_)))
  · rintro ⟨x2, x3⟩ ⟨l', g1, g2, g3⟩
    have h2 := txt_len g1
    unfold M_option_Parse_L0
    simp only [] at g3 ⊢
    have hlen : x2.length ≤ 4294967280 := by rcases g3 with e | e <;> rw [e] <;> (try rw [List.length_cons]) <;> omega
    have hd : x2 = [] ∨ ∃ a r, x2 = a ++ 10 :: r ∧ (10 : UInt8) ∉ a ∧ (a = [] ∨ ∃ t, a = 35 :: t) ∧ (∃ l'', GoodL l'' ∧ l''.length ≤ 20 ∧ (r = txt l'' ∨ r = 10 :: txt l'')) := by
      rcases g3 with e | e
      · cases l' with
        | nil => exact .inl e
        | cons x l' =>
          have hx := g1 x List.mem_cons_self
          refine .inr ⟨35 :: x, 10 :: txt l', by rw [e]; simp [txt, lin], ?_, .inr ⟨x, rfl⟩, l', fun y hy => g1 y (List.mem_cons_of_mem _ hy), by simp at g2; omega, .inr rfl⟩
          simpa using hx.2
      · exact .inr ⟨[], txt l', by rw [e]; rfl, by simp, .inl rfl, l', g1, g2, .inl rfl⟩
    rcases hd with rfl | ⟨a, r, e, ha, hd, hr⟩
    · exact W.ret ⟨_, rfl⟩
    · have hcut : Lib.cut x2 [10] = (a, r, true) := by rw [e]; exact cut_at ha
      rw [show (x2 == ([] : List UInt8)) = false by rw [e]; cases a <;> rfl, Bool.not_false, iteB_true, hcut]
      refine W.need (decide_eq_true hlen) ?_
      rw [line_none hd, Option.bind_some]
      refine W.bind (W.ret (W.bind (W.of (eqG_self (by kernel_rfl) (by kernel_rfl)) ?_)))
      refine W.ret ⟨hr, ?_⟩
      show r.length < x2.length
      rw [e]
      simp
      omega
  · rintro o ⟨⟨a, b⟩, rfl⟩
    exact W.ret rfl

theorem equal_nil {c : S_option_Config} (h1 : c.Includes = []) (h2 : c.Excludes = []) (h3 : c.Exprs = []) : M_option_Equal c c = some true := by
  have e1 : M_slices_Equal_boulter_pattern_Rule_boulter_pattern_Rule [] [] = some true := by
    unfold M_slices_Equal_boulter_pattern_Rule_boulter_pattern_Rule
    rw [show (((([] : List S_pattern_Rule).length : Int) != (([] : List S_pattern_Rule).length : Int)) = false) from rfl, iteB_false, loop_end (r := .inl ()) rfl]
    rfl
  have e2 : M_slices_Equal_boulter_rewrite_Expr_boulter_rewrite_Expr [] [] = some true := by
    unfold M_slices_Equal_boulter_rewrite_Expr_boulter_rewrite_Expr
    rw [show (((([] : List S_rewrite_Expr).length : Int) != (([] : List S_rewrite_Expr).length : Int)) = false) from rfl, iteB_false, loop_end (r := .inl ()) rfl]
    rfl
  unfold M_option_Equal
  rw [h1, h2, h3, e1, e2]
  simp only [Option.bind_some, iteB_true, beq_self_eq_true, Bool.and_true]
  refine W.eq (W.bind (W.bind (W.of (eqG_self (by kernel_rfl) (by kernel_rfl)) ?_)))
  exact W.ret (W.ret rfl)
theorem lawOptionDefault (p0 : List (List UInt8)) (k0 : okL okT p0) : M_boulterlaw32_OptionDefault p0 = some true := by
  refine W.eq ?_
  unfold M_boulterlaw32_OptionDefault
  refine W.iteP (fun _ => W.ret rfl) fun hn => ?_
  have hl : p0.length ≤ 20 := by omega
  refine W.bind (W.list (l := p0) (Q := fun o => o = .inr true ∨ GoodL p0 ∧ o = .inl (txt p0)) (enc := fun (s : List UInt8) i => (s, (i : Int))) (fun s i => GoodL (p0.take i) ∧ s = txt (p0.take i)) ?_ ?_ [] ⟨fun x hx => by simp at hx, rfl⟩ |>.mono ?_)
  · rintro s ⟨h1, h2⟩
    unfold M_boulterlaw32_OptionDefault_L0
    simp only []
    rw [iteB_dec, if_neg (by omega)]
    refine W.ret (.inr ?_)
    rw [List.take_length] at h1 h2
    exact ⟨h1, by rw [h2]⟩
  · rintro s i hi ⟨h1, h2⟩
    unfold M_boulterlaw32_OptionDefault_L0
    simp only []
    rw [iteB_dec, if_pos (by omega), ixV_get hi, Option.bind_some]
    have hs : s.length ≤ 1260 := by
      have := txt_len h1
      rw [← h2] at this
      rw [List.length_take] at this
      omega
    refine W.bind (W.iteP (fun _ => W.ret (W.ret (.inl rfl))) fun h60 => ?_)
    refine W.bind ((in_ok (b := 10) (x := p0[i]) (by omega)).mono fun r hr => ?_)
    refine W.ret ?_
    cases r with
    | true => exact W.ret (.inl rfl)
    | false =>
      have hx := hr rfl
      refine W.need (decide_eq_true (by simp; omega)) (W.need (decide_eq_true (by simp; omega)) (W.need (decide_eq_true (by simp; omega)) (W.ret ⟨_, Prod.ext rfl (ek64 (by omega)), ?_, ?_⟩)))
      · rw [take_snoc (List.getElem?_eq_getElem hi)]
        intro y hy
        rw [List.mem_append, List.mem_singleton] at hy
        rcases hy with hy | rfl
        · exact h1 y hy
        · exact ⟨by omega, hx⟩
      · rw [take_snoc (List.getElem?_eq_getElem hi), h2]
        simp only [txt, lin, List.flatMap_append, List.flatMap_cons, List.flatMap_nil, List.append_nil, List.cons_append, List.append_assoc, List.nil_append]
  · rintro o (rfl | ⟨hg, rfl⟩)
    · exact W.ret rfl
    · simp only []
      rw [parse_ok hg hl rfl]
      have hd : M_option_Default = some ⟨[], [], [], false, false, 0, false, ⟨0, 0⟩, 0, 0, 4096, 65536, 4096⟩ := rfl
      simp only [Option.bind_some, hd, iteB_true, beq_self_eq_true]
      rw [equal_nil rfl rfl rfl]
      exact W.ret rfl
end Go.Av.L
