/-
  ABS, 26: functions without a body that the model knows: internal/bytealg.IndexByteString.
-/
import Derived.Test.YtkdlmohhklimjaaGreatDoorAvIn
namespace Go.Av
open Go.RowKit
set_option linter.unusedVariables false

/-- where a byte stands first; -1: nowhere -/
def idxOf (s : List UInt8) (c : UInt8) : Int := match (List.range s.length).find? fun i => s[i]? == some c with | some i => (i : Int) | none => -1
def ext1 (h : AHeap) : List AVal → Option (AVal × AHeap)
  | [.str s, .int .u8 c] => if 0 ≤ c ∧ c ≤ 255 then some (.int .i64 (idxOf s (UInt8.ofNat c.toNat)), h) else none
  | _ => none
def extT (l : List (Nat × Nat)) (f : Nat) (g : Gd) (h : AHeap) (args : List AVal) : Option (AVal × AHeap) :=
  match l.lookup f with
  | some 1 => ext1 h args
  | _ => none
/-- it is such a function -/
def isExt1 (P : Program) (f : Nat) : Bool :=
  match P.funcs[f]? with
  | some fn => fn.name == "internal/bytealg.IndexByteString" && fn.body.isNone
  | none => false
theorem find_same {α : Type} {p q : α → Bool} : ∀ (l : List α), (∀ x ∈ l, p x = q x) → l.find? p = l.find? q
  | [], _ => rfl
  | x :: l, h => by rw [List.find?_cons, List.find?_cons, h x (by simp), find_same l fun y hy => h y (by simp [hy])]
theorem idx_eq (s : List UInt8) (c : UInt8) : ((List.range (⟨⟨s⟩⟩ : ByteArray).size).find? fun i => (⟨⟨s⟩⟩ : ByteArray)[i]! == c) = (List.range s.length).find? fun i => s[i]? == some c := by
  refine find_same _ fun i hi => ?_
  have hi : i < s.length := by have := List.mem_range.1 hi; exact this
  have : (⟨⟨s⟩⟩ : ByteArray)[i]! = s[i] := getElem!_pos (⟨⟨s⟩⟩ : ByteArray) i hi
  rw [this, List.getElem?_eq_getElem hi]
  rfl
theorem ext1_ok {P : Program} {G : Nat → Option (List AVal)} {f : Nat} (hx : isExt1 P f = true) (hn : ∀ fn, P.funcs[f]? = some fn → Extern.findNext fn = none ∧ Extern.find fn = some Extern.BytealgIndexByte.indexByte) :
    CallOk P G fun g h f' args => if f' = f then ext1 h args else none := by
  intro g h f' args v h' hc
  dsimp only at hc
  split at hc
  · rename_i e; subst e
    unfold ext1 at hc
    split at hc
    · rename_i s c
      split at hc
      · rename_i hr
        simp only [Option.some.injEq, Prod.mk.injEq] at hc
        obtain ⟨rfl, rfl⟩ := hc
        refine ⟨Keeps.refl _ _, fun w0 m w cargs hz r hv => ?_⟩
        unfold isExt1 at hx
        split at hx
        · rename_i fn hfn
          simp only [Bool.and_eq_true, beq_iff_eq, Option.isNone_iff_eq_none] at hx
          obtain ⟨e1, e2⟩ := hn fn hfn
          obtain ⟨a, b, hab⟩ : ∃ a b, cargs = #[a, b] := by
            have := hv.1
            match cargs, this with
            | ⟨[a, b]⟩, _ => exact ⟨a, b, rfl⟩
          subst hab
          have ha := (hv.2 0 (.str s) a rfl rfl).inv_str
          have hb := (hv.2 1 (.int .u8 c) b rfl rfl).inv_int
          subst ha; subst hb
          have h1 : (Extern.BytealgIndexByte.indexByte #[.string ⟨⟨s⟩⟩, .int .u8 c]).run P w = .ok (.int .i64 (idxOf s (UInt8.ofNat c.toNat))) w := by
            show Sem.run P (do
              let b ← Extern.Bytes.bytesOf (.string ⟨⟨s⟩⟩)
              let c ← Extern.Bytes.asByte (.int .u8 c)
              match (List.range b.size).find? fun i => b[i]! == c with
              | some i => pure (goInt i)
              | none => pure (goInt (-1))) w = _
            simp only [Extern.Bytes.bytesOf, Extern.Bytes.asByte, Sem.run_bind, Sem.run_pure, Result.andThen_ok]
            rw [idx_eq s c.toNat.toUInt8]
            unfold idxOf
            rw [show UInt8.ofNat c.toNat = c.toNat.toUInt8 from rfl]
            cases (List.range s.length).find? fun i => s[i]? == some c.toNat.toUInt8 <;> rfl
          have hrun : (callFunc f' #[.string ⟨⟨s⟩⟩, .int .u8 c]).run P w = .ok (.value (.int .i64 (idxOf s (UInt8.ofNat c.toNat)))) w := by
            unfold callFunc
            simp only [Sem.run_bind, program, Sem.run, Result.andThen_ok, hfn]
            rw [if_neg (by rw [hx.1]; decide), if_pos (by rw [hx.2]; rfl)]
            simp only [e1, e2, Sem.run_bind]
            rw [show Sem.run P (Go.mark (Mark.extern f')) w = .ok () w from rfl]
            simp only [Result.andThen_ok, h1, Sem.run_pure]
          unfold Invokes
          rw [hrun]
          exact ⟨m, Inj.ext.refl _ _, r, .int _ _⟩
        · cases hx
      · cases hc
    · cases hc
  · cases hc
/-- where ks has a 3, l has that function -/
def three (ks : List Nat) (l : List (Nat × Nat)) : Nat → Bool
  | 0 => true
  | n + 1 => three ks l n && (!(Nat.beq (lookN ks n) 3) || (l.lookup n == some 1))
theorem three_at {ks : List Nat} {l : List (Nat × Nat)} : ∀ {n : Nat}, three ks l n = true → ∀ f, f < n → lookN ks f = 3 → l.lookup f = some 1
  | 0, _, f, hf, _ => by omega
  | n + 1, h, f, hf, h3 => by
    simp only [three, Bool.and_eq_true] at h
    by_cases e : f = n
    · subst e
      have := h.2
      rw [h3] at this
      simpa using this
    · exact three_at h.1 f (by omega) h3
theorem cfgOk_ext {C : Cfg} {ks : List Nat} {l : List (Nat × Nat)} (hk : C.kind = lookN ks) (hmix : C.P.follows .mixedOrders = true) (hall : okAll C ks.length = true) (hro : C.rok = rokOf C.P C.plan) (hx : C.ext = extT l) (h3 : three ks l ks.length = true)
    (he : ∀ f, l.lookup f = some 1 → isExt1 C.P f = true ∧ ∀ fn, C.P.funcs[f]? = some fn → Extern.findNext fn = none ∧ Extern.find fn = some Extern.BytealgIndexByte.indexByte) : CfgOk C := by
  refine ⟨hmix, fun f fn c hkf h1 h2 => ?_, fun f a b hr => ?_, fun f hf => ?_⟩
  · have hne : C.kind f ≠ 0 := by omega
    refine okAll_at hall ?_ hne h1 h2
    rcases Nat.lt_or_ge f ks.length with h | h
    · exact h
    · rw [hk, lookN_ge h] at hne; exact absurd rfl hne
  · rw [hro] at hr
    simp only [rokOf, Bool.and_eq_true] at hr
    exact ⟨(codeOk_same (C := C) (C' := cfg0 C.P C.plan) rfl rfl f a).trans hr.1.1, (codeOk_same (C := C) (C' := cfg0 C.P C.plan) rfl rfl f b).trans hr.1.2, hr.2.1, hr.2.2⟩
  · have hlt : f < ks.length := by
      rcases Nat.lt_or_ge f ks.length with h | h
      · exact h
      · rw [hk, lookN_ge h] at hf; cases hf
    have hl := three_at h3 f hlt (by rw [← hk]; exact hf)
    obtain ⟨e1, e2⟩ := he f hl
    have := ext1_ok (G := C.glob) e1 e2
    rw [hx]
    have e : (fun g h f' args => if f' = f then extT l f g h args else none) = fun (g : Gd) h f' args => if f' = f then ext1 h args else none := by
      funext g h f' args
      simp only [extT, hl]
    rw [e]; exact this
/-- the model of it -/
def X_IndexByte (s : List UInt8) (c : Int) : Option Int := if 0 ≤ c ∧ c ≤ 255 then some (idxOf s (UInt8.ofNat c.toNat)) else none
theorem runs3 {C : Cfg} {l : List (Nat × Nat)} {g : Gd} {h : AHeap} {f : Nat} {s : List UInt8} {c n : Int} (hk : C.kind f = 3) (hx : C.ext = extT l) (hl : l.lookup f = some 1) (hm : X_IndexByte s c = some n) : Runs C g h f [.str s, .int .u8 c] (.int .i64 n) h := by
  refine ⟨1, ?_⟩
  show callA C (selfN C 0) g h f _ = _
  unfold callA
  rw [hk]
  simp only [hx, extT, hl, ext1]
  unfold X_IndexByte at hm
  split at hm
  · rename_i hr; injection hm with hm; subst hm; rw [if_pos hr]
  · cases hm
end Go.Av
