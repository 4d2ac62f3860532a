/-
  TREE: the document's memo of places.
-/
import Derived.Test.YtmjljpnalhknfaaDoorTreePlain
import Derived.Test.YtmjljpnalhknfaaDoorTreeM0
import Derived.Test.YtmjljpnalhknfaaDoorLref18x1
namespace Go.Abs.L
open Go.Abs
set_option linter.unusedVariables false
set_option linter.unusedSimpArgs false

def bools (bs : List Bool) : List AVal := bs.map AVal.bool
@[simp] theorem bools_len (bs : List Bool) : (bools bs).length = bs.length := by simp [bools]
theorem bools_one (bs : List Bool) : (bools bs).all AVal.one = true := by
  rw [List.all_eq_true]; intro x hx
  obtain ⟨b, _, rfl⟩ := List.mem_map.1 hx
  rfl
theorem bools_get {bs : List Bool} {i : Nat} {b : Bool} (h : bs[i]? = some b) : (bools bs)[i]? = some (.bool b) := by simp [bools, h]
theorem bools_set (bs : List Bool) (i : Nat) (b : Bool) : (bools bs).set i (.bool b) = bools (bs.set i b) := by simp [bools, List.map_set]
theorem bools_mk {n : Nat} (h : n ≤ 1099511627776) : mkL 1 [.bool false] (n : Int) (n : Int) = some (bools (List.replicate n false)) := by
  unfold mkL
  rw [if_pos (by omega), Int.toNat_natCast, repeatA_one]
  simp [bools]
abbrev tB : TypeId := 4
abbrev tR : TypeId := 45
abbrev tM : TypeId := 79
/-- a row of booleans that is ours -/
structure Bo (h : AHeap) (Y : Nat) (bs : List Bool) : Prop where
  get : h.get Y = some (.cells (some tB) 2 (bools bs))
theorem bo_ix {L i : Nat} (hi : i < L) (Y : Nat) : ixL (⟨some (Y, 0), L⟩ : Sl) 1 (i : Int) = some (Y, i) := by
  have : ixL (⟨some (Y, 0), L⟩ : Sl) 1 (i : Int) = some (Y, 0 + i * 1) := ixA_nat hi
  rw [this]; congr 2; omega
theorem Bo.ld {h : AHeap} {Y : Nat} {bs : List Bool} (b : Bo h Y bs) {i : Nat} {v : Bool} (hv : bs[i]? = some v) : ldB h (Y, i) = some v := ldB_of b.get (by simp) (bools_get hv)
theorem Bo.st {g : Gd} {h : AHeap} {Y : Nat} {bs : List Bool} (b : Bo h Y bs) (hm : g.may Y = true) {i : Nat} (hi : i < bs.length) (v : Bool) : ∃ h', st g h (Y, i) [.bool v] = some h' ∧ Bo h' Y (bs.set i v) ∧ Only (some Y) h h' ∧ h'.size = h.size := by
  have hz := h.lt_of_get b.get
  refine ⟨_, st_of b.get hm (by simp; omega) rfl, ⟨?_⟩, Only.set b.get, rfl⟩
  rw [AHeap.get_set_same _ _ hz, splice_one (by simp; omega), bools_set]
/-- 'add' -/
theorem add_row {g : Gd} {h : AHeap} {Y Z L : Nat} {ys zs : List Bool} (by_ : Bo h Y ys) (bz : Bo h Z zs) (hm : g.may Y = true) (ly : ys.length = L) (lz : zs.length = L) (hL : L ≤ 1000000) :
    W (M_boulterref18_add g h ⟨some (Y, 0), L⟩ ⟨some (Z, 0), L⟩) fun r => Bo r.2 Y ((List.range L).map fun i => ys.getD i false || zs.getD i false) ∧ Only (some Y) h r.2 := by
  unfold M_boulterref18_add
  let V : Nat → List Bool := fun k => (List.range L).map fun i => if i < k then ys.getD i false || zs.getD i false else ys.getD i false
  refine W.bind (W.mono (W.loop (fun st => ∃ k : Nat, st.1 = k ∧ k ≤ L ∧ Bo st.2 Y (V k) ∧ Only (some Y) h st.2) (fun st => L - st.1.toNat) ⟨0, rfl, by omega, ?_, Only.refl _ _⟩ ?_ (Q := fun hh => Bo hh Y (V L) ∧ Only (some Y) h hh)) ?_)
  · have : V 0 = ys := by
      apply List.ext_getElem (by simp [V, ly])
      intro i h1 h2
      simp [V, h2]
    rw [this]; exact by_
  · rintro ⟨_, hh⟩ ⟨k, rfl, hk, bv, o⟩
    dsimp only at bv o
    unfold M_boulterref18_add_L0
    dsimp only
    refine W.iteP (fun hlt => ?_) (fun hge => ?_)
    · have hlt : k < L := by omega
      have vk : (V k)[k]? = some (ys.getD k false) := by simp [V, hlt]
      rw [bo_ix hlt Y]
      simp only [Option.bind_some, bv.ld vk]
      rw [bo_ix hlt Z]
      have hz : ∃ z, ldB hh (Z, k) = some z ∧ (ys.getD k false || z) = (ys.getD k false || zs.getD k false) := by
        by_cases he : Z = Y
        · subst he
          refine ⟨_, bv.ld vk, ?_⟩
          have := bz.get.symm.trans by_.get
          have e : bools zs = bools ys := by
            have := Option.some.inj this
            injection this
          have e2 : zs = ys := by
            have h3 := congrArg (List.map fun v => match v with | AVal.bool b => b | _ => false) e
            simpa [bools, Function.comp_def] using h3
          rw [e2]
        · have hzz : zs[k]? = some (zs.getD k false) := by simp [lz, hlt]
          exact ⟨_, (Bo.mk (o.keep bz.get (by simpa using he))).ld hzz, rfl⟩
      obtain ⟨z, ez, e2⟩ := hz
      simp only [Option.bind_some, ez]
      rw [show (iteB (ys.getD k false) (some true) (some z) : Option Bool) = some (ys.getD k false || z) from iteB_or _ _]
      simp only [Option.bind_some]
      rw [e2]
      obtain ⟨h2, es, b2, o2, z2⟩ := bv.st (g := g) hm (i := k) (by simp [V]; exact hlt) (ys.getD k false || zs.getD k false)
      rw [es]
      simp only [Option.bind_some]
      rw [ek64 (by omega)]
      refine W.ret ⟨⟨k + 1, rfl, by omega, ?_, o.trans o2⟩, by dsimp only; omega⟩
      dsimp only
      have : (V k).set k (ys.getD k false || zs.getD k false) = V (k + 1) := by
        apply List.ext_getElem (by simp [V])
        intro i h1 h2
        rw [List.getElem_set]
        by_cases hi : k = i
        · subst hi; simp [V]
        · rw [if_neg hi]
          simp only [V, List.getElem_map, List.getElem_range]
          by_cases h3 : i < k
          · rw [if_pos h3, if_pos (by omega)]
          · rw [if_neg h3, if_neg (by omega)]
      rw [← this]; exact b2
    · have : k = L := by omega
      subst this
      exact W.ret ⟨bv, o⟩
  · rintro hh ⟨b, o⟩
    refine W.ret ⟨?_, o⟩
    have : V L = (List.range L).map fun i => ys.getD i false || zs.getD i false := by
      apply List.map_congr_left
      intro i hi
      rw [if_pos (List.mem_range.1 hi)]
    rw [← this]; exact b
end Go.Abs.L
namespace Go.Abs.L
open Go.Abs
set_option linter.unusedVariables false
set_option linter.unusedSimpArgs false

theorem mem_bytes (n : Nd) {b : Nat} (hb : b < 256) : (∃ x ∈ bytesN n, x.toNat = b) ↔ hasB n b = true := by
  unfold bytesN
  constructor
  · rintro ⟨x, hx, rfl⟩
    obtain ⟨k, hk, rfl⟩ := List.mem_map.1 hx
    obtain ⟨h1, h2⟩ := List.mem_filter.1 hk
    have h1 := List.mem_range.1 h1
    have : (UInt8.ofNat k).toNat = k % 256 := UInt8.toNat_ofNat'
    rw [this, Nat.mod_eq_of_lt h1]; exact h2
  · intro h
    refine ⟨UInt8.ofNat b, List.mem_map.2 ⟨b, List.mem_filter.2 ⟨List.mem_range.2 hb, h⟩, rfl⟩, ?_⟩
    have : (UInt8.ofNat b).toNat = b % 256 := UInt8.toNat_ofNat'
    omega
theorem in_eq (h : AHeap) (n : Nd) {b : Nat} (hb : b < 256) : M_boulterref13_In h (b : Int) (bytesN n) = some (hasB n b) := by
  unfold M_boulterref13_In
  have hl : (bytesN n).length ≤ 256 := bytesK_len n 256
  refine W.eq (W.bind (W.mono (Q := fun o => (o = .inl () ∧ ∀ x ∈ bytesN n, x.toNat ≠ b) ∨ (o = .inr true ∧ ∃ x ∈ bytesN n, x.toNat = b)) (W.loop (fun st => ∃ i : Nat, st = i ∧ i ≤ (bytesN n).length ∧ ∀ j x, j < i → (bytesN n)[j]? = some x → x.toNat ≠ b) (fun st => (bytesN n).length - st.toNat) ⟨0, rfl, by omega, fun j x h => by omega⟩ ?_) ?_))
  · rintro _ ⟨i, rfl, hi, no⟩
    unfold M_boulterref13_In_L0
    dsimp only
    refine W.iteP (fun hlt => ?_) (fun hge => ?_)
    · have hlt : i < (bytesN n).length := by omega
      obtain ⟨x, ex⟩ : ∃ x, (bytesN n)[i]? = some x := ⟨_, List.getElem?_eq_getElem hlt⟩
      rw [ixS_nat ex]
      simp only [Option.bind_some]
      rw [iteB_beq]
      split
      · rename_i he
        exact W.ret (.inr ⟨rfl, x, List.mem_of_getElem? ex, by omega⟩)
      · rename_i he
        rw [ek64 (by omega)]
        refine W.ret ⟨⟨i + 1, rfl, by omega, fun j y hj hy => ?_⟩, by omega⟩
        by_cases h2 : j < i
        · exact no j y h2 hy
        · have : j = i := by omega
          subst this
          rw [ex] at hy; cases hy
          omega
    · refine W.ret (.inl ⟨rfl, fun x hx => ?_⟩)
      obtain ⟨j, hj, rfl⟩ := List.getElem_of_mem hx
      exact no j _ (by omega) (List.getElem?_eq_getElem hj)
  · rintro o (⟨rfl, h2⟩ | ⟨rfl, h2⟩)
    · refine W.ret ?_
      symm
      rw [Bool.eq_false_iff]
      intro h3
      obtain ⟨x, hx, e⟩ := (mem_bytes n hb).2 h3
      exact h2 x hx e
    · exact W.ret ((mem_bytes n hb).1 h2).symm

/-- the memo's rows turn, and what is new; all else stays -/
def MemoTy : AObj → Prop
  | .cells (some e) _ _ => e = tR ∨ e = tM
  | _ => False
structure Fix (h h' : AHeap) : Prop where
  size : h.size ≤ h'.size
  get : ∀ id o, h.get id = some o → ¬ MemoTy o → h'.get id = some o
theorem Fix.refl (h : AHeap) : Fix h h := ⟨Nat.le_refl _, fun _ _ h _ => h⟩
theorem Fix.trans {a b c : AHeap} (h : Fix a b) (k : Fix b c) : Fix a c := ⟨Nat.le_trans h.size k.size, fun id o h1 h2 => k.get id o (h.get id o h1 h2) h2⟩
theorem Fix.of {h h' : AHeap} (k : Only none h h') : Fix h h' := ⟨k.size, fun id o h1 _ => k.keep h1 (by simp)⟩
theorem Fix.new {h h1 h2 : AHeap} {Y : Nat} (k : Fix h h1) (o : Only (some Y) h1 h2) (hy : h.size ≤ Y) : Fix h h2 :=
  ⟨Nat.le_trans k.size o.size, fun id x h3 h4 => o.keep (k.get id x h3 h4) (by have := h.lt_of_get h3; simp; omega)⟩
theorem memo_none (stt : Nat) (cs : List AVal) : ¬ MemoTy (.cells none stt cs) := fun h => h
theorem memo_bool (stt : Nat) (cs : List AVal) : ¬ MemoTy (.cells (some tB) stt cs) := fun h => by
  rcases h with h | h
  · exact absurd h (by decide)
  · exact absurd h (by decide)
theorem Fix.bo {h h' : AHeap} (k : Fix h h') {Y : Nat} {bs : List Bool} (b : Bo h Y bs) : Bo h' Y bs := ⟨k.get _ _ b.get (memo_bool _ _)⟩

structure Mk where
  fl : Nat
  m : Nat
  R : Nat
  sl : Sl
  root : Int
  ns : List Nd
  s : List UInt8
  /-- rows that are under way yet -/
  U : Nat → Prop
abbrev Mk.g (c : Mk) : Gd := ⟨c.fl, []⟩
/-- a row of places is right -/
def Mk.EndsOk (c : Mk) (h : AHeap) (a i : Nat) (q : Sl) : Prop :=
  ∃ Y bs, q = ⟨some (Y, 0), c.s.length + 1⟩ ∧ bs.length = c.s.length + 1 ∧ Bo h Y bs ∧ ¬ c.U Y ∧ ∀ j, j ≤ c.s.length → (bs[j]? = some true ↔ Mt c.ns c.s a 0 i j)
theorem Mk.EndsOk.fix {c : Mk} {h h' : AHeap} {a i : Nat} {q : Sl} (e : c.EndsOk h a i q) (k : Fix h h') : c.EndsOk h' a i q := by
  obtain ⟨Y, bs, h1, h2, h3, h0, h4⟩ := e
  exact ⟨Y, bs, h1, h2, k.bo h3, h0, h4⟩
/-- a node's rows -/
def Mk.RowOk (c : Mk) (h : AHeap) (a : Nat) (r : Sl) : Prop :=
  r = ⟨none, 0⟩ ∨ ∃ (X : Nat) (qs : List Sl), r = ⟨some (X, 0), c.s.length + 1⟩ ∧ c.fl ≤ X ∧ h.get X = some (.cells (some tR) 2 (qs.map Sl.v)) ∧ qs.length = c.s.length + 1 ∧ ∀ (i : Nat) (q : Sl), qs[i]? = some q → q = (⟨none, 0⟩ : Sl) ∨ c.EndsOk h a i q
structure Mk.I (c : Mk) (h : AHeap) : Prop where
  cell : h.get c.m = some (.cells none 2 [.slice (some (c.R, 0)) c.ns.length])
  own : Own ⟨0, []⟩ h 37 7 c.sl (c.ns.flatMap refC)
  rows : ∃ rs : List Sl, rs.length = c.ns.length ∧ h.get c.R = some (.cells (some tM) 2 (rs.map Sl.v)) ∧ (∀ (a : Nat) (r : Sl), rs[a]? = some r → c.RowOk h a r) ∧
    ∀ (a b X n p : Nat), rs[a]? = some (⟨some (X, 0), n⟩ : Sl) → rs[b]? = some (⟨some (X, 0), p⟩ : Sl) → a = b
structure Mk.Ok (c : Mk) : Prop where
  fl : c.fl ≤ c.R
  len : c.s.length ≤ 1000
  cnt : c.ns.length ≤ 1024
  may : ∀ (i : Nat) n, c.ns[i]? = some n → mayF n i = true
  set : ∀ (i : Nat) n, c.ns[i]? = some n → OkS n
/-- what is new alone: the memo stays right -/
theorem Mk.I.keep {c : Mk} {h h' : AHeap} (i : c.I h) (k : Only none h h') : c.I h' := by
  obtain ⟨rs, h1, h2, h3, h4⟩ := i.rows
  refine ⟨k.keep i.cell (by simp), i.own.keep fun id hi => k.get id (i.own.lt hi) (by simp), rs, h1, k.keep h2 (by simp), fun a r hr => ?_, h4⟩
  rcases h3 a r hr with h5 | ⟨X, qs, e1, e0, e2, e3, e4⟩
  · exact .inl h5
  · refine .inr ⟨X, qs, e1, e0, k.keep e2 (by simp), e3, fun i q hq => ?_⟩
    rcases e4 i q hq with h6 | h6
    · exact .inl h6
    · exact .inr (h6.fix (Fix.of k))
end Go.Abs.L
namespace Go.Abs.L
open Go.Abs
set_option linter.unusedVariables false
set_option linter.unusedSimpArgs false

variable {c : Mk} {h h' : AHeap}
/-- a node has its row -/
def Mk.Has (c : Mk) (h : AHeap) (a : Nat) : Prop := ∃ X, ldL h (c.R, a) = some ⟨some (X, 0), c.s.length + 1⟩
/-- what a call leaves -/
structure Mk.Step (c : Mk) (h h' : AHeap) : Prop where
  inv : c.I h'
  fix : Fix h h'
  has : ∀ a, c.Has h a → c.Has h' a
theorem Mk.Step.trans {h'' : AHeap} (x : c.Step h h') (y : c.Step h' h'') : c.Step h h'' := ⟨y.inv, x.fix.trans y.fix, fun a k => y.has a (x.has a k)⟩
theorem row_get {rs : List Sl} {a : Nat} {r : Sl} (hr : rs[a]? = some r) : (rs.map Sl.v)[a]? = some (.slice r.r r.n) := by rw [List.getElem?_map, hr]; rfl
theorem Mk.I.lt (i : c.I h) : c.R < h.size := by obtain ⟨rs, _, h2, _⟩ := i.rows; exact h.lt_of_get h2
theorem Mk.Step.of (i : c.I h) (k : Only none h h') : c.Step h h' := by
  refine ⟨i.keep k, Fix.of k, fun a ⟨X, hx⟩ => ⟨X, ?_⟩⟩
  obtain ⟨rs, h1, h2, h3, h4⟩ := i.rows
  obtain ⟨w, e1, e2⟩ := bind_some hx
  unfold ldL ld1 at *
  rw [k.keep h2 (by simp)]
  rw [h2] at hx
  exact hx
/-- a node's row is looked at -/
theorem Mk.I.look (i : c.I h) {a : Nat} (ha : a < c.ns.length) :
    ∃ r : Sl, ldL h (c.m, 0 + 0) = some ⟨some (c.R, 0), c.ns.length⟩ ∧ ixL (⟨some (c.R, 0), c.ns.length⟩ : Sl) 1 (a : Int) = some (c.R, a) ∧ ldL h (c.R, a) = some r ∧ c.RowOk h a r := by
  obtain ⟨rs, h1, h2, h3, h4⟩ := i.rows
  have hx : rs[a]? = some rs[a] := List.getElem?_eq_getElem (by omega)
  exact ⟨rs[a], ldL_of i.cell (by simp) rfl, bo_ix ha c.R, ldL_of h2 (by simp) (row_get hx), h3 a _ hx⟩
theorem memo_row (stt : Nat) (cs : List AVal) : MemoTy (.cells (some tR) stt cs) := .inl rfl
/-- a node's row is made -/
theorem Mk.I.make (ok : c.Ok) (i : c.I h) {a : Nat} (ha : a < c.ns.length) (hfl : c.fl ≤ h.size) :
    ∃ h2 h3, h2 = h.push (.cells (some tR) 2 (List.replicate (c.s.length + 1) (.slice none 0))) ∧ st c.g h2 (c.R, a) [.slice (some (h.size, 0)) (c.s.length + 1)] = some h3 ∧ c.Step h h3 ∧ c.Has h3 a := by
  obtain ⟨rs, h1, h2, h3, h4⟩ := i.rows
  have hlt := h.lt_of_get h2
  have k := Only.push none h (.cells (some tR) 2 (List.replicate (c.s.length + 1) (.slice none 0)))
  obtain ⟨hh, eh⟩ : ∃ hh, hh = h.push (.cells (some tR) 2 (List.replicate (c.s.length + 1) (.slice none 0))) := ⟨_, rfl⟩
  rw [← eh] at k
  have zz : hh.size = h.size + 1 := by rw [eh]; rfl
  have g2 := k.keep h2 (by simp)
  have gx : hh.get h.size = some (.cells (some tR) 2 (List.replicate (c.s.length + 1) (.slice none 0))) := by rw [eh, AHeap.get_push_new]
  let ro : Sl := ⟨some (h.size, 0), c.s.length + 1⟩
  have es := st_of (g := c.g) g2 (o := a) (new := [ro.v]) (may_ge (by have := ok.fl; omega)) (by simp; omega) rfl
  rw [splice_one (by simp; omega)] at es
  have e1 : (rs.map Sl.v).set a ro.v = (rs.set a ro).map Sl.v := by rw [List.map_set]
  rw [e1] at es
  obtain ⟨hf, ef⟩ : ∃ hf, hf = hh.set c.R (.cells (some tM) 2 ((rs.set a ro).map Sl.v)) := ⟨_, rfl⟩
  have es : st c.g hh (c.R, a) [.slice (some (h.size, 0)) (c.s.length + 1)] = some (hh.set c.R (.cells (some tM) 2 ((rs.set a ro).map Sl.v))) := es
  rw [← ef] at es
  have hR : hf.get c.R = some (.cells (some tM) 2 ((rs.set a ro).map Sl.v)) := by rw [ef, AHeap.get_set_same _ _ (by omega)]
  have hne : ∀ id, id ≠ c.R → hf.get id = hh.get id := fun id hid => by rw [ef, AHeap.get_set_ne _ _ (by omega) hid]
  have hfx : Fix h hf := by
    refine ⟨by rw [ef]; show h.size ≤ hh.size; omega, fun id o h5 h6 => ?_⟩
    have : id ≠ c.R := by
      rintro rfl
      rw [h2] at h5; cases h5
      exact h6 (.inr rfl)
    rw [hne id this]; exact k.keep h5 (by simp)
  have hra : (rs.set a ro)[a]? = some ro := by rw [List.getElem?_set_self (by omega)]
  refine ⟨hh, hf, eh, es, ⟨⟨hfx.get _ _ i.cell (memo_none _ _), i.own.keep fun id hid => ?_, rs.set a ro, by simpa using h1, hR, ?_, ?_⟩, hfx, ?_⟩, h.size, ldL_of hR (by simp) (row_get hra)⟩
  · rw [hne id ?_]
    · exact k.get id (i.own.lt hid) (by simp)
    · rintro rfl
      rcases i.own.2.2 with ⟨h0, _⟩ | ⟨id', rest, e1, e2, _⟩
      · simp [Sl.id?, h0] at hid
      · simp [Sl.id?, e1] at hid
        subst hid
        rw [h2] at e2
        have := Option.some.inj e2
        injection this with this _ _
        exact absurd (Option.some.inj this) (by decide)
  · intro b r hb
    by_cases hab : a = b
    · subst hab
      rw [hra] at hb
      cases hb
      refine .inr ⟨h.size, List.replicate (c.s.length + 1) ⟨none, 0⟩, rfl, hfl, ?_, by simp, fun i q hq => .inl (List.eq_of_mem_replicate (List.mem_of_getElem? hq))⟩
      rw [hne _ (by omega), gx]; simp [Sl.v]
    · rw [List.getElem?_set_ne hab] at hb
      rcases h3 b r hb with h5 | ⟨X, qs, f1, f0, f2, f3, f4⟩
      · exact .inl h5
      · refine .inr ⟨X, qs, f1, f0, ?_, f3, fun i q hq => ?_⟩
        · rw [hne X ?_]
          · exact k.keep f2 (by simp)
          · rintro rfl
            rw [h2] at f2
            have := Option.some.inj f2
            injection this with this _ _
            exact absurd (Option.some.inj this) (by decide)
        · rcases f4 i q hq with h6 | h6
          · exact .inl h6
          · exact .inr (h6.fix hfx)
  · intro b d X n p hb hd
    have old : ∀ (e : Nat) (n : Nat), a ≠ e → (rs.set a ro)[e]? = some (⟨some (h.size, 0), n⟩ : Sl) → False := by
      intro e n hne2 he
      rw [List.getElem?_set_ne hne2] at he
      rcases h3 e _ he with h5 | ⟨X', qs, f1, f0, f2, f3, f4⟩
      · cases h5
      · have : X' = h.size := by
          have := congrArg Sl.r f1
          simp at this; omega
        subst this
        have := h.lt_of_get f2
        omega
    by_cases h5 : a = b
    · by_cases h6 : a = d
      · omega
      · subst h5
        rw [hra] at hb
        have : X = h.size := by
          have := congrArg Sl.r (Option.some.inj hb)
          simp [ro] at this; omega
        subst this
        exact (old d p h6 hd).elim
    · by_cases h6 : a = d
      · subst h6
        rw [hra] at hd
        have : X = h.size := by
          have := congrArg Sl.r (Option.some.inj hd)
          simp [ro] at this; omega
        subst this
        exact (old b n h5 hb).elim
      · rw [List.getElem?_set_ne h5] at hb
        rw [List.getElem?_set_ne h6] at hd
        exact h4 b d X n p hb hd
  · rintro b ⟨X, hX⟩
    by_cases h5 : a = b
    · subst h5; exact ⟨h.size, ldL_of hR (by simp) (row_get hra)⟩
    · have hbl : b < rs.length := by
        by_cases hb : b < rs.length
        · exact hb
        · exfalso
          have hn : ld1 h (c.R, b) = none := by
            unfold ld1
            simp only [h2, cellsAt]
            rw [if_neg (by rw [List.length_map]; omega)]
          simp [ldL, hn] at hX
      have hb : rs[b]? = some rs[b] := List.getElem?_eq_getElem hbl
      have e := ldL_of (h := h) h2 (by simp) (row_get hb)
      rw [hX] at e
      refine ⟨X, ?_⟩
      have hb2 : (rs.set a ro)[b]? = some rs[b] := by rw [List.getElem?_set_ne h5]; exact hb
      have := ldL_of hR (by simp) (row_get hb2)
      rw [this]
      exact e.symm
end Go.Abs.L
namespace Go.Abs.L
open Go.Abs
set_option linter.unusedVariables false
set_option linter.unusedSimpArgs false

variable {c : Mk} {h h' : AHeap}
theorem row_lt {rs : List Sl} {R : Nat} (h2 : h.get R = some (.cells (some tM) 2 (rs.map Sl.v))) {a : Nat} {r : Sl} (hX : ldL h (R, a) = some r) : rs[a]? = some r := by
  have hbl : a < rs.length := by
    by_cases hb : a < rs.length
    · exact hb
    · exfalso
      have hn : ld1 h (R, a) = none := by
        unfold ld1
        simp only [h2, cellsAt]
        rw [if_neg (by rw [List.length_map]; omega)]
      simp [ldL, hn] at hX
  have hb : rs[a]? = some rs[a] := List.getElem?_eq_getElem hbl
  have e := ldL_of (h := h) h2 (by simp) (row_get hb)
  rw [hX] at e
  rw [hb, Option.some.inj e]
theorem Mk.Has.row (i : c.I h) {a : Nat} (k : c.Has h a) : ∃ X qs, ldL h (c.R, a) = some ⟨some (X, 0), c.s.length + 1⟩ ∧ c.fl ≤ X ∧ h.get X = some (.cells (some tR) 2 (List.map Sl.v qs)) ∧ qs.length = c.s.length + 1 ∧ ∀ (i : Nat) (q : Sl), qs[i]? = some q → q = (⟨none, 0⟩ : Sl) ∨ c.EndsOk h a i q := by
  obtain ⟨X, hX⟩ := k
  obtain ⟨rs, h1, h2, h3, h4⟩ := i.rows
  rcases h3 a _ (row_lt h2 hX) with h5 | ⟨X', qs, f1, f0, f2, f3, f4⟩
  · cases h5
  · have : X' = X := by
      have := congrArg Sl.r f1
      simp at this; omega
    subst this
    exact ⟨X', qs, hX, f0, f2, f3, f4⟩
theorem Mk.I.put (ok : c.Ok) (i : c.I h) {a : Nat} (hs : c.Has h a) {p : Nat} (hp : p ≤ c.s.length) {q : Sl} (e : c.EndsOk h a p q) :
    ∃ X h', ldL h (c.R, a) = some ⟨some (X, 0), c.s.length + 1⟩ ∧ ixL (⟨some (X, 0), c.s.length + 1⟩ : Sl) 1 (p : Int) = some (X, p) ∧ st c.g h (X, p) [.slice q.r q.n] = some h' ∧ c.Step h h' := by
  obtain ⟨X, qs, hX, hfl, hg, hq, hall⟩ := hs.row i
  obtain ⟨rs, h1, h2, h3, h4⟩ := i.rows
  have hlt := h.lt_of_get hg
  have es := st_of (g := c.g) hg (o := p) (new := [q.v]) (may_ge hfl) (by simp; omega) rfl
  rw [splice_one (by simp; omega)] at es
  have e1 : (qs.map Sl.v).set p q.v = (qs.set p q).map Sl.v := by rw [List.map_set]
  rw [e1] at es
  obtain ⟨hf, ef⟩ : ∃ hf, hf = h.set X (.cells (some tR) 2 ((qs.set p q).map Sl.v)) := ⟨_, rfl⟩
  rw [← ef] at es
  have gX : hf.get X = some (.cells (some tR) 2 ((qs.set p q).map Sl.v)) := by rw [ef, AHeap.get_set_same _ _ hlt]
  have hne : ∀ id, id ≠ X → hf.get id = h.get id := fun id hid => by rw [ef, AHeap.get_set_ne _ _ hlt hid]
  have hfx : Fix h hf := by
    refine ⟨by rw [ef]; show h.size ≤ h.size; omega, fun id o h5 h6 => ?_⟩
    have : id ≠ X := by
      rintro rfl
      rw [hg] at h5; cases h5
      exact h6 (.inl rfl)
    rw [hne id this]; exact h5
  have hRX : c.R ≠ X := by
    intro h0
    rw [h0] at h2
    rw [hg] at h2
    have := Option.some.inj h2
    injection this with this _ _
    exact absurd (Option.some.inj this) (by decide)
  have gR : hf.get c.R = some (.cells (some tM) 2 (rs.map Sl.v)) := by rw [hne _ hRX]; exact h2
  refine ⟨X, hf, hX, bo_ix (by omega) X, es, ⟨hfx.get _ _ i.cell (memo_none _ _), i.own.keep fun id hid => ?_, rs, h1, gR, fun b r hb => ?_, h4⟩, hfx, fun b ⟨X', hX'⟩ => ⟨X', ?_⟩⟩
  · rw [hne id ?_]
    rintro rfl
    rcases i.own.2.2 with ⟨h0, _⟩ | ⟨id', rest, e1, e2, _⟩
    · simp [Sl.id?, h0] at hid
    · simp [Sl.id?, e1] at hid
      subst hid
      rw [hg] at e2
      have := Option.some.inj e2
      injection this with this _ _
      exact absurd (Option.some.inj this) (by decide)
  · have hra := row_lt h2 hX
    by_cases hab : a = b
    · subst hab
      rw [hra] at hb
      cases hb
      refine .inr ⟨X, qs.set p q, rfl, hfl, gX, by simpa using hq, fun j w hw => ?_⟩
      by_cases hj : p = j
      · subst hj
        rw [List.getElem?_set_self (by omega)] at hw
        cases hw
        exact .inr (e.fix hfx)
      · rw [List.getElem?_set_ne hj] at hw
        rcases hall j w hw with h6 | h6
        · exact .inl h6
        · exact .inr (h6.fix hfx)
    · rcases h3 b r hb with h5 | ⟨X', qs', f1, f0, f2, f3, f4⟩
      · exact .inl h5
      · refine .inr ⟨X', qs', f1, f0, ?_, f3, fun j w hw => ?_⟩
        · rw [hne X' ?_]
          · exact f2
          · rintro rfl
            subst f1
            exact hab (h4 a b _ _ _ hra hb)
        · rcases f4 j w hw with h6 | h6
          · exact .inl h6
          · exact .inr (h6.fix hfx)
  · exact ldL_of gR (by simp) (row_get (row_lt h2 hX'))
end Go.Abs.L
namespace Go.Abs.L
open Go.Abs
set_option linter.unusedVariables false
set_option linter.unusedSimpArgs false

variable {c : Mk} {h h' : AHeap}
def Mk.hide (c : Mk) (Y : Nat) : Mk := { c with U := fun y => c.U y ∨ y = Y }
theorem Mk.EndsOk.show_ {Y a i : Nat} {q : Sl} (e : (c.hide Y).EndsOk h a i q) : c.EndsOk h a i q := by
  obtain ⟨Z, bs, h1, h2, h3, h0, h4⟩ := e
  exact ⟨Z, bs, h1, h2, h3, fun hu => h0 (.inl hu), h4⟩
theorem Mk.EndsOk.hide {Y a i : Nat} {q : Sl} (e : c.EndsOk h a i q) (hy : h.size ≤ Y) : (c.hide Y).EndsOk h a i q := by
  obtain ⟨Z, bs, h1, h2, h3, h0, h4⟩ := e
  refine ⟨Z, bs, h1, h2, h3, fun hu => ?_, h4⟩
  rcases hu with hu | hu
  · exact h0 hu
  · have := h.lt_of_get h3.get
    omega
theorem Mk.I.show_ {Y : Nat} (i : (c.hide Y).I h) : c.I h := by
  obtain ⟨rs, h1, h2, h3, h4⟩ := i.rows
  refine ⟨i.cell, i.own, rs, h1, h2, fun a r hr => ?_, h4⟩
  rcases h3 a r hr with h5 | ⟨X, qs, e1, e0, e2, e3, e4⟩
  · exact .inl h5
  · refine .inr ⟨X, qs, e1, e0, e2, e3, fun i q hq => ?_⟩
    rcases e4 i q hq with h6 | h6
    · exact .inl h6
    · exact .inr h6.show_
theorem Mk.I.hide {Y : Nat} (i : c.I h) (hy : h.size ≤ Y) : (c.hide Y).I h := by
  obtain ⟨rs, h1, h2, h3, h4⟩ := i.rows
  refine ⟨i.cell, i.own, rs, h1, h2, fun a r hr => ?_, h4⟩
  rcases h3 a r hr with h5 | ⟨X, qs, e1, e0, e2, e3, e4⟩
  · exact .inl h5
  · refine .inr ⟨X, qs, e1, e0, e2, e3, fun i q hq => ?_⟩
    rcases e4 i q hq with h6 | h6
    · exact .inl h6
    · exact .inr (h6.hide hy)
/-- a row that is under way turns -/
theorem Mk.I.only {Y : Nat} {bs : List Bool} (i : c.I h) (hu : c.U Y) (b : Bo h Y bs) (o : Only (some Y) h h') : c.I h' ∧ ∀ a, c.Has h a → c.Has h' a := by
  obtain ⟨rs, h1, h2, h3, h4⟩ := i.rows
  have ne : ∀ {id gr stt cs}, h.get id = some (.cells gr stt cs) → gr ≠ some tB → some id ≠ some Y := by
    intro id gr stt cs hg hn he
    have := Option.some.inj he
    subst this
    rw [b.get] at hg
    have := Option.some.inj hg
    injection this with this _ _
    exact hn this.symm
  have nR : (some tR : Option TypeId) ≠ some tB := by decide
  have nM : (some tM : Option TypeId) ≠ some tB := by decide
  have gR := o.keep h2 (ne h2 nM)
  refine ⟨⟨o.keep i.cell (ne i.cell (by decide)), i.own.keep fun id hid => ?_, rs, h1, gR, fun a r hr => ?_, h4⟩, fun a ⟨X, hX⟩ => ⟨X, ldL_of gR (by simp) (row_get (row_lt h2 hX))⟩⟩
  · rcases i.own.2.2 with ⟨h0, _⟩ | ⟨id', rest, e1, e2, _⟩
    · simp [Sl.id?, h0] at hid
    · simp [Sl.id?, e1] at hid
      subst hid
      rw [o.keep e2 (ne e2 (by decide)), e2]
  · rcases h3 a r hr with h5 | ⟨X, qs, e1, e0, e2, e3, e4⟩
    · exact .inl h5
    · refine .inr ⟨X, qs, e1, e0, o.keep e2 (ne e2 nR), e3, fun i q hq => ?_⟩
      rcases e4 i q hq with h6 | ⟨Z, zs, f1, f2, f3, f0, f4⟩
      · exact .inl h6
      · refine .inr ⟨Z, zs, f1, f2, ⟨o.keep f3.get ?_⟩, f0, f4⟩
        intro he
        have := Option.some.inj he
        subst this
        exact f0 hu
end Go.Abs.L
namespace Go.Abs.L
open Go.Abs
set_option linter.unusedVariables false
set_option linter.unusedSimpArgs false

variable {c : Mk} {h h' : AHeap}
noncomputable abbrev MRing := rSC_boulterref18_memo_once
abbrev Mk.at (c : Mk) (U : Nat → Prop) : Mk := { c with U := U }
abbrev Mk.tree (c : Mk) : List AVal := [c.sl.v, .int .i64 c.root]
/-- a row that is under way, in a call that began at h0 -/
structure Mk.Loc (c : Mk) (Y : Nat) (h0 hh : AHeap) (bs : List Bool) : Prop where
  inv : (c.hide Y).I hh
  fix : Fix h0 hh
  has : ∀ a, c.Has h0 a → c.Has hh a
  bo : Bo hh Y bs
  ln : bs.length = c.s.length + 1
  new : h0.size ≤ Y
  fl : c.fl ≤ Y
theorem Mk.Loc.call {Y : Nat} {h0 : AHeap} {bs : List Bool} (l : c.Loc Y h0 h bs) (s : (c.hide Y).Step h h') : c.Loc Y h0 h' bs :=
  ⟨s.inv, l.fix.trans s.fix, fun a k => s.has a (l.has a k), s.fix.bo l.bo, l.ln, l.new, l.fl⟩
theorem Mk.Loc.only {Y : Nat} {h0 : AHeap} {bs bs' : List Bool} (l : c.Loc Y h0 h bs) (o : Only (some Y) h h') (b : Bo h' Y bs') (hl : bs'.length = c.s.length + 1) : c.Loc Y h0 h' bs' := by
  obtain ⟨i, k⟩ := l.inv.only (.inr rfl) l.bo o
  exact ⟨i, l.fix.new o l.new, fun a x => k a (l.has a x), b, hl, l.new, l.fl⟩
/-- a row begins -/
theorem Mk.Loc.mk_ (ok : c.Ok) (i : c.I h) {h0 : AHeap} (k : Only none h0 h) (hs : ∀ a, c.Has h0 a → c.Has h a) : c.Loc h.size h0 (h.push (.cells (some tB) 2 (bools (List.replicate (c.s.length + 1) false)))) (List.replicate (c.s.length + 1) false) := by
  have kp := Only.push none h (.cells (some tB) 2 (bools (List.replicate (c.s.length + 1) false)))
  have i2 := i.hide (Nat.le_refl h.size)
  have st := Mk.Step.of i2 kp
  exact ⟨st.inv, Fix.of (k.trans kp), fun a x => st.has a (hs a x), ⟨AHeap.get_push_new _ _⟩, by simp, k.size, by have := ok.fl; have := i.lt; omega⟩
def Mk.EndsSpec (c : Mk) (n a i : Nat) : Prop := ∀ (U : Nat → Prop) (h : AHeap), (∀ y, U y → y < h.size) → (c.at U).I h →
  W ((MRing n).M_boulterref18_memo_ends c.g h (some (c.m, 0)) c.tree (a : Int) c.s (i : Int)) fun r => (c.at U).EndsOk r.2 a i r.1 ∧ (c.at U).Step h r.2
theorem wrap_len (ok : c.Ok) : IntKind.i64.wrap ((c.s.length : Int) + 1) = ((c.s.length + 1 : Nat) : Int) := ek64 (by have := ok.len; omega)
theorem or_get {L : Nat} {ys zs : List Bool} {j : Nat} (hj : j < L) (ly : ys.length = L) (lz : zs.length = L) : ((List.range L).map fun i => ys.getD i false || zs.getD i false)[j]? = some true ↔ ys[j]? = some true ∨ zs[j]? = some true := by
  have e1 : ys[j]? = some (ys.getD j false) := by simp [ly, hj]
  have e2 : zs[j]? = some (zs.getD j false) := by simp [lz, hj]
  rw [List.getElem?_map, List.getElem?_range hj, e1, e2]
  simp
/-- 'once' -/
theorem once_spec (ok : c.Ok) {n x : Nat} (hx : ∀ i, i ≤ c.s.length → c.EndsSpec n x i) {U : Nat → Prop} (hU : ∀ y, U y → y < h.size) (i : (c.at U).I h) {Z : Nat} {fs : List Bool} (bz : Bo h Z fs) (lz : fs.length = c.s.length + 1) :
    W ((MRing (n + 1)).M_boulterref18_memo_once c.g h (some (c.m, 0)) c.tree (x : Int) c.s ⟨some (Z, 0), c.s.length + 1⟩) fun r => ∃ Y bs, r.1 = ⟨some (Y, 0), c.s.length + 1⟩ ∧ (c.at U).Loc Y h r.2 bs ∧ ∀ j, j ≤ c.s.length → (bs[j]? = some true ↔ ∃ k, k ≤ c.s.length ∧ fs[k]? = some true ∧ Mt c.ns c.s x 0 k j) := by
  show W (B_boulterref18_memo_once (MRing n) c.g h (some (c.m, 0)) c.tree (x : Int) c.s ⟨some (Z, 0), c.s.length + 1⟩) _
  have hlen := ok.len
  have hfl := ok.fl
  have hlt : c.R < h.size := i.lt
  have zlt := h.lt_of_get bz.get
  unfold B_boulterref18_memo_once
  refine W.need rfl ?_
  simp only [Option.bind_some, wrap_len ok, Int.toNat_natCast]
  obtain ⟨h1, e1⟩ : ∃ h1, h1 = h.push (.cells none 2 c.tree) := ⟨_, rfl⟩
  rw [← e1, bools_mk (by omega)]
  simp only [Option.bind_some]
  have k1 : Only none h h1 := by rw [e1]; exact Only.push _ _ _
  have z1 : h1.size = h.size + 1 := by rw [e1]; rfl
  have g1 : h1.get h.size = some (.cells none 2 c.tree) := by rw [e1, AHeap.get_push_new]
  have st1 := Mk.Step.of i k1
  have l2 := Mk.Loc.mk_ (c := c.at U) ⟨ok.fl, ok.len, ok.cnt, ok.may, ok.set⟩ st1.inv k1 st1.has
  obtain ⟨h2, e2⟩ : ∃ h2, h2 = h1.push (.cells (some tB) 2 (bools (List.replicate (c.s.length + 1) false))) := ⟨_, rfl⟩
  have l2 : (c.at U).Loc h1.size h h2 (List.replicate (c.s.length + 1) false) := by rw [e2]; exact l2
  have g2 : h2.get h.size = some (.cells none 2 c.tree) := by rw [e2]; exact (Only.push none h1 _).keep g1 (by simp)
  rw [← e2]
  refine W.bind (W.mono (W.loop (fun st => ∃ (k : Nat) (bs : List Bool), st.1 = k ∧ k ≤ c.s.length + 1 ∧ (c.at U).Loc h1.size h st.2 bs ∧ st.2.get h.size = some (.cells none 2 c.tree) ∧ ∀ j, j ≤ c.s.length → (bs[j]? = some true ↔ ∃ q, q < k ∧ fs[q]? = some true ∧ Mt c.ns c.s x 0 q j)) (fun st => c.s.length + 1 - st.1.toNat)
    ⟨0, _, rfl, by omega, l2, g2, fun j hj => Iff.intro (fun h => by have := List.eq_of_mem_replicate (List.mem_of_getElem? h); cases this) (fun h => by obtain ⟨q, h, _⟩ := h; omega)⟩ ?_ (Q := fun hh => ∃ bs, (c.at U).Loc h1.size h hh bs ∧ ∀ j, j ≤ c.s.length → (bs[j]? = some true ↔ ∃ q, q < c.s.length + 1 ∧ fs[q]? = some true ∧ Mt c.ns c.s x 0 q j))) ?_)
  · rintro ⟨_, hh⟩ ⟨k, bs, rfl, hk, l, gt, bits⟩
    dsimp only at l gt
    unfold M_boulterref18_memo_once_L0
    dsimp only
    simp only [wrap_len ok, Int.toNat_natCast]
    refine W.iteP (fun hle => ?_) (fun hgt => ?_)
    · have hle : k ≤ c.s.length := by omega
      have fk : fs[k]? = some (fs.getD k false) := by rw [List.getD_eq_getElem?_getD, List.getElem?_eq_getElem (by omega)]; rfl
      rw [bo_ix (by omega) Z]
      simp only [Option.bind_some, (l.fix.bo bz).ld fk]
      cases hb : fs.getD k false
      · rw [hb] at fk
        simp only [iteB_false, Option.bind_some]
        rw [ek64 (by omega)]
        refine W.ret ⟨⟨k + 1, bs, rfl, by omega, l, gt, fun j hj => ?_⟩, by dsimp only; omega⟩
        rw [bits j hj]
        constructor
        · rintro ⟨q, h1, h2, h3⟩; exact ⟨q, by omega, h2, h3⟩
        · rintro ⟨q, h1, h2, h3⟩
          refine ⟨q, ?_, h2, h3⟩
          by_cases hq : q = k
          · subst hq; rw [fk] at h2; cases h2
          · omega
      · rw [hb] at fk
        simp only [iteB_true]
        have lA : ldA hh (h.size, 0) 2 = some c.tree := by rw [ldA_of gt (by simp) (Nat.le_refl 2)]; rfl
        rw [lA]
        simp only [Option.bind_some]
        refine W.bind (W.bind (W.mono (hx k hle (fun y => U y ∨ y = h1.size) hh ?_ l.inv) ?_))
        · intro y hy
          have := l.fix.size
          have := hh.lt_of_get l.bo.get
          rcases hy with hy | hy
          · have := hU y hy; omega
          · omega
        rintro ⟨x6, h4⟩ ⟨⟨Q, qs, rfl, lq, bq, _, hq⟩, s4⟩
        dsimp only at bq s4 ⊢
        have l4 := l.call s4
        have g4 := s4.fix.get _ _ gt (memo_none _ _)
        have hmay : c.g.may h1.size = true := may_ge l4.fl
        have ln4 : bs.length = c.s.length + 1 := l4.ln
        have lnq : qs.length = c.s.length + 1 := lq
        have ha := add_row (g := c.g) (L := c.s.length + 1) l4.bo bq hmay ln4 lnq (by omega)
        refine W.bind (W.mono ha ?_)
        rintro ⟨_, h5⟩ ⟨b5, o5⟩
        dsimp only at b5 o5 ⊢
        have l5 := l4.only o5 b5 (by rw [List.length_map, List.length_range])
        have g5 := o5.keep g4 (by intro he; have := Option.some.inj he; omega)
        generalize hE : ((List.range (c.s.length + 1)).map fun i => bs.getD i false || qs.getD i false) = es at l5
        refine W.ret ?_
        rw [ek64 (by omega)]
        refine W.ret ⟨⟨k + 1, es, rfl, by omega, l5, g5, fun j hj => ?_⟩, by dsimp only; omega⟩
        rw [← hE, or_get (by omega) ln4 lnq, bits j hj, hq j hj]
        constructor
        · rintro (⟨q, h1, h2, h3⟩ | h3)
          · exact ⟨q, by omega, h2, h3⟩
          · exact ⟨k, by omega, fk, h3⟩
        · rintro ⟨q, h1, h2, h3⟩
          by_cases hqk : q = k
          · subst hqk; exact .inr h3
          · exact .inl ⟨q, by omega, h2, h3⟩
    · have : k = c.s.length + 1 := by omega
      subst this
      exact W.ret ⟨bs, l, bits⟩
  · rintro hh ⟨bs, l, bits⟩
    refine W.ret ⟨h1.size, bs, rfl, l, fun j hj => ?_⟩
    rw [bits j hj]
    constructor
    · rintro ⟨q, h1, h2, h3⟩; exact ⟨q, by omega, h2, h3⟩
    · rintro ⟨q, h1, h2, h3⟩; exact ⟨q, by omega, h2, h3⟩
end Go.Abs.L
namespace Go.Abs.L
open Go.Abs
set_option linter.unusedVariables false
set_option linter.unusedSimpArgs false

variable {c : Mk} {h h' : AHeap}
theorem Mk.Loc.step {Y : Nat} {h0 : AHeap} {bs : List Bool} (l : c.Loc Y h0 h bs) : c.Step h0 h := ⟨l.inv.show_, l.fix, l.has⟩
theorem Mk.Ok.at (ok : c.Ok) (U : Nat → Prop) : (c.at U).Ok := ⟨ok.fl, ok.len, ok.cnt, ok.may, ok.set⟩
/-- the places that are new stay -/
theorem fresh_row {c0 : Mk} (ok : c0.Ok) {g : Gd} {h h7 : AHeap} {Y : Nat} {os bs : List Bool} (bo : Bo h h7.size os) (bb : Bo h Y bs) (lo : os.length = c0.s.length + 1) (lb : bs.length = c0.s.length + 1) (hm : g.may Y = true) (hne : h7.size ≠ Y) :
    W (loop (M_boulterref18_memo_repeat_L2 g c0.s h7 ⟨some (Y, 0), c0.s.length + 1⟩) (false, (0 : Int), h)) fun r => Bo r.2 Y ((List.range (c0.s.length + 1)).map fun i => bs.getD i false && !os.getD i false) ∧ Only (some Y) h r.2 ∧ (r.1 = true ↔ ∃ i, i ≤ c0.s.length ∧ bs.getD i false = true ∧ os.getD i false = false) := by
  let L := c0.s.length + 1
  let V : Nat → List Bool := fun k => (List.range L).map fun i => if i < k then bs.getD i false && !os.getD i false else bs.getD i false
  have hlen := ok.len
  refine W.mono (W.loop (fun st => ∃ k : Nat, st.2.1 = k ∧ k ≤ L ∧ Bo st.2.2 Y (V k) ∧ Only (some Y) h st.2.2 ∧ (st.1 = true ↔ ∃ i, i < k ∧ bs.getD i false = true ∧ os.getD i false = false)) (fun st => L - st.2.1.toNat) ⟨0, rfl, by omega, ?_, Only.refl _ _, by simp⟩ ?_ (Q := fun r => Bo r.2 Y (V L) ∧ Only (some Y) h r.2 ∧ (r.1 = true ↔ ∃ i, i < L ∧ bs.getD i false = true ∧ os.getD i false = false))) ?_
  · have : V 0 = bs := by
      apply List.ext_getElem (by simp [V, L, lb])
      intro i h1 h2
      simp [V, h2]
    show Bo h Y (V 0)
    rw [this]; exact bb
  · rintro ⟨fr, _, hh⟩ ⟨k, rfl, hk, bv, o, hf⟩
    dsimp only at bv o hf
    unfold M_boulterref18_memo_repeat_L2
    dsimp only
    simp only [wrap_len ok, Int.toNat_natCast]
    refine W.iteP (fun hle => ?_) (fun hgt => ?_)
    · have hlt : k < L := by show k < c0.s.length + 1; omega
      have vk : (V k)[k]? = some (bs.getD k false) := by simp [V, hlt]
      have ok_ : os[k]? = some (os.getD k false) := by rw [List.getD_eq_getElem?_getD, List.getElem?_eq_getElem (by omega)]; rfl
      rw [bo_ix hlt Y]
      simp only [Option.bind_some, bv.ld vk]
      rw [bo_ix hlt h7.size]
      have lo' : ldB hh (h7.size, k) = some (os.getD k false) := (Bo.mk (o.keep bo.get (by simpa using hne))).ld ok_
      simp only [Option.bind_some, lo']
      rw [show (iteB (bs.getD k false) (some (!os.getD k false)) (some false) : Option Bool) = some (bs.getD k false && !os.getD k false) from iteB_and _ _]
      simp only [Option.bind_some]
      obtain ⟨h2, es, b2, o2, z2⟩ := bv.st (g := g) hm (i := k) (by simp [V]; exact hlt) (bs.getD k false && !os.getD k false)
      rw [es]
      simp only [Option.bind_some]
      have v2 : ((V k).set k (bs.getD k false && !os.getD k false))[k]? = some (bs.getD k false && !os.getD k false) := by rw [List.getElem?_set_self (by simp [V]; exact hlt)]
      simp only [b2.ld v2, Option.bind_some, iteB_or]
      rw [ek64 (by omega)]
      refine W.ret ⟨⟨k + 1, rfl, by show k + 1 ≤ c0.s.length + 1; omega, ?_, o.trans o2, ?_⟩, by dsimp only; omega⟩
      · dsimp only
        have : (V k).set k (bs.getD k false && !os.getD k false) = V (k + 1) := by
          apply List.ext_getElem (by simp [V])
          intro i h1 h2
          rw [List.getElem_set]
          by_cases hi : k = i
          · subst hi; simp [V]
          · rw [if_neg hi]
            simp only [V, List.getElem_map, List.getElem_range]
            by_cases h3 : i < k
            · rw [if_pos h3, if_pos (by omega)]
            · rw [if_neg h3, if_neg (by omega)]
        rw [← this]; exact b2
      · dsimp only
        rw [Bool.or_eq_true, hf, Bool.and_eq_true, Bool.not_eq_true']
        constructor
        · rintro (⟨i, h1, h2⟩ | h2)
          · exact ⟨i, by omega, h2⟩
          · exact ⟨k, by omega, h2⟩
        · rintro ⟨i, h1, h2⟩
          by_cases hik : i = k
          · subst hik; exact .inr h2
          · exact .inl ⟨i, by omega, h2⟩
    · have : k = L := by show k = c0.s.length + 1; have : k ≤ c0.s.length + 1 := hk; omega
      subst this
      exact W.ret ⟨bv, o, hf⟩
  · rintro r ⟨h1, h2, h3⟩
    refine ⟨?_, h2, ?_⟩
    · have : V L = (List.range (c0.s.length + 1)).map fun i => bs.getD i false && !os.getD i false := by
        apply List.map_congr_left
        intro i hi
        rw [if_pos (List.mem_range.1 hi)]
      rw [← this]; exact h1
    · rw [h3]
      constructor
      · rintro ⟨i, h4, h5⟩; exact ⟨i, by have : i < c0.s.length + 1 := h4; omega, h5⟩
      · rintro ⟨i, h4, h5⟩; exact ⟨i, by show i < c0.s.length + 1; omega, h5⟩

theorem Mt.top {ns : List Nd} {s : List UInt8} {a : Nat} {t : Int} {i j : Nat} (m : Mt ns s a t i j) : i ≤ s.length → j ≤ s.length := by
  induction m with
  | empty _ _ => exact fun h => h
  | one _ _ hb _ => intro _; have := (List.getElem?_eq_some_iff.1 hb).1; omega
  | front _ _ => exact fun h => h
  | back _ _ => exact fun h => h
  | altL _ _ _ _ ih => exact ih
  | altR _ _ _ _ ih => exact ih
  | group _ _ _ _ ih => exact ih
  | cat _ _ _ _ _ _ ih1 ih2 => exact fun h => ih2 (ih1 h)
  | repEnd _ _ _ => exact fun h => h
  | repStep _ _ _ _ _ _ _ ih1 ih2 => exact fun h => ih2 (ih1 h)
theorem It.top {ns : List Nd} {s : List UInt8} {x r i j : Nat} (m : It ns s x r i j) : i ≤ s.length → j ≤ s.length := by
  induction m with
  | z => exact fun h => h
  | s m _ ih => exact fun h => ih (m.top h)
/-- a row begins -/
theorem Mk.Loc.begin {h0 : AHeap} (ok : c.Ok) (s : c.Step h0 h) : c.Loc h.size h0 (h.push (.cells (some tB) 2 (bools (List.replicate (c.s.length + 1) false)))) (List.replicate (c.s.length + 1) false) := by
  have l := Mk.Loc.mk_ ok s.inv (Only.refl none h) (fun _ x => x)
  exact ⟨l.inv, s.fix.trans l.fix, fun a x => l.has a (s.has a x), l.bo, l.ln, s.fix.size, l.fl⟩
end Go.Abs.L
namespace Go.Abs.L
open Go.Abs
set_option linter.unusedVariables false
set_option linter.unusedSimpArgs false

variable {c : Mk} {h h' : AHeap}
theorem Dk.top {ns : List Nd} {s : List UInt8} {x lo i k j : Nat} (d : Dk ns s x lo i k j) (hi : i ≤ s.length) : j ≤ s.length := by
  obtain ⟨r, _, m⟩ := d
  exact m.top hi
/-- the first turns -/
theorem rep_first (ok : c.Ok) {n x : Nat} (hx : ∀ i, i ≤ c.s.length → c.EndsSpec n x i) {U : Nat → Prop} (hU : ∀ y, U y → y < h.size) {nd : Nd} (hxa : nd.a = x) (hmi : 0 ≤ nd.mi ∧ nd.mi ≤ 255) {i : Nat} (hi : i ≤ c.s.length)
    {Th T1 : Nat} {h1 h4 : AHeap} (eT : T1 = h1.size) {Y0 : Nat} (st4 : (c.at U).Step h h4) (gt : h4.get Th = some (.cells none 2 c.tree)) (gn : h4.get T1 = some (.cells none 2 (refC nd))) {hT : AHeap} (eTh : Th = hT.size) (b4 : Bo h4 Y0 ((List.replicate (c.s.length + 1) false).set i true)) :
    W (loop (M_boulterref18_memo_repeat_L0 (MRing (n + 1)) c.g hT (some (c.m, 0)) c.s h1) ((⟨some (Y0, 0), c.s.length + 1⟩ : Sl), (0 : Int), h4)) fun r => ∃ Y bs, r.1 = ⟨some (Y, 0), c.s.length + 1⟩ ∧ bs.length = c.s.length + 1 ∧ Bo r.2 Y bs ∧ (c.at U).Step h r.2 ∧ r.2.get Th = some (.cells none 2 c.tree) ∧ r.2.get T1 = some (.cells none 2 (refC nd)) ∧ ∀ j, j ≤ c.s.length → (bs[j]? = some true ↔ It c.ns c.s x nd.mi.toNat i j) := by
  have hlen := ok.len
  refine W.loop (fun st => ∃ (k Y : Nat) (bs : List Bool), st.2.1 = k ∧ (k : Int) ≤ nd.mi ∧ st.1 = ⟨some (Y, 0), c.s.length + 1⟩ ∧ bs.length = c.s.length + 1 ∧ Bo st.2.2 Y bs ∧ (c.at U).Step h st.2.2 ∧ st.2.2.get Th = some (.cells none 2 c.tree) ∧ st.2.2.get T1 = some (.cells none 2 (refC nd)) ∧ ∀ j, j ≤ c.s.length → (bs[j]? = some true ↔ It c.ns c.s x k i j)) (fun st => (nd.mi - st.2.1).toNat)
    ⟨0, Y0, _, rfl, hmi.1, rfl, by simp, b4, st4, gt, gn, fun j hj => ?_⟩ ?_
  · constructor
    · intro hb
      by_cases hij : i = j
      · subst hij; exact .z
      · rw [List.getElem?_set_ne hij] at hb
        have := List.eq_of_mem_replicate (List.mem_of_getElem? hb)
        cases this
    · intro hI
      cases hI
      rw [List.getElem?_set_self (by simp; omega)]
  · rintro ⟨_, _, h5⟩ ⟨k, Y, bs, rfl, hk, rfl, ln, b5, s5, gt5, gn5, bits⟩
    dsimp only at b5 s5 gt5 gn5
    unfold M_boulterref18_memo_repeat_L0
    dsimp only
    subst eT eTh
    have l3 : ldI h5 (h1.size, 3) .i64 = some nd.mi := ldI_of gn5 (by simp) rfl
    have l1 : ldI h5 (h1.size, 1) .i64 = some nd.a := ldI_of gn5 (by simp) rfl
    have lA : ldA h5 (hT.size, 0) 2 = some c.tree := by rw [ldA_of gt5 (by simp) (Nat.le_refl 2)]; rfl
    rw [l3]
    simp only [Option.bind_some]
    refine W.iteP (fun hlt => ?_) (fun hge => ?_)
    · rw [lA]
      simp only [Option.bind_some]
      rw [l1]
      simp only [Option.bind_some]
      rw [hxa]
      refine W.bind (W.mono (once_spec ok hx (U := U) (fun y hy => by have := hU y hy; have := s5.fix.size; omega) s5.inv b5 ln) ?_)
      rintro ⟨_, h6⟩ ⟨Y', bs', rfl, l6, bits'⟩
      dsimp only at l6 ⊢
      rw [ek64 (by omega)]
      refine W.ret ⟨⟨k + 1, Y', bs', rfl, by omega, rfl, l6.ln, l6.bo, s5.trans l6.step, l6.fix.get _ _ gt5 (memo_none _ _), l6.fix.get _ _ gn5 (memo_none _ _), fun j hj => ?_⟩, by dsimp only; omega⟩
      rw [bits' j hj]
      constructor
      · rintro ⟨q, h1, h2, h3⟩; exact ((bits q h1).1 h2).snoc h3
      · intro hI
        obtain ⟨q, h1, h2⟩ := hI.last
        have := h1.top hi
        exact ⟨q, this, (bits q this).2 h1, h2⟩
    · have : (k : Int) = nd.mi := by omega
      refine W.ret ⟨Y, bs, rfl, ln, b5, s5, gt5, gn5, fun j hj => ?_⟩
      rw [show nd.mi.toNat = k by omega]
      exact bits j hj
end Go.Abs.L
namespace Go.Abs.L
open Go.Abs
set_option linter.unusedVariables false
set_option linter.unusedSimpArgs false

variable {c : Mk} {h h' : AHeap}
theorem and_get {L : Nat} {ys zs : List Bool} {j : Nat} (hj : j < L) (ly : ys.length = L) (lz : zs.length = L) : ((List.range L).map fun i => ys.getD i false && !zs.getD i false)[j]? = some true ↔ ys[j]? = some true ∧ ¬ zs[j]? = some true := by
  have e1 : ys[j]? = some (ys.getD j false) := by rw [List.getD_eq_getElem?_getD, List.getElem?_eq_getElem (by omega)]; rfl
  have e2 : zs[j]? = some (zs.getD j false) := by rw [List.getD_eq_getElem?_getD, List.getElem?_eq_getElem (by omega)]; rfl
  rw [List.getElem?_map, List.getElem?_range hj, e1, e2]
  simp
theorem getD_iff {L : Nat} {ys : List Bool} {j : Nat} (hj : j < L) (ly : ys.length = L) : ys.getD j false = true ↔ ys[j]? = some true := by
  have e1 : ys[j]? = some (ys.getD j false) := by rw [List.getD_eq_getElem?_getD, List.getElem?_eq_getElem (by omega)]; rfl
  rw [e1]; simp
/-- the turns that may be -/
theorem rep_more (ok : c.Ok) {n x : Nat} (hx : ∀ i, i ≤ c.s.length → c.EndsSpec n x i) {U : Nat → Prop} (hU : ∀ y, U y → y < h.size) {nd : Nd} (hxa : nd.a = x) {i : Nat} (hi : i ≤ c.s.length) {lo more : Nat} (hmore : more ≤ c.s.length + 1)
    {h1 h7 hT h9 : AHeap} {x14 : Int} (hmn : mn x14 ((c.s.length + 1 : Nat) : Int) = (more : Int)) {Y0 : Nat} {ws os : List Bool} (lw : ws.length = c.s.length + 1) (b9 : Bo h9 Y0 ws) (l9 : (c.at U).Loc h7.size h h9 os)
    (gt : h9.get hT.size = some (.cells none 2 c.tree)) (gn : h9.get h1.size = some (.cells none 2 (refC nd))) (nT : hT.size ≠ h7.size) (n1 : h1.size ≠ h7.size)
    (eo : ∀ j, j ≤ c.s.length → (os[j]? = some true ↔ Dk c.ns c.s x lo i 0 j)) (ew : ∀ j, j ≤ c.s.length → (ws[j]? = some true ↔ Dk c.ns c.s x lo i 0 j)) :
    W (loop (M_boulterref18_memo_repeat_L1 (MRing (n + 1)) c.g hT (some (c.m, 0)) c.s h1 h7 x14) ((⟨some (Y0, 0), c.s.length + 1⟩ : Sl), (0 : Int), h9)) fun r => ∃ hh os, (r = .inl hh ∨ r = .inr (⟨some (h7.size, 0), c.s.length + 1⟩, hh)) ∧ (c.at U).Loc h7.size h hh os ∧ ∀ j, j ≤ c.s.length → (os[j]? = some true ↔ Dk c.ns c.s x lo i more j) := by
  have hlen := ok.len
  refine W.loop (fun st => ∃ (k Y : Nat) (ws os : List Bool), st.2.1 = k ∧ k ≤ more ∧ st.1 = ⟨some (Y, 0), c.s.length + 1⟩ ∧ ws.length = c.s.length + 1 ∧ Bo st.2.2 Y ws ∧ (c.at U).Loc h7.size h st.2.2 os ∧ st.2.2.get hT.size = some (.cells none 2 c.tree) ∧ st.2.2.get h1.size = some (.cells none 2 (refC nd)) ∧
      (∀ j, j ≤ c.s.length → (os[j]? = some true ↔ Dk c.ns c.s x lo i k j)) ∧ (∀ j, j ≤ c.s.length → ws[j]? = some true → Dk c.ns c.s x lo i k j) ∧
      ∀ j, j ≤ c.s.length → Dk c.ns c.s x lo i (k + 1) j → Dk c.ns c.s x lo i k j ∨ ∃ m, m ≤ c.s.length ∧ ws[m]? = some true ∧ Mt c.ns c.s x 0 m j) (fun st => more - st.2.1.toNat)
    ⟨0, Y0, ws, os, rfl, by omega, rfl, lw, b9, l9, gt, gn, eo, fun j hj hw => (ew j hj).1 hw, fun j hj hd => ?_⟩ ?_
  · rcases Dk.succ.1 hd with h2 | ⟨m, h2, h3⟩
    · exact .inl h2
    · exact .inr ⟨m, h2.top hi, (ew m (h2.top hi)).2 h2, h3⟩
  · rintro ⟨_, _, h10⟩ ⟨k, Y, ws, os, rfl, hk, rfl, lw, b10, l10, gt10, gn10, eo, ew, cl⟩
    dsimp only at b10 l10 gt10 gn10
    unfold M_boulterref18_memo_repeat_L1
    dsimp only
    simp only [wrap_len ok, Int.toNat_natCast]
    rw [hmn]
    have l1 : ldI h10 (h1.size, 1) .i64 = some nd.a := ldI_of gn10 (by simp) rfl
    have lA : ldA h10 (hT.size, 0) 2 = some c.tree := by rw [ldA_of gt10 (by simp) (Nat.le_refl 2)]; rfl
    refine W.iteP (fun hlt => ?_) (fun hge => ?_)
    · have hlt : k < more := by omega
      rw [lA]
      simp only [Option.bind_some]
      rw [l1]
      simp only [Option.bind_some]
      rw [hxa]
      have zO := h10.lt_of_get l10.bo.get
      have hU2 : ∀ y, (U y ∨ y = h7.size) → y < h10.size := by
        intro y hy
        have hz := l10.fix.size
        rcases hy with hy | hy
        · have := hU y hy; omega
        · omega
      refine W.bind (W.mono (once_spec ok hx (U := fun y => U y ∨ y = h7.size) (h := h10) hU2 l10.inv b10 lw) ?_)
      rintro ⟨_, h11⟩ ⟨Y', bs, rfl, l11, bits⟩
      dsimp only at l11 ⊢
      have lO := l10.call l11.step
      have nOY : h7.size ≠ Y' := by have := l11.new; omega
      have lnO : os.length = c.s.length + 1 := l10.ln
      have lnB : bs.length = c.s.length + 1 := l11.ln
      have hmY : c.g.may Y' = true := may_ge l11.fl
      refine W.bind (W.mono (fresh_row ok (g := c.g) lO.bo l11.bo lnO lnB hmY nOY) ?_)
      rintro ⟨fr, h14⟩ ⟨b14, o14, hfr⟩
      dsimp only at b14 o14 hfr ⊢
      have l14 := l11.only o14 b14 (by rw [List.length_map, List.length_range])
      have lO14 := l10.call l14.step
      generalize hV : ((List.range (c.s.length + 1)).map fun i => bs.getD i false && !os.getD i false) = vs at b14 l14
      have lnV : vs.length = c.s.length + 1 := l14.ln
      have ev : ∀ j, j ≤ c.s.length → (vs[j]? = some true ↔ bs[j]? = some true ∧ ¬ os[j]? = some true) := fun j hj => by rw [← hV]; exact and_get (by omega) lnB lnO
      have st1 : ∀ j, j ≤ c.s.length → (Dk c.ns c.s x lo i (k + 1) j ↔ os[j]? = some true ∨ vs[j]? = some true) := by
        intro j hj
        constructor
        · intro hd
          by_cases ho : os[j]? = some true
          · exact .inl ho
          · rcases cl j hj hd with h2 | ⟨m, h2, h3, h4⟩
            · exact .inl ((eo j hj).2 h2)
            · exact .inr ((ev j hj).2 ⟨(bits j hj).2 ⟨m, h2, h3, h4⟩, ho⟩)
        · rintro (h2 | h2)
          · exact ((eo j hj).1 h2).mono (by omega)
          · obtain ⟨m, h3, h4, h5⟩ := (bits j hj).1 ((ev j hj).1 h2).1
            exact Dk.succ.2 (.inr ⟨m, ew m h3 h4, h5⟩)
      refine W.ite (fun hno => ?_) (fun hyes => ?_)
      · have hno : fr = false := by simpa using hno
        refine W.ret ⟨h14, os, .inr rfl, lO14, fun j hj => ?_⟩
        rw [eo j hj]
        have stop : ∀ j, Dk c.ns c.s x lo i (k + 1) j → Dk c.ns c.s x lo i k j := by
          intro j hd
          have hj := hd.top hi
          rcases (st1 j hj).1 hd with h2 | h2
          · exact (eo j hj).1 h2
          · exfalso
            have h3 := (ev j hj).1 h2
            have : fr = true := hfr.2 ⟨j, hj, (getD_iff (by omega) lnB).2 h3.1, by
              have := h3.2
              rw [← getD_iff (by omega) lnO] at this
              simpa using this⟩
            rw [hno] at this; cases this
        constructor
        · exact Dk.mono hk
        · intro hd
          exact Dk.stop stop (more - k) j (by rw [show k + (more - k) = more by omega]; exact hd)
      · have hmO : c.g.may h7.size = true := may_ge l10.fl
        refine W.bind (W.mono (add_row (g := c.g) (L := c.s.length + 1) lO14.bo b14 hmO lnO lnV (by omega)) ?_)
        rintro ⟨_, h15⟩ ⟨b15, o15⟩
        dsimp only at b15 o15 ⊢
        have l15 := lO14.only o15 b15 (by rw [List.length_map, List.length_range])
        generalize hE : ((List.range (c.s.length + 1)).map fun i => os.getD i false || vs.getD i false) = es at l15
        have ee : ∀ j, j ≤ c.s.length → (es[j]? = some true ↔ Dk c.ns c.s x lo i (k + 1) j) := fun j hj => by rw [← hE, or_get (by omega) lnO lnV, st1 j hj]
        rw [ek64 (by omega)]
        refine W.ret ⟨⟨k + 1, Y', vs, es, rfl, by omega, rfl, lnV, ⟨o15.keep b14.get (by intro he; have := Option.some.inj he; omega)⟩, l15, ?_, ?_, ee, fun j hj hv => (st1 j hj).2 (.inr hv), fun j hj hd => ?_⟩, by dsimp only; omega⟩
        · exact o15.keep (l14.fix.get _ _ gt10 (memo_none _ _)) (by intro he; exact nT (Option.some.inj he))
        · exact o15.keep (l14.fix.get _ _ gn10 (memo_none _ _)) (by intro he; exact n1 (Option.some.inj he))
        · rcases Dk.succ.1 hd with h2 | ⟨m, h2, h3⟩
          · exact .inl h2
          · have hm := h2.top hi
            rcases (st1 m hm).1 h2 with h4 | h4
            · exact .inl (Dk.succ.2 (.inr ⟨m, (eo m hm).1 h4, h3⟩))
            · exact .inr ⟨m, hm, h4, h3⟩
    · have : k = more := by omega
      subst this
      exact W.ret ⟨h10, os, .inl rfl, l10, eo⟩
end Go.Abs.L
namespace Go.Abs.L
open Go.Abs
set_option linter.unusedVariables false
set_option linter.unusedSimpArgs false

variable {c : Mk} {h h' : AHeap}
theorem repeat_spec (ok : c.Ok) {n x : Nat} (hx : ∀ i, i ≤ c.s.length → c.EndsSpec n x i) {U : Nat → Prop} (hU : ∀ y, U y → y < h.size) (i0 : (c.at U).I h) {a : Nat} {nd : Nd} (hn : c.ns[a]? = some nd) (hk : nd.k = 4) (hxa : nd.a = x) {i : Nat} (hi : i ≤ c.s.length) :
    W ((MRing (n + 2)).M_boulterref18_memo_repeat c.g h (some (c.m, 0)) c.tree (refC nd) c.s (i : Int)) fun r => ∃ O os, r.1 = ⟨some (O, 0), c.s.length + 1⟩ ∧ (c.at U).Loc O h r.2 os ∧ ∀ j, j ≤ c.s.length → (os[j]? = some true ↔ Mt c.ns c.s a 0 i j) := by
  show W (B_boulterref18_memo_repeat (MRing (n + 1)) c.g h (some (c.m, 0)) c.tree (refC nd) c.s (i : Int)) _
  have hlen := ok.len
  have hfl := ok.fl
  have hlt : c.R < h.size := i0.lt
  obtain ⟨_, _, _, _, _, _, _, hb4, _⟩ := (mayF_iff nd a).1 (ok.may a nd hn)
  obtain ⟨m1, m2, m3, m4, m5⟩ := hb4 hk
  unfold B_boulterref18_memo_repeat
  refine W.need rfl ?_
  simp only [Option.bind_some, wrap_len ok, Int.toNat_natCast]
  obtain ⟨h1, e1⟩ : ∃ h1, h1 = h.push (.cells none 2 c.tree) := ⟨_, rfl⟩
  rw [← e1]
  refine W.need rfl ?_
  obtain ⟨h2, e2⟩ : ∃ h2, h2 = h1.push (.cells none 2 (refC nd)) := ⟨_, rfl⟩
  rw [← e2, bools_mk (by omega)]
  simp only [Option.bind_some]
  obtain ⟨h3, e3⟩ : ∃ h3, h3 = h2.push (.cells (some tB) 2 (bools (List.replicate (c.s.length + 1) false))) := ⟨_, rfl⟩
  rw [← e3]
  have z1 : h1.size = h.size + 1 := by rw [e1]; rfl
  have z2 : h2.size = h1.size + 1 := by rw [e2]; rfl
  have k1 : Only none h h1 := by rw [e1]; exact Only.push _ _ _
  have k2 : Only none h1 h2 := by rw [e2]; exact Only.push _ _ _
  have k3 : Only none h2 h3 := by rw [e3]; exact Only.push _ _ _
  have g1 : h1.get h.size = some (.cells none 2 c.tree) := by rw [e1, AHeap.get_push_new]
  have g2 : h2.get h1.size = some (.cells none 2 (refC nd)) := by rw [e2, AHeap.get_push_new]
  have b3 : Bo h3 h2.size (List.replicate (c.s.length + 1) false) := ⟨by rw [e3, AHeap.get_push_new]⟩
  rw [bo_ix (by omega) h2.size]
  simp only [Option.bind_some]
  obtain ⟨h4, es, b4, o4, z4⟩ := b3.st (g := c.g) (may_ge (show c.fl ≤ h2.size by omega)) (i := i) (by simp; omega) true
  rw [es]
  simp only [Option.bind_some]
  have g4t : h4.get h.size = some (.cells none 2 c.tree) := o4.keep (k3.keep (k2.keep g1 (by simp)) (by simp)) (by intro he; have := Option.some.inj he; omega)
  have g4n : h4.get h1.size = some (.cells none 2 (refC nd)) := o4.keep (k3.keep g2 (by simp)) (by intro he; have := Option.some.inj he; omega)
  have k03 := (k1.trans k2).trans k3
  have k4 : Only none h h4 := ⟨by have := k03.size; omega, fun id hid _ => by rw [o4.get id (by have := k03.size; omega) (by intro he; have := Option.some.inj he; omega), k03.get id hid (by simp)]⟩
  have st4 : (c.at U).Step h h4 := Mk.Step.of i0 k4
  refine W.bind (W.mono (rep_first ok hx hU (nd := nd) hxa ⟨m1, m2⟩ hi rfl st4 g4t g4n rfl b4) ?_)
  rintro ⟨_, h7⟩ ⟨Y0, ws, rfl, lw, b7, s7, g7t, g7n, ew⟩
  dsimp only at b7 s7 g7t g7n ⊢
  have z7 := s7.fix.size
  have l8 := Mk.Loc.begin (ok.at U) s7
  obtain ⟨h8, e8⟩ : ∃ h8, h8 = h7.push (.cells (some tB) 2 (bools (List.replicate (c.s.length + 1) false))) := ⟨_, rfl⟩
  have l8 : (c.at U).Loc h7.size h h8 (List.replicate (c.s.length + 1) false) := by rw [e8]; exact l8
  have k8 : Only none h7 h8 := by rw [e8]; exact Only.push _ _ _
  rw [← e8]
  have zt := h7.lt_of_get g7t
  have zn := h7.lt_of_get g7n
  have zy := h7.lt_of_get b7.get
  have lz : (List.replicate (c.s.length + 1) false).length = c.s.length + 1 := by simp
  refine W.bind (W.mono (add_row (g := c.g) (L := c.s.length + 1) l8.bo (Bo.mk (k8.keep b7.get (by simp))) (may_ge l8.fl) lz lw (by omega)) ?_)
  rintro ⟨_, h9⟩ ⟨b9, o9⟩
  dsimp only at b9 o9 ⊢
  have l9 := l8.only o9 b9 (by rw [List.length_map, List.length_range])
  generalize hE : ((List.range (c.s.length + 1)).map fun i => (List.replicate (c.s.length + 1) false).getD i false || ws.getD i false) = os at l9
  have ne : ∀ id, id < h7.size → some id ≠ some h7.size := fun id hid he => by have := Option.some.inj he; omega
  have g9t := o9.keep (k8.keep g7t (by simp)) (ne _ zt)
  have g9n := o9.keep (k8.keep g7n (by simp)) (ne _ zn)
  have bw : Bo h9 Y0 ws := ⟨o9.keep (k8.keep b7.get (by simp)) (ne _ zy)⟩
  have ew0 : ∀ j, j ≤ c.s.length → (ws[j]? = some true ↔ Dk c.ns c.s x nd.mi.toNat i 0 j) := fun j hj => by rw [ew j hj, Dk.zero]
  have eo0 : ∀ j, j ≤ c.s.length → (os[j]? = some true ↔ Dk c.ns c.s x nd.mi.toNat i 0 j) := fun j hj => by
    rw [← hE, or_get (by omega) lz lw, ew0 j hj]
    constructor
    · rintro (h2 | h2)
      · have := List.eq_of_mem_replicate (List.mem_of_getElem? h2); cases this
      · exact h2
    · exact .inr
  have l4 : ldI h9 (h1.size, 4) .i64 = some nd.ma := ldI_of g9n (by simp) rfl
  have l3 : ldI h9 (h1.size, 3) .i64 = some nd.mi := ldI_of g9n (by simp) rfl
  simp only [l4, l3, Option.bind_some]
  obtain ⟨x14, e14, hx14⟩ : ∃ x14, (iteB (decide (nd.ma < (0 : Int))) (some ((c.s.length + 1 : Nat) : Int)) (some (IntKind.i64.wrap (nd.ma - nd.mi))) : Option Int) = some x14 ∧ x14 = if nd.ma < 0 then ((c.s.length + 1 : Nat) : Int) else nd.ma - nd.mi := by
    by_cases hneg : nd.ma < 0
    · exact ⟨_, by rw [decide_eq_true hneg]; rfl, by rw [if_pos hneg]⟩
    · exact ⟨_, by rw [decide_eq_false hneg]; rfl, by rw [if_neg hneg, w64 (by omega) (by omega)]⟩
  rw [e14]
  simp only [Option.bind_some]
  obtain ⟨more, hm⟩ : ∃ more : Nat, more = if nd.ma < 0 then c.s.length + 1 else min (nd.ma - nd.mi).toNat (c.s.length + 1) := ⟨_, rfl⟩
  have hmle : more ≤ c.s.length + 1 := by rw [hm]; split <;> omega
  have hmn : mn x14 ((c.s.length + 1 : Nat) : Int) = (more : Int) := by
    unfold mn
    rw [hx14, hm]
    by_cases hneg : nd.ma < 0
    · rw [if_pos hneg, if_pos hneg, if_neg (by omega)]
    · have := m5 (by omega)
      rw [if_neg hneg, if_neg hneg]
      split <;> omega
  refine W.bind (W.mono (rep_more ok hx hU hxa hi hmle hmn lw bw l9 g9t g9n (by omega) (by omega) eo0 ew0) ?_)
  rintro o ⟨hh, os', ho, lf, ef⟩
  have fin : ∀ j, j ≤ c.s.length → (os'[j]? = some true ↔ Mt c.ns c.s a 0 i j) := fun j hj => by
    rw [ef j hj, rep_dk hn hk hxa m1 (fun h => m5 h) hj hm]
  rcases ho with rfl | rfl
  · exact W.ret ⟨h7.size, os', rfl, lf, fin⟩
  · exact W.ret ⟨h7.size, os', rfl, lf, fin⟩
end Go.Abs.L
namespace Go.Abs.L
open Go.Abs
set_option linter.unusedVariables false
set_option linter.unusedSimpArgs false

variable {c : Mk} {h h' : AHeap}
/-- the row is there: is the place's? -/
theorem Mk.I.place (i0 : c.I h) {a : Nat} (k : c.Has h a) {p : Nat} (hp : p ≤ c.s.length) : ∃ X q, ldL h (c.R, a) = some ⟨some (X, 0), c.s.length + 1⟩ ∧ ixL (⟨some (X, 0), c.s.length + 1⟩ : Sl) 1 (p : Int) = some (X, p) ∧ ldL h (X, p) = some q ∧ (q = (⟨none, 0⟩ : Sl) ∨ c.EndsOk h a p q) := by
  obtain ⟨X, qs, hX, hfl, hg, hq, hall⟩ := k.row i0
  have hx : qs[p]? = some qs[p] := List.getElem?_eq_getElem (by omega)
  exact ⟨X, qs[p], hX, bo_ix (by omega) X, ldL_of hg (by simp) (row_get hx), hall p _ hx⟩
/-- a row that is under way becomes what it is, and is put in -/
theorem Mk.Loc.put (ok : c.Ok) {O : Nat} {h0 : AHeap} {os : List Bool} (l : c.Loc O h0 h os) (hU : ∀ y, c.U y → y < h0.size) {a p : Nat} (hs : c.Has h a) (hp : p ≤ c.s.length) (hb : ∀ j, j ≤ c.s.length → (os[j]? = some true ↔ Mt c.ns c.s a 0 p j)) :
    ∃ X h', ldL h (c.R, a) = some ⟨some (X, 0), c.s.length + 1⟩ ∧ ixL (⟨some (X, 0), c.s.length + 1⟩ : Sl) 1 (p : Int) = some (X, p) ∧ st c.g h (X, p) [.slice (some (O, 0)) (c.s.length + 1)] = some h' ∧ c.EndsOk h' a p ⟨some (O, 0), c.s.length + 1⟩ ∧ c.Step h0 h' := by
  have e : c.EndsOk h a p ⟨some (O, 0), c.s.length + 1⟩ := ⟨O, os, rfl, l.ln, l.bo, fun hu => by have := hU O hu; have := l.new; omega, hb⟩
  obtain ⟨X, h', h1, h2, h3, h4⟩ := l.inv.show_.put ok hs hp e
  exact ⟨X, h', h1, h2, h3, e.fix h4.fix, l.step.trans h4⟩
end Go.Abs.L
namespace Go.Abs.L
open Go.Abs
set_option linter.unusedVariables false
set_option linter.unusedSimpArgs false

variable {c : Mk} {h h' : AHeap}
/-- a row under way with one place told -/
theorem Mk.Loc.one (ok : c.Ok) {O : Nat} {h0 : AHeap} (l : c.Loc O h0 h (List.replicate (c.s.length + 1) false)) {p : Nat} (hp : p ≤ c.s.length) (v : Bool) : ∃ h', st c.g h (O, p) [.bool v] = some h' ∧ (∀ a, c.Has h a → c.Has h' a) ∧ c.Loc O h0 h' ((List.replicate (c.s.length + 1) false).set p v) ∧ ∀ j, (((List.replicate (c.s.length + 1) false).set p v)[j]? = some true ↔ j = p ∧ v = true) := by
  obtain ⟨h', es, b, o, z⟩ := l.bo.st (g := c.g) (may_ge l.fl) (i := p) (by simp; omega) v
  refine ⟨h', es, (l.inv.only (.inr rfl) l.bo o).2, l.only o b (by simp), fun j => ?_⟩
  by_cases hj : p = j
  · subst hj
    rw [List.getElem?_set_self (by simp; omega)]
    simp
  · rw [List.getElem?_set_ne hj]
    constructor
    · intro h1
      have := List.eq_of_mem_replicate (List.mem_of_getElem? h1); cases this
    · rintro ⟨rfl, _⟩; exact absurd rfl hj
/-- another place's row is added to a row under way -/
theorem Mk.Loc.add (ok : c.Ok) {O : Nat} {h0 : AHeap} {os : List Bool} (l : c.Loc O h0 h os) {Q : Nat} {qs : List Bool} (bq : Bo h Q qs) (lq : qs.length = c.s.length + 1) : W (M_boulterref18_add c.g h ⟨some (O, 0), c.s.length + 1⟩ ⟨some (Q, 0), c.s.length + 1⟩) fun r => ∃ es, c.Loc O h0 r.2 es ∧ Only (some O) h r.2 ∧ (∀ a, c.Has h a → c.Has r.2 a) ∧ ∀ j, j ≤ c.s.length → (es[j]? = some true ↔ os[j]? = some true ∨ qs[j]? = some true) := by
  have hlen := ok.len
  have lo : os.length = c.s.length + 1 := l.ln
  refine W.mono (add_row (g := c.g) (L := c.s.length + 1) l.bo bq (may_ge l.fl) lo lq (by omega)) ?_
  rintro ⟨_, h2⟩ ⟨b2, o2⟩
  exact ⟨_, l.only o2 b2 (by rw [List.length_map, List.length_range]), o2, (l.inv.only (.inr rfl) l.bo o2).2, fun j hj => or_get (by omega) lo lq⟩
end Go.Abs.L
namespace Go.Abs.L
open Go.Abs
set_option linter.unusedVariables false
set_option linter.unusedSimpArgs false

variable {c : Mk} {h h' : AHeap}
theorem rows_mk {n : Nat} (h : n ≤ 1000000) : mkL 24 [.slice none 0] (n : Int) (n : Int) = some (List.replicate n (.slice none 0)) := by
  unfold mkL
  rw [if_pos (by omega), Int.toNat_natCast, repeatA_one]
theorem row_there (ok : c.Ok) (i0 : c.I h) {a : Nat} (ha : a < c.ns.length) :
    W (((some (c.m, 0) : Option (Nat × Nat))).bind fun a1 => (ldL h (a1.1, a1.2 + 0)).bind fun x1 => (ixL x1 1 (a : Int)).bind fun a2 => (ldL h (a2.1, a2.2)).bind fun x2 => iteB x2.r.isNone ((some (c.m, 0)).bind fun a3 => (ldL h (a3.1, a3.2 + 0)).bind fun x3 => (mkL 24 [.slice none 0] (IntKind.i64.wrap ((c.s.length : Int) + (1 : Int))) (IntKind.i64.wrap ((c.s.length : Int) + (1 : Int)))).bind fun x4 => (some (h.push (.cells (some tR) 2 x4))).bind fun h2 => (ixL x3 1 (a : Int)).bind fun a4 => (st c.g h2 (a4.1, a4.2) [.slice (some (h.size, 0)) ((IntKind.i64.wrap ((c.s.length : Int) + (1 : Int))).toNat)]).bind fun h3 => some h3) (some h) : Option AHeap)
      fun h4 => c.Step h h4 ∧ c.Has h4 a := by
  have hlen := ok.len
  have hfl := ok.fl
  have hlt := i0.lt
  obtain ⟨r, e1, e2, e3, hr⟩ := i0.look ha
  simp only [Option.bind_some, wrap_len ok, Int.toNat_natCast]
  rw [e1]
  simp only [Option.bind_some]
  rw [e2]
  simp only [Option.bind_some]
  rw [e3]
  simp only [Option.bind_some]
  rcases hr with rfl | ⟨X, qs, rfl, _, hg, _, _⟩
  · rw [show ((⟨none, 0⟩ : Sl).r.isNone) = true from rfl]
    simp only [iteB_true]
    rw [rows_mk (by omega)]
    simp only [Option.bind_some]
    obtain ⟨h2, h3, eh2, es, st3, hs⟩ := i0.make ok ha (by omega)
    rw [← eh2, es]
    exact W.ret ⟨st3, hs⟩
  · rw [show ((⟨some (X, 0), c.s.length + 1⟩ : Sl).r.isNone) = false from rfl]
    simp only [iteB_false]
    exact W.ret ⟨Mk.Step.of i0 (Only.refl _ _), X, e3⟩
end Go.Abs.L
namespace Go.Abs.L
open Go.Abs
set_option linter.unusedVariables false
set_option linter.unusedSimpArgs false

section
variable {ns : List Nd} {s : List UInt8} {a : Nat} {nd : Nd} {t : Int} {i j : Nat}
theorem inv0 (hx : ns[a]? = some nd) (hk : nd.k = 0) : Mt ns s a t i j ↔ j = i := by
  constructor
  · intro m
    cases m <;> simp_all
  · rintro rfl; exact .empty hx hk
theorem inv6 (hx : ns[a]? = some nd) (hk : nd.k = 6) : Mt ns s a t i j ↔ i = 0 ∧ j = 0 := by
  constructor
  · intro m
    cases m <;> simp_all
  · rintro ⟨rfl, rfl⟩; exact .front hx hk
theorem inv7 (hx : ns[a]? = some nd) (hk : nd.k = 7) : Mt ns s a t i j ↔ i = s.length ∧ j = s.length := by
  constructor
  · intro m
    cases m <;> simp_all
  · rintro ⟨rfl, rfl⟩; exact .back hx hk
theorem inv1 (hx : ns[a]? = some nd) (hk : nd.k = 1) : Mt ns s a t i j ↔ j = i + 1 ∧ ∃ b, s[i]? = some b ∧ hasB nd b.toNat = true := by
  constructor
  · intro m
    cases m <;> simp_all
  · rintro ⟨rfl, b, h1, h2⟩; exact .one hx hk h1 h2
theorem inv3 {x y : Nat} (hx : ns[a]? = some nd) (hk : nd.k = 3) (ha : nd.a = x) (hb : nd.b = y) : Mt ns s a t i j ↔ Mt ns s x 0 i j ∨ Mt ns s y 0 i j := by
  constructor
  · intro m
    cases m with
    | altL h k e m => rw [hx] at h; cases h; rw [ha] at e; cases Int.ofNat.inj e; exact .inl m
    | altR h k e m => rw [hx] at h; cases h; rw [hb] at e; cases Int.ofNat.inj e; exact .inr m
    | _ => simp_all
  · rintro (m | m)
    · exact .altL hx hk ha m
    · exact .altR hx hk hb m
theorem inv5 {x : Nat} (hx : ns[a]? = some nd) (hk : nd.k = 5) (ha : nd.a = x) : Mt ns s a t i j ↔ Mt ns s x 0 i j := by
  constructor
  · intro m
    cases m with
    | group h k e m => rw [hx] at h; cases h; rw [ha] at e; cases Int.ofNat.inj e; exact m
    | _ => simp_all
  · exact fun m => .group hx hk ha m
theorem inv2 {x y : Nat} (hx : ns[a]? = some nd) (hk : nd.k = 2) (ha : nd.a = x) (hb : nd.b = y) : Mt ns s a t i j ↔ ∃ k, Mt ns s x 0 i k ∧ Mt ns s y 0 k j := by
  constructor
  · intro m
    cases m with
    | cat h k e1 e2 m1 m2 => rw [hx] at h; cases h; rw [ha] at e1; rw [hb] at e2; cases Int.ofNat.inj e1; cases Int.ofNat.inj e2; exact ⟨_, m1, m2⟩
    | _ => simp_all
  · rintro ⟨k, m1, m2⟩; exact .cat hx hk ha hb m1 m2
end
end Go.Abs.L
namespace Go.Abs.L
open Go.Abs
set_option linter.unusedVariables false
set_option linter.unusedSimpArgs false

variable {c : Mk} {h h' : AHeap}
theorem ends_spec (ok : c.Ok) (a : Nat) : a < c.ns.length → ∀ n, 3 * (a + 1) ≤ n → ∀ i, i ≤ c.s.length → c.EndsSpec n a i := by
  induction a using Nat.strongRecOn with
  | ind a IH =>
  intro ha n hn i hi U h hU i0
  have hlen := ok.len
  have hfl := ok.fl
  have hlt : c.R < h.size := i0.lt
  obtain ⟨n', rfl⟩ : ∃ n', n = n' + 3 := ⟨n - 3, by omega⟩
  show W (B_boulterref18_memo_ends (MRing (n' + 2)) c.g h (some (c.m, 0)) c.tree (a : Int) c.s (i : Int)) _
  unfold B_boulterref18_memo_ends
  refine W.need rfl (W.bind (W.ret ?_))
  have k1 : Only none h (h.push (.cells none 2 c.tree)) := Only.push _ _ _
  have g1 : (h.push (.cells none 2 c.tree)).get h.size = some (.cells none 2 c.tree) := AHeap.get_push_new _ _
  have s1 := Mk.Step.of i0 k1
  refine W.bind (W.mono (row_there (ok.at U) s1.inv ha) ?_)
  rintro h4 ⟨s4, has4⟩
  have s04 := s1.trans s4
  have g4t := s4.fix.get _ _ g1 (memo_none _ _)
  obtain ⟨X, q, eX, eix, eq, hq⟩ := s4.inv.place has4 hi
  obtain ⟨r, f1, f2, _, _⟩ := s4.inv.look ha
  have f1 : ldL h4 (c.m, 0 + 0) = some ⟨some (c.R, 0), c.ns.length⟩ := f1
  have f2 : ixL (⟨some (c.R, 0), c.ns.length⟩ : Sl) 1 (a : Int) = some (c.R, a) := f2
  have eX : ldL h4 (c.R, a) = some ⟨some (X, 0), c.s.length + 1⟩ := eX
  have eix : ixL (⟨some (X, 0), c.s.length + 1⟩ : Sl) 1 (i : Int) = some (X, i) := eix
  simp only [Option.bind_some, f1, f2, eX, eix, eq]
  refine W.ite (fun hsome => ?_) (fun hnone => ?_)
  · rcases hq with rfl | hq
    · cases hsome
    · exact W.ret ⟨hq, s04⟩
  · obtain ⟨nd, end_⟩ : ∃ nd, c.ns[a] = nd := ⟨_, rfl⟩
    have hx : c.ns[a]? = some nd := by rw [List.getElem?_eq_getElem ha, end_]
    have l4 : ldL h4 (h.size, 0) = some c.sl := ldL_of g4t (by simp) rfl
    obtain ⟨b, eb, _, lb⟩ := (s4.inv.own.view (P := cfg.P) (S := (· < h4.size)) szRef fun id hid => s4.inv.own.lt hid).fld (i := a) (by have := s4.inv.own.1; rw [chunk_length refC_len] at this; show a < c.sl.n; have : c.ns.length * 7 = c.sl.n * 7 := this; omega)
    have lb : ldA h4 (b.1, b.2) 7 = some (refC nd) := by rw [lb]; congr 1; exact chunk_take refC_len hx
    have eb : ixL c.sl 7 (a : Int) = some b := eb
    have z04 := s04.fix.size
    obtain ⟨h6, e6, g6, k6, z6⟩ := var_st (h := h4) (g := c.g) (z := [.int .i64 (0 : Int), .int .i64 (0 : Int), .int .i64 (0 : Int), .int .i64 (0 : Int), .int .i64 (0 : Int), .int .i64 (0 : Int), .str ([] : List UInt8)]) (cs := refC nd) (n := 7) (may_ge (by omega)) rfl rfl rfl
    simp only [l4, eb, lb, e6, wrap_len ok, Int.toNat_natCast, bools_mk (show c.s.length + 1 ≤ 1099511627776 by omega), Option.bind_some]
    have s46 := Mk.Step.of s4.inv k6
    have s06 := s04.trans s46
    have l7 := Mk.Loc.begin (ok.at U) s06
    obtain ⟨h7, e7⟩ : ∃ h7, h7 = h6.push (.cells (some tB) 2 (bools (List.replicate (c.s.length + 1) false))) := ⟨_, rfl⟩
    have l7 : (c.at U).Loc h6.size h h7 (List.replicate (c.s.length + 1) false) := by rw [e7]; exact l7
    have k67 : Only none h6 h7 := by rw [e7]; exact Only.push _ _ _
    rw [← e7]
    have g7n : h7.get h4.size = some (.cells none 2 (refC nd)) := k67.keep g6 (by simp)
    have g7t : h7.get h.size = some (.cells none 2 c.tree) := k67.keep (k6.keep g4t (by simp)) (by simp)
    have has7 : c.Has h7 a := by
      have := (Mk.Step.of s46.inv k67).has a (s46.has a has4)
      exact this
    refine W.bind (W.mono (Q := fun hh => ∃ os, (c.at U).Loc h6.size h hh os ∧ c.Has hh a ∧ ∀ j, j ≤ c.s.length → (os[j]? = some true ↔ Mt c.ns c.s a 0 i j)) ?_ ?_)
    · obtain ⟨m1, m2, m3, m4, m5, m6, m7, m8, m9, m10, m11⟩ := (mayF_iff nd a).1 (ok.may a nd hx)
      have l0 : ldI h7 (h4.size, 0) .i64 = some nd.k := ldI_of g7n (by simp) rfl
      have l1 : ldI h7 (h4.size, 1) .i64 = some nd.a := ldI_of g7n (by simp) rfl
      have l2 : ldI h7 (h4.size, 2) .i64 = some nd.b := ldI_of g7n (by simp) rfl
      have l6 : ldS h7 (h4.size, 6) = some (bytesN nd) := ldS_of g7n (by simp) rfl
      have lT : ldA h7 (h.size, 0) 2 = some c.tree := by rw [ldA_of g7t (by simp) (Nat.le_refl 2)]; rfl
      have lN : ldA h7 (h4.size, 0) 7 = some (refC nd) := by rw [ldA_of g7n (by simp) (Nat.le_refl 7)]; rfl
      rw [l0]
      simp only [Option.bind_some]
      have hU7 : ∀ y, (U y ∨ y = h6.size) → y < h7.size := by
        intro y hy
        have hz := l7.fix.size
        have hz2 := h7.lt_of_get l7.bo.get
        rcases hy with hy | hy
        · have := hU y hy; omega
        · omega
      have hasU : ∀ {hh}, (∀ b, c.Has h7 b → c.Has hh b) → c.Has hh a := fun k => k a has7
      have child : ∀ {hh : AHeap} {os : List Bool}, (c.at U).Loc h6.size h hh os → ∀ x : Nat, x < a → ∀ p, p ≤ c.s.length → W ((MRing (n' + 2)).M_boulterref18_memo_ends c.g hh (some (c.m, 0)) c.tree (x : Int) c.s (p : Int)) fun r => ∃ Q qs, r.1 = ⟨some (Q, 0), c.s.length + 1⟩ ∧ qs.length = c.s.length + 1 ∧ Bo r.2 Q qs ∧ (∀ j, j ≤ c.s.length → (qs[j]? = some true ↔ Mt c.ns c.s x 0 p j)) ∧ (c.at U).Loc h6.size h r.2 os ∧ Fix hh r.2 ∧ (∀ b, c.Has hh b → c.Has r.2 b) ∧ Q ≠ h6.size := by
        intro hh os l x hxa p hp
        refine W.mono (IH x hxa (by omega) (n' + 2) (by omega) p hp (fun y => U y ∨ y = h6.size) hh ?_ l.inv) ?_
        · intro y hy
          have hz := l.fix.size
          have hz2 := hh.lt_of_get l.bo.get
          rcases hy with hy | hy
          · have := hU y hy; omega
          · omega
        · rintro r ⟨⟨Q, qs, e, lq, bq, nU, hq⟩, st⟩
          exact ⟨Q, qs, e, lq, bq, hq, l.call st, st.fix, st.has, fun h => nU (.inr h)⟩
      have hkk : nd.k = 0 ∨ nd.k = 1 ∨ nd.k = 2 ∨ nd.k = 3 ∨ nd.k = 4 ∨ nd.k = 5 ∨ nd.k = 6 ∨ nd.k = 7 := by omega
      rcases hkk with hk | hk | hk | hk | hk | hk | hk | hk
      · rw [hk]
        simp only [show ((0 : Int) == 0) = true from rfl, iteB_true]
        rw [bo_ix (by omega) h6.size]
        simp only [Option.bind_some]
        obtain ⟨h8, es, hs8, l8, b8⟩ := l7.one (ok.at U) (p := i) hi true
        have es : st c.g h7 (h6.size, i) [.bool true] = some h8 := es
        rw [es]
        simp only [Option.bind_some]
        refine W.ret ⟨_, l8, hasU hs8, fun j hj => ?_⟩
        · rw [inv0 hx hk]
          exact (b8 j).trans ⟨fun h => h.1, fun h => ⟨h, rfl⟩⟩
      · rw [hk]
        simp only [show ((1 : Int) == 0) = false from rfl, show ((1 : Int) == 1) = true from rfl, iteB_true, iteB_false]
        have none_ : (∀ j, ¬ Mt c.ns c.s a 0 i j) → ∃ os, (c.at U).Loc h6.size h h7 os ∧ c.Has h7 a ∧ ∀ j, j ≤ c.s.length → (os[j]? = some true ↔ Mt c.ns c.s a 0 i j) := fun hno => ⟨_, l7, has7, fun j hj => Iff.intro (fun h1 => by have := List.eq_of_mem_replicate (List.mem_of_getElem? h1); cases this) (fun m => (hno j m).elim)⟩
        by_cases hil : i < c.s.length
        · obtain ⟨b, eb⟩ : ∃ b, c.s[i]? = some b := ⟨_, List.getElem?_eq_getElem hil⟩
          rw [decide_eq_true (show (i : Int) < (c.s.length : Int) by omega)]
          simp only [iteB_true]
          rw [ixS_nat eb]
          simp only [Option.bind_some, l6]
          rw [in_eq h7 nd b.toNat_lt]
          simp only [Option.bind_some]
          refine W.ite (fun hb => ?_) (fun hb => W.ret (none_ fun j m => ?_))
          · rw [ek64 (by omega), bo_ix (by omega) h6.size]
            simp only [Option.bind_some]
            obtain ⟨h8, es, hs8, l8, b8⟩ := l7.one (ok.at U) (p := i + 1) (show i + 1 ≤ c.s.length by omega) true
            have es : st c.g h7 (h6.size, i + 1) [.bool true] = some h8 := es
            rw [es]
            simp only [Option.bind_some]
            refine W.ret ⟨_, l8, hasU hs8, fun j hj => ?_⟩
            rw [inv1 hx hk]
            exact (b8 j).trans ⟨fun h => ⟨h.1, b, eb, hb⟩, fun h => ⟨h.1, rfl⟩⟩
          · obtain ⟨_, b', eb', hb'⟩ := (inv1 hx hk).1 m
            rw [eb] at eb'; cases eb'
            rw [hb] at hb'; cases hb'
        · rw [decide_eq_false (show ¬ (i : Int) < (c.s.length : Int) by omega)]
          simp only [iteB_false, Option.bind_some]
          refine W.ret (none_ fun j m => ?_)
          obtain ⟨_, b', eb', _⟩ := (inv1 hx hk).1 m
          have := (List.getElem?_eq_some_iff.1 eb').1
          omega
      · rw [hk]
        simp only [show ((2 : Int) == 0) = false from rfl, show ((2 : Int) == 1) = false from rfl, show ((2 : Int) == 2) = true from rfl, iteB_true, iteB_false]
        rw [lT]
        simp only [Option.bind_some]
        rw [l1]
        simp only [Option.bind_some]
        have hA := m3 (by omega)
        have hB := m5 (by omega)
        obtain ⟨x, hxa⟩ : ∃ x : Nat, nd.a = x := ⟨nd.a.toNat, by omega⟩
        obtain ⟨y, hyb⟩ : ∃ y : Nat, nd.b = y := ⟨nd.b.toNat, by omega⟩
        rw [hxa]
        refine W.bind (W.mono (child l7 x (by omega) i hi) ?_)
        rintro ⟨_, h10⟩ ⟨Q, qs, rfl, lq, bq, hq, l10, f10, hs10, hQO⟩
        dsimp only at bq l10 f10 hs10 ⊢
        have zt := h4.lt_of_get g4t
        have zO := l10.new
        have g10t := f10.get _ _ g7t (memo_none _ _)
        have g10n := f10.get _ _ g7n (memo_none _ _)
        refine W.bind (W.mono (W.loop (fun st => ∃ (k : Nat) (os : List Bool), st.1 = k ∧ i ≤ k ∧ k ≤ c.s.length + 1 ∧ (c.at U).Loc h6.size h st.2 os ∧ Bo st.2 Q qs ∧ st.2.get h.size = some (.cells none 2 c.tree) ∧ st.2.get h4.size = some (.cells none 2 (refC nd)) ∧ c.Has st.2 a ∧ ∀ j, j ≤ c.s.length → (os[j]? = some true ↔ ∃ q, i ≤ q ∧ q < k ∧ qs[q]? = some true ∧ Mt c.ns c.s y 0 q j)) (fun st => c.s.length + 1 - st.1.toNat)
          ⟨i, _, rfl, Nat.le_refl _, by omega, l10, bq, g10t, g10n, hs10 a has7, fun j hj => Iff.intro (fun h1 => by have := List.eq_of_mem_replicate (List.mem_of_getElem? h1); cases this) (fun h => by obtain ⟨q, h1, h2, _⟩ := h; omega)⟩ ?_ (Q := fun hh => ∃ os, (c.at U).Loc h6.size h hh os ∧ c.Has hh a ∧ ∀ j, j ≤ c.s.length → (os[j]? = some true ↔ ∃ q, i ≤ q ∧ q < c.s.length + 1 ∧ qs[q]? = some true ∧ Mt c.ns c.s y 0 q j))) ?_)
        · rintro ⟨_, h11⟩ ⟨k, os, rfl, hik, hk1, l, bq1, gt1, gn1, hs1, bits⟩
          dsimp only at l bq1 gt1 gn1 hs1
          unfold M_boulterref18_memo_ends_L0
          dsimp only
          simp only [wrap_len ok, Int.toNat_natCast]
          refine W.iteP (fun hle => ?_) (fun hgt => ?_)
          · have hle : k ≤ c.s.length := by omega
            have fk : qs[k]? = some (qs.getD k false) := by rw [List.getD_eq_getElem?_getD, List.getElem?_eq_getElem (by omega)]; rfl
            rw [bo_ix (by omega) Q]
            simp only [Option.bind_some, bq1.ld fk]
            cases hb : qs.getD k false
            · rw [hb] at fk
              simp only [iteB_false, Option.bind_some]
              rw [ek64 (by omega)]
              refine W.ret ⟨⟨k + 1, os, rfl, by omega, by omega, l, bq1, gt1, gn1, hs1, fun j hj => ?_⟩, by dsimp only; omega⟩
              rw [bits j hj]
              constructor
              · rintro ⟨q, h1, h2, h3⟩; exact ⟨q, h1, by omega, h3⟩
              · rintro ⟨q, h1, h2, h3, h5⟩
                refine ⟨q, h1, ?_, h3, h5⟩
                by_cases hqk : q = k
                · subst hqk; rw [fk] at h3; cases h3
                · omega
            · rw [hb] at fk
              simp only [iteB_true]
              have lT2 : ldA h11 (h.size, 0) 2 = some c.tree := by rw [ldA_of gt1 (by simp) (Nat.le_refl 2)]; rfl
              have lb2 : ldI h11 (h4.size, 2) .i64 = some nd.b := ldI_of gn1 (by simp) rfl
              rw [lT2]
              simp only [Option.bind_some]
              rw [lb2]
              simp only [Option.bind_some]
              rw [hyb]
              refine W.bind (W.bind (W.mono (child l y (by omega) k hle) ?_))
              rintro ⟨_, h12⟩ ⟨P, ps, rfl, lp, bp, hp, l12, f12, hs12, hPO⟩
              dsimp only at bp l12 f12 hs12 ⊢
              refine W.bind (W.mono (l12.add (ok.at U) bp lp) ?_)
              rintro ⟨_, h13⟩ ⟨es, l13, o13, hs13, he⟩
              dsimp only at l13 o13 hs13 he ⊢
              refine W.ret ?_
              rw [ek64 (by omega)]
              refine W.ret ⟨⟨k + 1, es, rfl, by omega, by omega, l13, ⟨o13.keep (f12.bo bq1).get (by intro he; exact hQO (Option.some.inj he))⟩, o13.keep (f12.get _ _ gt1 (memo_none _ _)) (by intro he; have := Option.some.inj he; omega), o13.keep (f12.get _ _ gn1 (memo_none _ _)) (by intro he; have := Option.some.inj he; omega), hs13 a (hs12 a hs1), fun j hj => ?_⟩, by dsimp only; omega⟩
              refine (he j hj).trans ?_
              rw [bits j hj, hp j hj]
              constructor
              · rintro (⟨q, h1, h2, h3⟩ | h3)
                · exact ⟨q, h1, by omega, h3⟩
                · exact ⟨k, hik, by omega, fk, h3⟩
              · rintro ⟨q, h1, h2, h3, h5⟩
                by_cases hqk : q = k
                · subst hqk; exact .inr h5
                · exact .inl ⟨q, h1, by omega, h3, h5⟩
          · have : k = c.s.length + 1 := by omega
            subst this
            exact W.ret ⟨os, l, hs1, bits⟩
        · rintro hh ⟨os, l, hs, hb⟩
          refine W.ret ⟨os, l, hs, fun j hj => ?_⟩
          rw [inv2 hx hk hxa hyb, hb j hj]
          constructor
          · rintro ⟨q, h1, h2, h3, h5⟩; exact ⟨q, (hq q (by omega)).1 h3, h5⟩
          · rintro ⟨q, h1, h2⟩
            have e1 := h1.le
            have e2 := h2.le
            exact ⟨q, e1, by omega, (hq q (by omega)).2 h1, h2⟩
      · rw [hk]
        simp only [show ((3 : Int) == 0) = false from rfl, show ((3 : Int) == 1) = false from rfl, show ((3 : Int) == 2) = false from rfl, show ((3 : Int) == 3) = true from rfl, iteB_true, iteB_false]
        rw [lT]
        simp only [Option.bind_some]
        rw [l1]
        simp only [Option.bind_some]
        have hA := m3 (by omega)
        have hB := m5 (by omega)
        obtain ⟨x, hxa⟩ : ∃ x : Nat, nd.a = x := ⟨nd.a.toNat, by omega⟩
        obtain ⟨y, hyb⟩ : ∃ y : Nat, nd.b = y := ⟨nd.b.toNat, by omega⟩
        rw [hxa]
        refine W.bind (W.mono (child l7 x (by omega) i hi) ?_)
        rintro ⟨_, h16⟩ ⟨Q, qs, rfl, lq, bq, hq, l16, f16, hs16, _⟩
        dsimp only at bq l16 f16 hs16 ⊢
        refine W.bind (W.mono (l16.add (ok.at U) bq lq) ?_)
        rintro ⟨_, h17⟩ ⟨es, l17, o17, hs17, he⟩
        dsimp only at l17 o17 hs17 he ⊢
        have zt := h4.lt_of_get g4t
        have g17t : h17.get h.size = some (.cells none 2 c.tree) := o17.keep (f16.get _ _ g7t (memo_none _ _)) (by intro he; have := Option.some.inj he; omega)
        have g17n : h17.get h4.size = some (.cells none 2 (refC nd)) := o17.keep (f16.get _ _ g7n (memo_none _ _)) (by intro he; have := Option.some.inj he; omega)
        have lT2 : ldA h17 (h.size, 0) 2 = some c.tree := by rw [ldA_of g17t (by simp) (Nat.le_refl 2)]; rfl
        have lb2 : ldI h17 (h4.size, 2) .i64 = some nd.b := ldI_of g17n (by simp) rfl
        rw [lT2]
        simp only [Option.bind_some]
        rw [lb2]
        simp only [Option.bind_some]
        rw [hyb]
        refine W.bind (W.mono (child l17 y (by omega) i hi) ?_)
        rintro ⟨_, h18⟩ ⟨P, ps, rfl, lp, bp, hp, l18, f18, hs18, _⟩
        dsimp only at bp l18 f18 hs18 ⊢
        refine W.bind (W.mono (l18.add (ok.at U) bp lp) ?_)
        rintro ⟨_, h19⟩ ⟨fs, l19, o19, hs19, hf⟩
        dsimp only at l19 o19 hs19 hf ⊢
        refine W.ret ⟨fs, l19, hs19 a (hs18 a (hs17 a (hs16 a has7))), fun j hj => ?_⟩
        rw [inv3 hx hk hxa hyb, ← hq j hj, ← hp j hj]
        have e1 := he j hj
        have e2 := hf j hj
        have e3 : ¬ (List.replicate (c.s.length + 1) false)[j]? = some true := fun h => by have := List.eq_of_mem_replicate (List.mem_of_getElem? h); cases this
        rw [e2, e1]
        constructor
        · rintro ((h | h) | h)
          · exact (e3 h).elim
          · exact .inl h
          · exact .inr h
        · rintro (h | h)
          · exact .inl (.inr h)
          · exact .inr h
      · rw [hk]
        simp only [show ((4 : Int) == 0) = false from rfl, show ((4 : Int) == 1) = false from rfl, show ((4 : Int) == 2) = false from rfl, show ((4 : Int) == 3) = false from rfl, show ((4 : Int) == 4) = true from rfl, iteB_true, iteB_false]
        rw [lT]
        simp only [Option.bind_some]
        rw [lN]
        simp only [Option.bind_some]
        have hA := m3 (by omega)
        obtain ⟨x, hxa⟩ : ∃ x : Nat, nd.a = x := ⟨nd.a.toNat, by omega⟩
        refine W.bind (W.mono (repeat_spec ok (n := n') (x := x) (fun p hp => IH x (by omega) (by omega) n' (by omega) p hp) hU7 l7.inv hx hk hxa hi) ?_)
        rintro ⟨_, h20⟩ ⟨Q, qs, rfl, lQ, hq⟩
        dsimp only at lQ ⊢
        have lO := l7.call lQ.step
        refine W.bind (W.mono (lO.add (ok.at U) lQ.bo lQ.ln) ?_)
        rintro ⟨_, h21⟩ ⟨es, l21, _, hs21, he⟩
        dsimp only at l21 hs21 he ⊢
        refine W.ret ⟨es, l21, hs21 a (lQ.has a has7), fun j hj => ?_⟩
        rw [← hq j hj]
        refine (he j hj).trans ⟨fun h => ?_, .inr⟩
        rcases h with h | h
        · have := List.eq_of_mem_replicate (List.mem_of_getElem? h); cases this
        · exact h
      · rw [hk]
        simp only [show ((5 : Int) == 0) = false from rfl, show ((5 : Int) == 1) = false from rfl, show ((5 : Int) == 2) = false from rfl, show ((5 : Int) == 3) = false from rfl, show ((5 : Int) == 4) = false from rfl, show ((5 : Int) == 5) = true from rfl, iteB_true, iteB_false]
        rw [lT]
        simp only [Option.bind_some]
        rw [l1]
        simp only [Option.bind_some]
        have hA := m3 (by omega)
        obtain ⟨x, hxa⟩ : ∃ x : Nat, nd.a = x := ⟨nd.a.toNat, by omega⟩
        rw [hxa]
        refine W.bind (W.mono (child l7 x (by omega) i hi) ?_)
        rintro ⟨_, h22⟩ ⟨Q, qs, rfl, lq, bq, hq, l22, _, hs22, _⟩
        dsimp only at bq l22 hs22 ⊢
        refine W.bind (W.mono (l22.add (ok.at U) bq lq) ?_)
        rintro ⟨_, h23⟩ ⟨es, l23, _, hs23, he⟩
        dsimp only at l23 hs23 he ⊢
        refine W.ret ⟨es, l23, hs23 a (hs22 a has7), fun j hj => ?_⟩
        rw [inv5 hx hk hxa, ← hq j hj]
        refine (he j hj).trans ⟨fun h => ?_, .inr⟩
        rcases h with h | h
        · have := List.eq_of_mem_replicate (List.mem_of_getElem? h); cases this
        · exact h
      · rw [hk]
        simp only [show ((6 : Int) == 0) = false from rfl, show ((6 : Int) == 1) = false from rfl, show ((6 : Int) == 2) = false from rfl, show ((6 : Int) == 3) = false from rfl, show ((6 : Int) == 4) = false from rfl, show ((6 : Int) == 5) = false from rfl, show ((6 : Int) == 6) = true from rfl, iteB_true, iteB_false]
        rw [bo_ix (by omega) h6.size]
        simp only [Option.bind_some]
        obtain ⟨h8, es, hs8, l8, b8⟩ := l7.one (ok.at U) (p := i) hi ((i : Int) == (0 : Int))
        have es : st c.g h7 (h6.size, i) [.bool ((i : Int) == (0 : Int))] = some h8 := es
        rw [es]
        simp only [Option.bind_some]
        refine W.ret ⟨_, l8, hasU hs8, fun j hj => ?_⟩
        rw [inv6 hx hk]
        refine (b8 j).trans ?_
        simp only [beq_iff_eq]
        omega
      · rw [hk]
        simp only [show ((7 : Int) == 0) = false from rfl, show ((7 : Int) == 1) = false from rfl, show ((7 : Int) == 2) = false from rfl, show ((7 : Int) == 3) = false from rfl, show ((7 : Int) == 4) = false from rfl, show ((7 : Int) == 5) = false from rfl, show ((7 : Int) == 6) = false from rfl, show ((7 : Int) == 7) = true from rfl, iteB_true, iteB_false]
        rw [bo_ix (by omega) h6.size]
        simp only [Option.bind_some]
        obtain ⟨h8, es, hs8, l8, b8⟩ := l7.one (ok.at U) (p := i) hi ((i : Int) == (c.s.length : Int))
        have es : st c.g h7 (h6.size, i) [.bool ((i : Int) == (c.s.length : Int))] = some h8 := es
        rw [es]
        simp only [Option.bind_some]
        refine W.ret ⟨_, l8, hasU hs8, fun j hj => ?_⟩
        rw [inv7 hx hk]
        refine (b8 j).trans ?_
        simp only [beq_iff_eq]
        omega
    · rintro hh ⟨os, l, hs, hb⟩
      obtain ⟨X', h', p1, p2, p3, p4, p5⟩ := l.put (ok.at U) hU hs hi hb
      obtain ⟨r', q1, q2, _, _⟩ := l.inv.show_.look ha
      have q1 : ldL hh (c.m, 0 + 0) = some ⟨some (c.R, 0), c.ns.length⟩ := q1
      have q2 : ixL (⟨some (c.R, 0), c.ns.length⟩ : Sl) 1 (a : Int) = some (c.R, a) := q2
      have p1 : ldL hh (c.R, a) = some ⟨some (X', 0), c.s.length + 1⟩ := p1
      have p2 : ixL (⟨some (X', 0), c.s.length + 1⟩ : Sl) 1 (i : Int) = some (X', i) := p2
      have p3 : st c.g hh (X', i) [.slice (some (h6.size, 0)) (c.s.length + 1)] = some h' := p3
      simp only [Option.bind_some, q1, q2, p1, p2, p3]
      exact W.ret ⟨p4, p5⟩
end Go.Abs.L
namespace Go.Abs.L
open Go.Abs
set_option linter.unusedVariables false
set_option linter.unusedSimpArgs false

theorem cpy_row {g : Gd} {h : AHeap} {O Y L : Nat} {bs zs : List Bool} (bo : Bo h O zs) (bY : Bo h Y bs) (hm : g.may O = true) (lz : zs.length = L) (lb : bs.length = L) (hL : 0 < L) :
    ∃ h', cpy 1 g h ⟨some (O, 0), L⟩ L (.slice (some (Y, 0)) L) = some ((L : Int), h') ∧ Bo h' O bs := by
  have e1 : firstA h 1 (min L L) (.slice (some (Y, 0)) L) = some (bools bs) := by
    unfold Abs.firstA
    simp only [Nat.min_self]
    rw [if_neg (by omega), bY.get, cellsAt_of (by simp) (by simp; omega), List.drop_zero, List.take_of_length_le (by simp; omega)]
  have e2 : storeCellsA g h O 0 (bools bs) = some (h.set O (.cells (some tB) 2 (splice (bools zs) 0 (bools bs)))) := st_of (g := g) bo.get (o := 0) hm (by simp; omega) (bools_one bs)
  refine ⟨h.set O (.cells (some tB) 2 (bools bs)), ?_, ⟨by rw [AHeap.get_set_same _ _ (h.lt_of_get bo.get)]⟩⟩
  unfold cpy
  simp only
  rw [e1]
  simp only [Nat.min_self]
  rw [if_neg (by omega), e2, splice_all (by simp; omega)]
  rfl
theorem refEnds_spec {s : List UInt8} {f : Nat} {h : AHeap} {sl : Sl} {ns : List Nd} {root : Int} (o : Own ⟨f, []⟩ h 37 7 sl (ns.flatMap refC)) (hf : f ≤ h.size) (hs : s.length ≤ 1000) (hc : ns.length ≤ 1024) (may : ∀ (i : Nat) n, ns[i]? = some n → mayF n i = true) (oks : ∀ n ∈ ns, OkS n) {a i : Nat} (ha : a < ns.length) (hi : i ≤ s.length) :
    W (M_boulterref18_Ends ⟨f, []⟩ h [sl.v, .int .i64 root] (a : Int) s (i : Int)) fun r => ∃ O bs, r.1 = ⟨some (O, 0), s.length + 1⟩ ∧ bs.length = s.length + 1 ∧ Bo r.2 O bs ∧ ∀ j, j ≤ s.length → (bs[j]? = some true ↔ Mt ns s a 0 i j) := by
  have nl : sl.n = ns.length := by have := o.1; rw [chunk_length refC_len] at this; omega
  unfold M_boulterref18_Ends
  refine W.need rfl ?_
  simp only [Option.bind_some]
  obtain ⟨h1, e1⟩ : ∃ h1, h1 = h.push (.cells none 2 [sl.v, .int .i64 root]) := ⟨_, rfl⟩
  rw [← e1]
  have z1 : h1.size = h.size + 1 := by rw [e1]; rfl
  have k1 : Only none h h1 := by rw [e1]; exact Only.push _ _ _
  have g1 : h1.get h.size = some (.cells none 2 [sl.v, .int .i64 root]) := by rw [e1, AHeap.get_push_new]
  have l1 : ldL h1 (h.size, 0) = some sl := ldL_of g1 (by simp) rfl
  rw [l1]
  simp only [Option.bind_some, nl, Int.toNat_natCast]
  rw [rows_mk (by omega)]
  simp only [Option.bind_some]
  obtain ⟨h2, e2⟩ : ∃ h2, h2 = h1.push (.cells (some tM) 2 (List.replicate ns.length (.slice none 0))) := ⟨_, rfl⟩
  rw [← e2]
  have z2 : h2.size = h1.size + 1 := by rw [e2]; rfl
  have k2 : Only none h1 h2 := by rw [e2]; exact Only.push _ _ _
  have g2 : h2.get h1.size = some (.cells (some tM) 2 (List.replicate ns.length (.slice none 0))) := by rw [e2, AHeap.get_push_new]
  obtain ⟨h4, e4, g4, k4, z4⟩ := var_st (h := h2) (g := ⟨f, []⟩) (z := [.slice none 0]) (cs := [.slice (some (h1.size, 0)) ns.length]) (n := 1) (may_ge (by omega)) rfl rfl rfl
  rw [e4]
  simp only [Option.bind_some]
  have wl : IntKind.i64.wrap ((s.length : Int) + 1) = ((s.length + 1 : Nat) : Int) := ek64 (by omega)
  simp only [wl, Int.toNat_natCast]
  rw [bools_mk (by omega)]
  simp only [Option.bind_some]
  obtain ⟨h5, e5⟩ : ∃ h5, h5 = h4.push (.cells (some tB) 2 (bools (List.replicate (s.length + 1) false))) := ⟨_, rfl⟩
  rw [← e5]
  have z5 : h5.size = h4.size + 1 := by rw [e5]; rfl
  have k5 : Only none h4 h5 := by rw [e5]; exact Only.push _ _ _
  have b5 : Bo h5 h4.size (List.replicate (s.length + 1) false) := ⟨by rw [e5, AHeap.get_push_new]⟩
  have k15 := (k2.trans k4).trans k5
  have g5 := k15.keep g1 (by simp)
  have l5 : ldA h5 (h.size, 0) 2 = some [sl.v, .int .i64 root] := by rw [ldA_of g5 (by simp) (Nat.le_refl 2)]; rfl
  rw [l5]
  simp only [Option.bind_some]
  let c : Mk := ⟨f, h2.size, h1.size, sl, root, ns, s, fun _ => False⟩
  have ok : c.Ok := ⟨by show f ≤ h1.size; omega, hs, hc, may, fun i n hn => oks n (List.mem_of_getElem? hn)⟩
  have k05 := k1.trans k15
  have inv : (c.at fun y => y = h4.size).I h5 := by
    refine ⟨k5.keep g4 (by simp), own_mayM (o.keep fun j hj => k05.get j (o.lt hj) (by simp)) (fun id _ => may_ge (Nat.zero_le _)), List.replicate ns.length ⟨none, 0⟩, by simp; rfl, ?_, fun b r hr => .inl (List.eq_of_mem_replicate (List.mem_of_getElem? hr)), fun b d X n p hb _ => ?_⟩
    · have := (k4.trans k5).keep g2 (by simp)
      rw [List.map_replicate]
      exact this
    · have := List.eq_of_mem_replicate (List.mem_of_getElem? hb)
      cases this
  obtain ⟨bg, hbg⟩ : ∃ b, bigF = b + 10000 := ⟨bigF - 10000, by rw [bigF_eq]⟩
  refine W.bind (W.mono (ends_spec ok a ha bigF (by have : a < ns.length := ha; omega) i hi (fun y => y = h4.size) h5 (fun y hy => by omega) inv) ?_)
  rintro ⟨x5, h6⟩ ⟨⟨Y, bs, rfl, lb, bY, _, hb⟩, st6⟩
  have b6 := st6.fix.bo b5
  have lb : bs.length = s.length + 1 := lb
  obtain ⟨h7, ec, b7⟩ := cpy_row (g := ⟨f, []⟩) b6 bY (may_ge (by omega)) (show (List.replicate (s.length + 1) false).length = s.length + 1 by simp) lb (by omega)
  have ec : cpy 1 ⟨f, []⟩ h6 ⟨some (h4.size, 0), s.length + 1⟩ (s.length + 1) (.slice (some (Y, 0)) (s.length + 1)) = some (((s.length + 1 : Nat) : Int), h7) := ec
  show W ((cpy 1 ⟨f, []⟩ h6 ⟨some (h4.size, 0), s.length + 1⟩ (s.length + 1) (.slice (some (Y, 0)) (s.length + 1))).bind _) _
  rw [ec]
  exact W.ret ⟨h4.size, bs, rfl, lb, b7, hb⟩
end Go.Abs.L
