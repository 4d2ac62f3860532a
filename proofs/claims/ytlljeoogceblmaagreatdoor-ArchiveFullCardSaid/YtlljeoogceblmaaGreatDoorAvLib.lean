/-
 A part.
-/
import Derived.Test.YtlljeoogceblmaaGreatDoorAvMap
import Derived.Shelf.SlicesE.Clone
import Derived.Shelf.Spec.SlicesGrow
import Derived.Shelf.SlIter.Nil
import Derived.Shelf.SortM.Plain
import Derived.Shelf.SortM.SortNone
import Derived.Lib.Bytealg
import Derived.Lib.ItoaNum
import Derived.Lib.Itoa
import Derived.Shelf.Strings.Repeat
import Derived.Shelf.Strings.OnBuilder
import Derived.Shelf.Strings.Cut
import Derived.Shelf.Strings.Search3
namespace Go.Av
open Go.RowKit Go.Shelf Go.Proofs Go.Lib Go.Maps Go.MapKept Go.ChangeMaps Go.WideShapes
set_option linter.unusedVariables false
section
variable {P : Program} {w0 : World} {m : BK} {h : AF} {w : World}
theorem Dj {f : FuncId} {args : Array Value} {Q : Value → World → Prop} (he : ∀ args w, (callFunc f args).run P w = .ok (.enter f args) w) (hc : Calls P f args w fun e w' => ∃ v, e = .returned v ∧ Q v w') : Cb P f args w Q := by
 unfold Cb
 rw [he args w]
 exact hc
theorem OT {w w' : World} (M : Below w.heap.size w w') (g : Nat) : Dq w w' g := ⟨M.os, M.tape, M.output, M.size, fun k hk _ => M.block k hk⟩
theorem Rel.newAt (r : Rel P w0 m h w) {w' : World} {E : Km} {o : CJ} (ht : Dq w w' E.g) (hg : w.heap.size ≤ E.g)
  (hobj : JJ P (m.upd h.size E) w' E o) : Rel P w0 (m.upd h.size E) (h.push o) w' := by
 refine (r.ghost o).place ht (Nat.le_trans r.size hg) (fun id2 E2 o2 h2 ho2 hl2 => ?_) (r.Rp (by omega)) (fun x hd => by have := r.Mn hd; omega) (r.fresh (Nat.le_refl _)) (h.CB o) hobj
 have := ((r.ghost o).obj id2 E2 o2 h2 ho2).lt hl2
 omega
theorem Rel.row (r : Rel P w0 m h w) {w' : World} (M : Below w.heap.size w w') {e : TypeId} {z n : Nat} {v : Value} {ds : List Value} {cs : List AB} (ho : w'.ownsRow w.heap.size e z v n ds) (hn : v ≠ .slice none 0 0) (hz : H4 P (some e) = z)
  (I : CS m cs ds) (h1 : cs.all AB.one = true) : ∃ m' : BK, m.ext h.size m' ∧ Rel P w0 m' (h.push (.cells (some e) 2 cs)) w' ∧ VR m' (.slice (some (h.size, 0)) n) v := by
 obtain ⟨J, ⟨h0, _⟩ | ⟨g, cap, cur, rfl, hg, hc, hnc, _, hsz, htk⟩⟩ := ho
 ·exact absurd h0 hn
 ·have hle := BK.LP (m := m) (id := h.size) ⟨g, 0, z, cap * z⟩ (r.fresh (Nat.le_refl _))
  refine ⟨m.upd h.size ⟨g, 0, z, cap * z⟩, BK.JE m _ (Nat.le_refl _), r.newAt (OT M _) hg ?_, ?_⟩
  ·refine Io (e := e) (fz := (0, 0)) hc rfl hz.symm hsz.symm ?_ h1 (.inl rfl)
   rw [I.1, J, htk]
   exact I.mono hle
  ·exact .slice _ _ _ _ ⟨g, 0, z, cap * z⟩ _ (BK.EU _ _ _) hnc (fun _ => ⟨by simp, fun _ => by simp⟩)
def NQ : AB → Option Nat
 | .slice _ n => some n
 | .Gt n _ => some n
 | _ => none
theorem Vk {x : AB} {x' : Value} (D : VR m x x') (J : NQ x = some 0) : ∃ a c, x' = .slice a 0 c := by
 cases D <;> simp [NQ] at J
 case DY => exact ⟨_, _, rfl⟩
 case EO => exact ⟨_, _, rfl⟩
 case slice => subst J; exact ⟨_, _, rfl⟩
 case Jk => exact ⟨_, _, rfl⟩
 case Gt => subst J; exact ⟨_, _, rfl⟩
def RZ (i : TypeInfo) (n : Nat) : Bool := decide (i.size ≠ 0 ∧ n ≤ 1099511627776 ∧ n * i.bytes ≤ 1099511627776 ∧ i.zero.map (·.cells.size) = some i.size)
def Tx (P : Program) (e : TypeId) (h : AF) : List AB → Option (AB × AF)
 | [x] =>
  match NQ x with
  | some 0 =>
   match P.info? e with
   | some _ => some (.slice none 0, h)
   | none => none
  | some n =>
   match P.info? e with
   | some i =>
    match (Cg h i.size n x).map (·.map Em) with
    | some cs => if cs.all AB.one = true ∧ RZ i n = true then some (.slice (some (h.size, 0)) n, h.push (.cells (some e) 2 cs)) else none
    | none => none
   | none => none
  | none => none
 | _ => none
theorem QR {m : BK} {x : AB} {cargs : Array Value} (I : CS m [x] cargs.toList) : ∃ a, cargs = #[a] ∧ VR m x a := by
 have := I.1
 match cargs, this with
 | ⟨[a]⟩, _ => exact ⟨a, rfl, I.2 0 _ _ rfl rfl⟩
theorem KM {m : BK} {x y : AB} {cargs : Array Value} (I : CS m [x, y] cargs.toList) : ∃ a b, cargs = #[a, b] ∧ VR m x a ∧ VR m y b := by
 have := I.1
 match cargs, this with
 | ⟨[a, b]⟩, _ => exact ⟨a, b, rfl, I.2 0 _ _ rfl rfl, I.2 1 _ _ rfl rfl⟩
def En (P : Program) (G : Nat → Option (List AB)) (f : FuncId) (ext : Gd → AF → List AB → Option (AB × AF)) : Prop := Pt P G fun g h f' args => if f' = f then ext g h args else none
theorem En.of {G : Nat → Option (List AB)} {f : FuncId} {ext : Gd → AF → List AB → Option (AB × AF)}
  (D : ∀ g h args v h', ext g h args = some (v, h') → BF g h h' ∧ ∀ w0 m w (cargs : Array Value), Rel P w0 m h w → CS m args cargs.toList → Cb P f cargs w fun v' w' => ∃ m' : BK, (m.ext h.size m') ∧ Rel P w0 m' h' w' ∧ VR m' v v') : En P G f ext := by
 intro g h f' args v h' hc
 dsimp only at hc
 split at hc
 ·rename_i e; subst e
  obtain ⟨k, q⟩ := D g h args v h' hc
  exact ⟨k, fun w0 m w cargs _ r I => q w0 m w cargs r I⟩
 ·cases hc
theorem En.ZY {G : Nat → Option (List AB)} {f : FuncId} {ext : Gd → AF → List AB → Option (AB × AF)}
  (D : ∀ g h args v h', ext g h args = some (v, h') → BF g h h' ∧ ∀ w0 m w (cargs : Array Value), Bt G w → Rel P w0 m h w → CS m args cargs.toList → Cb P f cargs w fun v' w' => ∃ m' : BK, (m.ext h.size m') ∧ Rel P w0 m' h' w' ∧ VR m' v v') : En P G f ext := by
 intro g h f' args v h' hc
 dsimp only at hc
 split at hc
 ·rename_i e; subst e
  obtain ⟨k, q⟩ := D g h args v h' hc
  exact ⟨k, fun w0 m w cargs hz r I => q w0 m w cargs (hz.later r.below) r I⟩
 ·cases hc
def Sx (P : Program) (e : TypeId) (h : AF) : List AB → Option (AB × AF)
 | [x] =>
  match NQ x with
  | some 0 =>
   match P.info? e with
   | some _ => some (.Gt 0 [], h)
   | none => none
  | some n =>
   match P.info? e with
   | some i =>
    match (Cg h i.size n x).map (·.map Em) with
    | some cs => if cs.all AB.one = true ∧ RZ i n = true then some (.Gt n cs, h) else none
    | none => none
   | none => none
  | none => none
 | _ => none
def Vc (P : Program) (e : TypeId) (h : AF) : List AB → Option (AB × AF)
 | [.slice none 0, .int .i64 n] =>
  if n = 0 then some (.slice none 0, h) else
  match P.info? e with
  | some i => if 0 < n ∧ RZ i n.toNat = true then some (.slice (some (h.size, 0)) 0, h.push (.cells (some e) 2 [])) else none
  | none => none
 | _ => none
def WZ (h : AF) : List AB → Option (AB × AF)
 | [.str a, .str b] => some (.int .i64 (compareBytes a b), h)
 | _ => none
def Tn (P : Program) (f : FuncId) : Bool :=
 match P.funcs[f]? with
 | some fn => !(fn.name == "runtime.NumGoroutine") && fn.body.isNone
 | none => false
theorem Vy {f : FuncId} (D : Tn P f = true) {F : Array Value → Sem Value} (hn : ∀ fn, P.funcs[f]? = some fn → Extern.findNext fn = none ∧ Extern.find fn = some F) {cargs : Array Value} {v : Value} {w' : World} (h1 : (F cargs).run P w = .ok v w') {Q : Value → World → Prop} (hq : Q v w') : Cb P f cargs w Q := by
 unfold Tn at D
 split at D
 ·rename_i fn hfn
  simp only [Bool.and_eq_true, Bool.not_eq_true', Option.isNone_iff_eq_none] at D
  obtain ⟨e1, e2⟩ := hn fn hfn
  have hrun : (callFunc f cargs).run P w = .ok (.value v) w' := by
   unfold callFunc
   simp only [Sem.run_bind, program, Sem.run, Result.andThen_ok, hfn]
   rw [if_neg (by rw [D.1]; decide), if_pos (by rw [D.2]; rfl)]
   simp only [e1, e2, Sem.run_bind]
   rw [show Sem.run P (Go.mark (Mark.extern f)) w = .ok () w from rfl]
   simp only [Result.andThen_ok, h1, Sem.run_pure]
  unfold Cb
  rw [hrun]
  exact hq
 ·cases D
theorem Wm {f : FuncId} (G : Nat → Option (List AB)) (D : Tn P f = true) (hn : ∀ fn, P.funcs[f]? = some fn → Extern.findNext fn = none ∧ Extern.find fn = some Extern.BytealgIndexByte.indexByte) : En P G f fun g h args => Tc h args := by
 refine En.of fun g h args v h' hc => ?_
 unfold Tc at hc
 split at hc
 ·rename_i s c
  split at hc
  ·rename_i hr
   simp only [Option.some.injEq, Prod.mk.injEq] at hc
   obtain ⟨rfl, rfl⟩ := hc
   refine ⟨BF.refl _ _, fun w0 m w cargs r I => ?_⟩
   obtain ⟨a, b, rfl, ha, M⟩ := KM I
   obtain rfl := ha.DJ
   obtain rfl := M.Cd
   refine Vy D hn (v := .int .i64 (idxOf s (UInt8.ofNat c.toNat))) (w' := w) ?_ ⟨m, BK.ext.refl _ _, r, .int _ _⟩
   show Sem.run P (do
    let b ← Extern.Bytes.bytesOf (.string ⟨⟨s⟩⟩)
    let c ← Extern.Bytes.asByte (.int .u8 c)
    match (List.range b.size).find? fun i => b[i]! == c with
    | some i => pure (goInt i)
    | none => pure (goInt (-1))) w = _
   simp only [Extern.Bytes.bytesOf, Extern.Bytes.asByte, Sem.run_bind, Sem.run_pure, Result.andThen_ok]
   rw [idx_eq s c.toNat.toUInt8]
   unfold idxOf
   rw [show UInt8.ofNat c.toNat = c.toNat.toUInt8 from rfl]
   cases (List.range s.length).find? fun i => s[i]? == some c.toNat.toUInt8 <;> rfl
  ·cases hc
 ·cases hc
def Ge : List (AB × AB) → Option (List (List UInt8))
 | [] => some []
 | (.str s, _) :: r => (Ge r).map (s :: ·)
 | _ => none
def RP (x : List UInt8) : List (List UInt8) → List (List UInt8)
 | [] => [x]
 | y :: l => bif Op.bytesLess y x then y :: RP x l else x :: y :: l
def EZ (l : List (List UInt8)) : List (List UInt8) := l.foldr RP []
theorem MS (x : List UInt8) : ∀ l, (RP x l).Perm (x :: l)
 | [] => .refl _
 | y :: l => by
  unfold RP
  cases Op.bytesLess y x
  ·exact .refl _
  ·exact ((MS x l).cons y).trans (.swap x y l)
theorem K6 : ∀ l, (EZ l).Perm l
 | [] => .refl _
 | x :: l => (MS x (EZ l)).trans ((K6 l).cons x)
theorem Mq (x : List UInt8) : ∀ {l}, l.Pairwise (fun a b : List UInt8 => a ≤ b) → (RP x l).Pairwise fun a b : List UInt8 => a ≤ b
 | [], _ => by simp [RP]
 | y :: l, h => by
  unfold RP
  rw [bytesLess_eq]
  by_cases O : y < x
  ·rw [decide_eq_true O]
   refine List.pairwise_cons.2 ⟨fun z hz => ?_, Mq x (List.pairwise_cons.1 h).2⟩
   rcases List.mem_cons.1 ((MS x l).mem_iff.1 hz) with rfl | hz
   ·exact List.le_of_lt O
   ·exact (List.pairwise_cons.1 h).1 z hz
  ·rw [decide_eq_false O]
   have hxy : x ≤ y := List.not_lt.1 O
   refine List.pairwise_cons.2 ⟨fun z hz => ?_, h⟩
   rcases List.mem_cons.1 hz with rfl | hz
   ·exact hxy
   ·exact List.le_trans hxy ((List.pairwise_cons.1 h).1 z hz)
theorem Lo : ∀ l, (EZ l).Pairwise fun a b : List UInt8 => a ≤ b
 | [] => .nil
 | x :: l => Mq x (Lo l)
theorem Um (l : List (List UInt8)) : l.mergeSort (fun x y => decide (x ≤ y)) = EZ l := by
 have tr : ∀ a b c : List UInt8, leB a b = true → leB b c = true → leB a c = true := fun a b c h1 h2 => by simp only [leB, decide_eq_true_eq] at *; exact List.le_trans h1 h2
 have WH : ∀ a b : List UInt8, (leB a b || leB b a) = true := fun a b => by simp only [leB, Bool.or_eq_true, decide_eq_true_eq]; exact List.le_total a b
 refine List.Perm.eq_of_pairwise (le := fun a b : List UInt8 => a ≤ b) (fun a b _ _ h1 h2 => List.le_antisymm h1 h2) ?_ (Lo l) ((List.mergeSort_perm l leB).trans (K6 l).symm)
 exact (List.pairwise_mergeSort tr WH l).imp fun h => by simpa using h
def PL (ks : List (List UInt8)) : Bool := decide (ks.length ≤ 1099511627776) && ks.all fun s => decide (s.length ≤ 1099511627776)
def ND (e : TypeId) (h : AF) (ks : List (List UInt8)) : AB × AF :=
 match ks with
 | [] => (.slice none 0, h)
 | _ => (.slice (some (h.size, 0)) ks.length, h.push (.cells (some e) 2 ((EZ ks).map .str)))
def NB (h : AF) (b : Nat) : Option AB :=
 match h.get b with
 | some (.cells none 2 [v]) => some v
 | _ => none
def Iy (it : FuncId) (e : TypeId) (h : AF) : List AB → Option (AB × AF)
 | [.func (.func f) [] [.ptr (some (b, 0))]] =>
  if f = it then
   match NB h b with
   | some (.map none) => some (.slice none 0, h)
   | some (.map (some mid)) =>
    match h.get mid with
    | some (.map st es) =>
     if st = 2 then
      match Ge es with
      | some ks => if PL ks = true then some (ND e h ks) else none
      | none => none
     else none
    | _ => none
   | _ => none
  else none
 | _ => none
theorem Pb {es : List (AB × AB)} {en : Array MapEntry} (J : es.length = en.size) (I : ∀ (i : Nat) (k v : AB) (e : MapEntry), es[i]? = some (k, v) → en[i]? = some e → VR m k e.key ∧ VR m v e.val) {ks : List (List UInt8)} (hk : Ge es = some ks) :
  en.toList.map (·.key) = ks.map encStr := by
 have key : ∀ (es : List (AB × AB)) (l : List MapEntry) (ks : List (List UInt8)), es.length = l.length → (∀ (i : Nat) (k v : AB) (e : MapEntry), es[i]? = some (k, v) → l[i]? = some e → VR m k e.key) → Ge es = some ks → l.map (·.key) = ks.map encStr := by
  intro es
  induction es with
  | nil =>
   intro l ks J _ hk
   have : l = [] := List.length_eq_zero_iff.1 J.symm
   subst this
   simp [Ge] at hk
   subst hk; rfl
  | cons p es ih =>
   intro l ks J I hk
   obtain ⟨k, v⟩ := p
   cases l with
   | nil => simp at J
   | cons x l =>
    unfold Ge at hk
    split at hk
    ·cases ‹_ :: _ = []›
    ·rename_i s v' r heq
     injection heq with h1 h2
     injection h1 with h1 h3
     subst h1; subst h2
     simp only [Option.map_eq_some_iff] at hk
     obtain ⟨ks', hk', rfl⟩ := hk
     have D := (I 0 _ _ x rfl rfl).DJ
     rw [List.map_cons, List.map_cons, ih l ks' (by simpa using J) (fun i k v e h1 h2 => I (i + 1) k v e (by simpa using h1) (by simpa using h2)) hk', D]
    ·cases hk
 exact key es en.toList ks (by simpa using J) (fun i k v e h1 h2 => (I i k v e h1 (by simpa using h2)).1) hk
theorem Pa {l : List (List UInt8)} (h : l.Nodup) : (l.map encStr).Nodup := by
 rw [List.Nodup, List.pairwise_map]
 exact h.imp fun Y e => Y (encStr_inj e)
theorem HJ.stamped {en : Array MapEntry} {clock : Nat} (h : HJ en clock) {ks : List (List UInt8)} (hk : en.toList.map (·.key) = ks.map encStr) : MapKept.Stamped en clock := by
 refine ⟨h.1, h.2.1, ?_⟩
 have e : en.toList.filterMap KC = ks.map fun s => (⟨⟨s⟩⟩ : ByteArray) := by
  have key : ∀ (l : List MapEntry) (ks : List (List UInt8)), l.map (·.key) = ks.map encStr → l.filterMap KC = ks.map fun s => (⟨⟨s⟩⟩ : ByteArray) := by
   intro l
   induction l with
   | nil => intro ks h; cases ks with | nil => rfl | cons => simp at h
   | cons x l ih =>
    intro ks h
    cases ks with
    | nil => simp at h
    | cons s ks =>
     simp only [List.map_cons, List.cons.injEq] at h
     have D : KC x = some ⟨⟨s⟩⟩ := by unfold KC; rw [h.1]
     rw [List.filterMap_cons, D, ih ks h.2, List.map_cons]
  exact key _ _ hk
 have h3 := h.2.2
 rw [e] at h3
 rw [hk]
 refine Pa ?_
 rw [List.Nodup, List.pairwise_map] at h3
 exact h3.imp fun Y e => Y (by rw [e])
theorem TD {ρ σ τ : Ren} (L : SlLaysZ.n6 P ρ) (K : SlLaysZ.n7 P σ) (T : SlLaysM.n6 P τ) (hf9 : τ.f 6 = ρ.f 9) (ht : σ.t 26 = ρ.t 26) (hk : P.underlying (ρ.t 26) = some .string) (G : Nat → Option (List AB)) :
  En P G (ρ.f 6) fun g h args => Iy (σ.f 10) (ρ.t 26) h args := by
 refine En.of fun g h args v h' hc => ?_
 have en := L.f6.enters rfl
 have e9 : ∀ args w, (callFunc (ρ.f 9) args).run P w = .ok (.enter (ρ.f 9) args) w := by rw [← hf9]; exact T.f6.enters rfl
 have sorts : ∀ k, AnyZ.SortsIn P ρ Fence.wide k := fun k =>
  ⟨fun blk off cap ss W hH hblk hsz => callsIn_wide.2 (by rw [← hf9]; exact AnyM.slices_Sort_string T blk off cap ss W hH hblk hsz), fun p cap W => callsIn_wide.2 (by rw [← hf9]; exact AnyM.slices_Sort_string_none T p cap W)⟩
 have hsz : CQ P (ρ.t 26) = some 1 := by
  have := L.z26 default
  unfold Go.sizeOf typeInfo at this
  unfold CQ
  cases hi : P.info? (ρ.t 26) with
  | none => simp [hi] at this
  | some i => simp [hi] at this; simp [this]
 unfold Iy at hc
 split at hc
 ·rename_i f b
  split at hc
  ·rename_i hf
   subst hf
   have box : ∀ {x : AB}, NB h b = some x → ∀ {w0 : World} {m : BK} {w : World} {cargs : Array Value}, Rel P w0 m h w → CS m [.func (.func (σ.f 10)) [] [.ptr (some (b, 0))]] cargs.toList →
     ∃ Bm y, cargs = #[.func (.func (σ.f 10)) #[] #[.pointer (some ⟨Bm, 0, none⟩)]] ∧ Bm < w.heap.size ∧ w.cell? ⟨Bm, 0, none⟩ = some y ∧ VR m x y := by
    intro x D w0 m w cargs r I
    obtain ⟨a, rfl, ha⟩ := QR I
    cases ha with
    | func _ _ _ c d h1 k1 h2 k2 =>
     have hc0 : c = #[] := Array.eq_empty_of_size_eq_zero h1.symm
     subst hc0
     match d, h2, k2 with
     | ⟨[y]⟩, _, k2 =>
      have hy := k2 0 _ y rfl rfl
      cases hy with
      | ptr _ _ E hE =>
       unfold NB at D
       split at D
       ·rename_i v hg
        injection D with D
        subst D
        obtain ⟨⟨_, hbase⟩, hobj⟩ := r.obj b E _ hE hg
        obtain ⟨cur, e, fz, q1, q2, q3, _⟩ := hobj (by decide)
        obtain ⟨_, c, q4, q5⟩ := q3 0 v rfl
        have hb0 := hbase rfl rfl
        rw [hb0] at q4 ⊢
        exact ⟨E.g, c, rfl, (Array.getElem?_eq_some_iff.1 q1).1, by simpa [World.cell?, q1] using q4, q5⟩
       ·cases D
   have fin : ∀ {w0 : World} {m : BK} {w : World} {Bm : Nat} {S : List (List UInt8) → Prop} {N : Nat} {Q : Value → World → Prop}, N ≤ 1099511627776 → SeqGives Fence.wide 2 P (σ.f 10) #[.pointer (some ⟨Bm, 0, none⟩)] encStr S N w →
     (∀ v ss w', S ss → w'.ownsRow w.heap.size (ρ.t 26) 1 v ss.length ((ss.mergeSort (fun x y => decide (x ≤ y))).map encStr) → (v = .slice none 0 0 ↔ ss = []) → Below w.heap.size w w' → Q v w') →
     Cb P (ρ.f 6) #[.func (.func (σ.f 10)) #[] #[.pointer (some ⟨Bm, 0, none⟩)]] w Q := by
    intro w0 m w Bm S N Q hN hseq hQ
    refine Dj en ((callsIn_wide (n := 5)).1 ?_)
    refine (AnyZ.sorted_in L Fence.wide 5 trivial trivial trivial trivial rfl (by omega) (sorts _) e9 (σ.f 10) _ trivial (K.f10.enters rfl) S N (by unfold maxLen; omega) (by omega) w hseq).mono ?_
    rintro e w' ⟨v, ss, rfl, hS, Z, U, M⟩
    exact ⟨_, rfl, hQ v ss w' hS Z U M⟩
   split at hc
   ·rename_i hbx
    simp only [Option.some.injEq, Prod.mk.injEq] at hc
    obtain ⟨rfl, rfl⟩ := hc
    refine ⟨BF.refl _ _, fun w0 m w cargs r I => ?_⟩
    obtain ⟨Bm, y, rfl, O, hcell, hy⟩ := box hbx r I
    cases hy
    refine fin (w0 := w0) (m := m) (Nat.zero_le _) (AnyZ.keys_gives_nil (ρ := σ) { K with } Fence.wide 2 trivial rfl Bm w O hcell) fun v ss w' hS Z U M => ?_
    obtain rfl := U.2 hS
    exact ⟨m, BK.ext.refl _ _, r.later M, .DY⟩
   ·rename_i mid hbx
    split at hc
    ·rename_i st es hg
     split at hc
     ·rename_i hst
      split at hc
      ·rename_i ks hks
       split at hc
       ·rename_i hok
        injection hc with hc
        simp only [PL, Bool.and_eq_true, decide_eq_true_eq, List.all_eq_true] at hok
        obtain ⟨ok1, ok2⟩ := hok
        refine ⟨?_, fun w0 m w cargs r I => ?_⟩
        ·unfold ND at hc
         split at hc
         ·injection hc with e1 e2; subst e2; exact BF.refl _ _
         ·injection hc with e1 e2; subst e2; exact BF.push _ _ _
        ·obtain ⟨Bm, y, rfl, O, hcell, hy⟩ := box hbx r I
         cases hy with
         | map _ E hE =>
          obtain ⟨_, hobj⟩ := r.obj mid E _ hE hg
          obtain ⟨ents, clock, c1, c2, c3, c4⟩ := J6.two (hobj (by rw [hst]; decide)) (by rw [hst]; decide)
          have hkeys := Pb c2 c3 hks
          have hlen : ents.size = ks.length := by have := congrArg List.length hkeys; simpa using this
          let R : Value → Option (DataW Unit × List MemPlace) := fun _ => some (.nil, [])
          have hrd : ∀ (l : List MapEntry) (ks : List (List UInt8)), l.map (·.key) = ks.map encStr → (∀ s ∈ ks, s.length ≤ 1099511627776) → l.map (Go.WideElems.rd P (σ.t 26) R) = ks.map fun s => some (.string s, .nil) := by
           intro l
           induction l with
           | nil => intro ks h _; cases ks with | nil => rfl | cons => simp at h
           | cons x l ih =>
            intro ks h hs
            cases ks with
            | nil => simp at h
            | cons s ks =>
             simp only [List.map_cons, List.cons.injEq] at h ⊢
             refine ⟨?_, ih ks h.2 fun t ht => hs t (by simp [ht])⟩
             have hs1 := hs s (by simp)
             have hk1 : keyOf P (σ.t 26) (encStr s) = some (.string s) := by
              have : s.length ≤ maxLen := by unfold maxLen; omega
              simp [keyOf, mapKey, ht, hk, encStr, ByteArray.size, this]
             unfold Go.WideElems.rd
             rw [h.1, hk1]
             rfl
          have hrd' := hrd _ _ hkeys ok2
          have hrg : ents.toList.map (Go.WideElems.rg P (σ.t 26) R) = ks.map fun s => (.string s, .nil) := by
           have := congrArg (List.map fun o : Option (Lit × DataW Unit) => o.getD (.bool false, .nil)) hrd'
           rw [List.map_map, List.map_map] at this
           exact this
          have hown : w.ownsMap P (σ.t 26) R E.g ents.size (.map ((ents.toList.map (Go.WideElems.rg P (σ.t 26) R)).foldr DataW.insert [])) := by
           refine ⟨ents, clock, c1, ⟨by rw [hlen]; unfold maxLen; omega, c4.stamped hkeys, fun x D => ?_⟩, Nat.le_refl _, rfl⟩
           have hm := List.mem_map_of_mem (f := Go.WideElems.rd P (σ.t 26) R) D
           rw [hrd'] at hm
           obtain ⟨s, _, hs⟩ := List.mem_map.1 hm
           exact ⟨_, hs.symm⟩
          rw [hrg] at hown
          have hperm : (strKeys (H := Unit) (.map ((ks.map fun s => (Lit.string s, (DataW.nil : DataW Unit))).foldr DataW.insert []))).Perm ks := by
           have := (sorted_perm (ks.map fun s => (Lit.string s, (DataW.nil : DataW Unit)))).map fun p => strOf p.1
           refine (show List.Perm _ _ from this).trans ?_
           simp [List.map_map, Function.comp_def, strOf]
          have hsize : Maps.size (H := Unit) (.map ((ks.map fun s => (Lit.string s, (DataW.nil : DataW Unit))).foldr DataW.insert [])) = ks.length := by
           rw [Maps.size_eq, (sorted_perm _).length_eq, List.length_map]
          refine fin (w0 := w0) (m := m) (by rw [hsize]; exact ok1) (AnyZ.keys_gives (ρ := σ) { K with } Fence.wide 2 trivial rfl (by omega) Bm E.g ents.size _ w O hcell hown) fun v ss w' hS Z U M => ?_
          have hp := hS.trans hperm
          unfold ND at hc
          split at hc
          ·injection hc with e1 e2
           subst e1; subst e2
           obtain rfl := U.2 hp.eq_nil
           exact ⟨m, BK.ext.refl _ _, r.later M, .DY⟩
          ·rename_i Y
           injection hc with e1 e2
           subst e1; subst e2
           have hss : ss ≠ [] := fun e => Y (by subst e; exact hp.symm.eq_nil)
           rw [show (ss.mergeSort fun x y => decide (x ≤ y)) = EZ ks from (mergeSort_of_perm hp).trans (Um ks), hp.length_eq] at Z
           exact r.row M Z (fun e => hss (U.1 e)) (by simp [H4, Hh hsz]) (CS.map _ _ _ fun x _ => VR.str ⟨⟨x⟩⟩) (by simp [AB.one])
       ·cases hc
      ·cases hc
     ·cases hc
    ·cases hc
   ·cases hc
  ·cases hc
 ·cases hc
def SK (s : List UInt8) (n : Int) : Bool := decide (0 ≤ n ∧ n ≤ 1099511627776 ∧ s.length * n.toNat ≤ 1099511627776)
def Iv (h : AF) : List AB → Option (AB × AF)
 | [.str s, .int .i64 n] => if SK s n = true then some (.str (Lib.repeatL s n.toNat), h) else none
 | _ => none
theorem TB {ρ : Ren} (L : Lays.n105 P ρ) (X : Builder.Extra P ρ) (G : Nat → Option (List AB)) : En P G (ρ.f 105) fun g h args => Iv h args := by
 refine En.of fun g h args v h' hc => ?_
 have en : ∀ args w, (callFunc (ρ.f 105) args).run P w = .ok (.enter (ρ.f 105) args) w := enters_of L.f105 (by kernel_rfl) rfl
 unfold Iv at hc
 split at hc
 ·rename_i s n
  split at hc
  ·rename_i M
   obtain ⟨h0, h1, h2⟩ := of_decide_eq_true M
   simp only [Option.some.injEq, Prod.mk.injEq] at hc
   obtain ⟨rfl, rfl⟩ := hc
   refine ⟨BF.refl _ _, fun w0 m w cargs r I => ?_⟩
   obtain ⟨a, b, rfl, ha, hb'⟩ := KM I
   obtain rfl := ha.DJ
   obtain rfl := hb'.Cd
   obtain ⟨c, rfl⟩ : ∃ c : Nat, n = c := ⟨n.toNat, by omega⟩
   rw [Int.toNat_natCast] at h2 ⊢
   refine Dj en ((Any.strings_Repeat L X ⟨⟨s⟩⟩ c w (by omega) (by show s.length * c ≤ _; omega)).mono ?_)
   rintro e w' ⟨rfl, hbl⟩
   exact ⟨_, rfl, m, BK.ext.refl _ _, r.later hbl, VR.str ⟨⟨Lib.repeatL s c⟩⟩⟩
  ·cases hc
 ·cases hc
def U6 : List AB → Option (List (List UInt8))
 | [] => some []
 | .str s :: r => (U6 r).map (s :: ·)
 | _ => none
def Ws (ss : List (List UInt8)) (t : List UInt8) : Bool := decide (ss.length ≤ 1099511627776 ∧ (Lib.join ss t).length ≤ 1099511627776)
def Vm (h : AF) : List AB → Option (AB × AF)
 | [x, .str t] =>
  match NQ x with
  | some n =>
   match (bif Nat.beq n 0 then some [] else (Cg h 1 n x).bind U6) with
   | some ss => if Ws ss t = true then some (.str (Lib.join ss t), h) else none
   | none => none
  | none => none
 | _ => none
def NP (h : AF) : List AB → Option (AB × AF)
 | [.str s, .str t] => if s.length ≤ 4294967280 then some (.tuple [.str (Lib.cut s t).1, .str (Lib.cut s t).2.1, .bool (Lib.cut s t).2.2], h) else none
 | _ => none
def UJ (h : AF) : List AB → Option (AB × AF)
 | [.str s, .str t] => if s.length ≤ 4294967280 then some (.int .i64 (Lib.index s t), h) else none
 | _ => none
theorem QM {B : Nat} {a w : World} (h : Below B a w) (n : Nat) : Below B a (w.drewN n) := h.trans ⟨rfl, rfl, rfl, Nat.le_refl _, fun _ _ => rfl⟩
theorem W2 {ρ : Ren} (L : Lays.n145 P ρ) {G : Nat → Option (List AB)} (hg : G (ρ.g 1) = some []) : En P G (ρ.f 145) fun g h args => NP h args := by
 refine En.ZY fun g h args v h' hc => ?_
 have en : ∀ args w, (callFunc (ρ.f 145) args).run P w = .ok (.enter (ρ.f 145) args) w := enters_of L.f145 (by kernel_rfl) rfl
 unfold NP at hc
 split at hc
 ·rename_i s t
  split at hc
  ·rename_i M
   simp only [Option.some.injEq, Prod.mk.injEq] at hc
   obtain ⟨rfl, rfl⟩ := hc
   refine ⟨BF.refl _ _, fun w0 m w cargs hz r I => ?_⟩
   obtain ⟨a, b, rfl, ha, hb'⟩ := KM I
   obtain rfl := ha.DJ
   obtain rfl := hb'.DJ
   obtain ⟨n, hn⟩ := hz.2 _ hg
   refine Dj en ((Any.strings_Cut L ⟨⟨s⟩⟩ ⟨⟨t⟩⟩ n w (by show s.length < _; omega) hn).mono ?_)
   rintro e w' ⟨rfl, q, rfl⟩
   refine ⟨_, rfl, m, BK.ext.refl _ _, r.later (QM (Below.refl _ _) _), VR.tuple _ _ rfl fun i x y D hy => ?_⟩
   match i, D, hy with
   | 0, D, hy => cases D; cases hy; exact VR.str ⟨⟨_⟩⟩
   | 1, D, hy => cases D; cases hy; exact VR.str ⟨⟨_⟩⟩
   | 2, D, hy => cases D; cases hy; exact VR.bool _
   | i + 3, D, hy => simp at D
  ·cases hc
 ·cases hc
end
def Vp (h : AF) : List AB → Option (AB × AF)
 | [] => some (.bool true, h)
 | _ => none
def VY (h : AF) : List AB → Option (AB × AF)
 | [] => some (.undef, h)
 | _ => none
def U0 (f : AB → Option AB) : List AB → Option (List AB)
 | [] => some []
 | v :: vs => match f v, U0 f vs with | some v', some vs' => some (v' :: vs') | _, _ => none
def Xr (args : List AB) (i o : Nat) : Option AB :=
 match args[i]? with
 | some (.ptr (some (id, b))) => some (.ptr (some (id, b + o)))
 | _ => none
def UO (args : List AB) : Nat → AB → Option AB
 | 0, _ => none
 | n + 1, v =>
  match v with
  | .ptr (some (i, o)) => Xr args i o
  | .An cs => (U0 (UO args n) cs).map .An
  | .agg cs => (U0 (UO args n) cs).map .agg
  | .func fn a b => match U0 (UO args n) a, U0 (UO args n) b with | some a', some b' => some (.func fn a' b') | _, _ => none
  | v => bif Eh v then some v else none
def U8 (args : List AB) : List (AB × AB) → Option (List (AB × AB))
 | [] => some []
 | (k, v) :: es => match UO args 10 v, U8 args es with | some v', some es' => some ((k, v') :: es') | _, _ => none
def PG : AB → Bool
 | .ptr (some _) => true
 | _ => false
abbrev WD := List (List (AB × AB))
def YI (es : List (AB × AB)) (n : Nat) (h : AF) (args : List AB) : Option (AB × AF) :=
 bif Nat.beq args.length n && args.all PG then (U8 args es).map fun es' => (.map (some h.size), h.push (.map 2 es')) else none
def Ox (es : List (AB × AB)) (n : Nat) (h : AF) (args : List AB) : Option (AB × AF) :=
 bif Nat.beq args.length n && args.all PG then (U8 args es).map fun es' => (.map (some h.size), h.push (.map 3 es')) else none
def Tf : AB → AB → Bool
 | .bool a, .bool b => a == b
 | .int k a, .int k' b => decide (k = k') && decide (a = b)
 | .str a, .str b => decide (a = b)
 | _, _ => false
def PO : List AB → List AB → Bool
 | [], [] => true
 | a :: l, b :: r => Tf a b && PO l r
 | _, _ => false
def WY (tab : List (AB × AB)) (h : AF) : List AB → Option (AB × AF)
 | [.agg cs] => (tab.find? fun p => match p.1 with | .agg ds => PO ds cs | _ => false).map fun p => (p.2, h)
 | _ => none
def YA : AB → AB → Bool
 | .Gt n cs, .Gt n' cs' => Nat.beq n n' && PO cs cs'
 | x, y => Tf x y
def Uo : List AB → List AB → Bool
 | [], [] => true
 | x :: xs, y :: ys => YA x y && Uo xs ys
 | _, _ => false
def XP (tab : List (AB × AB)) (h : AF) (args : List AB) : Option (AB × AF) := (tab.find? fun p => match p.1 with | .tuple ks => Uo ks args | _ => false).map fun p => (p.2, h)
def Lt (h : AF) : List AB → Option (AB × AF)
 | [.int .i64 n] => if -9223372036854775808 ≤ n ∧ n ≤ 9223372036854775807 then some (.str (Lib.itoa n), h) else none
 | _ => none
def XS (h : AF) : List AB → Option (AB × AF)
 | [.int .u64 u] => if 1 ≤ u ∧ u < 18446744073709551616 then some (.int .i64 (Lib.nDigits u.toNat : Nat), h) else none
 | _ => none
def ZV (n u : Nat) : List UInt8 := (List.range n).map fun t => Lib.dg u (n - 1 - t)
def Xz (n : Nat) (u : Int) : Bool := decide (n ≠ 0 ∧ n ≤ 24 ∧ 0 ≤ u ∧ u < 18446744073709551616 ∧ u.toNat < 10 ^ n)
def Zn : AB → Bool
 | .int .u8 k => decide (0 ≤ k ∧ k ≤ 255)
 | _ => false
def Wj (g : Gd) (h : AF) : List AB → Option (AB × AF)
 | [.slice (some (id, 0)) n, .int .u64 u] =>
  if Xz n u = true then
   match h.get id with
   | some (.cells gr 2 cs) => if g.may id = true ∧ n ≤ cs.length ∧ (cs.take n).all Zn = true then some (.tuple [], h.set id (.cells gr 2 ((ZV n u.toNat).map (fun b => AB.int .u8 (b.toNat : Int)) ++ cs.drop n))) else none
   | _ => none
  else none
 | _ => none
abbrev I4 := List UInt8 × List UInt8
def Lf : List AB → Option (List I4)
 | [] => some []
 | .str k :: .str v :: r => (Lf r).map ((k, v) :: ·)
 | _ => none
def E4 (l : List I4) : List AB := l.flatMap fun p => [.str p.1, .str p.2]
def R2 (x : I4) : List I4 → List I4
 | [] => [x]
 | y :: l => if x.1 ≤ y.1 then x :: y :: l else y :: R2 x l
def Fj (l : List I4) : List I4 := l.foldr R2 []
def Nc : List I4 → Bool
 | [] => true
 | x :: l => l.all (fun y => y.1 != x.1) && Nc l
def Fq (c : FuncId) (g : Gd) (h : AF) : List AB → Option (AB × AF)
 | [.slice r n, .func (.func f) [] []] =>
  if f = c then
   if n = 0 then some (.tuple [], h) else
   match r with
   | some (id, 0) =>
    match h.get id with
    | some (.cells gr 2 cs) =>
     if cs.length = n * 2 ∧ n ≤ 1099511627776 ∧ g.may id = true then
      match Lf cs with
      | some l => if Nc l = true then some (.tuple [], h.set id (.cells gr 2 (E4 (Fj l)))) else none
      | none => none
     else none
    | _ => none
   | _ => none
  else none
 | _ => none
def Th (P : Program) (km : WD) (c : Nat × Nat × Nat) (g : Gd) (h : AF) (args : List AB) : Option (AB × AF) :=
 match c.1 with
 | 1 => Tc h args
 | 2 => Iy c.2.1 c.2.2 h args
 | 3 => WZ h args
 | 4 => Tx P c.2.2 h args
 | 5 => Vc P c.2.2 h args
 | 6 => Sx P c.2.2 h args
 | 7 => Iv h args
 | 8 => NP h args
 | 9 => UJ h args
 | 10 => Vm h args
 | 11 => Fq c.2.1 g h args
 | 12 => Lt h args
 | 13 => XS h args
 | 14 => Wj g h args
 | 30 => Vp h args
 | 31 => VY h args
 | 32 => YI (km.getD c.2.1 []) c.2.2 h args
 | 33 => Ox (km.getD c.2.1 []) c.2.2 h args
 | 34 => WY (km.getD c.2.1 []) h args
 | 35 => XP (km.getD c.2.1 []) h args
 | _ => none
def Hg : List (Nat × Nat × Nat × Nat) → Nat → Option (Nat × Nat × Nat)
 | [], _ => none
 | (f', c) :: l, f => bif Nat.beq f f' then some c else Hg l f
theorem Oi : ∀ {l : List (Nat × Nat × Nat × Nat)} {f : Nat} {c : Nat × Nat × Nat}, Hg l f = some c → (f, c) ∈ l
 | (f', c') :: l, f, c, h => by
  unfold Hg at h
  rw [G6] at h
  split at h
  ·rename_i e; subst e; injection h with h; subst h; simp
  ·exact List.mem_cons_of_mem _ (Oi h)
def MM (P : Program) (km : WD) (l : List (Nat × Nat × Nat × Nat)) (f : Nat) (g : Gd) (h : AF) (args : List AB) : Option (AB × AF) :=
 match Hg l f with
 | some c => Th P km c g h args
 | none => none
def Pv (ks : List Nat) (l : List (Nat × Nat × Nat × Nat)) : Nat → Bool
 | 0 => true
 | n + 1 => Pv ks l n && (!(Nat.beq (O0 ks n) 3) || (Hg l n).isSome)
theorem O3 {ks : List Nat} {l : List (Nat × Nat × Nat × Nat)} : ∀ {n : Nat}, Pv ks l n = true → ∀ f, f < n → O0 ks f = 3 → (Hg l f).isSome = true
 | 0, _, f, hf, _ => by omega
 | n + 1, h, f, hf, h3 => by
  simp only [Pv, Bool.and_eq_true] at h
  by_cases e : f = n
  ·subst e
   have := h.2
   rw [h3] at this
   simpa using this
  ·exact O3 h.1 f (by omega) h3
theorem Sv {C : E8} {km : WD} {ks : List Nat} {l : List (Nat × Nat × Nat × Nat)} (hk : C.kind = O0 ks) (hmix : C.P.follows .mixedOrders = true) (hall : SC C ks.length = true) (hro : C.Yk = T2 C.P C.Kk) (D : C.ext = MM C.P km l) (h3 : Pv ks l ks.length = true)
  (he : ∀ p ∈ l, En C.P C.Ca p.1 (Th C.P km p.2)) : G2 C := by
 refine ⟨hmix, fun f fn c hkf h1 h2 => ?_, fun f a b hr => ?_, fun f hf => ?_⟩
 ·have Y : C.kind f ≠ 0 := by omega
  refine RA hall ?_ Y (by omega) h1 h2
  rcases Nat.lt_or_ge f ks.length with h | h
  ·exact h
  ·rw [hk, Nf h] at Y; exact absurd rfl Y
 ·rw [hro] at hr
  simp only [T2, Bool.and_eq_true] at hr
  exact ⟨(Mj (C := C) (C' := UA C.P C.Kk) rfl rfl f a).trans hr.1.1, (Mj (C := C) (C' := UA C.P C.Kk) rfl rfl f b).trans hr.1.2, hr.2.1, hr.2.2⟩
 ·have O : f < ks.length := by
   rcases Nat.lt_or_ge f ks.length with h | h
   ·exact h
   ·rw [hk, Nf h] at hf; cases hf
  obtain ⟨c, J⟩ := Option.isSome_iff_exists.1 (O3 h3 f O (by rw [← hk]; exact hf))
  have := he _ (Oi J)
  have e : (fun (g : Gd) (h : AF) (f' : FuncId) (args : List AB) => if f' = f then C.ext f g h args else none) = fun (g : Gd) h f' args => if f' = f then Th C.P km c g h args else none := by
   funext g h f' args
   rw [D]
   simp only [MM, J]
  rw [e]; exact this
section
variable {C : E8} {km : WD} {l : List (Nat × Nat × Nat × Nat)} {g : Gd} {h : AF} {f : Nat} {L F : List Ck}
theorem K1 {c : Nat × Nat × Nat} {args : List AB} {v : AB} {h' : AF} (hk : C.kind f = 3) (D : C.ext = MM C.P km l) (J : Hg l f = some c) (he : Th C.P km c g h args = some (v, h')) : BZ C g h f args v h' := by
 refine ⟨1, ?_⟩
 show GF C (Co C 0) g h f _ = _
 unfold GF
 rw [hk]
 simp only [D, MM, J, he]
theorem Vt {s : List UInt8} {c n : Int} (hk : C.kind f = 3) (D : C.ext = MM C.P km l) (J : Hg l f = some (1, 0, 0)) (hm : IK s c = some n) : BZ C g h f [.str s, .int .u8 c] (.int .i64 n) h := by
 refine K1 hk D J ?_
 unfold IK at hm
 show Tc h [.str s, .int .u8 c] = some (.int .i64 n, h)
 unfold Tc
 split at hm
 ·rename_i hr; injection hm with hm; subst hm; dsimp only; rw [if_pos hr]
 ·cases hm
theorem SL {s : List UInt8} {n : Int} (hk : C.kind f = 3) (D : C.ext = MM C.P km l) (J : Hg l f = some (7, 0, 0)) (M : SK s n = true) : BZ C g h f [.str s, .int .i64 n] (.str (Lib.repeatL s n.toNat)) h := by
 refine K1 hk D J ?_
 show Iv h [.str s, .int .i64 n] = _
 unfold Iv
 dsimp only
 rw [if_pos M]
theorem VW {s t : List UInt8} {a : Nat} (hk : C.kind f = 3) (D : C.ext = MM C.P km l) (J : Hg l f = some (8, a, 0)) (M : decide (s.length ≤ 4294967280) = true) : BZ C g h f [.str s, .str t] (.tuple [.str (Lib.cut s t).1, .str (Lib.cut s t).2.1, .bool (Lib.cut s t).2.2]) h := by
 refine K1 hk D J ?_
 show NP h [.str s, .str t] = _
 unfold NP
 dsimp only
 rw [if_pos (of_decide_eq_true M)]
theorem La {V : Type} (ev : V → AB) : ∀ m : List (List UInt8 × V), Ge (Di (fun k => AB.str k) ev m) = some (m.map Prod.fst)
 | [] => rfl
 | (k, v) :: m => by
  show (Ge (Di (fun k => AB.str k) ev m)).map (k :: ·) = _
  rw [La ev m]; rfl
theorem Ug : ∀ l : List (List UInt8), AQ eS l = l.map .str
 | [] => rfl
 | x :: l => by
  have := Ug l
  simp only [AQ, List.flatMap_cons, List.map_cons] at *
  rw [this]; rfl
theorem HH.sorted {V : Type} {ev : V → AB} {m : List (List UInt8 × V)} {it t b mid : Nat} (A : HH g h L F) (hk : C.kind f = 3) (D : C.ext = MM C.P km l) (J : Hg l f = some (2, it, t)) (k1 k2 : Nat) (h1 : L[k1]? = some (.obj b (.cells none 2 [.map (some mid)])))
  (h2 : L[k2]? = some (.obj mid (.map 2 (Di (fun k => AB.str k) ev m)))) (M : PL (m.map Prod.fst) = true) :
  ∃ r h', BZ C g h f [.func (.func it) [] [.ptr (some (b, 0))]] (AP r (EZ (m.map Prod.fst)).length) h' ∧ HH g h' (.AQ r t (AQ eS (EZ (m.map Prod.fst))) :: L) F := by
 have hlen : (EZ (m.map Prod.fst)).length = (m.map Prod.fst).length := (K6 _).length_eq
 have key : Iy it t h [.func (.func it) [] [.ptr (some (b, 0))]] = some (ND t h (m.map Prod.fst)) := by
  unfold Iy
  simp only [if_true, NB, A.get k1 h1, A.get k2 h2, La, M]
 rw [Ug]
 generalize hks : m.map Prod.fst = ks at *
 cases ks with
 | nil => exact ⟨none, h, K1 hk D J (key.trans rfl), A.Hv t⟩
 | cons x ks => exact ⟨some h.size, _, K1 hk D J (h' := h.push (.cells (some t) 2 ((EZ (x :: ks)).map .str))) (key.trans (by rw [hlen]; rfl)), A.Se t _⟩
end
end Go.Av
