/-
 A part.
-/
import Derived.Test.YtdbkpibbjnhmgaaDoorAvOpP
namespace Go.Av
open Go.RowKit
section
variable {P : Program} {w0 : World} {m : AU} {h : AB} {w : World}
theorem Rel.cells (r : Rel P w0 m h w) {id o n : Nat} {E : HQ} {cs : List AA} (hE : m id = some E) (hc : CB (h.get id) o n = some cs) :
  ∃ ds : List Value, ds.length = n ∧ BU m cs ds ∧ (∀ (j : Nat) (v : Value), ds[j]? = some v → w.cell? ((⟨E.g, E.base + o, none⟩ : Addr).add j) = some v) ∧ (∀ a ∈ cs, a.one = true) := by
 unfold CB at hc
 split at hc
 ·rename_i gr st l hg
  split at hc
  ·rename_i hb
   injection hc with hc
   subst hc
   obtain ⟨_, hobj⟩ := r.obj id E _ hE hg
   obtain ⟨cur, e, fz, h1, h2, h3, _⟩ := hobj hb.1
   have hlen : ∀ j, j < l.length → E.base + j < cur.size := fun j hj => by
    obtain ⟨_, c, hc, _⟩ := h3 j _ (List.getElem?_eq_getElem hj)
    exact (Array.getElem?_eq_some_iff.1 hc).1
   have key : ∀ j, j < n → (cur.toList.drop (E.base + o))[j]? = cur[E.base + (o + j)]? := fun j hj => by
    rw [List.getElem?_drop, Nat.add_assoc]; simp
   refine ⟨(cur.toList.drop (E.base + o)).take n, ?_, ⟨?_, ?_⟩, ?_, ?_⟩
   ·rcases Nat.eq_zero_or_pos n with h0 | h0
    ·simp [h0]
    ·have := hlen (o + n - 1) (by omega)
     simp; omega
   ·have : n ≤ cur.size - (E.base + o) := by
     rcases Nat.eq_zero_or_pos n with h0 | h0
     ·omega
     ·have := hlen (o + n - 1) (by omega)
      omega
    simp
    omega
   ·intro j x y hx hy
    rw [List.getElem?_take] at hx hy
    split at hx
    ·rename_i hj
     rw [if_pos hj, key j hj] at hy
     rw [List.getElem?_drop] at hx
     obtain ⟨_, c, hc, hv⟩ := h3 (o + j) x hx
     rw [hc] at hy
     injection hy with hy
     subst hy
     exact hv
    ·cases hx
   ·intro j v hv
    rw [List.getElem?_take] at hv
    split at hv
    ·rename_i hj
     rw [key j hj] at hv
     rw [Addr.add_lit, cell_of_row w E.g _ cur e fz h1, ← hv, Nat.add_assoc]
    ·cases hv
   ·intro a ha
    obtain ⟨j, hj⟩ := List.mem_iff_getElem?.1 ha
    rw [List.getElem?_take] at hj
    split at hj
    ·rw [List.getElem?_drop] at hj
     exact (h3 _ a hj).1
    ·cases hj
  ·cases hc
 ·cases hc
theorem Mt {ob : Option A9} {A : Addr} {o : Nat} {t : TypeId} {v : AA} (hcl : ∀ n cs, CB ob o n = some cs → ∃ ds : List Value, ds.length = n ∧ BU m cs ds ∧ (∀ (j : Nat) (v : Value), ds[j]? = some v → w.cell? (A.add j) = some v)) (hl : Ek P ob t o = some v) :
  ∃ v', (loadVar t A).run P w = .ok v' w ∧ VR m v v' := by
 unfold Ek at hl
 split at hl
 ·rename_i ha
  cases hn : Bf P t with
  | none => simp [hn] at hl
  | some n =>
   simp only [hn, Option.bind_some] at hl
   cases hc : CB ob o n with
   | none => simp [hc] at hl
   | some cs =>
    simp only [hc, Option.map_some, Option.some.injEq] at hl
    subst hl
    obtain ⟨ds, h1, h2, h3⟩ := hcl _ _ hc
    subst h1
    refine ⟨.agg ds.toArray, ?_, BU.agg (by simpa using h2)⟩
    simp [loadVar, IW w ha, run_sizeOf w hn, run_loadCells_list w A ds h3]
 ·rename_i ha
  split at hl
  ·rename_i x hc
   injection hl with hl
   subst hl
   obtain ⟨ds, h1, h2, h3⟩ := hcl _ _ hc
   match ds, h1 with
   | [d], _ =>
    refine ⟨d, ?_, h2.2 0 x d rfl rfl⟩
    have := h3 0 d rfl
    simp only [Addr.add_zero'] at this
    simp [loadVar, IW w ha, this]
  ·cases hl
 ·cases hl
theorem IE (r : Rel P w0 m h w) {id o : Nat} {t : TypeId} {E : HQ} {v : AA} (hE : m id = some E) (hl : Ek P (h.get id) t o = some v) :
  ∃ v', (loadVar t ⟨E.g, E.base + o, none⟩).run P w = .ok v' w ∧ VR m v v' :=
 Mt (fun n cs hc => by obtain ⟨ds, h1, h2, h3, _⟩ := r.cells hE hc; exact ⟨ds, h1, h2, h3⟩) hl
theorem Rel.KO (r : Rel P w0 m h w) {g o : Nat} {a : List AA} {c : Nat → Value} (hf : ∀ i, i < a.length → m.fz g (o + i) = some (c i)) (hv : ∀ (i : Nat) (x : AA), a[i]? = some x → VR m x (c i)) :
  ∃ ds : List Value, ds.length = a.length ∧ BU m a ds ∧ (∀ (j : Nat) (v : Value), ds[j]? = some v → w.cell? ((⟨g, o, none⟩ : Addr).add j) = some v) := by
 refine ⟨(List.range a.length).map c, by simp, ⟨by simp, fun i x y hx hy => ?_⟩, fun j v hj => ?_⟩
 ·rw [List.getElem?_map] at hy
  have hi := (List.getElem?_eq_some_iff.1 hx).1
  rw [List.getElem?_range hi] at hy
  simp only [Option.map_some, Option.some.injEq] at hy
  subst hy
  exact hv i x hx
 ·rw [List.getElem?_map] at hj
  by_cases hi : j < a.length
  ·rw [List.getElem?_range hi] at hj
   simp only [Option.map_some, Option.some.injEq] at hj
   subst hj
   obtain ⟨cur, e, z, h1, h2⟩ := r.fz g (o + j) _ (hf j hi)
   rw [Addr.add_lit, cell_of_row w g _ cur e z h1, h2]
  ·rw [List.getElem?_eq_none (by simpa using hi)] at hj; cases hj
theorem Px (r : Rel P w0 m h w) {t : TypeId} {g o : Nat} {a : List AA} {c : Nat → Value} {v : AA} (hf : ∀ i, i < a.length → m.fz g (o + i) = some (c i)) (hv : ∀ (i : Nat) (x : AA), a[i]? = some x → VR m x (c i))
  (hl : Ek P (some (.cells none 1 a)) t 0 = some v) : ∃ v', (loadVar t ⟨g, o, none⟩).run P w = .ok v' w ∧ VR m v v' := by
 refine Mt (fun n cs hc => ?_) hl
 unfold CB at hc
 simp only at hc
 split at hc
 ·rename_i hb
  injection hc with hc
  subst hc
  obtain ⟨ds, h1, h2, h3⟩ := r.KO hf hv
  refine ⟨ds.take n, by rw [List.length_take]; omega, by rw [List.drop_zero]; exact h2.take n, fun j v hj => h3 j v ?_⟩
  rw [List.getElem?_take] at hj
  split at hj
  ·exact hj
  ·cases hj
 ·cases hc
theorem GO : ∀ (cs : List AA) (ds : List Value) (s : List UInt8), BU m cs ds → bytesOf cs = some s →
  (∀ d ∈ ds, ∃ n, d = .int .u8 n) ∧ s = ds.map (fun d => UInt8.ofNat (match d with | .int _ n => n.toNat | _ => 0))
 | [], ds, s, hv, hb => by
  have : ds = [] := List.eq_nil_of_length_eq_zero (by simpa using hv.1.symm)
  subst this
  simp [bytesOf] at hb
  subst hb
  simp
 | c :: cs, [], s, hv, _ => by simp [BU] at hv
 | c :: cs, d :: ds, s, hv, hb => by
  have hc := hv.2 0 c d rfl rfl
  have hv' : BU m cs ds := ⟨by simpa using hv.1, fun i x y hx hy => hv.2 (i + 1) x y (by simpa using hx) (by simpa using hy)⟩
  unfold bytesOf at hb
  split at hb
  ·rename_i heq; cases heq
  ·rename_i n r heq
   injection heq with e1 e2; subst e1; subst e2
   have := hc.B5; subst this
   cases hr : bytesOf cs with
   | none => simp [hr] at hb
   | some s' =>
    simp only [hr, Option.map_some, Option.some.injEq] at hb
    subst hb
    obtain ⟨h1, h2⟩ := GO cs ds s' hv' hr
    refine ⟨fun x hx => ?_, by simp [h2]⟩
    cases hx with
    | head => exact ⟨n, rfl⟩
    | tail _ hx => exact h1 x hx
  ·cases hb
theorem JH (w : World) : ∀ (ds : List Value) (acc : ByteArray), (∀ d ∈ ds, ∃ n, d = .int .u8 n) →
  (forIn (m := Sem) ds acc fun c s => match c with
   | .int .u8 n => pure (.yield (s.push (UInt8.ofNat n.toNat)))
   | _ => do
    stuck "bytesToString: byte expected"
    pure (.yield s)).run P w = .ok ⟨acc.data ++ (ds.map (fun d => UInt8.ofNat (match d with | .int _ n => n.toNat | _ => 0))).toArray⟩ w
 | [], acc, _ => by simp
 | d :: ds, acc, hd => by
  obtain ⟨n, rfl⟩ := hd d (by simp)
  have ih := JH w ds (acc.push (UInt8.ofNat n.toNat)) fun x hx => hd x (by simp [hx])
  simp only [List.forIn_cons, Sem.run_bind, Sem.run_pure, Result.andThen_ok]
  refine ih.trans ?_
  congr 2
  apply Array.ext'
  simp [ByteArray.push]
theorem Ov (r : Rel P w0 m h w) {src dst : TypeId} {x : AA} {x' : Value} {v : AA} (hx : VR m x x')
  (hl : S1 P ((DD x).bind h.get) src dst x = some v) : ∃ v', (convert src dst x').run P w = .ok v' w ∧ VR m v v' := by
 unfold S1 at hl
 split at hl
 ·rename_i e rr n hs hd
  split at hl
  ·rename_i he
   split at hl
   ·injection hl with hl
    subst hl
    refine ⟨.string .empty, ?_, .str .empty⟩
    cases hx <;> simp [convert, AK w hs, AK w hd, AK w he, Conv.bytesToString, loadCells, loadCellsFrom]
   ·rename_i id o
    cases hx with
    | slice _ _ _ cap E a hE hle hc =>
     split at hl
     ·rename_i hn
      subst hn
      injection hl with hl
      subst hl
      refine ⟨.string .empty, ?_, .str .empty⟩
      simp [convert, AK w hs, AK w hd, AK w he, Conv.bytesToString, loadCells, loadCellsFrom]
     ·rename_i hn
      obtain ⟨ha, _⟩ := hc (by omega)
      subst ha
      simp only [DD, Option.bind_some] at hl
      cases hcs : CB (h.get id) o n with
      | none => simp [hcs] at hl
      | some cs =>
       simp only [hcs, Option.bind_some] at hl
       cases hb : bytesOf cs with
       | none => simp [hb] at hl
       | some s =>
        simp only [hb, Option.map_some, Option.some.injEq] at hl
        subst hl
        obtain ⟨ds, h1, h2, h3, _⟩ := r.cells hE hcs
        subst h1
        obtain ⟨g1, g2⟩ := GO cs ds s h2 hb
        refine ⟨.string ⟨⟨s⟩⟩, ?_, .str ⟨⟨s⟩⟩⟩
        have hp := JH (P := P) w ds ByteArray.empty g1
        simp only [convert, Sem.run_bind, AK w hs, AK w hd, AK w he, Result.andThen_ok, Conv.bytesToString, run_loadCells_list w ⟨E.g, E.base + o, none⟩ ds h3]
        rw [← Array.forIn_toList]
        refine (congrArg (fun x => Result.andThen x fun a w' => Sem.run P (pure (Value.string a)) w') hp).trans ?_
        rw [g2]
        simp only [Result.andThen_ok, Sem.run_pure]
        congr 2
        apply ByteArray.ext
        apply Array.ext'
        simp
  ·cases hl
 ·rename_i e n cs hs hd
  split at hl
  ·rename_i he
   split at hl
   ·rename_i hn
    cases hb : bytesOf cs with
    | none => simp [hb] at hl
    | some s =>
     simp only [hb, Option.map_some, Option.some.injEq] at hl
     subst hl
     have main : ∀ (A : Option Addr) (cap : Nat) (ds : List Value), ds.length = n → BU m cs ds → (∀ A', A = some A' → ∀ (j : Nat) (v : Value), ds[j]? = some v → w.cell? (A'.add j) = some v) → (A = none → ds = []) →
       ∃ v', (convert src dst (.slice A n cap)).run P w = .ok v' w ∧ VR m (.str s) v' := by
      intro A cap ds h1 h2 h3 h4
      subst h1
      obtain ⟨g1, g2⟩ := GO cs ds s h2 hb
      refine ⟨.string ⟨⟨s⟩⟩, ?_, .str ⟨⟨s⟩⟩⟩
      cases A with
      | none =>
       have := h4 rfl; subst this
       simp at g2; subst g2
       simp [convert, AK w hs, AK w hd, AK w he, Conv.bytesToString]
       rfl
      | some A' =>
       have hp := JH (P := P) w ds ByteArray.empty g1
       simp only [convert, Sem.run_bind, AK w hs, AK w hd, AK w he, Result.andThen_ok, Conv.bytesToString, run_loadCells_list w A' ds (h3 A' rfl)]
       rw [← Array.forIn_toList]
       refine (congrArg (fun x => Result.andThen x fun a w' => Sem.run P (pure (Value.string a)) w') hp).trans ?_
       rw [g2]
       simp only [Result.andThen_ok, Sem.run_pure]
       congr 2
       apply ByteArray.ext
       apply Array.ext'
       simp
     cases hx with
     | Fy A cap => exact main A cap [] rfl (BU.nil m) (fun A' _ j v hj => by simp at hj) (fun _ => rfl)
     | Ev _ cap g o _ c hc hf hv =>
      obtain ⟨ds, h1, h2, h3⟩ := r.KO hf hv
      exact main _ cap ds (by omega) h2 (fun A' hA' => by injection hA' with hA'; subst hA'; exact h3) (fun h => by cases h)
   ·cases hl
  ·cases hl
 ·cases hl
theorem Nw (r : Rel P w0 m h w) {t : TypeId} {x : AA} {x' : Value} {lo hi : Option AA} {lo' hi' : Option Value} {v : AA} (hx : VR m x x') (hlo : Vj m lo lo') (hhi : Vj m hi hi')
  (hl : G4 P ((DD x).bind h.get) t x lo hi = some v) :
  ∃ v', (Instr.sliceAt t x' lo' hi' none).run P w = .ok v' w ∧ VR m v v' := by
 unfold G4 at hl
 split at hl
 ·-- an array behind a pointer
  rename_i n e id o hu
  simp only [DD, Option.bind_some] at hl
  cases hx with
  | ptr _ _ E hE =>
   split at hl
   ·rename_i st cs hg
    cases hz : Bf P e with
    | none => simp [hz] at hl
    | some z =>
     simp only [hz, Option.bind_some] at hl
     cases hb : Co n lo hi with
     | none => simp [hb] at hl
     | some lu =>
      obtain ⟨l, u⟩ := lu
      simp only [hb, Option.map_some, Option.some.injEq] at hl
      subst hl
      obtain ⟨hbs, h1, h2⟩ := Dc (P := P) w (c := n) false hlo hhi (Nat.le_refl _) hb
      have hesz : E.QK = 0 := (r.obj id E _ hE hg).1.1.1
      refine ⟨.slice (some (if n = l then ⟨E.g, E.base + o, none⟩ else ⟨E.g, E.base + (o + l * z), none⟩)) (u - l) (n - l), ?_, .slice id (o + l * z) (u - l) (n - l) E _ hE (by omega) (fun hne => ⟨by rw [if_neg (by omega)], fun h => absurd hesz h⟩)⟩
      simp [Instr.sliceAt, AK w hu, Instr.sureAddr, hbs, run_sizeOf w hz, Addr.add_lit, Nat.add_assoc]
   ·cases hl
 ·-- a nil slice
  rename_i e hu
  obtain ⟨A, rfl⟩ : ∃ A : Option Addr, x' = .slice A 0 0 := by
   cases hx with
   | B8 => exact ⟨none, rfl⟩
   | CU a => exact ⟨some a, rfl⟩
  cases hz : Bf P e with
  | none => simp [hz] at hl
  | some z =>
   simp only [hz, Option.bind_some] at hl
   cases hb : Co 0 lo hi with
   | none => simp [hb] at hl
   | some lu =>
    obtain ⟨l, u⟩ := lu
    simp only [hb, Option.map_some, Option.some.injEq] at hl
    subst hl
    obtain ⟨hbs, h1, h2⟩ := Dc (P := P) w (c := 0) true hlo hhi (Nat.le_refl _) hb
    have hu0 : u = 0 := by omega
    have hl0 : l = 0 := by omega
    subst hu0; subst hl0
    refine ⟨.slice A 0 0, ?_, by cases A with | none => exact .B8 | some a => exact .CU a⟩
    cases A <;> simp [Instr.sliceAt, Instr.slice, AK w hu, hbs, run_sizeOf w hz]
 ·-- a still one
  rename_i e n cs hu
  cases hz : Bf P e with
  | none => simp [hz] at hl
  | some z =>
   simp only [hz, Option.bind_some] at hl
   split at hl
   ·rename_i hlen
    cases hb : Co n lo hi with
    | none => simp [hb] at hl
    | some lu =>
     obtain ⟨l, u⟩ := lu
     simp only [hb, Option.map_some, Option.some.injEq] at hl
     subst hl
     cases hx with
     | Fy A cap =>
      obtain ⟨hbs, h1, h2⟩ := Dc (P := P) w (c := cap) true hlo hhi (Nat.zero_le _) hb
      have hu0 : u = 0 := by omega
      have hl0 : l = 0 := by omega
      subst hu0; subst hl0
      refine ⟨.slice (if cap = 0 then A else A.map (·.add (0 * z))) 0 cap, ?_, ?_⟩
      ·cases A <;> simp only [Instr.sliceAt, Instr.slice, Sem.run_bind, AK w hu, Result.andThen_ok, hbs, run_sizeOf w hz, Sem.run_pure] <;> by_cases e : cap = 0 <;> simp [e]
      ·simpa using VR.Fy _ _
     | Ev _ cap g o _ c hc hf hv =>
      obtain ⟨hbs, h1, h2⟩ := Dc (P := P) w (c := cap) true hlo hhi hc hb
      by_cases he : cap = l
      ·have hu0 : u = l := by omega
       subst hu0
       refine ⟨.slice (some ⟨g, o, none⟩) 0 0, ?_, ?_⟩
       ·simp only [Instr.sliceAt, Instr.slice, Sem.run_bind, AK w hu, Result.andThen_ok, hbs, run_sizeOf w hz, Sem.run_pure]
        simp [he]
       ·simpa using VR.Fy _ _
      ·refine ⟨.slice (some ⟨g, o + l * z, none⟩) (u - l) (cap - l), ?_, ?_⟩
       ·simp only [Instr.sliceAt, Instr.slice, Sem.run_bind, AK w hu, Result.andThen_ok, hbs, run_sizeOf w hz, Sem.run_pure]
        simp [he, Addr.add_lit]
       ·have hd := VR.Me (VR.IZ hf hv (l * z)) ((u - l) * z)
        cases hd with
        | DF _ _ _ c' hf' hv' => exact .Ev _ _ _ _ _ c' (by omega) hf' hv'
   ·cases hl
 ·-- a slice
  rename_i e id o n hu
  simp only [DD, Option.bind_some] at hl
  cases hx with
  | slice _ _ _ cap E a hE hle hc =>
   have main : ∀ z, Bf P e = some z → (E.QK ≠ 0 → E.QK = z) → ∀ l u, Co n lo hi = some (l, u) →
     ∃ v', (Instr.sliceAt t (.slice (some a) n cap) lo' hi' none).run P w = .ok v' w ∧ VR m (.slice (some (id, o + l * z)) (u - l)) v' := by
    intro z hz hesz l u hb
    obtain ⟨hbs, h1, h2⟩ := Dc (P := P) w (c := cap) true hlo hhi hle hb
    refine ⟨.slice (some (if cap = l then a else a.add (l * z))) (u - l) (cap - l), ?_, .slice id (o + l * z) (u - l) (cap - l) E _ hE (by omega) (fun hne => ?_)⟩
    ·simp only [Instr.sliceAt, Instr.slice, Sem.run_bind, AK w hu, Result.andThen_ok, hbs, run_sizeOf w hz, Sem.run_pure]
     by_cases e : cap = l <;> simp [e]
    ·obtain ⟨ha, hbd⟩ := hc (by omega)
     subst ha
     rw [if_neg (by omega), Addr.add_lit]
     refine ⟨by rw [Nat.add_assoc], fun hz0 => ?_⟩
     have h3 := hbd hz0
     have h4 := hesz hz0
     rw [← h4]
     have : l * E.QK + (cap - l) * E.QK = cap * E.QK := by rw [← Nat.add_mul]; congr 1; omega
     omega
   split at hl
   ·rename_i st cs z hg hz
    have hesz : E.QK = 0 := (r.obj id E _ hE hg).1.1.1
    cases hb : Co n lo hi with
    | none => simp [hb] at hl
    | some lu =>
     obtain ⟨l, u⟩ := lu
     simp only [hb, Option.map_some, Option.some.injEq] at hl
     subst hl
     exact main z hz (fun h => absurd hesz h) l u hb
   ·rename_i e' st cs z hg hz
    have hesz : E.QK = P.cellsOf e' := (r.obj id E _ hE hg).1.1.1
    split at hl
    ·rename_i hz'
     cases hb : Co n lo hi with
     | none => simp [hb] at hl
     | some lu =>
      obtain ⟨l, u⟩ := lu
      simp only [hb, Option.map_some, Option.some.injEq] at hl
      subst hl
      refine main z hz (fun _ => ?_) l u hb
      rw [hesz]
      unfold Bf at hz'
      unfold Program.cellsOf
      rw [hz']
      rfl
    ·cases hl
   ·cases hl
 ·cases hl
theorem P0 (r : Rel P w0 m h w) {ts : Array TypeId} {ty : TypeId} {x : AA} {x' : Value} {v : AA} (hx : VR m x x')
  (hl : VQ P ((DD x).bind h.get) ts x = some v) : ∃ v', (Builtin.len_ ts ty #[x']).run P w = .ok v' w ∧ VR m v v' := by
 unfold VQ at hl
 split at hl
 ·cases hl
 ·rename_i t ht
  split at hl
  ·rename_i k e hu
   injection hl with hl; subst hl
   cases hx
   exact ⟨_, by simp [Builtin.len_, ht, AK w hu, goInt], .int _ _⟩
  ·rename_i k e id hu
   simp only [DD, Option.bind_some] at hl
   cases hx with
   | map _ E hE =>
    split at hl
    ·rename_i st es hg
     split at hl
     ·rename_i hst
      injection hl with hl; subst hl
      obtain ⟨_, hobj⟩ := r.obj id E _ hE hg
      obtain ⟨es', h0, ents, clock, h1, h2, _⟩ := hobj hst
      rw [h0.len] at h2
      exact ⟨.int .i64 es.length, by simp [Builtin.len_, ht, AK w hu, goInt, getObj, Sem.run, h1, h2], .int _ _⟩
     ·cases hl
    ·cases hl
  ·rename_i dir e id hu
   simp only [DD, Option.bind_some] at hl
   cases hx with
   | chan _ E hE =>
    split at hl
    ·rename_i cap buf hg
     injection hl with hl; subst hl
     obtain ⟨bs, sn, rc, h1, h2⟩ := r.obj id E _ hE hg
     exact ⟨.int .i64 buf.length, by simp [Builtin.len_, ht, AK w hu, goInt, getObj, Sem.run, h1, h2.1], .int _ _⟩
    ·cases hl
  ·cases hl
theorem F6 : ∀ (d d' : Nat) (t : TypeId) (k : AA) (k' : Value) (e : Bool), d ≤ d' → VR m k k' → ES P d t k = true → (Instr.checkKey e d' t k').run P w = .ok () w
 | 0, _, _, _, _, _, _, _, hk => by simp [ES] at hk
 | d + 1, 0, _, _, _, _, hd, _, _ => by omega
 | d + 1, d' + 1, t, k, k', e, hd, hv, hk => by
  have ih := fun t k k' => F6 d d' t k k' e (by omega)
  unfold ES at hk
  split at hk
  ·rename_i hu; have := hv.B5; subst this; simp [Instr.checkKey, AK w hu]
  ·rename_i hu; have := hv.B9; subst this; simp [Instr.checkKey, AK w hu]
  ·rename_i hu; have := hv.Gc; subst this; simp [Instr.checkKey, AK w hu]
  ·rename_i fs cs hu
   obtain ⟨ds, rfl, vd⟩ := hv.Dy
   simp only [Instr.checkKey, Sem.run_bind, AK w hu, Result.andThen_ok]
   rw [← Array.forIn_toList]
   generalize fs.toList = l at hk
   induction l with
   | nil => simp
   | cons f l ihl =>
    simp only [List.all_cons, Bool.and_eq_true] at hk
    obtain ⟨⟨hn, hp⟩, hr⟩ := hk
    have hn' : f.name ≠ "_" := by simpa using hn
    cases hpa : HG P f.type cs f.offset with
    | none => simp [hpa] at hp
    | some x =>
     simp only [hpa] at hp
     obtain ⟨y, r1, vy⟩ := E7 (P := P) w vd hpa
     have := ih f.type x y vy hp
     have h3 := ihl hr
     simp only [List.forIn_cons, Sem.run_bind]
     rw [if_pos hn']
     simp only [Sem.run_bind, r1, this, Result.andThen_ok, Sem.run_pure]
     simpa using h3
  ·rename_i n el cs hu
   obtain ⟨ds, rfl, vd⟩ := hv.Dy
   split at hk
   ·rename_i z hz
    simp only [Instr.checkKey, Sem.run_bind, AK w hu, Result.andThen_ok]
    simp only [Std.Legacy.Range.forIn_eq_forIn_range', Std.Legacy.Range.size, Nat.sub_zero, Nat.add_one_sub_one, Nat.div_one, List.range_eq_range'] at hk ⊢
    generalize List.range' 0 n = l at hk
    induction l with
    | nil => simp
    | cons j l ihl =>
     simp only [List.all_cons, Bool.and_eq_true] at hk
     obtain ⟨hp, hr⟩ := hk
     cases hpa : HG P el cs (j * z) with
     | none => simp [hpa] at hp
     | some x =>
      simp only [hpa] at hp
      obtain ⟨y, r1, vy⟩ := E7 (P := P) w vd hpa
      have := ih el x y vy hp
      have h3 := ihl hr
      simp only [List.forIn_cons, Sem.run_bind, run_sizeOf w hz, Result.andThen_ok, r1, this, Sem.run_pure]
      simpa using h3
   ·cases hk
  ·cases hk
def Iv (m : AU) (lo hi : Nat) : Option (Nat × AA) → Option (Nat × Value) → Prop
 | none, none => True
 | some (j, v), some (j', v') => j = j' ∧ lo ≤ j ∧ j < hi ∧ VR m v v'
 | _, _ => False
theorem Iv.weaken {lo lo' hi hi' : Nat} (h1 : lo' ≤ lo) (h2 : hi ≤ hi') : ∀ {x : Option (Nat × AA)} {y : Option (Nat × Value)}, Iv m lo hi x y → Iv m lo' hi' x y
 | none, none, _ => trivial
 | some (_, _), some (_, _), h => ⟨h.1, Nat.le_trans h1 h.2.1, Nat.lt_of_lt_of_le h.2.2.1 h2, h.2.2.2⟩
theorem Ij {kt : TypeId} {k a : AA} {k' a' : Value} {d : TypeDesc} {b : Bool} (hk : VR m k k') (ha : VR m a a') (hd : P.underlying kt = some d) (he : HP P 10000 kt k a = some b) (w : World) :
  Instr.sameNow d k' a' = none ∨ Instr.sameNow d k' a' = some b := by
 have hrun := GG (P := P) w 10000 kt k a k' a' b hk ha he
 unfold Instr.sameNow
 split
 ·rename_i kk n k2 n2
  by_cases hkk : kk = k2
  ·subst hkk
   have e := hrun.symm.trans (run_equalIn_int w 9999 kt kk _ n n2 hd)
   injection e with e
   right; simp [e]
  ·left; simp [hkk]
 ·rename_i s1 s2
  have e := hrun.symm.trans (run_equalIn_string w 9999 kt s1 s2 hd)
  injection e with e
  right; rw [e, beq_toListBytes]
 ·rename_i b1 b2
  have e := hrun.symm.trans (run_equalIn_bool w 9999 kt b1 b2 hd)
  injection e with e
  right; rw [e]
 ·exact .inl rfl
theorem KX {kt : TypeId} {k : AA} {k' : Value} (hk : VR m k k') : ∀ (es : List (AA × AA)) (ents : List MapEntry) (i : Nat) (res : Option (Nat × AA)),
  es.length = ents.length → (∀ (j : Nat) (a b : AA) (e : MapEntry), es[j]? = some (a, b) → ents[j]? = some e → VR m a e.key ∧ VR m b e.val) → DN P kt k es i = some res →
  (∃ res', (Instr.findAsking kt k' ents i).run P w = .ok res' w ∧ Iv m i (i + es.length) res res') ∧
   (∀ d, P.underlying kt = some d → Instr.findNow d k' ents i = none ∨ ∃ res', Instr.findNow d k' ents i = some res' ∧ Iv m i (i + es.length) res res')
 | [], ents, i, res, hl, _, hf => by
  have : ents = [] := List.eq_nil_of_length_eq_zero hl.symm
  subst this
  simp [DN] at hf
  subst hf
  exact ⟨⟨none, by simp [Instr.findAsking], trivial⟩, fun d _ => .inr ⟨none, rfl, trivial⟩⟩
 | (a, b) :: es, [], _, _, hl, _, _ => by simp at hl
 | (a, b) :: es, e :: ents, i, res, hl, hp, hf => by
  obtain ⟨va, vb⟩ := hp 0 a b e rfl rfl
  have hp' : ∀ (j : Nat) (a b : AA) (e : MapEntry), es[j]? = some (a, b) → ents[j]? = some e → VR m a e.key ∧ VR m b e.val := fun j a b e' h1 h2 => hp (j + 1) a b e' (by simpa using h1) (by simpa using h2)
  unfold DN at hf
  split at hf
  ·rename_i he
   injection hf with hf
   subst hf
   have hfr : Iv m i (i + ((a, b) :: es).length) (some (i, b)) (some (i, e.val)) := ⟨rfl, Nat.le_refl _, by simp, vb⟩
   refine ⟨⟨some (i, e.val), ?_, hfr⟩, fun d hd => ?_⟩
   ·have := GG (P := P) w 10000 kt k a k' e.key true hk va he
    simp [Instr.findAsking, Op.equal, Op.maxDepth, this]
   ·rcases Ij hk va hd he w with hn | hn
    ·left; simp [Instr.findNow, hn]
    ·right; exact ⟨some (i, e.val), by simp [Instr.findNow, hn], hfr⟩
  ·rename_i he
   obtain ⟨⟨res', h1, h2⟩, h3⟩ := KX hk es ents (i + 1) res (by simpa using hl) hp' hf
   have wk : i + 1 + es.length ≤ i + ((a, b) :: es).length := by simp; omega
   refine ⟨⟨res', ?_, h2.weaken (by omega) wk⟩, fun d hd => ?_⟩
   ·have := GG (P := P) w 10000 kt k a k' e.key false hk va he
    simp [Instr.findAsking, Op.equal, Op.maxDepth, this, h1]
   ·rcases Ij hk va hd he w with hn | hn
    ·left; simp [Instr.findNow, hn]
    ·rcases h3 d hd with h4 | ⟨res2, h4, h5⟩
     ·left; simp [Instr.findNow, hn, h4]
     ·right; exact ⟨res2, by simp [Instr.findNow, hn, h4], h5.weaken (by omega) wk⟩
  ·cases hf
theorem Da {kt : TypeId} {k : AA} {k' : Value} (hk : VR m k k') {es : List (AA × AA)} {ents : List MapEntry} {res : Option (Nat × AA)} {d : TypeDesc} (hd : P.underlying kt = some d)
  (hl : es.length = ents.length) (hp : ∀ (j : Nat) (a b : AA) (e : MapEntry), es[j]? = some (a, b) → ents[j]? = some e → VR m a e.key ∧ VR m b e.val) (hf : DN P kt k es 0 = some res) :
  ∃ res', (Instr.findKey kt k' ents).run P w = .ok res' w ∧ Iv m 0 es.length res res' := by
 obtain ⟨⟨r1, h1, h2⟩, h3⟩ := KX (w := w) hk es ents 0 res hl hp hf
 rcases h3 d hd with hn | ⟨r2, hn, h4⟩
 ·exact ⟨r1, by simp [Instr.findKey, AK w hd, hn, h1], h2.weaken (Nat.le_refl _) (by omega)⟩
 ·exact ⟨r2, by simp [Instr.findKey, AK w hd, hn], h4.weaken (Nat.le_refl _) (by omega)⟩
theorem G0 {kt : TypeId} {k : AA} {n : Nat} (hk : ES P n kt k = true) : ∃ d, P.underlying kt = some d := by
 cases n with
 | zero => simp [ES] at hk
 | succ n =>
  cases hd : P.underlying kt with
  | some d => exact ⟨d, rfl⟩
  | none => simp [ES, hd] at hk
def KD (es es' : List (AA × AA)) : Prop := es' = es ∨ (es'.Perm es ∧ es.all Ho = true ∧ (es.map Prod.fst).Nodup)
theorem IF.find {st : Nat} {es es' : List (AA × AA)} (h : IF st es es') : KD es es' := by
 by_cases e : st = 3
 ·exact .inr (h.perm e)
 ·exact .inl (h.same e)
theorem Tp {t : TypeId} {k : AA} {s' : List UInt8} {b : Bool} (e : HP P 10000 t k (.str s') = some b) : ∃ s, ∀ s', HP P 10000 t k (.str s') = some (s == s') := by
 change HP P (9999 + 1) t k (.str s') = some b at e
 show ∃ s, ∀ s', HP P (9999 + 1) t k (.str s') = some (s == s')
 cases hu : P.underlying t with
 | none => unfold HP at e; rw [hu] at e; cases k <;> cases e
 | some d =>
  cases k with
  | str s0 =>
   cases d with
   | string => exact ⟨s0, fun s2 => by unfold HP; rw [hu]⟩
   | _ => unfold HP at e; rw [hu] at e; cases e
  | ptr r => unfold HP at e; rw [hu] at e; cases r <;> cases d <;> cases e
  | map r => unfold HP at e; rw [hu] at e; cases r <;> cases d <;> cases e
  | _ => unfold HP at e; rw [hu] at e; cases d <;> cases e
theorem Gh {t : TypeId} {k : AA} : ∀ (es : List (AA × AA)) (i : Nat) {r : Option (Nat × AA)}, es.all Ho = true → DN P t k es i = some r →
  (es = [] ∧ r = none) ∨ ∃ s, (∀ s', HP P 10000 t k (.str s') = some (s == s')) ∧ ((r = none ∧ ∀ p ∈ es, p.1 ≠ .str s) ∨ ∃ j v, r = some (j, v) ∧ (AA.str s, v) ∈ es)
 | [], i, r, _, h => by
  simp only [DN, Option.some.injEq] at h
  exact .inl ⟨rfl, h.symm⟩
 | (k', v) :: es, i, r, ha, h => by
  simp only [List.all_cons, Bool.and_eq_true] at ha
  right
  have hk' : ∃ s', k' = .str s' := by
   have := ha.1
   unfold Ho at this
   split at this
   ·rename_i s' _ e; exact ⟨s', by cases e; rfl⟩
   ·cases this
  obtain ⟨s', rfl⟩ := hk'
  have hs : ∃ s, ∀ s', HP P 10000 t k (.str s') = some (s == s') := by
   unfold DN at h
   cases e : HP P 10000 t k (.str s') with
   | none => rw [e] at h; cases h
   | some b => exact Tp e
  obtain ⟨s, hs⟩ := hs
  refine ⟨s, hs, ?_⟩
  unfold DN at h
  rw [hs s'] at h
  by_cases e : (s == s') = true
  ·rw [e] at h
   simp only [Option.some.injEq] at h
   have e' : s = s' := by simpa using e
   exact .inr ⟨i, v, h.symm, by rw [e']; exact .head _⟩
  ·have e : (s == s') = false := by simpa using e
   rw [e] at h
   simp only at h
   have hne : (AA.str s') ≠ .str s := fun q => by
    injection q with q
    rw [q] at e
    simp at e
   rcases Gh es (i + 1) ha.2 h with ⟨rfl, rfl⟩ | ⟨s2, h2, h3⟩
   ·exact .inl ⟨rfl, fun p hp => by simp only [List.mem_singleton] at hp; rw [hp]; exact hne⟩
   ·have e2 : s2 = s := by
     have a := hs s
     rw [h2 s] at a
     simpa using a
    subst e2
    rcases h3 with ⟨rfl, h3⟩ | ⟨j, u, rfl, h3⟩
    ·refine .inl ⟨rfl, fun p hp => ?_⟩
     rcases List.mem_cons.1 hp with rfl | hp
     ·exact hne
     ·exact h3 p hp
    ·exact .inr ⟨j, u, rfl, .tail _ h3⟩
theorem HZ {t : TypeId} {k : AA} {s : List UInt8} (hs : ∀ s', HP P 10000 t k (.str s') = some (s == s')) : ∀ (es : List (AA × AA)) (i : Nat), es.all Ho = true → ∃ r, DN P t k es i = some r
 | [], i, _ => ⟨none, rfl⟩
 | (k', v) :: es, i, ha => by
  simp only [List.all_cons, Bool.and_eq_true] at ha
  have hk' : ∃ s', k' = .str s' := by
   have := ha.1
   unfold Ho at this
   split at this
   ·rename_i s' _ e; exact ⟨s', by cases e; rfl⟩
   ·cases this
  obtain ⟨s', rfl⟩ := hk'
  unfold DN
  rw [hs s']
  cases s == s' with
  | true => exact ⟨_, rfl⟩
  | false => exact HZ hs es (i + 1) ha.2
theorem KD.hit {es es' : List (AA × AA)} (h : KD es es') {t : TypeId} {k v : AA} {j : Nat} (hf : DN P t k es 0 = some (some (j, v))) : ∃ j2, DN P t k es' 0 = some (some (j2, v)) := by
 rcases h with rfl | ⟨hp, ha, hn⟩
 ·exact ⟨j, hf⟩
 ·have ha' : es'.all Ho = true := by
   rw [List.all_eq_true] at ha ⊢
   exact fun x hx => ha x (hp.mem_iff.1 hx)
  rcases Gh es 0 ha hf with ⟨_, h⟩ | ⟨s, hs, ⟨h, _⟩ | ⟨j', v', h, hm⟩⟩
  ·cases h
  ·cases h
  ·cases h
   obtain ⟨r, hr⟩ := HZ hs es' 0 ha'
   rcases Gh es' 0 ha' hr with ⟨e, _⟩ | ⟨s2, h2, h3⟩
   ·rw [e] at hp
    have := hp.symm.eq_nil
    rw [this] at hm
    cases hm
   ·have e2 : s2 = s := by
     have a := hs s
     rw [h2 s] at a
     simpa using a
    subst e2
    rcases h3 with ⟨_, h3⟩ | ⟨j3, u, rfl, h3⟩
    ·exact absurd rfl (h3 _ (hp.mem_iff.2 hm))
    ·rw [Mm hn hm (hp.mem_iff.1 h3)]
     exact ⟨j3, hr⟩
theorem KD.XG {es es' : List (AA × AA)} (h : KD es es') {t : TypeId} {k : AA} (hf : DN P t k es 0 = some none) : DN P t k es' 0 = some none := by
 rcases h with rfl | ⟨hp, ha, hn⟩
 ·exact hf
 ·have ha' : es'.all Ho = true := by
   rw [List.all_eq_true] at ha ⊢
   exact fun x hx => ha x (hp.mem_iff.1 hx)
  rcases Gh es 0 ha hf with ⟨rfl, _⟩ | ⟨s, hs, ⟨_, hm⟩ | ⟨j', v', h, hm⟩⟩
  ·rw [hp.eq_nil]; rfl
  ·obtain ⟨r, hr⟩ := HZ hs es' 0 ha'
   rcases Gh es' 0 ha' hr with ⟨rfl, e⟩ | ⟨s2, h2, h3⟩
   ·rfl
   ·have e2 : s2 = s := by
     have a := hs s
     rw [h2 s] at a
     simpa using a
    subst e2
    rcases h3 with ⟨e, _⟩ | ⟨j3, u, rfl, h3⟩
    ·rw [e] at hr; exact hr
    ·exact absurd rfl (hm _ (hp.mem_iff.1 h3))
  ·cases h
theorem MI (r : Rel P w0 m h w) {t : TypeId} {x k : AA} {x' k' : Value} {ok : Bool} {v : AA} (hx : VR m x x') (hk : VR m k k')
  (hl : Ia P ((DD x).bind h.get) t x k ok = some v) : ∃ v', (Instr.lookup t x' k' ok).run P w = .ok v' w ∧ VR m v v' := by
 unfold Ia at hl
 split at hl
 ·rename_i kt et rr hu
  split at hl
  ·rename_i hkey
   obtain ⟨d, hd⟩ := G0 hkey
   have ents : ∀ es, (match rr with | none => some [] | some _ => match (DD (.map rr)).bind h.get with | some (.map st es) => if st ≠ 0 then some es else none | _ => none) = some es →
     ∃ en : Array MapEntry, ((x' = .map none ∧ en = #[]) ∨ ∃ g clock, x' = .map (some g) ∧ w.heap[g]? = some (.map en clock)) ∧ ∃ es', KD es es' ∧ es'.length = en.toList.length ∧ ∀ (j : Nat) (a b : AA) (e : MapEntry), es'[j]? = some (a, b) → en.toList[j]? = some e → VR m a e.key ∧ VR m b e.val := by
    intro es hes
    cases rr with
    | none =>
     simp at hes
     subst hes
     cases hx
     exact ⟨#[], .inl ⟨rfl, rfl⟩, [], .inl rfl, rfl, fun j a b e h => by simp at h⟩
    | some id =>
     cases hx with
     | map _ E hE =>
      simp only [DD, Option.bind_some] at hes
      split at hes
      ·rename_i st es' hg
       split at hes
       ·rename_i hst
        injection hes with hes
        subst hes
        obtain ⟨_, hobj⟩ := r.obj id E _ hE hg
        obtain ⟨es2, h0, en, clock, h1, h2, h3, _⟩ := hobj hst
        exact ⟨en, .inr ⟨E.g, clock, rfl, h1⟩, es2, h0.find, by simpa using h2, fun j a b e ha he => h3 j a b e ha (by simpa using he)⟩
       ·cases hes
      ·cases hes
   split at hl
   ·rename_i es hes
    obtain ⟨en, g1, es', hfa, g2, g3⟩ := ents es hes
    have hck : ∀ e, (Instr.checkKey e 10000 kt k').run P w = .ok () w := fun e => F6 20 10000 kt k k' e (by omega) hk hkey
    split at hl
    ·rename_i j v0 hf
     injection hl with hl
     subst hl
     obtain ⟨j2, hf⟩ := hfa.hit hf
     obtain ⟨res', f1, f2⟩ := Da (w := w) hk hd g2 g3 hf
     cases res' with
     | none => exact f2.elim
     | some p =>
      obtain ⟨j', v'⟩ := p
      obtain ⟨_, _, _, hv⟩ := f2
      refine ⟨if ok then .tuple #[v', .bool true] else v', ?_, ?_⟩
      ·rcases g1 with ⟨rfl, rfl⟩ | ⟨g, clock, rfl, hg⟩
       ·simp [Instr.lookup, AK w hu, hck, f1]
       ·simp [Instr.lookup, AK w hu, getObj, Sem.run, hg, hck, f1]
      ·cases ok
       ·simpa using hv
       ·simpa using BU.tuple (c := #[v', .bool true]) (.cons hv (.cons (.bool true) (.nil m)))
    ·rename_i hf
     cases hz : Ec P et with
     | none => simp [hz] at hl
     | some z =>
      simp only [hz, Option.map_some, Option.some.injEq] at hl
      subst hl
      obtain ⟨res', f1, f2⟩ := Da (w := w) hk hd g2 g3 (hfa.XG hf)
      cases res' with
      | some p => exact f2.elim
      | none =>
       obtain ⟨i, zz, hi, hiz, hvz⟩ := Dt (m := m) hz
       have hzv : (zeroValue et).run P w = .ok zz w := by simp [zeroValue, typeInfo, hi, hiz]
       refine ⟨if ok then .tuple #[zz, .bool false] else zz, ?_, ?_⟩
       ·rcases g1 with ⟨rfl, rfl⟩ | ⟨g, clock, rfl, hg⟩
        ·simp [Instr.lookup, AK w hu, hck, f1, hzv]
        ·simp [Instr.lookup, AK w hu, getObj, Sem.run, hg, hck, f1, hzv]
       ·cases ok
        ·simpa using hvz
        ·simpa using BU.tuple (c := #[zz, .bool false]) (.cons hvz (.cons (.bool false) (.nil m)))
    ·cases hl
   ·cases hl
  ·cases hl
 ·cases hl
theorem QC {t : TypeId} {o : Nat} : Ek P none t o = none := by
 unfold Ek
 split
 ·cases Bf P t <;> rfl
 ·rfl
 ·rfl
theorem QE {t : TypeId} {o : Nat} {cs : List AA} {v : AA} (hf : ∀ a ∈ cs, Av.DW a = true) (hl : Ek P (some (.cells none 1 cs)) t o = some v) : Av.Fk v = true := by
 unfold Ek at hl
 split at hl
 ·cases hn : Bf P t with
  | none => simp [hn] at hl
  | some n =>
   simp only [hn, Option.bind_some, CB] at hl
   split at hl
   ·simp only [Option.map_some, Option.some.injEq] at hl
    subst hl
    unfold Av.Fk
    rw [List.all_eq_true]
    intro a ha
    exact hf a (List.mem_of_mem_drop (List.mem_of_mem_take ha))
   ·simp at hl
 ·split at hl
  ·rename_i x hc
   injection hl with hl
   subst hl
   simp only [CB] at hc
   split at hc
   ·injection hc with hc
    have hx : Av.DW x = true := hf x (List.mem_of_mem_drop (List.mem_of_mem_take (by rw [hc]; simp)))
    cases x <;> simp_all [Av.Fk, Av.DW]
   ·cases hc
  ·cases hl
 ·cases hl
theorem KN {G : Nat → Option (List AA)} (hz : BO G w0) (r : Rel P w0 m h w) {fr : Fr} {a : Act} (hf : FR m fr a) {o : Oper} {v : AA} (hr : HB P G fr ((CJ fr o.op).bind h.get) o.op = some v) :
  ∃ v', (execOp a.eval o).run P w = .ok (.value v') w ∧ VR m v v' := by
 obtain ⟨dst, op, ty, pos, aft, gd⟩ := o
 simp only at hr
 have lift : ∀ {s : Sem Value} {u : AA}, (∃ v', s.run P w = .ok v' w ∧ VR m u v') → ∃ v', (do pure (.value (← s)) : Sem Next).run P w = .ok (.value v') w ∧ VR m u v' := by
  rintro s u ⟨v', h1, h2⟩
  exact ⟨v', by simp [h1], h2⟩
 cases op with
 | load t x =>
  simp only [HB, CJ] at hr
  split at hr
  ·rename_i id o hx
   rw [hx] at hr
   simp only [DD, Option.bind_some] at hr
   have hv := hf.ev x
   rw [hx] at hv
   generalize hy : a.eval x = y at hv
   cases hv with
   | ptr _ _ E hE =>
    obtain ⟨v', h1, h2⟩ := IE r hE hr
    exact lift ⟨v', by simp [Instr.loadAt, Instr.sureAddr, hy, h1], h2⟩
  ·rename_i gl o hx
   have hv := hf.ev x
   rw [hx] at hv
   generalize hy : a.eval x = y at hv
   cases hv with
   | GK _ _ =>
    cases hG : G gl with
    | none => rw [hG] at hr; simp only [Option.map_none] at hr; rw [QC] at hr; cases hr
    | some cs =>
     rw [hG] at hr
     simp only [Option.map_some] at hr
     obtain ⟨tot, r', hfl⟩ := hz.rel (P := P) r.below hG
     obtain ⟨v', h1, h2⟩ := IE (id := 0) (o := o) (E := ⟨gl, 0, 0, tot⟩) r' (by simp) (by rw [AB.Cv]; exact hr)
     refine lift ⟨v', by simp only [Nat.zero_add] at h1; simp [Instr.loadAt, Instr.sureAddr, hy, h1], ?_⟩
     exact h2.Fk (QE hfl hr)
  ·rename_i cs hx
   have hv := hf.ev x
   rw [hx] at hv
   generalize hy : a.eval x = y at hv
   cases hv with
   | DF g o _ c hf1 hv1 =>
    obtain ⟨v', h1, h2⟩ := Px r hf1 hv1 hr
    exact lift ⟨v', by simp [Instr.loadAt, Instr.sureAddr, hy, h1], h2⟩
  ·cases hr
 | slice t x lo hi mx =>
  cases mx with
  | some y => simp [HB] at hr
  | none => simp only [HB, CJ] at hr; exact lift (Nw r (hf.ev x) (QJ hf lo) (QJ hf hi) hr)
 | convert s d x => simp only [HB, CJ] at hr; exact lift (Ov r (hf.ev x) hr)
 | lookup t x k ok => simp only [HB, CJ] at hr; exact lift (MI r (hf.ev x) (hf.ev k) hr)
 | call c =>
  obtain ⟨callee, as, ts⟩ := c
  cases callee with
  | value f => simp [HB] at hr
  | invoke r mth => simp [HB] at hr
  | builtin b =>
   cases b <;> simp only [HB] at hr <;> try (cases hr; done)
   simp only [CJ] at hr
   split at hr
   ·rename_i x heq
    have has : as = #[x] := Array.ext' (by simpa using heq)
    subst has
    obtain ⟨v', h1, h2⟩ := P0 (P := P) r (ty := ty) (hf.ev x) hr
    have res : ∀ (w : World), (resolve a.eval { callee := .builtin .len, args := #[x], argTypes := ts } ty).run P w = .ok { target := .builtin .len ts ty (#[x].map fun | .const _ => true | _ => false), args := #[x].map a.eval } w := fun w => rfl
    exact ⟨v', by simp [execOp, res, invoke, builtin, h1], h2⟩
   ·cases hr
 | _ => simp [HB] at hr
end
end Go.Av
