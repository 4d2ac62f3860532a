/-
 A part.
-/
import Derived.Test.YtdbkpibbjnhmgaaDoorAvDraw
import Derived.Test.YtdbkpibbjnhmgaaDoorAvSelW
namespace Go.Av
set_option linter.unusedSimpArgs false
open Go.RowKit Go.Conc
set_option linter.unusedVariables false
section
variable {P : Program} {w0 : World} {m : AU} {h h' : AB} {w : World} {g : Gd} {fr : Fr} {v : AA}
theorem LF {op : Op} (hs : R9 P g h fr op = some (v, h')) : AN g h h' := by
 unfold R9 at hs
 split at hs
 ·split at hs
  ·split at hs
   ·split at hs
    ·rename_i id _
     split at hs
     ·rename_i cap buf hg
      split at hs
      ·cases hb : Nat.ble cap buf.length <;> rw [hb] at hs
       ·cases hm : g.may id <;> rw [hm] at hs
        ·cases hs
        ·simp only [cond_false, cond_true, Option.some.injEq, Prod.mk.injEq] at hs
         obtain ⟨_, rfl⟩ := hs
         exact AN.set hg hm
       ·simp only [cond_true, Option.some.injEq, Prod.mk.injEq] at hs
        obtain ⟨_, rfl⟩ := hs
        exact AN.refl _ _
      ·split at hs
       ·cases hm : g.may id <;> rw [hm] at hs
        ·cases hs
        ·simp only [cond_true, Option.some.injEq, Prod.mk.injEq] at hs
         obtain ⟨_, rfl⟩ := hs
         exact AN.set hg hm
       ·simp only [Option.some.injEq, Prod.mk.injEq] at hs
        obtain ⟨_, rfl⟩ := hs
        exact AN.refl _ _
     ·cases hs
    ·cases hs
   ·cases hs
  ·cases hs
 ·cases hs
theorem Jq (w : World) (c cap : Nat) (buf : Array Value) (cl : Bool) (s r : Nat) (tm : Bool) : Ch w (w.setChan c cap buf cl s r tm) c :=
 ⟨rfl, rfl, rfl, by simp [World.setChan], fun k hk hne => by simp [World.setChan, Ne.symm hne]⟩
theorem KW {w : World} {c cap : Nat} {buf : Array Value} {cl : Bool} {s r : Nat} {tm : Bool} (h : c < w.heap.size) : (w.setChan c cap buf cl s r tm).heap[c]? = some (.chan cap buf cl s r tm) := by
 simp [World.setChan, h]
theorem VR.W0 {m : AU} {a b : AA} {x y : Value} (h1 : VR m a x) (h2 : VR m b y) : VR m (.tuple [a, b]) (.tuple #[x, y]) :=
 .tuple _ _ rfl fun i u v hu hv => by
  match i with
  | 0 => simp at hu hv; subst hu hv; exact h1
  | 1 => simp at hu hv; subst hu hv; exact h2
  | i + 2 => simp at hu
theorem VR.Wb {m : AU} {a b c : AA} {x y z : Value} (h1 : VR m a x) (h2 : VR m b y) (h3 : VR m c z) : VR m (.tuple [a, b, c]) (.tuple #[x, y, z]) :=
 .tuple _ _ rfl fun i u v hu hv => by
  match i with
  | 0 => simp at hu hv; subst hu hv; exact h1
  | 1 => simp at hu hv; subst hu hv; exact h2
  | 2 => simp at hu hv; subst hu hv; exact h3
  | i + 3 => simp at hu
theorem VR.TK {m : AU} {id : Nat} {u : Value} (h : VR m (.chan (some id)) u) : ∃ E, m id = some E ∧ u = .chan (some E.g) := by
 cases h with
 | chan _ E hE => exact ⟨E, hE, rfl⟩
theorem Pd {o : Oper} {a : Act} (r : Rel P w0 m h w) (hf : FR m fr a) (hs : R9 P g h fr o.op = some (v, h')) :
  ∃ cases v' w', (execOp a.eval o).run P w = .ok (.comm cases false .select) w ∧ QU P o a w v' w' ∧ Rel P w0 m h' w' ∧ VR m v v' := by
 unfold R9 at hs
 split at hs
 ·rename_i cases0 blocking hop
  split at hs
  ·rename_i c hc0
   split at hs
   ·rename_i z hz
    obtain ⟨i, zz, hi, hiz, hvz⟩ := Dt (m := m) hz
    have hcs : cases0 = #[c] := Array.toList_inj.1 hc0
    split at hs
    ·rename_i id hch
     have hv := hf.ev c.chan
     rw [hch] at hv
     obtain ⟨E, hE, hcv⟩ := hv.TK
     split at hs
     ·rename_i cap buf hg
      obtain ⟨bs, sn, rc, hb1, hb2⟩ := r.obj id E _ hE hg
      have hlt : E.g < w.heap.size := (Array.getElem?_eq_some_iff.1 hb1).1
      have hsz : buf.length = bs.size := by rw [hb2.1]; simp
      split at hs
      ·rename_i x hx
       have hrun : (execOp a.eval o).run P w = .ok (.comm #[scase E.g (a.eval x) zz] false .select) w := by
        simp [execOp, hop, hcs, hcv, hx, zeroValue, typeInfo, hi, hiz, scase]
       cases hb : Nat.ble cap buf.length <;> rw [hb] at hs
       ·have hroom : bs.size < cap := by
         have := hb; rw [← Bool.not_eq_true, Nat.ble_eq] at this; omega
        cases hm : g.may id <;> rw [hm] at hs
        ·cases hs
        ·simp only [cond_false, cond_true, Option.some.injEq, Prod.mk.injEq] at hs
         obtain ⟨rfl, rfl⟩ := hs
         refine ⟨_, .tuple #[goInt 0, .bool false], w.setChan E.g cap (bs.push (a.eval x)) false (sn + 1) rc false, hrun, fun fr cs cases w₁ es hr hst => ?_, r.write hE hg rfl rfl (Jq w E.g cap (bs.push (a.eval x)) false (sn + 1) rc false) ⟨_, _, _, KW hlt, ?_⟩, VR.W0 (.int _ _) (.bool _)⟩
         ·rw [hrun] at hr
          simp only [Result.ok.injEq, Next.comm.injEq, true_and, and_true] at hr
          obtain ⟨rfl, rfl⟩ := hr
          exact step_lone_select_send_room hst hb1 hroom
         ·rw [Array.toList_push]
          exact hb2.app (.cons (hf.ev x) (.nil _))
       ·have hfull : cap ≤ bs.size := by
         have := Nat.le_of_ble_eq_true hb; omega
        simp only [cond_true, Option.some.injEq, Prod.mk.injEq] at hs
        obtain ⟨rfl, rfl⟩ := hs
        refine ⟨_, .tuple #[goInt (-1), .bool false], w, hrun, fun fr cs cases w₁ es hr hst => ?_, r, VR.W0 (.int _ _) (.bool _)⟩
        rw [hrun] at hr
        simp only [Result.ok.injEq, Next.comm.injEq, true_and, and_true] at hr
        obtain ⟨rfl, rfl⟩ := hr
        exact step_lone_select_send_full hst hb1 hfull
      ·rename_i hx
       have hrun : (execOp a.eval o).run P w = .ok (.comm #[rcase E.g zz] false .select) w := by
        simp [execOp, hop, hcs, hcv, hx, zeroValue, typeInfo, hi, hiz, rcase]
       split at hs
       ·rename_i v0 rest
        cases hm : g.may id <;> rw [hm] at hs
        ·cases hs
        ·simp only [cond_true, Option.some.injEq, Prod.mk.injEq] at hs
         obtain ⟨rfl, rfl⟩ := hs
         have h0 : 0 < bs.size := by simp at hsz; omega
         refine ⟨_, .tuple #[goInt 0, .bool true, bs.getD 0 undef], w.setChan E.g cap (bs.extract 1 bs.size) false sn (rc + 1) false, hrun, fun fr cs cases w₁ es hr hst => ?_, r.write hE hg rfl rfl (Jq w E.g cap (bs.extract 1 bs.size) false sn (rc + 1) false) ⟨_, _, _, KW hlt, ?_⟩, VR.Wb (.int _ _) (.bool _) ?_⟩
         ·rw [hrun] at hr
          simp only [Result.ok.injEq, Next.comm.injEq, true_and, and_true] at hr
          obtain ⟨rfl, rfl⟩ := hr
          exact step_lone_select_recv_buf hst hb1 h0
         ·have hd : (bs.extract 1 bs.size).toList = bs.toList.drop 1 := by
           rw [Array.toList_extract, List.extract_eq_take_drop]
           exact List.take_of_length_le (by simp)
          rw [hd]
          refine ⟨by have := hb2.1; simp at this ⊢; omega, fun i x y hx hy => hb2.2 (i + 1) x y (by simpa using hx) ?_⟩
          rw [List.getElem?_drop, Nat.add_comm] at hy
          exact hy
         ·exact hb2.2 0 _ _ rfl (by simp [h0])
       ·simp only [Option.some.injEq, Prod.mk.injEq] at hs
        obtain ⟨rfl, rfl⟩ := hs
        have h0 : bs = #[] := Array.eq_empty_of_size_eq_zero (by simpa using hsz.symm)
        subst h0
        refine ⟨_, .tuple #[goInt (-1), .bool false, zz], w, hrun, fun fr cs cases w₁ es hr hst => ?_, r, VR.Wb (.int _ _) (.bool _) hvz⟩
        rw [hrun] at hr
        simp only [Result.ok.injEq, Next.comm.injEq, true_and, and_true] at hr
        obtain ⟨rfl, rfl⟩ := hr
        exact step_lone_select_default hst hb1
     ·cases hs
    ·cases hs
   ·cases hs
  ·cases hs
 ·cases hs
end
end Go.Av
