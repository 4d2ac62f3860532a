/-
 A part.
-/
import Derived.Test.YtlljeoogceblmaaGreatDoorAvDraw
import Derived.Test.YtlljeoogceblmaaGreatDoorAvSelW
namespace Go.Av
set_option linter.unusedSimpArgs false
open Go.RowKit Go.Conc
set_option linter.unusedVariables false
section
variable {P : Program} {w0 : World} {m : BK} {h h' : AF} {w : World} {g : Gd} {fr : Fr} {v : AB}
theorem NW {op : Op} (B : OS P g h fr op = some (v, h')) : BF g h h' := by
 unfold OS at B
 split at B
 ·split at B
  ·split at B
   ·split at B
    ·rename_i id _
     split at B
     ·rename_i cap buf J
      split at B
      ·cases S : Nat.ble cap buf.length <;> rw [S] at B
       ·cases hm : g.may id <;> rw [hm] at B
        ·cases B
        ·simp only [cond_false, cond_true, Option.some.injEq, Prod.mk.injEq] at B
         obtain ⟨_, rfl⟩ := B
         exact BF.set J hm
       ·simp only [cond_true, Option.some.injEq, Prod.mk.injEq] at B
        obtain ⟨_, rfl⟩ := B
        exact BF.refl _ _
      ·split at B
       ·cases hm : g.may id <;> rw [hm] at B
        ·cases B
        ·simp only [cond_true, Option.some.injEq, Prod.mk.injEq] at B
         obtain ⟨_, rfl⟩ := B
         exact BF.set J hm
       ·simp only [Option.some.injEq, Prod.mk.injEq] at B
        obtain ⟨_, rfl⟩ := B
        exact BF.refl _ _
     ·cases B
    ·cases B
   ·cases B
  ·cases B
 ·cases B
theorem Lc (w : World) (c cap : Nat) (buf : Array Value) (cl : Bool) (s r : Nat) (tm : Bool) : Dq w (w.setChan c cap buf cl s r tm) c :=
 ⟨rfl, rfl, rfl, by simp [World.setChan], fun k hk hne => by simp [World.setChan, Ne.symm hne]⟩
theorem Ml {w : World} {c cap : Nat} {buf : Array Value} {cl : Bool} {s r : Nat} {tm : Bool} (h : c < w.heap.size) : (w.setChan c cap buf cl s r tm).heap[c]? = some (.chan cap buf cl s r tm) := by
 simp [World.setChan, h]
theorem VR.Xs {m : BK} {a b : AB} {x y : Value} (h1 : VR m a x) (h2 : VR m b y) : VR m (.tuple [a, b]) (.tuple #[x, y]) :=
 .tuple _ _ rfl fun i u v hu G => by
  match i with
  | 0 => simp at hu G; subst hu G; exact h1
  | 1 => simp at hu G; subst hu G; exact h2
  | i + 2 => simp at hu
theorem VR.Xq {m : BK} {a b c : AB} {x y z : Value} (h1 : VR m a x) (h2 : VR m b y) (h3 : VR m c z) : VR m (.tuple [a, b, c]) (.tuple #[x, y, z]) :=
 .tuple _ _ rfl fun i u v hu G => by
  match i with
  | 0 => simp at hu G; subst hu G; exact h1
  | 1 => simp at hu G; subst hu G; exact h2
  | 2 => simp at hu G; subst hu G; exact h3
  | i + 3 => simp at hu
theorem VR.UR {m : BK} {id : Nat} {u : Value} (h : VR m (.chan (some id)) u) : ∃ E, m id = some E ∧ u = .chan (some E.g) := by
 cases h with
 | chan _ E T => exact ⟨E, T, rfl⟩
theorem RL {o : Oper} {a : Act} (r : Rel P w0 m h w) (V : FR m fr a) (B : OS P g h fr o.op = some (v, h')) :
  ∃ cases v' w', (execOp a.eval o).run P w = .ok (.comm cases false .select) w ∧ Sn P o a w v' w' ∧ Rel P w0 m h' w' ∧ VR m v v' := by
 unfold OS at B
 split at B
 ·rename_i cases0 blocking M
  split at B
  ·rename_i c hc0
   split at B
   ·rename_i z hz
    obtain ⟨i, zz, hi, O, hvz⟩ := Fe (m := m) hz
    have R : cases0 = #[c] := Array.toList_inj.1 hc0
    split at B
    ·rename_i id hch
     have G := V.ev c.chan
     rw [hch] at G
     obtain ⟨E, T, Q⟩ := G.UR
     split at B
     ·rename_i cap buf J
      obtain ⟨bs, sn, rc, I, H⟩ := r.obj id E _ T J
      have N : E.g < w.heap.size := (Array.getElem?_eq_some_iff.1 I).1
      have L : buf.length = bs.size := by rw [H.1]; simp
      split at B
      ·rename_i x K
       have C : (execOp a.eval o).run P w = .ok (.comm #[scase E.g (a.eval x) zz] false .select) w := by
        simp [execOp, M, R, Q, K, zeroValue, typeInfo, hi, O, scase]
       cases S : Nat.ble cap buf.length <;> rw [S] at B
       ·have hroom : bs.size < cap := by
         have := S; rw [← Bool.not_eq_true, Nat.ble_eq] at this; omega
        cases hm : g.may id <;> rw [hm] at B
        ·cases B
        ·simp only [cond_false, cond_true, Option.some.injEq, Prod.mk.injEq] at B
         obtain ⟨rfl, rfl⟩ := B
         refine ⟨_, .tuple #[goInt 0, .bool false], w.setChan E.g cap (bs.push (a.eval x)) false (sn + 1) rc false, C, fun fr cs cases w₁ es F D => ?_, r.write T J rfl rfl (Lc w E.g cap (bs.push (a.eval x)) false (sn + 1) rc false) ⟨_, _, _, Ml N, ?_⟩, VR.Xs (.int _ _) (.bool _)⟩
         ·rw [C] at F
          simp only [Result.ok.injEq, Next.comm.injEq, true_and, and_true] at F
          obtain ⟨rfl, rfl⟩ := F
          exact step_lone_select_send_room D I hroom
         ·rw [Array.toList_push]
          exact H.app (.cons (V.ev x) (.nil _))
       ·have hfull : cap ≤ bs.size := by
         have := Nat.le_of_ble_eq_true S; omega
        simp only [cond_true, Option.some.injEq, Prod.mk.injEq] at B
        obtain ⟨rfl, rfl⟩ := B
        refine ⟨_, .tuple #[goInt (-1), .bool false], w, C, fun fr cs cases w₁ es F D => ?_, r, VR.Xs (.int _ _) (.bool _)⟩
        rw [C] at F
        simp only [Result.ok.injEq, Next.comm.injEq, true_and, and_true] at F
        obtain ⟨rfl, rfl⟩ := F
        exact step_lone_select_send_full D I hfull
      ·rename_i K
       have C : (execOp a.eval o).run P w = .ok (.comm #[rcase E.g zz] false .select) w := by
        simp [execOp, M, R, Q, K, zeroValue, typeInfo, hi, O, rcase]
       split at B
       ·rename_i v0 rest
        cases hm : g.may id <;> rw [hm] at B
        ·cases B
        ·simp only [cond_true, Option.some.injEq, Prod.mk.injEq] at B
         obtain ⟨rfl, rfl⟩ := B
         have h0 : 0 < bs.size := by simp at L; omega
         refine ⟨_, .tuple #[goInt 0, .bool true, bs.getD 0 undef], w.setChan E.g cap (bs.extract 1 bs.size) false sn (rc + 1) false, C, fun fr cs cases w₁ es F D => ?_, r.write T J rfl rfl (Lc w E.g cap (bs.extract 1 bs.size) false sn (rc + 1) false) ⟨_, _, _, Ml N, ?_⟩, VR.Xq (.int _ _) (.bool _) ?_⟩
         ·rw [C] at F
          simp only [Result.ok.injEq, Next.comm.injEq, true_and, and_true] at F
          obtain ⟨rfl, rfl⟩ := F
          exact step_lone_select_recv_buf D I h0
         ·have hd : (bs.extract 1 bs.size).toList = bs.toList.drop 1 := by
           rw [Array.toList_extract, List.extract_eq_take_drop]
           exact List.take_of_length_le (by simp)
          rw [hd]
          refine ⟨by have := H.1; simp at this ⊢; omega, fun i x y K U => H.2 (i + 1) x y (by simpa using K) ?_⟩
          rw [List.getElem?_drop, Nat.add_comm] at U
          exact U
         ·exact H.2 0 _ _ rfl (by simp [h0])
       ·simp only [Option.some.injEq, Prod.mk.injEq] at B
        obtain ⟨rfl, rfl⟩ := B
        have h0 : bs = #[] := Array.eq_empty_of_size_eq_zero (by simpa using L.symm)
        subst h0
        refine ⟨_, .tuple #[goInt (-1), .bool false, zz], w, C, fun fr cs cases w₁ es F D => ?_, r, VR.Xq (.int _ _) (.bool _) hvz⟩
        rw [C] at F
        simp only [Result.ok.injEq, Next.comm.injEq, true_and, and_true] at F
        obtain ⟨rfl, rfl⟩ := F
        exact step_lone_select_default D I
     ·cases B
    ·cases B
   ·cases B
  ·cases B
 ·cases B
end
end Go.Av
