/-
 A part.
-/
import Derived.Test.YtdjbadhilkmiiaaGreatDoorAvMap
import Derived.Test.YtdjbadhilkmiiaaGreatDoorK0
import Derived.Test.YtdjbadhilkmiiaaGreatDoorK1
import Derived.Test.YtdjbadhilkmiiaaGreatDoorK2
import Derived.Test.YtdjbadhilkmiiaaGreatDoorK3
import Derived.Test.YtdjbadhilkmiiaaGreatDoorK4
import Derived.Test.YtdjbadhilkmiiaaGreatDoorK5
import Derived.Test.YtdjbadhilkmiiaaGreatDoorK6
import Derived.Test.YtdjbadhilkmiiaaGreatDoorK7
import Derived.Test.YtdjbadhilkmiiaaGreatDoorK8
import Derived.Test.YtdjbadhilkmiiaaGreatDoorK9
namespace Go.Av.L
open Go.Av Go.Lib
set_option linter.unusedVariables false
set_option linter.unusedSimpArgs false
theorem Qw : ∀ n : Fin 256, 0 ≤ By .u8 (n.1 : Int) 6 ∧ By .u8 (n.1 : Int) 6 < 4 ∧ 0 ≤ Br .u8 (n.1 : Int) 63 := by decide +kernel
theorem W.any {α β : Type} {m : Option α} {k : α → Option β} {Q : β → Prop} (w : W m fun _ => True) (h : ∀ x, W (k x) Q) : W (m.bind k) Q := W.bind (w.mono fun x _ => h x)
theorem Vk (a b c d : Int) {k : Nat} (h : k < 4) : ∃ v, HO ([a, b, c, d] : List Int) (k : Int) = some v := ⟨_, Fh (by simpa using h)⟩
theorem PD (s : Ad) {b : Int} (h0 : 0 ≤ b) (h1 : b ≤ 255) : W (En s b) fun _ => True := by
 obtain ⟨n, rfl⟩ := Int.eq_ofNat_of_zero_le h0
 obtain ⟨e1, e2, e3⟩ := Qw ⟨n, by omega⟩
 simp only at e1 e2 e3
 unfold En
 obtain ⟨k, hk⟩ := Int.eq_ofNat_of_zero_le e1
 rw [hk] at e2 ⊢
 obtain ⟨v, hv⟩ := Vk s.w0 s.w1 s.w2 s.w3 (k := k) (by omega)
 rw [hv, Option.bind_some, decide_eq_true e3, DZ]
 exact W.ret trivial
theorem Kn {a b : Int} (ha : 0 ≤ a ∧ a ≤ 255) (hb : 0 ≤ b ∧ b ≤ 255) : W (CA a b) fun _ => True := by
 unfold CA
 rw [J4 (x := a) (by omega) (by omega)]
 refine W.bind (W.mono (W.loop (fun s => 0 ≤ s.2.2.2.2 ∧ s.2.2.2.2 ≤ 256) (fun s => (256 - s.2.2.2.2).toNat) ⟨by simp only; omega, by simp only; omega⟩ ?_ (Q := fun _ => True)) fun r _ => W.ret trivial)
 rintro ⟨x1, x2, x3, x4, x5⟩ ⟨h1, h2⟩
 simp only at h1 h2
 unfold HN
 rw [J4 (x := b) (by omega) (by omega)]
 refine W.Mu (fun hl => ?_) fun _ => W.ret trivial
 rw [Xv (x := x5) (by omega) (by omega)]
 refine W.any (PD _ (by omega) (by omega)) fun x => W.ret ?_
 simp only; rw [J4 (by omega) (by omega)]
 omega
theorem J8 (a b : Ad) : W (CR a b) fun _ => True := by
 unfold CR
 refine W.bind (W.mono (W.loop (fun s => ∃ k : Nat, s.2.2.2.2 = (k : Int) ∧ k ≤ 4) (fun s => (4 - s.2.2.2.2).toNat) ⟨0, rfl, by omega⟩ ?_ (Q := fun _ => True)) fun r _ => W.ret trivial)
 rintro ⟨x1, x2, x3, x4, x5⟩ ⟨k, hk, h2⟩
 simp only at hk
 subst hk
 unfold Gt
 refine W.Mu (fun hl => ?_) fun _ => W.ret trivial
 obtain ⟨v, hv⟩ := Vk x1 x2 x3 x4 (k := k) (by omega)
 obtain ⟨u, hu⟩ := Vk b.w0 b.w1 b.w2 b.w3 (k := k) (by omega)
 rw [hv, Option.bind_some, hu, Option.bind_some]
 exact W.ret ⟨⟨k + 1, Ff (by omega), by omega⟩, by simp only; rw [Ff (by omega)]; omega⟩
theorem WM (a b : Ad) : W (FV a b) fun _ => True := by
 unfold FV
 refine W.bind (W.mono (W.loop (fun s => ∃ k : Nat, s.2.2.2.2 = (k : Int) ∧ k ≤ 4) (fun s => (4 - s.2.2.2.2).toNat) ⟨0, rfl, by omega⟩ ?_ (Q := fun _ => True)) fun r _ => W.ret trivial)
 rintro ⟨x1, x2, x3, x4, x5⟩ ⟨k, hk, h2⟩
 simp only at hk
 subst hk
 unfold GS
 refine W.Mu (fun hl => ?_) fun _ => W.ret trivial
 obtain ⟨v, hv⟩ := Vk x1 x2 x3 x4 (k := k) (by omega)
 obtain ⟨u, hu⟩ := Vk b.w0 b.w1 b.w2 b.w3 (k := k) (by omega)
 rw [hv, Option.bind_some, hu, Option.bind_some]
 exact W.ret ⟨⟨k + 1, Ff (by omega), by omega⟩, by simp only; rw [Ff (by omega)]; omega⟩
theorem Tt (a : Ad) : W (EC a) fun _ => True := by
 unfold EC
 refine W.bind (W.mono (W.loop (fun s => ∃ k : Nat, s.2.2.2.2 = (k : Int) ∧ k ≤ 4) (fun s => (4 - s.2.2.2.2).toNat) ⟨0, rfl, by omega⟩ ?_ (Q := fun _ => True)) fun r _ => W.ret trivial)
 rintro ⟨x1, x2, x3, x4, x5⟩ ⟨k, hk, h2⟩
 simp only at hk
 subst hk
 unfold GP
 refine W.Mu (fun hl => ?_) fun _ => W.ret trivial
 obtain ⟨v, hv⟩ := Vk x1 x2 x3 x4 (k := k) (by omega)
 rw [hv, Option.bind_some]
 exact W.ret ⟨⟨k + 1, Ff (by omega), by omega⟩, by simp only; rw [Ff (by omega)]; omega⟩
theorem Tj (s : List UInt8) (hn : s.length ≤ 1073741824) : W (GW s) fun _ => True := by
 unfold GW
 refine W.bind (W.mono (W.list (l := s) (fun (x : Int × Int × Int × Int) (i : Nat) => (x.1, x.2.1, x.2.2.1, x.2.2.2, (i : Int))) (fun _ _ => True) ?_ ?_ (0, 0, 0, 0) trivial (Q := fun _ => True)) fun r _ => W.ret trivial)
 ·rintro ⟨x1, x2, x3, x4⟩ _
  unfold HT
  exact W.Mu (fun h => by omega) fun _ => W.ret trivial
 ·rintro ⟨x1, x2, x3, x4⟩ i hi _
  unfold HT
  refine W.Mu (fun _ => ?_) fun h => by omega
  rw [CP hi, Option.bind_some]
  have := Gy s[i]
  refine W.any (PD _ (by omega) (by omega)) fun x => W.ret ⟨(x.w0, x.w1, x.w2, x.w3), by rw [Ff (by omega)], trivial⟩
end Go.Av.L
