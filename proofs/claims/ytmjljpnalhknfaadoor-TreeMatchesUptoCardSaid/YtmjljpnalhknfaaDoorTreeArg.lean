/-
  TREE: trees as arguments.
-/
import Derived.Test.YtmjljpnalhknfaaDoorTreeSet
import Derived.Test.YtmjljpnalhknfaaDoorAbsArr
namespace Go.Abs.L
open Go.Abs
set_option linter.unusedVariables false
set_option linter.unusedSimpArgs false

noncomputable abbrev RSet : RT cfg.P (Int × Int × Int × Int × Unit) := RProd (RInt cfg.P .u64) (RProd (RInt cfg.P .u64) (RProd (RInt cfg.P .u64) (RProd (RInt cfg.P .u64) (RUnit cfg.P))))
noncomputable abbrev RNode : RT cfg.P Nd := RIso (RProd (RInt cfg.P .i64) (RProd (RInt cfg.P .i64) (RProd (RInt cfg.P .i64) (RProd (RInt cfg.P .i64) (RProd (RInt cfg.P .i64) (RProd (RInt cfg.P .i64) (RProd RSet (RUnit cfg.P))))))))
  (fun n : Nd => (n.k, n.a, n.b, n.mi, n.ma, n.gr, (n.s0, n.s1, n.s2, n.s3, ()), ()))
theorem argNode : ArgT cfg.P 30 RNode :=
  argIso (argFields (t := 30) (ts := [3, 3, 3, 3, 3, 3, 28]) (by kernel_rfl) (by kernel_rfl) (argCons (argInt (by kernel_rfl) (by kernel_rfl)) (argCons (argInt (by kernel_rfl) (by kernel_rfl)) (argCons (argInt (by kernel_rfl) (by kernel_rfl)) (argCons (argInt (by kernel_rfl) (by kernel_rfl)) (argCons (argInt (by kernel_rfl) (by kernel_rfl)) (argCons (argInt (by kernel_rfl) (by kernel_rfl))
    (argCons (argArr (e := 26) (n := 4) (by kernel_rfl) (by kernel_rfl) (by kernel_rfl) (argCons (argInt (by kernel_rfl) (by kernel_rfl)) (argCons (argInt (by kernel_rfl) (by kernel_rfl)) (argCons (argInt (by kernel_rfl) (by kernel_rfl)) (argCons (argInt (by kernel_rfl) (by kernel_rfl)) argNil))))) argNil)))))))) (fun x => ⟨x.1, x.2.1, x.2.2.1, x.2.2.2.1, x.2.2.2.2.1, x.2.2.2.2.2.1, x.2.2.2.2.2.2.1.1, x.2.2.2.2.2.2.1.2.1, x.2.2.2.2.2.2.1.2.2.1, x.2.2.2.2.2.2.1.2.2.2.1⟩) (fun _ => rfl)
theorem reps_node {S : Nat → Prop} {h : AHeap} : ∀ {xs : List Nd} {cs : List AVal}, reps RNode S h xs cs → cs = xs.flatMap nodeC
  | [], cs, hr => hr
  | x :: xs, cs, ⟨a, b, e, ⟨a1, b1, e1, r1, a2, b2, e2, r2, a3, b3, e3, r3, a4, b4, e4, r4, a5, b5, e5, r5, a6, b6, e6, r6, a7, b7, e7, ⟨c1, d1, f1, q1, c2, d2, f2, q2, c3, d3, f3, q3, c4, d4, f4, q4, q5⟩, r7⟩, h2⟩ => by
    rw [e, reps_node h2, List.flatMap_cons]
    have r1 : a1 = [.int .i64 x.k] := r1
    have r2 : a2 = [.int .i64 x.a] := r2
    have r3 : a3 = [.int .i64 x.b] := r3
    have r4 : a4 = [.int .i64 x.mi] := r4
    have r5 : a5 = [.int .i64 x.ma] := r5
    have r6 : a6 = [.int .i64 x.gr] := r6
    have q1 : c1 = [.int .u64 x.s0] := q1
    have q2 : c2 = [.int .u64 x.s1] := q2
    have q3 : c3 = [.int .u64 x.s2] := q3
    have q4 : c4 = [.int .u64 x.s3] := q4
    have q5 : d4 = [] := q5
    have r7 : b7 = [] := r7
    rw [e1, e2, e3, e4, e5, e6, e7, f1, f2, f3, f4, r1, r2, r3, r4, r5, r6, r7, q1, q2, q3, q4, q5]; rfl
theorem okS_of {n : Nd} (k : RNode.ok n) : OkS n := by
  obtain ⟨_, _, _, _, _, _, ⟨k0, k1, k2, k3, _⟩, _⟩ := k
  have k0 : 0 ≤ n.s0 ∧ n.s0 ≤ 18446744073709551615 := k0
  have k1 : 0 ≤ n.s1 ∧ n.s1 ≤ 18446744073709551615 := k1
  have k2 : 0 ≤ n.s2 ∧ n.s2 ≤ 18446744073709551615 := k2
  have k3 : 0 ≤ n.s3 ∧ n.s3 ≤ 18446744073709551615 := k3
  intro w hw
  simp only [wordsN, List.mem_cons, List.not_mem_nil, or_false] at hw
  rcases hw with rfl | rfl | rfl | rfl <;> assumption

noncomputable abbrev RTree : RT cfg.P (List Nd × Int × Unit) := RProd (RSlice RNode) (RProd (RInt cfg.P .i64) (RUnit cfg.P))
theorem argTree : ArgT cfg.P 25 RTree :=
  argFields (t := 25) (ts := [22, 3]) (by kernel_rfl) (by kernel_rfl) (argCons (argSlice (by kernel_rfl) (by kernel_rfl) (by kernel_rfl) argNode) (argCons (argInt (by kernel_rfl) (by kernel_rfl)) argNil))
theorem len_wt : ∀ l : List Nd, l.length ≤ sumWt RNode.wt l
  | [] => Nat.le_refl _
  | x :: l => by
    have := len_wt l
    have h : RNode.wt x = 10 := rfl
    simp only [sumWt, List.length_cons, h]; omega
end Go.Abs.L
