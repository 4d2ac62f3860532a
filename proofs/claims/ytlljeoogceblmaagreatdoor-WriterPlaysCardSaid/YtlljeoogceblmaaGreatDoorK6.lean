/-
 A part.
-/
import Derived.Test.YtlljeoogceblmaaGreatDoorKCfg
import Derived.Test.YtlljeoogceblmaaGreatDoorK2
import Derived.Test.YtlljeoogceblmaaGreatDoorK3
import Derived.Test.YtlljeoogceblmaaGreatDoorK4
import Derived.Test.YtlljeoogceblmaaGreatDoorK5
namespace Go.Av.L
open Go.Av Go.Lib
open IntKind (i64)
set_option maxRecDepth 10000
set_option linter.unusedVariables false
set_option linter.unusedSimpArgs false
variable {g : Gd} {h : AD} {F : List Ck} {av : List AB}
noncomputable section
def Cd (p0 : AN) : Option ((List UInt8)) :=
 (Cw p0.Name).bind fun (x1, x2, x3) => (Wf p0.Kind).bind fun x4 => (Af (p0.Kind == 0) (some ([48] : UV)) (some ([x4] : UV)) : Option (((List UInt8)))).bind fun x5 => (A3 x2 (100 : Int)).bind fun x6 => (A8 p0.Mode (8 : Int)).bind fun x7 => BW (decide (x6.length + x7.length ≤ 9223372036854775807)) <| (A8 p0.Bm (8 : Int)).bind fun x8 => BW (decide ((x6 ++ x7).length + x8.length ≤ 9223372036854775807)) <| (A8 p0.B3 (8 : Int)).bind fun x9 => BW (decide (((x6 ++ x7) ++ x8).length + x9.length ≤ 9223372036854775807)) <| (A8 p0.DE (12 : Int)).bind fun x10 => BW (decide ((((x6 ++ x7) ++ x8) ++ x9).length + x10.length ≤ 9223372036854775807)) <| (A8 p0.Time (12 : Int)).bind fun x11 => BW (decide (((((x6 ++ x7) ++ x8) ++ x9) ++ x10).length + x11.length ≤ 9223372036854775807)) <| BW (decide ((((((x6 ++ x7) ++ x8) ++ x9) ++ x10) ++ x11).length + ([32, 32, 32, 32, 32, 32, 32, 32] : UV).length ≤ 9223372036854775807)) <| BW (decide (((((((x6 ++ x7) ++ x8) ++ x9) ++ x10) ++ x11) ++ ([32, 32, 32, 32, 32, 32, 32, 32] : UV)).length + x5.length ≤ 9223372036854775807)) <| (A3 p0.Ax (100 : Int)).bind fun x12 => BW (decide ((((((((x6 ++ x7) ++ x8) ++ x9) ++ x10) ++ x11) ++ ([32, 32, 32, 32, 32, 32, 32, 32] : UV)) ++ x5).length + x12.length ≤ 9223372036854775807)) <| BW (decide (((((((((x6 ++ x7) ++ x8) ++ x9) ++ x10) ++ x11) ++ ([32, 32, 32, 32, 32, 32, 32, 32] : UV)) ++ x5) ++ x12).length + ([117, 115, 116, 97, 114, 0, 48, 48] : UV).length ≤ 9223372036854775807)) <| (A3 p0.Aj (32 : Int)).bind fun x13 => BW (decide ((((((((((x6 ++ x7) ++ x8) ++ x9) ++ x10) ++ x11) ++ ([32, 32, 32, 32, 32, 32, 32, 32] : UV)) ++ x5) ++ x12) ++ ([117, 115, 116, 97, 114, 0, 48, 48] : UV)).length + x13.length ≤ 9223372036854775807)) <| (A3 p0.Al (32 : Int)).bind fun x14 => BW (decide (((((((((((x6 ++ x7) ++ x8) ++ x9) ++ x10) ++ x11) ++ ([32, 32, 32, 32, 32, 32, 32, 32] : UV)) ++ x5) ++ x12) ++ ([117, 115, 116, 97, 114, 0, 48, 48] : UV)) ++ x13).length + x14.length ≤ 9223372036854775807)) <| (A8 p0.Ap (8 : Int)).bind fun x15 => BW (decide ((((((((((((x6 ++ x7) ++ x8) ++ x9) ++ x10) ++ x11) ++ ([32, 32, 32, 32, 32, 32, 32, 32] : UV)) ++ x5) ++ x12) ++ ([117, 115, 116, 97, 114, 0, 48, 48] : UV)) ++ x13) ++ x14).length + x15.length ≤ 9223372036854775807)) <| (A8 p0.Ay (8 : Int)).bind fun x16 => BW (decide (((((((((((((x6 ++ x7) ++ x8) ++ x9) ++ x10) ++ x11) ++ ([32, 32, 32, 32, 32, 32, 32, 32] : UV)) ++ x5) ++ x12) ++ ([117, 115, 116, 97, 114, 0, 48, 48] : UV)) ++ x13) ++ x14) ++ x15).length + x16.length ≤ 9223372036854775807)) <| (A3 x1 (155 : Int)).bind fun x17 => BW (decide ((((((((((((((x6 ++ x7) ++ x8) ++ x9) ++ x10) ++ x11) ++ ([32, 32, 32, 32, 32, 32, 32, 32] : UV)) ++ x5) ++ x12) ++ ([117, 115, 116, 97, 114, 0, 48, 48] : UV)) ++ x13) ++ x14) ++ x15) ++ x16).length + x17.length ≤ 9223372036854775807)) <| (A3 ([] : UV) (12 : Int)).bind fun x18 => BW (decide (((((((((((((((x6 ++ x7) ++ x8) ++ x9) ++ x10) ++ x11) ++ ([32, 32, 32, 32, 32, 32, 32, 32] : UV)) ++ x5) ++ x12) ++ ([117, 115, 116, 97, 114, 0, 48, 48] : UV)) ++ x13) ++ x14) ++ x15) ++ x16) ++ x17).length + x18.length ≤ 9223372036854775807)) <| (Di (((((((((((((((x6 ++ x7) ++ x8) ++ x9) ++ x10) ++ x11) ++ ([32, 32, 32, 32, 32, 32, 32, 32] : UV)) ++ x5) ++ x12) ++ ([117, 115, 116, 97, 114, 0, 48, 48] : UV)) ++ x13) ++ x14) ++ x15) ++ x16) ++ x17) ++ x18)).bind fun x19 => some x19
theorem Gb {p0 q0} (hm : Cd p0 = some q0) (A : HH g h [] F) (hc : BB (cfg.still 51) av = [.agg (AJ p0)] := by kernel_rfl) : ∃ v Q, BE cfg g h 51 av v Q ∧ v = .str q0 ∧ HH g Q [] F := by
 refine Dp 75 [.tmp 2] hc ?_
 clear hc
 unfold Cd at hm
 refine bg 75 [(0, .agg (AJ p0))] fun D H => ?_
 refine AG 2 ?_
 obtain ⟨h1, e1, A⟩ := A.pu (.cells none 2 (AJ p0))
 refine BI 1 (.ptr (some (h.size, 0))) e1 H fun D t H => ?_
 refine Bg 1 [] 10 H fun D H => AV 1 [] 10 0 0 A H fun D t H => ?_
 obtain ⟨⟨x1, x2, x3⟩, X, hm⟩ := bind_some hm
 obtain ⟨v1, h2, R, rfl, E⟩ := Gx (av := [.str p0.Name]) X (A.cut 0)
 replace A : HH g h2 [.obj h.size (.cells none 2 (AJ p0))] F := A.GM (n := 0) E
 refine A9 11 R H fun D t H => ?_
 refine Bg 7 [(3, .str x1), (4, .str x2)] 5 H fun D H => AV 1 [] 16 0 2 A H fun D t H => ?_
 obtain ⟨x4, X, hm⟩ := bind_some hm
 have X := SJ X
 rw [X] at H
 obtain ⟨h3, e2, A⟩ := A.pL 5 [Ab (x4.toNat : Int)]
 refine BI 17 (AR (some h2.size) (([x4] : UV).length)) e2 H fun D t H => ?_
 refine Ac 18 (.str ([x4] : UV)) h3 H (fun D => .of (PJ (xs := ([x4] : UV)) A 0 rfl (by kernel_rfl))) fun D t H => ?_
 refine AM 1 [(6, .str ([x4] : UV))] H fun D H => AQ ?_
 obtain ⟨o1, O, hm⟩ := bind_some hm
 refine Az (Q' := fun e fr' Q => (∃ x5, e = .normal ∧ x5 = o1 ∧ Has fr' 75 [(1, .ptr (some (h.size, 0))), (3, .str x1), (4, .str x2), (6, .str x5)] ∧ HH g Q [.obj h.size (.cells none 2 (AJ p0))] F) ∨ False) ?_ ?_
 ·replace hm := O
  clear O
  refine AG 3 (AV 1 [] 20 1 2 A H fun D t H => ?_)
  refine AM 1 [(21, .bool (p0.Kind == 0))] H fun D H => Ae 21 H hm (fun B hm H => ?_) fun B hm H => ?_
  ·refine BY 1 (BF 1 [(1, .ptr (some (h.size, 0))), (3, .str x1), (4, .str x2), (6, .str ([48] : UV))] H fun D H => at_nil ?_)
   replace A := A.k1 1
   exact .inl ⟨_, rfl, Ah hm, H.ls, A⟩
  refine GU ?_
  replace A := A.k1 1
  exact .inl ⟨_, rfl, Ah hm, H.ls, A⟩
 clear O
 clear A
 intro e D h4 hQ
 rcases hQ with ⟨x5, rfl, rfl, H, A⟩ | hF
 ·show AW _ _ _ _ _ _ _
  refine AQ (PR 5 52 [(0, []), (2, []), (3, []), (6, []), (7, []), (10, []), (11, []), (14, []), (15, []), (18, []), (19, []), (23, []), (25, []), (26, []), (30, []), (31, []), (34, []), (35, []), (38, []), (39, []), (42, []), (43, []), (1, [3, 7, 11, 15, 19, 26, 31, 35, 39, 43]), (4, [7, 11, 15, 19, 26, 31, 35, 39, 43]), (5, []), (8, [11, 15, 19, 26, 31, 35, 39, 43]), (9, []), (12, [15, 19, 26, 31, 35, 39, 43]), (13, []), (16, [19, 26, 31, 35, 39, 43]), (17, []), (20, [26, 31, 35, 39, 43]), (21, []), (22, []), (24, []), (27, [31, 35, 39, 43]), (28, []), (29, []), (32, [35, 39, 43]), (33, []), (36, [39, 43]), (37, []), (40, [43]), (41, []), (44, []), (45, []), (46, []), (47, []), (48, []), (49, []), (50, []), (51, [])] ?_)
  refine AF 2 [(22, .str x2), (24, .ptr (some (h.size, 3)))] H fun D H => BJ 25 (Ai p0.Mode) h4 [(3, h.size)] (g.BN) H (fun D => .of (Fo (by kernel_rfl) (A.l1 0 3))) (fun D H => ?_)
  refine AF 1 [(28, .ptr (some (h.size, 4)))] H fun D H => BJ 29 (Ai p0.Bm) h4 [(7, h.size), (3, h.size)] (g.BN) H (fun D => .of (Fo (by kernel_rfl) (A.l1 0 4))) (fun D H => ?_)
  refine AF 1 [(32, .ptr (some (h.size, 5)))] H fun D H => BJ 33 (Ai p0.B3) h4 [(11, h.size), (7, h.size), (3, h.size)] (g.BN) H (fun D => .of (Fo (by kernel_rfl) (A.l1 0 5))) (fun D H => ?_)
  refine AF 1 [(36, .ptr (some (h.size, 6)))] H fun D H => BJ 37 (Ai p0.DE) h4 [(15, h.size), (11, h.size), (7, h.size), (3, h.size)] (g.BN) H (fun D => .of (Fo (by kernel_rfl) (A.l1 0 6))) (fun D H => ?_)
  refine AF 1 [(40, .ptr (some (h.size, 7)))] H fun D H => BJ 41 (Ai p0.Time) h4 [(19, h.size), (15, h.size), (11, h.size), (7, h.size), (3, h.size)] (g.BN) H (fun D => .of (Fo (by kernel_rfl) (A.l1 0 7))) (fun D H => ?_)
  refine AF 2 [(45, .str x5), (47, .ptr (some (h.size, 1)))] H fun D H => BJ 48 (.str p0.Ax) h4 [(26, h.size), (19, h.size), (15, h.size), (11, h.size), (7, h.size), (3, h.size)] (g.BN) H (fun D => .of (Fo (by kernel_rfl) (A.l1 0 1))) (fun D H => ?_)
  refine AF 1 [(52, .ptr (some (h.size, 8)))] H fun D H => BJ 53 (.str p0.Aj) h4 [(31, h.size), (26, h.size), (19, h.size), (15, h.size), (11, h.size), (7, h.size), (3, h.size)] (g.BN) H (fun D => .of (Fo (by kernel_rfl) (A.l1 0 8))) (fun D H => ?_)
  refine AF 1 [(56, .ptr (some (h.size, 9)))] H fun D H => BJ 57 (.str p0.Al) h4 [(35, h.size), (31, h.size), (26, h.size), (19, h.size), (15, h.size), (11, h.size), (7, h.size), (3, h.size)] (g.BN) H (fun D => .of (Fo (by kernel_rfl) (A.l1 0 9))) (fun D H => ?_)
  refine AF 1 [(60, .ptr (some (h.size, 10)))] H fun D H => BJ 61 (Ai p0.Ap) h4 [(39, h.size), (35, h.size), (31, h.size), (26, h.size), (19, h.size), (15, h.size), (11, h.size), (7, h.size), (3, h.size)] (g.BN) H (fun D => .of (Fo (by kernel_rfl) (A.l1 0 10))) (fun D H => ?_)
  refine AF 1 [(64, .ptr (some (h.size, 11)))] H fun D H => BJ 65 (Ai p0.Ay) h4 [(43, h.size), (39, h.size), (35, h.size), (31, h.size), (26, h.size), (19, h.size), (15, h.size), (11, h.size), (7, h.size), (3, h.size)] (g.BN) H (fun D => .of (Fo (by kernel_rfl) (A.l1 0 11))) (fun D H => ?_)
  have E := A.GN 0 (pr := [h.size, h.size, h.size, h.size, h.size, h.size, h.size, h.size, h.size, h.size]) (.cons 0 rfl (by simp [Ck.ids]) (.cons 0 rfl (by simp [Ck.ids]) (.cons 0 rfl (by simp [Ck.ids]) (.cons 0 rfl (by simp [Ck.ids]) (.cons 0 rfl (by simp [Ck.ids]) (.cons 0 rfl (by simp [Ck.ids]) (.cons 0 rfl (by simp [Ck.ids]) (.cons 0 rfl (by simp [Ck.ids]) (.cons 0 rfl (by simp [Ck.ids]) (.cons 0 rfl (by simp [Ck.ids]) .nil))))))))))
  obtain ⟨x6, X, hm⟩ := bind_some hm
  obtain ⟨v1, h5, R, rfl, E⟩ := CK (av := [.str x2, Ai 100]) X E
  replace A := A.SB E
  refine BJ 23 (.str x6) h5 [(43, h.size), (39, h.size), (35, h.size), (31, h.size), (26, h.size), (19, h.size), (15, h.size), (11, h.size), (7, h.size), (3, h.size)] (h.size :: h.size :: h.size :: h.size :: h.size :: h.size :: h.size :: h.size :: h.size :: h.size :: g.BN) H (fun D => Steps.call (by kernel_rfl) R) (fun D H => ?_)
  have E := A.GN 0 (pr := [h.size, h.size, h.size, h.size, h.size, h.size, h.size, h.size, h.size]) (.cons 0 rfl (by simp [Ck.ids]) (.cons 0 rfl (by simp [Ck.ids]) (.cons 0 rfl (by simp [Ck.ids]) (.cons 0 rfl (by simp [Ck.ids]) (.cons 0 rfl (by simp [Ck.ids]) (.cons 0 rfl (by simp [Ck.ids]) (.cons 0 rfl (by simp [Ck.ids]) (.cons 0 rfl (by simp [Ck.ids]) (.cons 0 rfl (by simp [Ck.ids]) .nil)))))))))
  obtain ⟨x7, X, hm⟩ := bind_some hm
  obtain ⟨v1, h6, R, rfl, E⟩ := Bl (av := [Ai p0.Mode, Ai 8]) X E
  replace A := A.SB E
  refine BJ 26 (.str x7) h6 [(43, h.size), (39, h.size), (35, h.size), (31, h.size), (26, h.size), (19, h.size), (15, h.size), (11, h.size), (7, h.size), (3, h.size)] (h.size :: h.size :: h.size :: h.size :: h.size :: h.size :: h.size :: h.size :: h.size :: g.BN) H (fun D => Steps.call (by kernel_rfl) R) (fun D H => ?_)
  obtain ⟨B, hm⟩ := AP hm
  refine BJ 27 (.str (x6 ++ x7)) h6 [(43, h.size), (39, h.size), (35, h.size), (31, h.size), (26, h.size), (19, h.size), (15, h.size), (11, h.size), (7, h.size), (3, h.size)] (g.BN) H (fun D => .of (B8 (by kernel_rfl) B)) (fun D H => ?_)
  have E := A.GN 0 (pr := [h.size, h.size, h.size, h.size, h.size, h.size, h.size, h.size]) (.cons 0 rfl (by simp [Ck.ids]) (.cons 0 rfl (by simp [Ck.ids]) (.cons 0 rfl (by simp [Ck.ids]) (.cons 0 rfl (by simp [Ck.ids]) (.cons 0 rfl (by simp [Ck.ids]) (.cons 0 rfl (by simp [Ck.ids]) (.cons 0 rfl (by simp [Ck.ids]) (.cons 0 rfl (by simp [Ck.ids]) .nil))))))))
  obtain ⟨x8, X, hm⟩ := bind_some hm
  obtain ⟨v1, h7, R, rfl, E⟩ := Bl (av := [Ai p0.Bm, Ai 8]) X E
  replace A := A.SB E
  refine BJ 30 (.str x8) h7 [(43, h.size), (39, h.size), (35, h.size), (31, h.size), (26, h.size), (19, h.size), (15, h.size), (11, h.size), (7, h.size), (3, h.size)] (h.size :: h.size :: h.size :: h.size :: h.size :: h.size :: h.size :: h.size :: g.BN) H (fun D => Steps.call (by kernel_rfl) R) (fun D H => ?_)
  obtain ⟨B, hm⟩ := AP hm
  refine BJ 31 (.str ((x6 ++ x7) ++ x8)) h7 [(43, h.size), (39, h.size), (35, h.size), (31, h.size), (26, h.size), (19, h.size), (15, h.size), (11, h.size), (7, h.size), (3, h.size)] (g.BN) H (fun D => .of (B8 (by kernel_rfl) B)) (fun D H => ?_)
  have E := A.GN 0 (pr := [h.size, h.size, h.size, h.size, h.size, h.size, h.size]) (.cons 0 rfl (by simp [Ck.ids]) (.cons 0 rfl (by simp [Ck.ids]) (.cons 0 rfl (by simp [Ck.ids]) (.cons 0 rfl (by simp [Ck.ids]) (.cons 0 rfl (by simp [Ck.ids]) (.cons 0 rfl (by simp [Ck.ids]) (.cons 0 rfl (by simp [Ck.ids]) .nil)))))))
  obtain ⟨x9, X, hm⟩ := bind_some hm
  obtain ⟨v1, h8, R, rfl, E⟩ := Bl (av := [Ai p0.B3, Ai 8]) X E
  replace A := A.SB E
  refine BJ 34 (.str x9) h8 [(43, h.size), (39, h.size), (35, h.size), (31, h.size), (26, h.size), (19, h.size), (15, h.size), (11, h.size), (7, h.size), (3, h.size)] (h.size :: h.size :: h.size :: h.size :: h.size :: h.size :: h.size :: g.BN) H (fun D => Steps.call (by kernel_rfl) R) (fun D H => ?_)
  obtain ⟨B, hm⟩ := AP hm
  refine BJ 35 (.str (((x6 ++ x7) ++ x8) ++ x9)) h8 [(43, h.size), (39, h.size), (35, h.size), (31, h.size), (26, h.size), (19, h.size), (15, h.size), (11, h.size), (7, h.size), (3, h.size)] (g.BN) H (fun D => .of (B8 (by kernel_rfl) B)) (fun D H => ?_)
  have E := A.GN 0 (pr := [h.size, h.size, h.size, h.size, h.size, h.size]) (.cons 0 rfl (by simp [Ck.ids]) (.cons 0 rfl (by simp [Ck.ids]) (.cons 0 rfl (by simp [Ck.ids]) (.cons 0 rfl (by simp [Ck.ids]) (.cons 0 rfl (by simp [Ck.ids]) (.cons 0 rfl (by simp [Ck.ids]) .nil))))))
  obtain ⟨x10, X, hm⟩ := bind_some hm
  obtain ⟨v1, h9, R, rfl, E⟩ := Bl (av := [Ai p0.DE, Ai 12]) X E
  replace A := A.SB E
  refine BJ 38 (.str x10) h9 [(43, h.size), (39, h.size), (35, h.size), (31, h.size), (26, h.size), (19, h.size), (15, h.size), (11, h.size), (7, h.size), (3, h.size)] (h.size :: h.size :: h.size :: h.size :: h.size :: h.size :: g.BN) H (fun D => Steps.call (by kernel_rfl) R) (fun D H => ?_)
  obtain ⟨B, hm⟩ := AP hm
  refine BJ 39 (.str ((((x6 ++ x7) ++ x8) ++ x9) ++ x10)) h9 [(43, h.size), (39, h.size), (35, h.size), (31, h.size), (26, h.size), (19, h.size), (15, h.size), (11, h.size), (7, h.size), (3, h.size)] (g.BN) H (fun D => .of (B8 (by kernel_rfl) B)) (fun D H => ?_)
  have E := A.GN 0 (pr := [h.size, h.size, h.size, h.size, h.size]) (.cons 0 rfl (by simp [Ck.ids]) (.cons 0 rfl (by simp [Ck.ids]) (.cons 0 rfl (by simp [Ck.ids]) (.cons 0 rfl (by simp [Ck.ids]) (.cons 0 rfl (by simp [Ck.ids]) .nil)))))
  obtain ⟨x11, X, hm⟩ := bind_some hm
  obtain ⟨v1, h10, R, rfl, E⟩ := Bl (av := [Ai p0.Time, Ai 12]) X E
  replace A := A.SB E
  refine BJ 42 (.str x11) h10 [(43, h.size), (39, h.size), (35, h.size), (31, h.size), (26, h.size), (19, h.size), (15, h.size), (11, h.size), (7, h.size), (3, h.size)] (h.size :: h.size :: h.size :: h.size :: h.size :: g.BN) H (fun D => Steps.call (by kernel_rfl) R) (fun D H => ?_)
  obtain ⟨B, hm⟩ := AP hm
  refine BJ 43 (.str (((((x6 ++ x7) ++ x8) ++ x9) ++ x10) ++ x11)) h10 [(43, h.size), (39, h.size), (35, h.size), (31, h.size), (26, h.size), (19, h.size), (15, h.size), (11, h.size), (7, h.size), (3, h.size)] (g.BN) H (fun D => .of (B8 (by kernel_rfl) B)) (fun D H => ?_)
  obtain ⟨B, hm⟩ := AP hm
  refine BJ 44 (.str ((((((x6 ++ x7) ++ x8) ++ x9) ++ x10) ++ x11) ++ ([32, 32, 32, 32, 32, 32, 32, 32] : UV))) h10 [(43, h.size), (39, h.size), (35, h.size), (31, h.size), (26, h.size), (19, h.size), (15, h.size), (11, h.size), (7, h.size), (3, h.size)] (g.BN) H (fun D => .of (B8 (by kernel_rfl) B)) (fun D H => ?_)
  obtain ⟨B, hm⟩ := AP hm
  refine BJ 46 (.str (((((((x6 ++ x7) ++ x8) ++ x9) ++ x10) ++ x11) ++ ([32, 32, 32, 32, 32, 32, 32, 32] : UV)) ++ x5)) h10 [(43, h.size), (39, h.size), (35, h.size), (31, h.size), (26, h.size), (19, h.size), (15, h.size), (11, h.size), (7, h.size), (3, h.size)] (g.BN) H (fun D => .of (B8 (by kernel_rfl) B)) (fun D H => ?_)
  have E := A.GN 0 (pr := [h.size, h.size, h.size, h.size]) (.cons 0 rfl (by simp [Ck.ids]) (.cons 0 rfl (by simp [Ck.ids]) (.cons 0 rfl (by simp [Ck.ids]) (.cons 0 rfl (by simp [Ck.ids]) .nil))))
  obtain ⟨x12, X, hm⟩ := bind_some hm
  obtain ⟨v1, h11, R, rfl, E⟩ := CK (av := [.str p0.Ax, Ai 100]) X E
  replace A := A.SB E
  refine BJ 49 (.str x12) h11 [(43, h.size), (39, h.size), (35, h.size), (31, h.size), (26, h.size), (19, h.size), (15, h.size), (11, h.size), (7, h.size), (3, h.size)] (h.size :: h.size :: h.size :: h.size :: g.BN) H (fun D => Steps.call (by kernel_rfl) R) (fun D H => ?_)
  obtain ⟨B, hm⟩ := AP hm
  refine BJ 50 (.str ((((((((x6 ++ x7) ++ x8) ++ x9) ++ x10) ++ x11) ++ ([32, 32, 32, 32, 32, 32, 32, 32] : UV)) ++ x5) ++ x12)) h11 [(43, h.size), (39, h.size), (35, h.size), (31, h.size), (26, h.size), (19, h.size), (15, h.size), (11, h.size), (7, h.size), (3, h.size)] (g.BN) H (fun D => .of (B8 (by kernel_rfl) B)) (fun D H => ?_)
  obtain ⟨B, hm⟩ := AP hm
  refine BJ 51 (.str (((((((((x6 ++ x7) ++ x8) ++ x9) ++ x10) ++ x11) ++ ([32, 32, 32, 32, 32, 32, 32, 32] : UV)) ++ x5) ++ x12) ++ ([117, 115, 116, 97, 114, 0, 48, 48] : UV))) h11 [(43, h.size), (39, h.size), (35, h.size), (31, h.size), (26, h.size), (19, h.size), (15, h.size), (11, h.size), (7, h.size), (3, h.size)] (g.BN) H (fun D => .of (B8 (by kernel_rfl) B)) (fun D H => ?_)
  have E := A.GN 0 (pr := [h.size, h.size, h.size]) (.cons 0 rfl (by simp [Ck.ids]) (.cons 0 rfl (by simp [Ck.ids]) (.cons 0 rfl (by simp [Ck.ids]) .nil)))
  obtain ⟨x13, X, hm⟩ := bind_some hm
  obtain ⟨v1, h12, R, rfl, E⟩ := CK (av := [.str p0.Aj, Ai 32]) X E
  replace A := A.SB E
  refine BJ 54 (.str x13) h12 [(43, h.size), (39, h.size), (35, h.size), (31, h.size), (26, h.size), (19, h.size), (15, h.size), (11, h.size), (7, h.size), (3, h.size)] (h.size :: h.size :: h.size :: g.BN) H (fun D => Steps.call (by kernel_rfl) R) (fun D H => ?_)
  obtain ⟨B, hm⟩ := AP hm
  refine BJ 55 (.str ((((((((((x6 ++ x7) ++ x8) ++ x9) ++ x10) ++ x11) ++ ([32, 32, 32, 32, 32, 32, 32, 32] : UV)) ++ x5) ++ x12) ++ ([117, 115, 116, 97, 114, 0, 48, 48] : UV)) ++ x13)) h12 [(43, h.size), (39, h.size), (35, h.size), (31, h.size), (26, h.size), (19, h.size), (15, h.size), (11, h.size), (7, h.size), (3, h.size)] (g.BN) H (fun D => .of (B8 (by kernel_rfl) B)) (fun D H => ?_)
  have E := A.GN 0 (pr := [h.size, h.size]) (.cons 0 rfl (by simp [Ck.ids]) (.cons 0 rfl (by simp [Ck.ids]) .nil))
  obtain ⟨x14, X, hm⟩ := bind_some hm
  obtain ⟨v1, h13, R, rfl, E⟩ := CK (av := [.str p0.Al, Ai 32]) X E
  replace A := A.SB E
  refine BJ 58 (.str x14) h13 [(43, h.size), (39, h.size), (35, h.size), (31, h.size), (26, h.size), (19, h.size), (15, h.size), (11, h.size), (7, h.size), (3, h.size)] (h.size :: h.size :: g.BN) H (fun D => Steps.call (by kernel_rfl) R) (fun D H => ?_)
  obtain ⟨B, hm⟩ := AP hm
  refine BJ 59 (.str (((((((((((x6 ++ x7) ++ x8) ++ x9) ++ x10) ++ x11) ++ ([32, 32, 32, 32, 32, 32, 32, 32] : UV)) ++ x5) ++ x12) ++ ([117, 115, 116, 97, 114, 0, 48, 48] : UV)) ++ x13) ++ x14)) h13 [(43, h.size), (39, h.size), (35, h.size), (31, h.size), (26, h.size), (19, h.size), (15, h.size), (11, h.size), (7, h.size), (3, h.size)] (g.BN) H (fun D => .of (B8 (by kernel_rfl) B)) (fun D H => ?_)
  have E := A.GN 0 (pr := [h.size]) (.cons 0 rfl (by simp [Ck.ids]) .nil)
  obtain ⟨x15, X, hm⟩ := bind_some hm
  obtain ⟨v1, h14, R, rfl, E⟩ := Bl (av := [Ai p0.Ap, Ai 8]) X E
  replace A := A.SB E
  refine BJ 62 (.str x15) h14 [(43, h.size), (39, h.size), (35, h.size), (31, h.size), (26, h.size), (19, h.size), (15, h.size), (11, h.size), (7, h.size), (3, h.size)] (h.size :: g.BN) H (fun D => Steps.call (by kernel_rfl) R) (fun D H => ?_)
  obtain ⟨B, hm⟩ := AP hm
  refine BJ 63 (.str ((((((((((((x6 ++ x7) ++ x8) ++ x9) ++ x10) ++ x11) ++ ([32, 32, 32, 32, 32, 32, 32, 32] : UV)) ++ x5) ++ x12) ++ ([117, 115, 116, 97, 114, 0, 48, 48] : UV)) ++ x13) ++ x14) ++ x15)) h14 [(43, h.size), (39, h.size), (35, h.size), (31, h.size), (26, h.size), (19, h.size), (15, h.size), (11, h.size), (7, h.size), (3, h.size)] (g.BN) H (fun D => .of (B8 (by kernel_rfl) B)) (fun D H => ?_)
  obtain ⟨x16, X, hm⟩ := bind_some hm
  obtain ⟨v1, h15, R, rfl, E⟩ := Bl (av := [Ai p0.Ay, Ai 8]) X (A.cut 0)
  replace A := A.Ee E
  refine BJ 66 (.str x16) h15 [(43, h.size), (39, h.size), (35, h.size), (31, h.size), (26, h.size), (19, h.size), (15, h.size), (11, h.size), (7, h.size), (3, h.size)] (g.BN) H (fun D => Steps.call (by kernel_rfl) R) (fun D H => ?_)
  obtain ⟨B, hm⟩ := AP hm
  refine BJ 67 (.str (((((((((((((x6 ++ x7) ++ x8) ++ x9) ++ x10) ++ x11) ++ ([32, 32, 32, 32, 32, 32, 32, 32] : UV)) ++ x5) ++ x12) ++ ([117, 115, 116, 97, 114, 0, 48, 48] : UV)) ++ x13) ++ x14) ++ x15) ++ x16)) h15 [(43, h.size), (39, h.size), (35, h.size), (31, h.size), (26, h.size), (19, h.size), (15, h.size), (11, h.size), (7, h.size), (3, h.size)] (g.BN) H (fun D => .of (B8 (by kernel_rfl) B)) (fun D H => ?_)
  refine AF 1 [(68, .str x1)] H fun D H => ?_
  obtain ⟨x17, X, hm⟩ := bind_some hm
  obtain ⟨v1, h16, R, rfl, E⟩ := CK (av := [.str x1, Ai 155]) X (A.cut 0)
  replace A := A.Ee E
  refine BJ 69 (.str x17) h16 [(43, h.size), (39, h.size), (35, h.size), (31, h.size), (26, h.size), (19, h.size), (15, h.size), (11, h.size), (7, h.size), (3, h.size)] (g.BN) H (fun D => Steps.call (by kernel_rfl) R) (fun D H => ?_)
  obtain ⟨B, hm⟩ := AP hm
  refine BJ 70 (.str ((((((((((((((x6 ++ x7) ++ x8) ++ x9) ++ x10) ++ x11) ++ ([32, 32, 32, 32, 32, 32, 32, 32] : UV)) ++ x5) ++ x12) ++ ([117, 115, 116, 97, 114, 0, 48, 48] : UV)) ++ x13) ++ x14) ++ x15) ++ x16) ++ x17)) h16 [(43, h.size), (39, h.size), (35, h.size), (31, h.size), (26, h.size), (19, h.size), (15, h.size), (11, h.size), (7, h.size), (3, h.size)] (g.BN) H (fun D => .of (B8 (by kernel_rfl) B)) (fun D H => ?_)
  obtain ⟨x18, X, hm⟩ := bind_some hm
  obtain ⟨v1, h17, R, rfl, E⟩ := CK (av := [.str ([] : UV), Ai 12]) X (A.cut 0)
  replace A := A.Ee E
  refine BJ 71 (.str x18) h17 [(43, h.size), (39, h.size), (35, h.size), (31, h.size), (26, h.size), (19, h.size), (15, h.size), (11, h.size), (7, h.size), (3, h.size)] (g.BN) H (fun D => Steps.call (by kernel_rfl) R) (fun D H => ?_)
  obtain ⟨B, hm⟩ := AP hm
  refine BJ 72 (.str (((((((((((((((x6 ++ x7) ++ x8) ++ x9) ++ x10) ++ x11) ++ ([32, 32, 32, 32, 32, 32, 32, 32] : UV)) ++ x5) ++ x12) ++ ([117, 115, 116, 97, 114, 0, 48, 48] : UV)) ++ x13) ++ x14) ++ x15) ++ x16) ++ x17) ++ x18)) h17 [(43, h.size), (39, h.size), (35, h.size), (31, h.size), (26, h.size), (19, h.size), (15, h.size), (11, h.size), (7, h.size), (3, h.size)] (g.BN) H (fun D => .of (B8 (by kernel_rfl) B)) (fun D H => ?_)
  refine Bg 1 [(7, .str (((((((((((((((x6 ++ x7) ++ x8) ++ x9) ++ x10) ++ x11) ++ ([32, 32, 32, 32, 32, 32, 32, 32] : UV)) ++ x5) ++ x12) ++ ([117, 115, 116, 97, 114, 0, 48, 48] : UV)) ++ x13) ++ x14) ++ x15) ++ x16) ++ x17) ++ x18))] 3 H fun D H => ?_
  obtain ⟨x19, X, hm⟩ := bind_some hm
  obtain ⟨v1, h18, R, rfl, E⟩ := KW (av := [.str (((((((((((((((x6 ++ x7) ++ x8) ++ x9) ++ x10) ++ x11) ++ ([32, 32, 32, 32, 32, 32, 32, 32] : UV)) ++ x5) ++ x12) ++ ([117, 115, 116, 97, 114, 0, 48, 48] : UV)) ++ x13) ++ x14) ++ x15) ++ x16) ++ x17) ++ x18)]) X (A.cut 0)
  replace A := A.Ee E
  refine A6 1 [] 74 R H fun D t H => ?_
  refine AM 1 [(2, .str x19)] H fun D H => AX ?_
  obtain rfl := Ah hm
  refine ⟨.inl rfl, .str x19, rH H, ?_⟩
  replace A := A.d0
  exact ⟨rfl, A⟩
 exact hF.elim
def Df (p0 : AS) (p1 : Int) : Option ((List UInt8) × Int) :=
 (Af (p0.Kind == 0) (some (48 : Int)) (some p0.Kind) : Option ((Int))).bind fun x1 => (DG (⟨p0.Name, p0.Ax, x1, p0.Mode, p0.Bm, p0.B3, p0.Aj, p0.Al, p0.Ap, p0.Ay, p0.Time, p0.Extra, p0.Data⟩ : AS)).bind fun x2 => Af (x2 != 0) (some (([] : UV), x2)) (Af ((decide (x1 < 48)) || (decide (x1 > 55))) (some (([] : UV), (5 : Int))) (Af (((decide (p1 < 0)) || (decide (p1 > 1099511627776))) || (((p1 != 0) && (x1 != 48)) && (x1 != 55))) (some (([] : UV), (6 : Int))) ((Dh (⟨p0.Name, p0.Ax, x1, p0.Mode, p0.Bm, p0.B3, p0.Aj, p0.Al, p0.Ap, p0.Ay, p0.Time, p0.Extra, p0.Data⟩ : AS) p1).bind fun (x3, x4) => (CZ x4).bind fun (x5, x6) => Af (x6 != 0) (some (([] : UV), x6)) ((Af (!(x5 == ([] : UV))) ((Cd (⟨([80, 97, 120, 72, 101, 97, 100, 101, 114, 115] : UV), ([] : UV), (120 : Int), (420 : Int), (0 : Int), (0 : Int), (x5.length : Int), (0 : Int), ([] : UV), ([] : UV), (0 : Int), (0 : Int), (0 : Int)⟩ : AN)).bind fun x8 => (D7 x5).bind fun x9 => BW (decide (x8.length + x9.length ≤ 9223372036854775807)) <| some (x8 ++ x9)) (some ([] : UV)) : Option (((List UInt8)))).bind fun x7 => (Cd x3).bind fun x10 => BW (decide (x7.length + x10.length ≤ 9223372036854775807)) <| some (x7 ++ x10, (0 : Int))))))
theorem KQ {p0 p1 q0 q1} (hm : Df p0 p1 = some (q0, q1)) (A : HH g h [] F) (hc : BB (cfg.still 14) av = [.agg (AE p0), Ai p1] := by kernel_rfl) : ∃ v Q, BE cfg g h 14 av v Q ∧ v = .tuple [.str q0, Ai q1] ∧ HH g Q [] F := by
 refine Dp 76 [.tmp 4, .tmp 5] hc ?_
 clear hc
 unfold Df at hm
 refine bg 76 [(0, .agg (AE p0)), (1, Ai p1)] fun D H => ?_
 refine AG 3 ?_
 obtain ⟨h1, e1, A⟩ := A.pu (.cells none 2 (AE p0))
 refine BI 2 (.ptr (some (h.size, 0))) e1 H fun D t H => ?_
 refine AM 2 [] H fun D H => AQ ?_
 obtain ⟨o1, O, hm⟩ := bind_some hm
 refine Az (Q' := fun e fr' Q => (∃ x1, e = .normal ∧ x1 = o1 ∧ Has fr' 76 [(1, Ai p1), (2, .ptr (some (h.size, 0)))] ∧ HH g Q [.obj h.size (.cells none 2 (DQ p0 (Ab x1)))] F) ∨ False) ?_ ?_
 ·replace hm := O
  clear O
  refine AG 3 (AV 1 [] 13 0 2 A H fun D t H => ?_)
  refine AM 1 [(14, .bool (p0.Kind == 0))] H fun D H => Ae 14 H hm (fun B hm H => ?_) fun B hm H => ?_
  ·refine BY 2 ?_
   obtain ⟨h2, X, A⟩ := A.s0 2 [Ab 48] [_, _, _, _, _, _, _, _, _, _, _, _, _, _]
   refine ER 1 [] X H fun D t H => ?_
   refine at_nil ?_
   exact .inl ⟨_, rfl, Ah hm, H.ls, A⟩
  exact GU (.inl ⟨_, rfl, Ah hm, H.ls, A⟩)
 clear O
 clear A
 intro e D h3 hQ
 rcases hQ with ⟨x1, rfl, rfl, H, A⟩ | hF
 ·show AW _ _ _ _ _ _ _
  refine AG 3 (Ac 16 _ _ H (fun D => .of (BH (by kernel_rfl) (A.EX 0 rfl (o := 0) (n := 14) ⟨Nat.le_of_ble_eq_true rfl, rfl⟩))) fun D t H => ?_)
  obtain ⟨x2, X, hm⟩ := bind_some hm
  obtain ⟨v1, h4, R, rfl, E⟩ := Jt (av := [.agg (DQ p0 (Ab x1))]) X (A.cut 0)
  replace A := A.Ee E
  refine A9 17 R H fun D t H => ?_
  refine AM 1 [(6, Ai x2)] H fun D H => AQ (AG 2 (AM 2 [(19, .bool (x2 != 0))] H fun D H => Ae 19 H hm (fun B hm H => ?_) fun B hm H => ?_))
  ·refine AG 3 (AM 3 [(4, .str ([] : UV)), (5, Ai x2)] H fun D H => AX ?_)
   obtain ⟨rfl, rfl⟩ := Cx hm
   refine ⟨.inl rfl, .tuple [.str ([] : UV), Ai x2], rH H, ?_⟩
   replace A := A.d0
   exact ⟨rfl, A⟩
  refine B0 id (AQ (AG 8 (AV 1 [] 22 0 2 A H fun D t H => ?_)))
  refine AF 2 [(24, .bool (decide (x1 < 48)))] H fun D H => An 4 (fun fr' Q => h4 = Q ∧ Has fr' 76 [(1, Ai p1), (2, .ptr (some (h.size, 0))), (28, .bool ((decide (x1 < 48)) || (decide (x1 > 55))))]) ?_ ?_
  ·cases B : (decide (x1 < 48) : Bool) with
   | true =>
    replace H := H.kn 24 B
    exact AF 4 [(28, .bool true)] H fun D H => AZ H B
   | false =>
    replace H := H.kn 24 B
    refine AV 1 [] 26 0 2 A H fun D t H => ?_
    exact AF 2 [(28, .bool (decide (x1 > 55)))] H fun D H => AZ H B
  intro t D Q hK
  obtain ⟨e, H⟩ := hK
  subst e
  refine BZ id (Ae 28 H hm (fun B hm H => ?_) fun B hm H => ?_)
  ·refine AG 2 (AM 2 [(4, .str ([] : UV)), (5, Ai 5)] H fun D H => AX ?_)
   obtain ⟨rfl, rfl⟩ := Cx hm
   refine ⟨.inl rfl, .tuple [.str ([] : UV), Ai 5], rH H, ?_⟩
   replace A := A.d0
   exact ⟨rfl, A⟩
  refine B0 id (AQ (AG 20 (AF 3 [(31, .bool (decide (p1 < 0)))] H fun D H => An 3 (fun fr' Q => h4 = Q ∧ Has fr' 76 [(1, Ai p1), (2, .ptr (some (h.size, 0))), (34, .bool ((decide (p1 < 0)) || (decide (p1 > 1099511627776))))]) ?_ ?_)))
  ·cases B : (decide (p1 < 0) : Bool) with
   | true =>
    replace H := H.kn 31 B
    exact AF 3 [(34, .bool true)] H fun D H => AZ H B
   | false =>
    replace H := H.kn 31 B
    exact AF 3 [(34, .bool (decide (p1 > 1099511627776)))] H fun D H => AZ H B
  intro t D Q hK
  obtain ⟨e, H⟩ := hK
  subst e
  refine AF 1 [(35, .bool ((decide (p1 < 0)) || (decide (p1 > 1099511627776))))] H fun D H => An 13 (fun fr' Q => h4 = Q ∧ Has fr' 76 [(1, Ai p1), (2, .ptr (some (h.size, 0))), (48, .bool (((decide (p1 < 0)) || (decide (p1 > 1099511627776))) || (((p1 != 0) && (x1 != 48)) && (x1 != 55))))]) ?_ ?_
  ·cases B : ((decide (p1 < 0)) || (decide (p1 > 1099511627776)) : Bool) with
   | true =>
    replace H := H.kn 35 B
    exact AF 13 [(48, .bool true)] H fun D H => AZ H B
   | false =>
    replace H := H.kn 35 B
    refine AF 3 [(38, .bool (p1 != 0))] H fun D H => An 4 (fun fr' Q => h4 = Q ∧ Has fr' 76 [(1, Ai p1), (2, .ptr (some (h.size, 0))), (35, .bool false), (42, .bool ((p1 != 0) && (x1 != 48)))]) ?_ ?_
    ·cases B : (p1 != 0 : Bool) with
     | true =>
      replace H := H.kn 38 B
      refine AV 1 [] 40 0 2 A H fun D t H => ?_
      exact AF 2 [(42, .bool (x1 != 48))] H fun D H => AZ H B
     | false =>
      replace H := H.kn 38 B
      exact AF 4 [(42, .bool false)] H fun D H => AZ H B
    intro t D Q hK
    obtain ⟨e, H⟩ := hK
    subst e
    refine AF 1 [(43, .bool ((p1 != 0) && (x1 != 48)))] H fun D H => An 4 (fun fr' Q => h4 = Q ∧ Has fr' 76 [(1, Ai p1), (2, .ptr (some (h.size, 0))), (35, .bool false), (47, .bool (((p1 != 0) && (x1 != 48)) && (x1 != 55)))]) ?_ ?_
    ·cases B : ((p1 != 0) && (x1 != 48) : Bool) with
     | true =>
      replace H := H.kn 43 B
      refine AV 1 [] 45 0 2 A H fun D t H => ?_
      exact AF 2 [(47, .bool (x1 != 55))] H fun D H => AZ H B
     | false =>
      replace H := H.kn 43 B
      exact AF 4 [(47, .bool false)] H fun D H => AZ H B
    intro t D Q hK
    obtain ⟨e, H⟩ := hK
    subst e
    exact AF 1 [(48, .bool (((p1 != 0) && (x1 != 48)) && (x1 != 55)))] H fun D H => AZ H B
  intro t D Q hK
  obtain ⟨e, H⟩ := hK
  subst e
  refine BZ id (Ae 48 H hm (fun B hm H => ?_) fun B hm H => ?_)
  ·refine AG 2 (AM 2 [(4, .str ([] : UV)), (5, Ai 6)] H fun D H => AX ?_)
   obtain ⟨rfl, rfl⟩ := Cx hm
   refine ⟨.inl rfl, .tuple [.str ([] : UV), Ai 6], rH H, ?_⟩
   replace A := A.d0
   exact ⟨rfl, A⟩
  refine Cr 9 id (Ac 50 _ _ H (fun D => .of (BH (by kernel_rfl) (A.EX 0 rfl (o := 0) (n := 14) ⟨Nat.le_of_ble_eq_true rfl, rfl⟩))) fun D t H => ?_)
  obtain ⟨⟨x3, x4⟩, X, hm⟩ := bind_some hm
  obtain ⟨v1, h5, R, rqw3, rfl, E⟩ := Kf (av := [.agg (DQ p0 (Ab x1)), Ai p1]) X (A.cut 0)
  replace A := A.Xr E
  refine A6 1 [] 52 R H fun D t H => ?_
  obtain ⟨h6, e2, A⟩ := A.pu (.cells none 2 [.str ([] : UV), .str ([] : UV), Ab 0, Ai 0, Ai 0, Ai 0, Ai 0, Ai 0, .str ([] : UV), .str ([] : UV), Ai 0, Ai 0, Ai 0])
  refine MC 3 [(53, .agg (AJ x3)), (54, AR rqw3 x4.length)] 7 (.ptr (some (h5.size, 0))) e2 H fun D t H => ?_
  obtain ⟨h7, X, A⟩ := A.s0 0 (AJ x3) [_, _, _, _, _, _, _, _, _, _, _, _, _]
  refine CU X H fun D t H => ?_
  refine Bg 1 [(8, AR rqw3 x4.length)] 7 H fun D H => ?_
  replace A := A.k3 1 0 2
  obtain ⟨⟨x5, x6⟩, X, hm⟩ := bind_some hm
  obtain ⟨v1, h8, R, rfl, E⟩ := Il (av := [AR rqw3 x4.length]) X (A.cut 1)
  replace A := A.g11 E
  refine A6 1 [] 57 R H fun D t H => ?_
  refine AM 5 [(9, .str x5), (10, Ai x6)] H fun D H => AQ (AG 2 (AM 2 [(61, .bool (x6 != 0))] H fun D H => Ae 61 H hm (fun B hm H => ?_) fun B hm H => ?_))
  ·refine AG 3 (AM 3 [(4, .str ([] : UV)), (5, Ai x6)] H fun D H => AX ?_)
   obtain ⟨rfl, rfl⟩ := Cx hm
   refine ⟨.inl rfl, .tuple [.str ([] : UV), Ai x6], rH H, ?_⟩
   replace A := A.d0
   exact ⟨rfl, A⟩
  refine Cr 1 id (AM 1 [(11, .str ([] : UV))] H fun D H => AQ ?_)
  obtain ⟨o2, O, hm⟩ := bind_some hm
  refine Az (Q' := fun e fr' Q => (∃ x7, e = .normal ∧ x7 = o2 ∧ Has fr' 76 [(7, .ptr (some (h5.size, 0))), (11, .str x7)] ∧ HH g Q [.obj h5.size (.cells none 2 (AJ x3)), .obj h.size (.cells none 2 (DQ p0 (Ab x1)))] F) ∨ False) ?_ ?_
  ·replace hm := O
   clear O
   refine AG 2 (AM 2 [(64, .bool (!(x5 == ([] : UV))))] H fun D H => Ae 64 H hm (fun B hm H => ?_) fun B hm H => ?_)
   ·refine BY 8 ?_
    obtain ⟨x8, X, hm⟩ := bind_some hm
    obtain ⟨v1, h9, R, rfl, E⟩ := Gb (av := [.agg [.str ([80, 97, 120, 72, 101, 97, 100, 101, 114, 115] : UV), .str ([] : UV), Ab 120, Ai 420, Ai 0, Ai 0, Ai (x5.length : Int), Ai 0, .str ([] : UV), .str ([] : UV), Ai 0, Ai 0, Ai 0]]) X (A.cut 0)
    replace A := A.Ee E
    refine A6 3 [] 68 R H fun D t H => ?_
    obtain ⟨x9, X, hm⟩ := bind_some hm
    obtain ⟨v1, h10, R, rfl, E⟩ := Kw (av := [.str x5]) X (A.cut 0)
    replace A := A.Ee E
    refine A6 1 [] 70 R H fun D t H => ?_
    obtain ⟨B, hm⟩ := AP hm
    refine Ac 71 (.str (x8 ++ x9)) h10 H (fun D => .of (B8 (by kernel_rfl) B)) fun D t H => ?_
    refine BF 1 [(7, .ptr (some (h5.size, 0))), (11, .str (x8 ++ x9))] H fun D H => at_nil ?_
    replace A := A.k2 1 2
    exact .inl ⟨_, rfl, Ah hm, H.ls, A⟩
   refine GU ?_
   replace A := A.k2 1 2
   exact .inl ⟨_, rfl, Ah hm, H.ls, A⟩
  clear O
  clear A
  intro e D h11 hQ
  rcases hQ with ⟨x7, rfl, rfl, H, A⟩ | hF
  ·show AW _ _ _ _ _ _ _
   refine AG 6 (BC 1 [(72, .str x7)] 73 _ _ H (fun D => .of (BH (by kernel_rfl) (A.EX 0 rfl (o := 0) (n := 13) ⟨Nat.le_of_ble_eq_true rfl, rfl⟩))) fun D t H => ?_)
   obtain ⟨x10, X, hm⟩ := bind_some hm
   obtain ⟨v1, h12, R, rfl, E⟩ := Gb (av := [.agg (AJ x3)]) X (A.cut 0)
   replace A := A.Ee E
   refine A9 74 R H fun D t H => ?_
   obtain ⟨B, hm⟩ := AP hm
   refine Ac 75 (.str (x7 ++ x10)) h12 H (fun D => .of (B8 (by kernel_rfl) B)) fun D t H => ?_
   refine AM 2 [(4, .str (x7 ++ x10)), (5, Ai 0)] H fun D H => AX ?_
   obtain ⟨rfl, rfl⟩ := Cx hm
   refine ⟨.inl rfl, .tuple [.str (x7 ++ x10), Ai 0], rH H, ?_⟩
   replace A := A.d0
   exact ⟨rfl, A⟩
  exact hF.elim
 exact hF.elim
def D4 (p0 : Ar) (p1 : BD) (p2 : Bn) : Option (BD × (List UInt8) × Bool × Ar) :=
 Af (p2.Kind == 1) ((C4 p0 p2.M p2.N).bind fun (x1, x2, x3) => Af (p1.EW || p1.Closed) (some (p1, ([] : UV), (x1 == ([] : UV)) && (x2 == 10), x3)) ((Df p2.M p2.N).bind fun (x4, x5) => Af (x5 != 0) (some (p1, ([] : UV), (x1 == ([] : UV)) && (x2 == x5), x3)) (some ((⟨true, false, p2.N, p2.N⟩ : BD), x1, (x1 == x4) && (x2 == 0), x3)))) (Af (p2.Kind == 2) ((DL p0 p2.S).bind fun (x6, x7, x8) => Af (!p1.EW) (some (p1, ([] : UV), (x6 == ([] : UV)) && (x7 == 10), x8)) (Af (decide ((p2.S.length : Int) > p1.Left)) (some (p1, ([] : UV), (x6 == ([] : UV)) && (x7 == 12), x8)) (some ((⟨p1.EW, p1.Closed, p1.DE, i64.wrap (p1.Left - (p2.S.length : Int))⟩ : BD), x6, (x6 == p2.S) && (x7 == 0), x8)))) (Af (p2.Kind == 3) ((DH p0).bind fun (x9, x10, x11) => Af (!p1.EW) (some (p1, ([] : UV), (x9 == ([] : UV)) && (x10 == 10), x11)) (Af (decide (p1.Left > 0)) (some (p1, ([] : UV), (x9 == ([] : UV)) && (x10 == 3), x11)) ((C8 p1.DE).bind fun x12 => (Af ((x9.length : Int) == (i64.wrap ((i64.wrap ((512 : Int) * x12)) - p1.DE))) ((Cg x9).bind fun x14 => some x14) (some false) : Option (Bool)).bind fun x13 => some ((⟨false, false, (0 : Int), (0 : Int)⟩ : BD), x9, x13 && (x10 == 0), x11)))) (Af (p2.Kind == 4) ((C7 p0).bind fun (x15, x16, x17) => Af (p1.EW || p1.Closed) (some (p1, ([] : UV), (x15 == ([] : UV)) && (x16 == 10), x17)) ((Af ((x15.length : Int) == 1024) ((Cg x15).bind fun x19 => some x19) (some false) : Option (Bool)).bind fun x18 => some ((⟨false, true, (0 : Int), (0 : Int)⟩ : BD), x15, x18 && (x16 == 0), x17))) (some (p1, ([] : UV), true, p0)))))
theorem K3 {p0 p1 p2 bp0 q0 q1 q2 u0} (hm : D4 p0 p1 p2 = some (q0, q1, q2, u0)) (A : HH g h [.obj bp0 (.cells none 2 (A2 p0))] F) (hc : BB (cfg.still 23) av = [.ptr (some (bp0, 0)), .agg (AK p1), .agg (AO p2)] := by kernel_rfl) : ∃ v Q, BE cfg g h 23 av v Q ∧ v = .tuple [.agg (AK q0), .str q1, .bool q2] ∧ HH g Q [.obj bp0 (.cells none 2 (A2 u0))] F := by
 refine Dp 208 [.cell 6 53, .tmp 7, .tmp 8] hc ?_
 clear hc
 unfold D4 at hm
 refine bg 208 [(0, .ptr (some (bp0, 0))), (1, .agg (AK p1)), (2, .agg (AO p2))] fun D H => ?_
 refine AG 5 ?_
 obtain ⟨h1, e1, A⟩ := A.pu (.cells none 2 (AK p1))
 refine BI 4 (.ptr (some (h.size, 0))) e1 H fun D t H => ?_
 obtain ⟨h2, e2, A⟩ := A.pu (.cells none 2 (AO p2))
 refine BI 5 (.ptr (some (h1.size, 0))) e2 H fun D t H => ?_
 obtain ⟨h3, e3, A⟩ := A.pu (.cells none 2 [.bool false, .bool false, Ai 0, Ai 0])
 refine BI 6 (.ptr (some (h2.size, 0))) e3 H fun D t H => ?_
 refine AM 2 [] H fun D H => AQ (AG 2 (AV 1 [] 21 1 0 A H fun D t H => ?_))
 refine BZ id (Ak (id := 0) (by kernel_rfl) ?_)
 refine AG 2 (AM 2 [(22, .bool (p2.Kind == 1))] H fun D H => Ae 22 H hm (fun B hm H => ?_) fun B hm H => ?_)
 ·refine AG 11 (BC 2 [(25, .ptr (some (bp0, 0)))] 27 _ _ H (fun D => .of (BH (by kernel_rfl) (A.EX 1 rfl (o := 2) (n := 14) ⟨Nat.le_of_ble_eq_true rfl, rfl⟩))) fun D t H => ?_)
  refine AV 1 [] 29 1 1 A H fun D t H => ?_
  replace A : HH g h3 [_, .obj h2.size (.cells none 2 [.bool false, .bool false, Ai 0, Ai 0]), .obj h1.size (.cells none 2 (AO p2)), .obj h.size (.cells none 2 (AK p1))] F := (A.front 3 rfl)
  obtain ⟨⟨x1, x2, x3⟩, X, hm⟩ := bind_some hm
  obtain ⟨v1, h4, R, rfl, E⟩ := GQ (av := [.ptr (some (bp0, 0)), .agg (AE p2.M), Ai p2.N]) X (A.cut 1)
  replace A := A.g11 E
  refine A9 30 R H fun D t H => ?_
  refine AM 5 [(9, .str x1), (10, Ai x2)] H fun D H => AQ (AG 6 (AV 1 [] 34 3 0 A H fun D t H => ?_))
  refine AF 1 [(35, .bool p1.EW)] H fun D H => An 3 (fun fr' Q => h4 = Q ∧ Has fr' 208 [(4, .ptr (some (h.size, 0))), (5, .ptr (some (h1.size, 0))), (6, .ptr (some (h2.size, 0))), (9, .str x1), (10, Ai x2), (38, .bool (p1.EW || p1.Closed))]) ?_ ?_
  ·cases B : (p1.EW : Bool) with
   | true =>
    replace H := H.kn 35 B
    exact AF 3 [(38, .bool true)] H fun D H => AZ H B
   | false =>
    replace H := H.kn 35 B
    refine AV 1 [] 37 3 1 A H fun D t H => ?_
    exact AF 1 [(38, .bool p1.Closed)] H fun D H => AZ H B
  intro t D Q hK
  obtain ⟨e, H⟩ := hK
  subst e
  refine BZ id (Ae 38 H hm (fun B hm H => ?_) fun B hm H => ?_)
  ·refine AG 10 (Ac 39 _ _ H (fun D => .of (BH (by kernel_rfl) (A.EX 3 rfl (o := 0) (n := 4) ⟨Nat.le_of_ble_eq_true rfl, rfl⟩))) fun D t H => ?_)
   refine AF 3 [(42, .bool (x1 == ([] : UV)))] H fun D H => An 3 (fun fr' Q => h4 = Q ∧ Has fr' 208 [(6, .ptr (some (h2.size, 0))), (39, .agg (AK p1)), (45, .bool ((x1 == ([] : UV)) && (x2 == 10)))]) ?_ ?_
   ·cases B : (x1 == ([] : UV) : Bool) with
    | true =>
     replace H := H.kn 42 B
     exact AF 3 [(45, .bool (x2 == 10))] H fun D H => AZ H B
    | false =>
     replace H := H.kn 42 B
     exact AF 3 [(45, .bool false)] H fun D H => AZ H B
   intro t D Q hK
   obtain ⟨e, H⟩ := hK
   subst e
   obtain ⟨h5, X, A⟩ := A.s1 0 (AK p1) [_, _, _, _]
   refine CU X H fun D t H => ?_
   refine AM 2 [(7, .str ([] : UV)), (8, .bool ((x1 == ([] : UV)) && (x2 == 10)))] H fun D H => AX ?_
   obtain ⟨rfl, rfl, rfl, rfl⟩ := NV hm
   refine ⟨.inl rfl, .tuple [.agg (AK p1), .str ([] : UV), .bool ((x1 == ([] : UV)) && (x2 == 10))], Cu (.cell (rT H) (Cb (by kernel_rfl) (by kernel_rfl) (A.la 1 0 4)) (.tmp (rT H) (.tmp (rT H) .nil))), ?_⟩
   replace A := A.d1
   exact ⟨rfl, A⟩
  refine Cr 10 id (BC 1 [] 48 _ _ H (fun D => .of (BH (by kernel_rfl) (A.EX 2 rfl (o := 2) (n := 14) ⟨Nat.le_of_ble_eq_true rfl, rfl⟩))) fun D t H => ?_)
  refine AV 1 [] 50 2 1 A H fun D t H => ?_
  obtain ⟨⟨x4, x5⟩, X, hm⟩ := bind_some hm
  obtain ⟨v1, h6, R, rfl, E⟩ := KQ (av := [.agg (AE p2.M), Ai p2.N]) X (A.cut 0)
  replace A := A.Ee E
  refine A9 51 R H fun D t H => ?_
  refine AM 5 [(11, .str x4), (12, Ai x5)] H fun D H => AQ (AG 2 (AM 2 [(55, .bool (x5 != 0))] H fun D H => Ae 55 H hm (fun B hm H => ?_) fun B hm H => ?_))
  ·refine AG 11 (Ac 56 _ _ H (fun D => .of (BH (by kernel_rfl) (A.EX 3 rfl (o := 0) (n := 4) ⟨Nat.le_of_ble_eq_true rfl, rfl⟩))) fun D t H => ?_)
   refine AF 3 [(59, .bool (x1 == ([] : UV)))] H fun D H => An 4 (fun fr' Q => h6 = Q ∧ Has fr' 208 [(6, .ptr (some (h2.size, 0))), (56, .agg (AK p1)), (63, .bool ((x1 == ([] : UV)) && (x2 == x5)))]) ?_ ?_
   ·cases B : (x1 == ([] : UV) : Bool) with
    | true =>
     replace H := H.kn 59 B
     exact AF 4 [(63, .bool (x2 == x5))] H fun D H => AZ H B
    | false =>
     replace H := H.kn 59 B
     exact AF 4 [(63, .bool false)] H fun D H => AZ H B
   intro t D Q hK
   obtain ⟨e, H⟩ := hK
   subst e
   obtain ⟨h7, X, A⟩ := A.s1 0 (AK p1) [_, _, _, _]
   refine CU X H fun D t H => ?_
   refine AM 2 [(7, .str ([] : UV)), (8, .bool ((x1 == ([] : UV)) && (x2 == x5)))] H fun D H => AX ?_
   obtain ⟨rfl, rfl, rfl, rfl⟩ := NV hm
   refine ⟨.inl rfl, .tuple [.agg (AK p1), .str ([] : UV), .bool ((x1 == ([] : UV)) && (x2 == x5))], Cu (.cell (rT H) (Cb (by kernel_rfl) (by kernel_rfl) (A.la 1 0 4)) (.tmp (rT H) (.tmp (rT H) .nil))), ?_⟩
   replace A := A.d1
   exact ⟨rfl, A⟩
  refine Cr 16 id (AV 1 [] 65 2 1 A H fun D t H => ?_)
  refine AV 1 [] 67 2 1 A H fun D t H => ?_
  refine AF 6 [(68, .agg [.bool true, .bool false, Ai p2.N, Ai p2.N]), (69, .str x1), (73, .bool (x1 == x4))] H fun D H => An 3 (fun fr' Q => h6 = Q ∧ Has fr' 208 [(6, .ptr (some (h2.size, 0))), (68, .agg [.bool true, .bool false, Ai p2.N, Ai p2.N]), (69, .str x1), (76, .bool ((x1 == x4) && (x2 == 0)))]) ?_ ?_
  ·cases B : (x1 == x4 : Bool) with
   | true =>
    replace H := H.kn 73 B
    exact AF 3 [(76, .bool (x2 == 0))] H fun D H => AZ H B
   | false =>
    replace H := H.kn 73 B
    exact AF 3 [(76, .bool false)] H fun D H => AZ H B
  intro t D Q hK
  obtain ⟨e, H⟩ := hK
  subst e
  obtain ⟨h8, X, A⟩ := A.s1 0 [.bool true, .bool false, Ai p2.N, Ai p2.N] [_, _, _, _]
  refine CU X H fun D t H => ?_
  refine AM 2 [(7, .str x1), (8, .bool ((x1 == x4) && (x2 == 0)))] H fun D H => AX ?_
  obtain ⟨rfl, rfl, rfl, rfl⟩ := NV hm
  refine ⟨.inl rfl, .tuple [.agg [.bool true, .bool false, Ai p2.N, Ai p2.N], .str x1, .bool ((x1 == x4) && (x2 == 0))], Cu (.cell (rT H) (Cb (by kernel_rfl) (by kernel_rfl) (A.la 1 0 4)) (.tmp (rT H) (.tmp (rT H) .nil))), ?_⟩
  replace A := A.d1
  exact ⟨rfl, A⟩
 refine AG 2 (AM 2 [(77, .bool (p2.Kind == 2))] H fun D H => Ae 77 H hm (fun B hm H => ?_) fun B hm H => ?_)
 ·refine AG 9 (AV 2 [(80, .ptr (some (bp0, 0)))] 82 1 16 A H fun D t H => ?_)
  replace A : HH g h3 [_, .obj h2.size (.cells none 2 [.bool false, .bool false, Ai 0, Ai 0]), .obj h1.size (.cells none 2 (AO p2)), .obj h.size (.cells none 2 (AK p1))] F := (A.front 3 rfl)
  obtain ⟨⟨x6, x7, x8⟩, X, hm⟩ := bind_some hm
  obtain ⟨v1, h9, R, rfl, E⟩ := GW (av := [.ptr (some (bp0, 0)), .str p2.S]) X (A.cut 1)
  replace A := A.g11 E
  refine A9 83 R H fun D t H => ?_
  refine AM 5 [(13, .str x6), (14, Ai x7)] H fun D H => AQ (AG 3 (AV 1 [] 87 3 0 A H fun D t H => ?_))
  refine AM 1 [(88, .bool (!p1.EW))] H fun D H => Ae 88 H hm (fun B hm H => ?_) fun B hm H => ?_
  ·refine AG 10 (Ac 89 _ _ H (fun D => .of (BH (by kernel_rfl) (A.EX 3 rfl (o := 0) (n := 4) ⟨Nat.le_of_ble_eq_true rfl, rfl⟩))) fun D t H => ?_)
   refine AF 3 [(92, .bool (x6 == ([] : UV)))] H fun D H => An 3 (fun fr' Q => h9 = Q ∧ Has fr' 208 [(6, .ptr (some (h2.size, 0))), (89, .agg (AK p1)), (95, .bool ((x6 == ([] : UV)) && (x7 == 10)))]) ?_ ?_
   ·cases B : (x6 == ([] : UV) : Bool) with
    | true =>
     replace H := H.kn 92 B
     exact AF 3 [(95, .bool (x7 == 10))] H fun D H => AZ H B
    | false =>
     replace H := H.kn 92 B
     exact AF 3 [(95, .bool false)] H fun D H => AZ H B
   intro t D Q hK
   obtain ⟨e, H⟩ := hK
   subst e
   obtain ⟨h10, X, A⟩ := A.s1 0 (AK p1) [_, _, _, _]
   refine CU X H fun D t H => ?_
   refine AM 2 [(7, .str ([] : UV)), (8, .bool ((x6 == ([] : UV)) && (x7 == 10)))] H fun D H => AX ?_
   obtain ⟨rfl, rfl, rfl, rfl⟩ := NV hm
   refine ⟨.inl rfl, .tuple [.agg (AK p1), .str ([] : UV), .bool ((x6 == ([] : UV)) && (x7 == 10))], Cu (.cell (rT H) (Cb (by kernel_rfl) (by kernel_rfl) (A.la 1 0 4)) (.tmp (rT H) (.tmp (rT H) .nil))), ?_⟩
   replace A := A.d1
   exact ⟨rfl, A⟩
  refine B0 id (AQ (AG 6 (AV 1 [] 97 2 16 A H fun D t H => ?_)))
  refine AV 2 [(98, Ai (p2.S.length : Int))] 100 3 3 A H fun D t H => ?_
  refine AM 1 [(101, .bool (decide ((p2.S.length : Int) > p1.Left)))] H fun D H => Ae 101 H hm (fun B hm H => ?_) fun B hm H => ?_
  ·refine AG 10 (Ac 102 _ _ H (fun D => .of (BH (by kernel_rfl) (A.EX 3 rfl (o := 0) (n := 4) ⟨Nat.le_of_ble_eq_true rfl, rfl⟩))) fun D t H => ?_)
   refine AF 3 [(105, .bool (x6 == ([] : UV)))] H fun D H => An 3 (fun fr' Q => h9 = Q ∧ Has fr' 208 [(6, .ptr (some (h2.size, 0))), (102, .agg (AK p1)), (108, .bool ((x6 == ([] : UV)) && (x7 == 12)))]) ?_ ?_
   ·cases B : (x6 == ([] : UV) : Bool) with
    | true =>
     replace H := H.kn 105 B
     exact AF 3 [(108, .bool (x7 == 12))] H fun D H => AZ H B
    | false =>
     replace H := H.kn 105 B
     exact AF 3 [(108, .bool false)] H fun D H => AZ H B
   intro t D Q hK
   obtain ⟨e, H⟩ := hK
   subst e
   obtain ⟨h11, X, A⟩ := A.s1 0 (AK p1) [_, _, _, _]
   refine CU X H fun D t H => ?_
   refine AM 2 [(7, .str ([] : UV)), (8, .bool ((x6 == ([] : UV)) && (x7 == 12)))] H fun D H => AX ?_
   obtain ⟨rfl, rfl, rfl, rfl⟩ := NV hm
   refine ⟨.inl rfl, .tuple [.agg (AK p1), .str ([] : UV), .bool ((x6 == ([] : UV)) && (x7 == 12))], Cu (.cell (rT H) (Cb (by kernel_rfl) (by kernel_rfl) (A.la 1 0 4)) (.tmp (rT H) (.tmp (rT H) .nil))), ?_⟩
   replace A := A.d1
   exact ⟨rfl, A⟩
  refine Cr 8 id (AV 1 [] 110 3 3 A H fun D t H => ?_)
  refine AV 1 [] 112 2 16 A H fun D t H => ?_
  obtain ⟨h12, X, A⟩ := A.s3 3 [Ai (i64.wrap (p1.Left - (p2.S.length : Int)))] [_, _, _, _]
  refine ER 3 [] X H fun D t H => ?_
  refine CT 13 id (Ac 116 _ _ H (fun D => .of (BH (by kernel_rfl) (A.EX 3 rfl (o := 0) (n := 4) ⟨Nat.le_of_ble_eq_true rfl, rfl⟩))) fun D t H => ?_)
  refine AV 3 [(117, .str x6), (118, .str x6)] 120 2 16 A H fun D t H => ?_
  refine AF 2 [(122, .bool (x6 == p2.S))] H fun D H => An 3 (fun fr' Q => h12 = Q ∧ Has fr' 208 [(6, .ptr (some (h2.size, 0))), (116, .agg (Ea p1 (Ai (i64.wrap (p1.Left - (p2.S.length : Int)))))), (117, .str x6), (125, .bool ((x6 == p2.S) && (x7 == 0)))]) ?_ ?_
  ·cases B : (x6 == p2.S : Bool) with
   | true =>
    replace H := H.kn 122 B
    exact AF 3 [(125, .bool (x7 == 0))] H fun D H => AZ H B
   | false =>
    replace H := H.kn 122 B
    exact AF 3 [(125, .bool false)] H fun D H => AZ H B
  intro t D Q hK
  obtain ⟨e, H⟩ := hK
  subst e
  obtain ⟨h13, X, A⟩ := A.s1 0 (Ea p1 (Ai (i64.wrap (p1.Left - (p2.S.length : Int))))) [_, _, _, _]
  refine CU X H fun D t H => ?_
  refine AM 2 [(7, .str x6), (8, .bool ((x6 == p2.S) && (x7 == 0)))] H fun D H => AX ?_
  obtain ⟨rfl, rfl, rfl, rfl⟩ := NV hm
  refine ⟨.inl rfl, .tuple [.agg (Ea p1 (Ai (i64.wrap (p1.Left - (p2.S.length : Int))))), .str x6, .bool ((x6 == p2.S) && (x7 == 0))], Cu (.cell (rT H) (Cb (by kernel_rfl) (by kernel_rfl) (A.la 1 0 4)) (.tmp (rT H) (.tmp (rT H) .nil))), ?_⟩
  replace A := A.d1
  exact ⟨rfl, A⟩
 refine AG 2 (AM 2 [(126, .bool (p2.Kind == 3))] H fun D H => Ae 126 H hm (fun B hm H => ?_) fun B hm H => ?_)
 ·refine AG 7 ?_
  replace A : HH g h3 [_, .obj h2.size (.cells none 2 [.bool false, .bool false, Ai 0, Ai 0]), .obj h1.size (.cells none 2 (AO p2)), .obj h.size (.cells none 2 (AK p1))] F := (A.front 3 rfl)
  obtain ⟨⟨x9, x10, x11⟩, X, hm⟩ := bind_some hm
  obtain ⟨v1, h14, R, rfl, E⟩ := GY (av := [.ptr (some (bp0, 0))]) X (A.cut 1)
  replace A := A.g11 E
  refine A6 1 [] 130 R H fun D t H => ?_
  refine AM 5 [(15, .str x9), (16, Ai x10)] H fun D H => AQ (AG 3 (AV 1 [] 134 3 0 A H fun D t H => ?_))
  refine AM 1 [(135, .bool (!p1.EW))] H fun D H => Ae 135 H hm (fun B hm H => ?_) fun B hm H => ?_
  ·refine AG 10 (Ac 136 _ _ H (fun D => .of (BH (by kernel_rfl) (A.EX 3 rfl (o := 0) (n := 4) ⟨Nat.le_of_ble_eq_true rfl, rfl⟩))) fun D t H => ?_)
   refine AF 3 [(139, .bool (x9 == ([] : UV)))] H fun D H => An 3 (fun fr' Q => h14 = Q ∧ Has fr' 208 [(6, .ptr (some (h2.size, 0))), (136, .agg (AK p1)), (142, .bool ((x9 == ([] : UV)) && (x10 == 10)))]) ?_ ?_
   ·cases B : (x9 == ([] : UV) : Bool) with
    | true =>
     replace H := H.kn 139 B
     exact AF 3 [(142, .bool (x10 == 10))] H fun D H => AZ H B
    | false =>
     replace H := H.kn 139 B
     exact AF 3 [(142, .bool false)] H fun D H => AZ H B
   intro t D Q hK
   obtain ⟨e, H⟩ := hK
   subst e
   obtain ⟨h15, X, A⟩ := A.s1 0 (AK p1) [_, _, _, _]
   refine CU X H fun D t H => ?_
   refine AM 2 [(7, .str ([] : UV)), (8, .bool ((x9 == ([] : UV)) && (x10 == 10)))] H fun D H => AX ?_
   obtain ⟨rfl, rfl, rfl, rfl⟩ := NV hm
   refine ⟨.inl rfl, .tuple [.agg (AK p1), .str ([] : UV), .bool ((x9 == ([] : UV)) && (x10 == 10))], Cu (.cell (rT H) (Cb (by kernel_rfl) (by kernel_rfl) (A.la 1 0 4)) (.tmp (rT H) (.tmp (rT H) .nil))), ?_⟩
   replace A := A.d1
   exact ⟨rfl, A⟩
  refine B0 id (AQ (AG 3 (AV 1 [] 144 3 3 A H fun D t H => ?_)))
  refine AM 1 [(145, .bool (decide (p1.Left > 0)))] H fun D H => Ae 145 H hm (fun B hm H => ?_) fun B hm H => ?_
  ·refine AG 10 (Ac 146 _ _ H (fun D => .of (BH (by kernel_rfl) (A.EX 3 rfl (o := 0) (n := 4) ⟨Nat.le_of_ble_eq_true rfl, rfl⟩))) fun D t H => ?_)
   refine AF 3 [(149, .bool (x9 == ([] : UV)))] H fun D H => An 3 (fun fr' Q => h14 = Q ∧ Has fr' 208 [(6, .ptr (some (h2.size, 0))), (146, .agg (AK p1)), (152, .bool ((x9 == ([] : UV)) && (x10 == 3)))]) ?_ ?_
   ·cases B : (x9 == ([] : UV) : Bool) with
    | true =>
     replace H := H.kn 149 B
     exact AF 3 [(152, .bool (x10 == 3))] H fun D H => AZ H B
    | false =>
     replace H := H.kn 149 B
     exact AF 3 [(152, .bool false)] H fun D H => AZ H B
   intro t D Q hK
   obtain ⟨e, H⟩ := hK
   subst e
   obtain ⟨h16, X, A⟩ := A.s1 0 (AK p1) [_, _, _, _]
   refine CU X H fun D t H => ?_
   refine AM 2 [(7, .str ([] : UV)), (8, .bool ((x9 == ([] : UV)) && (x10 == 3)))] H fun D H => AX ?_
   obtain ⟨rfl, rfl, rfl, rfl⟩ := NV hm
   refine ⟨.inl rfl, .tuple [.agg (AK p1), .str ([] : UV), .bool ((x9 == ([] : UV)) && (x10 == 3))], Cu (.cell (rT H) (Cb (by kernel_rfl) (by kernel_rfl) (A.la 1 0 4)) (.tmp (rT H) (.tmp (rT H) .nil))), ?_⟩
   replace A := A.d1
   exact ⟨rfl, A⟩
  refine B0 id (AQ (PR 24 8 [(0, []), (1, []), (4, []), (5, []), (2, [5]), (3, []), (6, []), (7, [])] ?_))
  refine AF 1 [(153, .ptr (some (h.size, 2)))] H fun D H => BJ 154 (Ai p1.DE) h14 [(1, h.size)] (g.BN) H (fun D => .of (Fo (by kernel_rfl) (A.l1 3 2))) (fun D H => ?_)
  refine AF 1 [(157, .ptr (some (h.size, 2)))] H fun D H => BJ 158 (Ai p1.DE) h14 [(5, h.size), (1, h.size)] (g.BN) H (fun D => .of (Fo (by kernel_rfl) (A.l1 3 2))) (fun D H => ?_)
  have E := A.GN 0 (pr := [h.size]) (.cons 3 rfl (by simp [Ck.ids]) .nil)
  obtain ⟨x12, X, hm⟩ := bind_some hm
  obtain ⟨v1, h17, R, rfl, E⟩ := JX (av := [Ai p1.DE]) X E
  replace A := A.SB E
  refine BJ 155 (Ai x12) h17 [(5, h.size), (1, h.size)] (h.size :: g.BN) H (fun D => Steps.call (by kernel_rfl) R) (fun D H => ?_)
  refine Bg 3 [(17, Ai (i64.wrap ((i64.wrap ((512 : Int) * x12)) - p1.DE)))] 17 H fun D H => AF 7 [(160, .agg [.bool false, .bool false, Ai 0, Ai 0]), (161, .str x9), (166, .bool ((x9.length : Int) == (i64.wrap ((i64.wrap ((512 : Int) * x12)) - p1.DE))))] H fun D H => ?_
  obtain ⟨x13, O, hm⟩ := bind_some hm
  refine An 3 (fun fr' Q => Has fr' 208 [(6, .ptr (some (h2.size, 0))), (16, Ai x10), (160, .agg [.bool false, .bool false, Ai 0, Ai 0]), (161, .str x9), (169, .bool x13)] ∧ HH g Q [.obj bp0 (.cells none 2 (A2 x11)), .obj h2.size (.cells none 2 [.bool false, .bool false, Ai 0, Ai 0]), .obj h1.size (.cells none 2 (AO p2)), .obj h.size (.cells none 2 (AK p1))] F) ?_ ?_
  ·rcases A0 O with ⟨B, hm⟩ | ⟨B, hm⟩
   ·replace H := H.kn 166 B
    obtain ⟨x14, X, hm⟩ := bind_some hm
    obtain ⟨v1, h19, R, rfl, E⟩ := Gc (av := [.str x9]) X (A.cut 0)
    replace A := A.Ee E
    refine A6 1 [] 168 R H fun D t H => ?_
    refine AF 1 [(169, .bool x14)] H fun D H => ?_
    obtain rfl := Ah hm
    exact at_nil ⟨H.ls, A⟩
   replace H := H.kn 166 B
   refine AF 3 [(169, .bool false)] H fun D H => ?_
   obtain rfl := Ah hm
   exact at_nil ⟨H.ls, A⟩
  clear A
  intro t D h18 hK
  obtain ⟨H, A⟩ := hK
  refine AF 1 [(170, .bool x13)] H fun D H => An 3 (fun fr' Q => h18 = Q ∧ Has fr' 208 [(6, .ptr (some (h2.size, 0))), (160, .agg [.bool false, .bool false, Ai 0, Ai 0]), (161, .str x9), (173, .bool (x13 && (x10 == 0)))]) ?_ ?_
  ·cases B : (x13 : Bool) with
   | true =>
    replace H := H.kn 170 B
    exact AF 3 [(173, .bool (x10 == 0))] H fun D H => AZ H B
   | false =>
    replace H := H.kn 170 B
    exact AF 3 [(173, .bool false)] H fun D H => AZ H B
  intro t D Q hK
  obtain ⟨e, H⟩ := hK
  subst e
  obtain ⟨h20, X, A⟩ := A.s1 0 [.bool false, .bool false, Ai 0, Ai 0] [_, _, _, _]
  refine CU X H fun D t H => ?_
  refine AM 2 [(7, .str x9), (8, .bool (x13 && (x10 == 0)))] H fun D H => AX ?_
  obtain ⟨rfl, rfl, rfl, rfl⟩ := NV hm
  refine ⟨.inl rfl, .tuple [.agg [.bool false, .bool false, Ai 0, Ai 0], .str x9, .bool (x13 && (x10 == 0))], Cu (.cell (rT H) (Cb (by kernel_rfl) (by kernel_rfl) (A.la 1 0 4)) (.tmp (rT H) (.tmp (rT H) .nil))), ?_⟩
  replace A := A.d1
  exact ⟨rfl, A⟩
 refine AG 2 (AM 2 [(174, .bool (p2.Kind == 4))] H fun D H => Ae 174 H hm (fun B hm H => ?_) fun B hm H => ?_)
 ·refine AG 7 ?_
  replace A : HH g h3 [_, .obj h2.size (.cells none 2 [.bool false, .bool false, Ai 0, Ai 0]), .obj h1.size (.cells none 2 (AO p2)), .obj h.size (.cells none 2 (AK p1))] F := (A.front 3 rfl)
  obtain ⟨⟨x15, x16, x17⟩, X, hm⟩ := bind_some hm
  obtain ⟨v1, h21, R, rfl, E⟩ := GK (av := [.ptr (some (bp0, 0))]) X (A.cut 1)
  replace A := A.g11 E
  refine A6 1 [] 178 R H fun D t H => ?_
  refine AM 5 [(18, .str x15), (19, Ai x16)] H fun D H => AQ (AG 6 (AV 1 [] 182 3 0 A H fun D t H => ?_))
  refine AF 1 [(183, .bool p1.EW)] H fun D H => An 3 (fun fr' Q => h21 = Q ∧ Has fr' 208 [(4, .ptr (some (h.size, 0))), (6, .ptr (some (h2.size, 0))), (18, .str x15), (19, Ai x16), (186, .bool (p1.EW || p1.Closed))]) ?_ ?_
  ·cases B : (p1.EW : Bool) with
   | true =>
    replace H := H.kn 183 B
    exact AF 3 [(186, .bool true)] H fun D H => AZ H B
   | false =>
    replace H := H.kn 183 B
    refine AV 1 [] 185 3 1 A H fun D t H => ?_
    exact AF 1 [(186, .bool p1.Closed)] H fun D H => AZ H B
  intro t D Q hK
  obtain ⟨e, H⟩ := hK
  subst e
  refine BZ id (Ae 186 H hm (fun B hm H => ?_) fun B hm H => ?_)
  ·refine AG 10 (Ac 187 _ _ H (fun D => .of (BH (by kernel_rfl) (A.EX 3 rfl (o := 0) (n := 4) ⟨Nat.le_of_ble_eq_true rfl, rfl⟩))) fun D t H => ?_)
   refine AF 3 [(190, .bool (x15 == ([] : UV)))] H fun D H => An 3 (fun fr' Q => h21 = Q ∧ Has fr' 208 [(6, .ptr (some (h2.size, 0))), (187, .agg (AK p1)), (193, .bool ((x15 == ([] : UV)) && (x16 == 10)))]) ?_ ?_
   ·cases B : (x15 == ([] : UV) : Bool) with
    | true =>
     replace H := H.kn 190 B
     exact AF 3 [(193, .bool (x16 == 10))] H fun D H => AZ H B
    | false =>
     replace H := H.kn 190 B
     exact AF 3 [(193, .bool false)] H fun D H => AZ H B
   intro t D Q hK
   obtain ⟨e, H⟩ := hK
   subst e
   obtain ⟨h22, X, A⟩ := A.s1 0 (AK p1) [_, _, _, _]
   refine CU X H fun D t H => ?_
   refine AM 2 [(7, .str ([] : UV)), (8, .bool ((x15 == ([] : UV)) && (x16 == 10)))] H fun D H => AX ?_
   obtain ⟨rfl, rfl, rfl, rfl⟩ := NV hm
   refine ⟨.inl rfl, .tuple [.agg (AK p1), .str ([] : UV), .bool ((x15 == ([] : UV)) && (x16 == 10))], Cu (.cell (rT H) (Cb (by kernel_rfl) (by kernel_rfl) (A.la 1 0 4)) (.tmp (rT H) (.tmp (rT H) .nil))), ?_⟩
   replace A := A.d1
   exact ⟨rfl, A⟩
  refine Cr 16 id (AF 6 [(194, .agg [.bool false, .bool true, Ai 0, Ai 0]), (195, .str x15), (199, .bool ((x15.length : Int) == 1024))] H fun D H => ?_)
  obtain ⟨x18, O, hm⟩ := bind_some hm
  refine An 3 (fun fr' Q => Has fr' 208 [(6, .ptr (some (h2.size, 0))), (19, Ai x16), (194, .agg [.bool false, .bool true, Ai 0, Ai 0]), (195, .str x15), (202, .bool x18)] ∧ HH g Q [.obj bp0 (.cells none 2 (A2 x17)), .obj h2.size (.cells none 2 [.bool false, .bool false, Ai 0, Ai 0]), .obj h1.size (.cells none 2 (AO p2)), .obj h.size (.cells none 2 (AK p1))] F) ?_ ?_
  ·rcases A0 O with ⟨B, hm⟩ | ⟨B, hm⟩
   ·replace H := H.kn 199 B
    obtain ⟨x19, X, hm⟩ := bind_some hm
    obtain ⟨v1, h24, R, rfl, E⟩ := Gc (av := [.str x15]) X (A.cut 0)
    replace A := A.Ee E
    refine A6 1 [] 201 R H fun D t H => ?_
    refine AF 1 [(202, .bool x19)] H fun D H => ?_
    obtain rfl := Ah hm
    exact at_nil ⟨H.ls, A⟩
   replace H := H.kn 199 B
   refine AF 3 [(202, .bool false)] H fun D H => ?_
   obtain rfl := Ah hm
   exact at_nil ⟨H.ls, A⟩
  clear A
  intro t D h23 hK
  obtain ⟨H, A⟩ := hK
  refine AF 1 [(203, .bool x18)] H fun D H => An 3 (fun fr' Q => h23 = Q ∧ Has fr' 208 [(6, .ptr (some (h2.size, 0))), (194, .agg [.bool false, .bool true, Ai 0, Ai 0]), (195, .str x15), (206, .bool (x18 && (x16 == 0)))]) ?_ ?_
  ·cases B : (x18 : Bool) with
   | true =>
    replace H := H.kn 203 B
    exact AF 3 [(206, .bool (x16 == 0))] H fun D H => AZ H B
   | false =>
    replace H := H.kn 203 B
    exact AF 3 [(206, .bool false)] H fun D H => AZ H B
  intro t D Q hK
  obtain ⟨e, H⟩ := hK
  subst e
  obtain ⟨h25, X, A⟩ := A.s1 0 [.bool false, .bool true, Ai 0, Ai 0] [_, _, _, _]
  refine CU X H fun D t H => ?_
  refine AM 2 [(7, .str x15), (8, .bool (x18 && (x16 == 0)))] H fun D H => AX ?_
  obtain ⟨rfl, rfl, rfl, rfl⟩ := NV hm
  refine ⟨.inl rfl, .tuple [.agg [.bool false, .bool true, Ai 0, Ai 0], .str x15, .bool (x18 && (x16 == 0))], Cu (.cell (rT H) (Cb (by kernel_rfl) (by kernel_rfl) (A.la 1 0 4)) (.tmp (rT H) (.tmp (rT H) .nil))), ?_⟩
  replace A := A.d1
  exact ⟨rfl, A⟩
 refine Cr 4 id (Ac 207 _ _ H (fun D => .of (BH (by kernel_rfl) (A.EX 2 rfl (o := 0) (n := 4) ⟨Nat.le_of_ble_eq_true rfl, rfl⟩))) fun D t H => ?_)
 obtain ⟨h26, X, E⟩ := A.st 0 rfl (o := 0) (new := (AK p1)) (ds := (AK p1)) (Nat.le_of_ble_eq_true rfl) rfl rfl
 replace A : HH g h26 [.obj h2.size (.cells none 2 (AK p1)), .obj h1.size (.cells none 2 (AO p2)), .obj h.size (.cells none 2 (AK p1)), _] F := E
 refine CU X H fun D t H => ?_
 refine AM 2 [(7, .str ([] : UV)), (8, .bool true)] H fun D H => AX ?_
 obtain ⟨rfl, rfl, rfl, rfl⟩ := NV hm
 refine ⟨.inl rfl, .tuple [.agg (AK p1), .str ([] : UV), .bool true], Cu (.cell (rT H) (Cb (by kernel_rfl) (by kernel_rfl) (A.la 0 0 4)) (.tmp (rT H) (.tmp (rT H) .nil))), ?_⟩
 replace A := A.k1 3
 exact ⟨rfl, A⟩
end
end Go.Av.L
