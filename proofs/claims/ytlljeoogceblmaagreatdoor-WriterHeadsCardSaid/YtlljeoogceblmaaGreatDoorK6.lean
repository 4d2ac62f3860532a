/-
 A part.
-/
import Derived.Test.YtlljeoogceblmaaGreatDoorKCfg
import Derived.Test.YtlljeoogceblmaaGreatDoorK4
import Derived.Test.YtlljeoogceblmaaGreatDoorK5
namespace Go.Av.L
open Go.Av Go.Lib
open IntKind (i64)
set_option maxRecDepth 10000
set_option linter.unusedVariables false
set_option linter.unusedSimpArgs false
variable {g : Gd} {h : AD} {F : List Ck} {av : List AB}
noncomputable section
def Cf (p0 : AK) : Option ((List UInt8)) :=
 (C0 p0.Name).bind fun (x1, x2, x3) => (Wp p0.Kind).bind fun x4 => (Aa (p0.Kind == 0) (some ([48] : UV)) (some ([x4] : UV)) : Option (((List UInt8)))).bind fun x5 => (A3 x2 (100 : Int)).bind fun x6 => (A8 p0.Mode (8 : Int)).bind fun x7 => BS (decide (x6.length + x7.length ≤ 9223372036854775807)) <| (A8 p0.Br (8 : Int)).bind fun x8 => BS (decide ((x6 ++ x7).length + x8.length ≤ 9223372036854775807)) <| (A8 p0.CH (8 : Int)).bind fun x9 => BS (decide (((x6 ++ x7) ++ x8).length + x9.length ≤ 9223372036854775807)) <| (A8 p0.Eu (12 : Int)).bind fun x10 => BS (decide ((((x6 ++ x7) ++ x8) ++ x9).length + x10.length ≤ 9223372036854775807)) <| (A8 p0.Time (12 : Int)).bind fun x11 => BS (decide (((((x6 ++ x7) ++ x8) ++ x9) ++ x10).length + x11.length ≤ 9223372036854775807)) <| BS (decide ((((((x6 ++ x7) ++ x8) ++ x9) ++ x10) ++ x11).length + ([32, 32, 32, 32, 32, 32, 32, 32] : UV).length ≤ 9223372036854775807)) <| BS (decide (((((((x6 ++ x7) ++ x8) ++ x9) ++ x10) ++ x11) ++ ([32, 32, 32, 32, 32, 32, 32, 32] : UV)).length + x5.length ≤ 9223372036854775807)) <| (A3 p0.Az (100 : Int)).bind fun x12 => BS (decide ((((((((x6 ++ x7) ++ x8) ++ x9) ++ x10) ++ x11) ++ ([32, 32, 32, 32, 32, 32, 32, 32] : UV)) ++ x5).length + x12.length ≤ 9223372036854775807)) <| BS (decide (((((((((x6 ++ x7) ++ x8) ++ x9) ++ x10) ++ x11) ++ ([32, 32, 32, 32, 32, 32, 32, 32] : UV)) ++ x5) ++ x12).length + ([117, 115, 116, 97, 114, 0, 48, 48] : UV).length ≤ 9223372036854775807)) <| (A3 p0.Ah (32 : Int)).bind fun x13 => BS (decide ((((((((((x6 ++ x7) ++ x8) ++ x9) ++ x10) ++ x11) ++ ([32, 32, 32, 32, 32, 32, 32, 32] : UV)) ++ x5) ++ x12) ++ ([117, 115, 116, 97, 114, 0, 48, 48] : UV)).length + x13.length ≤ 9223372036854775807)) <| (A3 p0.Aj (32 : Int)).bind fun x14 => BS (decide (((((((((((x6 ++ x7) ++ x8) ++ x9) ++ x10) ++ x11) ++ ([32, 32, 32, 32, 32, 32, 32, 32] : UV)) ++ x5) ++ x12) ++ ([117, 115, 116, 97, 114, 0, 48, 48] : UV)) ++ x13).length + x14.length ≤ 9223372036854775807)) <| (A8 p0.An (8 : Int)).bind fun x15 => BS (decide ((((((((((((x6 ++ x7) ++ x8) ++ x9) ++ x10) ++ x11) ++ ([32, 32, 32, 32, 32, 32, 32, 32] : UV)) ++ x5) ++ x12) ++ ([117, 115, 116, 97, 114, 0, 48, 48] : UV)) ++ x13) ++ x14).length + x15.length ≤ 9223372036854775807)) <| (A8 p0.A2 (8 : Int)).bind fun x16 => BS (decide (((((((((((((x6 ++ x7) ++ x8) ++ x9) ++ x10) ++ x11) ++ ([32, 32, 32, 32, 32, 32, 32, 32] : UV)) ++ x5) ++ x12) ++ ([117, 115, 116, 97, 114, 0, 48, 48] : UV)) ++ x13) ++ x14) ++ x15).length + x16.length ≤ 9223372036854775807)) <| (A3 x1 (155 : Int)).bind fun x17 => BS (decide ((((((((((((((x6 ++ x7) ++ x8) ++ x9) ++ x10) ++ x11) ++ ([32, 32, 32, 32, 32, 32, 32, 32] : UV)) ++ x5) ++ x12) ++ ([117, 115, 116, 97, 114, 0, 48, 48] : UV)) ++ x13) ++ x14) ++ x15) ++ x16).length + x17.length ≤ 9223372036854775807)) <| (A3 ([] : UV) (12 : Int)).bind fun x18 => BS (decide (((((((((((((((x6 ++ x7) ++ x8) ++ x9) ++ x10) ++ x11) ++ ([32, 32, 32, 32, 32, 32, 32, 32] : UV)) ++ x5) ++ x12) ++ ([117, 115, 116, 97, 114, 0, 48, 48] : UV)) ++ x13) ++ x14) ++ x15) ++ x16) ++ x17).length + x18.length ≤ 9223372036854775807)) <| (Di (((((((((((((((x6 ++ x7) ++ x8) ++ x9) ++ x10) ++ x11) ++ ([32, 32, 32, 32, 32, 32, 32, 32] : UV)) ++ x5) ++ x12) ++ ([117, 115, 116, 97, 114, 0, 48, 48] : UV)) ++ x13) ++ x14) ++ x15) ++ x16) ++ x17) ++ x18)).bind fun x19 => some x19
theorem Ga {p0 q0} (M : Cf p0 = some q0) (A : HH g h [] F) (hc : A9 (cfg.still 51) av = [.agg (AI p0)] := by kernel_rfl) : ∃ v Q, BB cfg g h 51 av v Q ∧ v = .str q0 ∧ HH g Q [] F := by
 refine Dj 75 [.tmp 2] hc ?_
 clear hc
 unfold Cf at M
 refine bg 75 [(0, .agg (AI p0))] fun D H => ?_
 refine AF 2 ?_
 obtain ⟨h1, e1, A⟩ := A.pu (.cells none 2 (AI p0))
 refine BF 1 (.ptr (some (h.size, 0))) e1 H fun D t H => ?_
 refine Be 1 [] 10 H fun D H => AV 1 [] 10 0 0 A H fun D t H => ?_
 obtain ⟨⟨x1, x2, x3⟩, X, M⟩ := bind_some M
 obtain ⟨v1, h2, R, rfl, E⟩ := G1 (av := [.str p0.Name]) X (A.cut 0)
 replace A : HH g h2 [.obj h.size (.cells none 2 (AI p0))] F := A.GC (n := 0) E
 refine A0 11 R H fun D t H => ?_
 refine Be 7 [(3, .str x1), (4, .str x2)] 5 H fun D H => AV 1 [] 16 0 2 A H fun D t H => ?_
 obtain ⟨x4, X, M⟩ := bind_some M
 have X := TP X
 rw [X] at H
 obtain ⟨h3, e2, A⟩ := A.pL 5 [Ab (x4.toNat : Int)]
 refine BF 17 (AP (some h2.size) (([x4] : UV).length)) e2 H fun D t H => ?_
 refine AZ 18 (.str ([x4] : UV)) h3 H (fun D => .of (Pe (xs := ([x4] : UV)) A 0 rfl (by kernel_rfl))) fun D t H => ?_
 refine AL 1 [(6, .str ([x4] : UV))] H fun D H => AN ?_
 obtain ⟨o1, O, M⟩ := bind_some M
 refine Ao (Q' := fun e N Q => (∃ x5, e = .normal ∧ x5 = o1 ∧ Has N 75 [(1, .ptr (some (h.size, 0))), (3, .str x1), (4, .str x2), (6, .str x5)] ∧ HH g Q [.obj h.size (.cells none 2 (AI p0))] F) ∨ False) ?_ ?_
 ·replace M := O
  clear O
  refine AF 3 (AV 1 [] 20 1 2 A H fun D t H => ?_)
  refine AL 1 [(21, .bool (p0.Kind == 0))] H fun D H => AX 21 H M (fun B M H => ?_) fun B M H => ?_
  ·refine BO 1 (A5 1 [(1, .ptr (some (h.size, 0))), (3, .str x1), (4, .str x2), (6, .str ([48] : UV))] H fun D H => at_nil ?_)
   replace A := A.k1 1
   exact .inl ⟨_, rfl, Ad M, H.ls, A⟩
  refine F9 ?_
  replace A := A.k1 1
  exact .inl ⟨_, rfl, Ad M, H.ls, A⟩
 clear O
 clear A
 intro e D h4 hQ
 rcases hQ with ⟨x5, rfl, rfl, H, A⟩ | hF
 ·show AW _ _ _ _ _ _ _
  refine AN (UI 5 52 [(0, []), (2, []), (3, []), (6, []), (7, []), (10, []), (11, []), (14, []), (15, []), (18, []), (19, []), (23, []), (25, []), (26, []), (30, []), (31, []), (34, []), (35, []), (38, []), (39, []), (42, []), (43, []), (1, [3, 7, 11, 15, 19, 26, 31, 35, 39, 43]), (4, [7, 11, 15, 19, 26, 31, 35, 39, 43]), (5, []), (8, [11, 15, 19, 26, 31, 35, 39, 43]), (9, []), (12, [15, 19, 26, 31, 35, 39, 43]), (13, []), (16, [19, 26, 31, 35, 39, 43]), (17, []), (20, [26, 31, 35, 39, 43]), (21, []), (22, []), (24, []), (27, [31, 35, 39, 43]), (28, []), (29, []), (32, [35, 39, 43]), (33, []), (36, [39, 43]), (37, []), (40, [43]), (41, []), (44, []), (45, []), (46, []), (47, []), (48, []), (49, []), (50, []), (51, [])] ?_)
  refine AG 2 [(22, .str x2), (24, .ptr (some (h.size, 3)))] H fun D H => BN 25 (Ai p0.Mode) h4 [(3, h.size)] (g.BP) H (fun D => .of (GN (by kernel_rfl) (A.l1 0 3))) (fun D H => ?_)
  refine AG 1 [(28, .ptr (some (h.size, 4)))] H fun D H => BN 29 (Ai p0.Br) h4 [(7, h.size), (3, h.size)] (g.BP) H (fun D => .of (GN (by kernel_rfl) (A.l1 0 4))) (fun D H => ?_)
  refine AG 1 [(32, .ptr (some (h.size, 5)))] H fun D H => BN 33 (Ai p0.CH) h4 [(11, h.size), (7, h.size), (3, h.size)] (g.BP) H (fun D => .of (GN (by kernel_rfl) (A.l1 0 5))) (fun D H => ?_)
  refine AG 1 [(36, .ptr (some (h.size, 6)))] H fun D H => BN 37 (Ai p0.Eu) h4 [(15, h.size), (11, h.size), (7, h.size), (3, h.size)] (g.BP) H (fun D => .of (GN (by kernel_rfl) (A.l1 0 6))) (fun D H => ?_)
  refine AG 1 [(40, .ptr (some (h.size, 7)))] H fun D H => BN 41 (Ai p0.Time) h4 [(19, h.size), (15, h.size), (11, h.size), (7, h.size), (3, h.size)] (g.BP) H (fun D => .of (GN (by kernel_rfl) (A.l1 0 7))) (fun D H => ?_)
  refine AG 2 [(45, .str x5), (47, .ptr (some (h.size, 1)))] H fun D H => BN 48 (.str p0.Az) h4 [(26, h.size), (19, h.size), (15, h.size), (11, h.size), (7, h.size), (3, h.size)] (g.BP) H (fun D => .of (GN (by kernel_rfl) (A.l1 0 1))) (fun D H => ?_)
  refine AG 1 [(52, .ptr (some (h.size, 8)))] H fun D H => BN 53 (.str p0.Ah) h4 [(31, h.size), (26, h.size), (19, h.size), (15, h.size), (11, h.size), (7, h.size), (3, h.size)] (g.BP) H (fun D => .of (GN (by kernel_rfl) (A.l1 0 8))) (fun D H => ?_)
  refine AG 1 [(56, .ptr (some (h.size, 9)))] H fun D H => BN 57 (.str p0.Aj) h4 [(35, h.size), (31, h.size), (26, h.size), (19, h.size), (15, h.size), (11, h.size), (7, h.size), (3, h.size)] (g.BP) H (fun D => .of (GN (by kernel_rfl) (A.l1 0 9))) (fun D H => ?_)
  refine AG 1 [(60, .ptr (some (h.size, 10)))] H fun D H => BN 61 (Ai p0.An) h4 [(39, h.size), (35, h.size), (31, h.size), (26, h.size), (19, h.size), (15, h.size), (11, h.size), (7, h.size), (3, h.size)] (g.BP) H (fun D => .of (GN (by kernel_rfl) (A.l1 0 10))) (fun D H => ?_)
  refine AG 1 [(64, .ptr (some (h.size, 11)))] H fun D H => BN 65 (Ai p0.A2) h4 [(43, h.size), (39, h.size), (35, h.size), (31, h.size), (26, h.size), (19, h.size), (15, h.size), (11, h.size), (7, h.size), (3, h.size)] (g.BP) H (fun D => .of (GN (by kernel_rfl) (A.l1 0 11))) (fun D H => ?_)
  have E := A.HD 0 (pr := [h.size, h.size, h.size, h.size, h.size, h.size, h.size, h.size, h.size, h.size]) (.cons 0 rfl (by simp [Ck.ids]) (.cons 0 rfl (by simp [Ck.ids]) (.cons 0 rfl (by simp [Ck.ids]) (.cons 0 rfl (by simp [Ck.ids]) (.cons 0 rfl (by simp [Ck.ids]) (.cons 0 rfl (by simp [Ck.ids]) (.cons 0 rfl (by simp [Ck.ids]) (.cons 0 rfl (by simp [Ck.ids]) (.cons 0 rfl (by simp [Ck.ids]) (.cons 0 rfl (by simp [Ck.ids]) .nil))))))))))
  obtain ⟨x6, X, M⟩ := bind_some M
  obtain ⟨v1, h5, R, rfl, E⟩ := CQ (av := [.str x2, Ai 100]) X E
  replace A := A.Sm E
  refine BN 23 (.str x6) h5 [(43, h.size), (39, h.size), (35, h.size), (31, h.size), (26, h.size), (19, h.size), (15, h.size), (11, h.size), (7, h.size), (3, h.size)] (h.size :: h.size :: h.size :: h.size :: h.size :: h.size :: h.size :: h.size :: h.size :: h.size :: g.BP) H (fun D => Steps.call (by kernel_rfl) R) (fun D H => ?_)
  have E := A.HD 0 (pr := [h.size, h.size, h.size, h.size, h.size, h.size, h.size, h.size, h.size]) (.cons 0 rfl (by simp [Ck.ids]) (.cons 0 rfl (by simp [Ck.ids]) (.cons 0 rfl (by simp [Ck.ids]) (.cons 0 rfl (by simp [Ck.ids]) (.cons 0 rfl (by simp [Ck.ids]) (.cons 0 rfl (by simp [Ck.ids]) (.cons 0 rfl (by simp [Ck.ids]) (.cons 0 rfl (by simp [Ck.ids]) (.cons 0 rfl (by simp [Ck.ids]) .nil)))))))))
  obtain ⟨x7, X, M⟩ := bind_some M
  obtain ⟨v1, h6, R, rfl, E⟩ := Bp (av := [Ai p0.Mode, Ai 8]) X E
  replace A := A.Sm E
  refine BN 26 (.str x7) h6 [(43, h.size), (39, h.size), (35, h.size), (31, h.size), (26, h.size), (19, h.size), (15, h.size), (11, h.size), (7, h.size), (3, h.size)] (h.size :: h.size :: h.size :: h.size :: h.size :: h.size :: h.size :: h.size :: h.size :: g.BP) H (fun D => Steps.call (by kernel_rfl) R) (fun D H => ?_)
  obtain ⟨B, M⟩ := AO M
  refine BN 27 (.str (x6 ++ x7)) h6 [(43, h.size), (39, h.size), (35, h.size), (31, h.size), (26, h.size), (19, h.size), (15, h.size), (11, h.size), (7, h.size), (3, h.size)] (g.BP) H (fun D => .of (B1 (by kernel_rfl) B)) (fun D H => ?_)
  have E := A.HD 0 (pr := [h.size, h.size, h.size, h.size, h.size, h.size, h.size, h.size]) (.cons 0 rfl (by simp [Ck.ids]) (.cons 0 rfl (by simp [Ck.ids]) (.cons 0 rfl (by simp [Ck.ids]) (.cons 0 rfl (by simp [Ck.ids]) (.cons 0 rfl (by simp [Ck.ids]) (.cons 0 rfl (by simp [Ck.ids]) (.cons 0 rfl (by simp [Ck.ids]) (.cons 0 rfl (by simp [Ck.ids]) .nil))))))))
  obtain ⟨x8, X, M⟩ := bind_some M
  obtain ⟨v1, h7, R, rfl, E⟩ := Bp (av := [Ai p0.Br, Ai 8]) X E
  replace A := A.Sm E
  refine BN 30 (.str x8) h7 [(43, h.size), (39, h.size), (35, h.size), (31, h.size), (26, h.size), (19, h.size), (15, h.size), (11, h.size), (7, h.size), (3, h.size)] (h.size :: h.size :: h.size :: h.size :: h.size :: h.size :: h.size :: h.size :: g.BP) H (fun D => Steps.call (by kernel_rfl) R) (fun D H => ?_)
  obtain ⟨B, M⟩ := AO M
  refine BN 31 (.str ((x6 ++ x7) ++ x8)) h7 [(43, h.size), (39, h.size), (35, h.size), (31, h.size), (26, h.size), (19, h.size), (15, h.size), (11, h.size), (7, h.size), (3, h.size)] (g.BP) H (fun D => .of (B1 (by kernel_rfl) B)) (fun D H => ?_)
  have E := A.HD 0 (pr := [h.size, h.size, h.size, h.size, h.size, h.size, h.size]) (.cons 0 rfl (by simp [Ck.ids]) (.cons 0 rfl (by simp [Ck.ids]) (.cons 0 rfl (by simp [Ck.ids]) (.cons 0 rfl (by simp [Ck.ids]) (.cons 0 rfl (by simp [Ck.ids]) (.cons 0 rfl (by simp [Ck.ids]) (.cons 0 rfl (by simp [Ck.ids]) .nil)))))))
  obtain ⟨x9, X, M⟩ := bind_some M
  obtain ⟨v1, h8, R, rfl, E⟩ := Bp (av := [Ai p0.CH, Ai 8]) X E
  replace A := A.Sm E
  refine BN 34 (.str x9) h8 [(43, h.size), (39, h.size), (35, h.size), (31, h.size), (26, h.size), (19, h.size), (15, h.size), (11, h.size), (7, h.size), (3, h.size)] (h.size :: h.size :: h.size :: h.size :: h.size :: h.size :: h.size :: g.BP) H (fun D => Steps.call (by kernel_rfl) R) (fun D H => ?_)
  obtain ⟨B, M⟩ := AO M
  refine BN 35 (.str (((x6 ++ x7) ++ x8) ++ x9)) h8 [(43, h.size), (39, h.size), (35, h.size), (31, h.size), (26, h.size), (19, h.size), (15, h.size), (11, h.size), (7, h.size), (3, h.size)] (g.BP) H (fun D => .of (B1 (by kernel_rfl) B)) (fun D H => ?_)
  have E := A.HD 0 (pr := [h.size, h.size, h.size, h.size, h.size, h.size]) (.cons 0 rfl (by simp [Ck.ids]) (.cons 0 rfl (by simp [Ck.ids]) (.cons 0 rfl (by simp [Ck.ids]) (.cons 0 rfl (by simp [Ck.ids]) (.cons 0 rfl (by simp [Ck.ids]) (.cons 0 rfl (by simp [Ck.ids]) .nil))))))
  obtain ⟨x10, X, M⟩ := bind_some M
  obtain ⟨v1, h9, R, rfl, E⟩ := Bp (av := [Ai p0.Eu, Ai 12]) X E
  replace A := A.Sm E
  refine BN 38 (.str x10) h9 [(43, h.size), (39, h.size), (35, h.size), (31, h.size), (26, h.size), (19, h.size), (15, h.size), (11, h.size), (7, h.size), (3, h.size)] (h.size :: h.size :: h.size :: h.size :: h.size :: h.size :: g.BP) H (fun D => Steps.call (by kernel_rfl) R) (fun D H => ?_)
  obtain ⟨B, M⟩ := AO M
  refine BN 39 (.str ((((x6 ++ x7) ++ x8) ++ x9) ++ x10)) h9 [(43, h.size), (39, h.size), (35, h.size), (31, h.size), (26, h.size), (19, h.size), (15, h.size), (11, h.size), (7, h.size), (3, h.size)] (g.BP) H (fun D => .of (B1 (by kernel_rfl) B)) (fun D H => ?_)
  have E := A.HD 0 (pr := [h.size, h.size, h.size, h.size, h.size]) (.cons 0 rfl (by simp [Ck.ids]) (.cons 0 rfl (by simp [Ck.ids]) (.cons 0 rfl (by simp [Ck.ids]) (.cons 0 rfl (by simp [Ck.ids]) (.cons 0 rfl (by simp [Ck.ids]) .nil)))))
  obtain ⟨x11, X, M⟩ := bind_some M
  obtain ⟨v1, h10, R, rfl, E⟩ := Bp (av := [Ai p0.Time, Ai 12]) X E
  replace A := A.Sm E
  refine BN 42 (.str x11) h10 [(43, h.size), (39, h.size), (35, h.size), (31, h.size), (26, h.size), (19, h.size), (15, h.size), (11, h.size), (7, h.size), (3, h.size)] (h.size :: h.size :: h.size :: h.size :: h.size :: g.BP) H (fun D => Steps.call (by kernel_rfl) R) (fun D H => ?_)
  obtain ⟨B, M⟩ := AO M
  refine BN 43 (.str (((((x6 ++ x7) ++ x8) ++ x9) ++ x10) ++ x11)) h10 [(43, h.size), (39, h.size), (35, h.size), (31, h.size), (26, h.size), (19, h.size), (15, h.size), (11, h.size), (7, h.size), (3, h.size)] (g.BP) H (fun D => .of (B1 (by kernel_rfl) B)) (fun D H => ?_)
  obtain ⟨B, M⟩ := AO M
  refine BN 44 (.str ((((((x6 ++ x7) ++ x8) ++ x9) ++ x10) ++ x11) ++ ([32, 32, 32, 32, 32, 32, 32, 32] : UV))) h10 [(43, h.size), (39, h.size), (35, h.size), (31, h.size), (26, h.size), (19, h.size), (15, h.size), (11, h.size), (7, h.size), (3, h.size)] (g.BP) H (fun D => .of (B1 (by kernel_rfl) B)) (fun D H => ?_)
  obtain ⟨B, M⟩ := AO M
  refine BN 46 (.str (((((((x6 ++ x7) ++ x8) ++ x9) ++ x10) ++ x11) ++ ([32, 32, 32, 32, 32, 32, 32, 32] : UV)) ++ x5)) h10 [(43, h.size), (39, h.size), (35, h.size), (31, h.size), (26, h.size), (19, h.size), (15, h.size), (11, h.size), (7, h.size), (3, h.size)] (g.BP) H (fun D => .of (B1 (by kernel_rfl) B)) (fun D H => ?_)
  have E := A.HD 0 (pr := [h.size, h.size, h.size, h.size]) (.cons 0 rfl (by simp [Ck.ids]) (.cons 0 rfl (by simp [Ck.ids]) (.cons 0 rfl (by simp [Ck.ids]) (.cons 0 rfl (by simp [Ck.ids]) .nil))))
  obtain ⟨x12, X, M⟩ := bind_some M
  obtain ⟨v1, h11, R, rfl, E⟩ := CQ (av := [.str p0.Az, Ai 100]) X E
  replace A := A.Sm E
  refine BN 49 (.str x12) h11 [(43, h.size), (39, h.size), (35, h.size), (31, h.size), (26, h.size), (19, h.size), (15, h.size), (11, h.size), (7, h.size), (3, h.size)] (h.size :: h.size :: h.size :: h.size :: g.BP) H (fun D => Steps.call (by kernel_rfl) R) (fun D H => ?_)
  obtain ⟨B, M⟩ := AO M
  refine BN 50 (.str ((((((((x6 ++ x7) ++ x8) ++ x9) ++ x10) ++ x11) ++ ([32, 32, 32, 32, 32, 32, 32, 32] : UV)) ++ x5) ++ x12)) h11 [(43, h.size), (39, h.size), (35, h.size), (31, h.size), (26, h.size), (19, h.size), (15, h.size), (11, h.size), (7, h.size), (3, h.size)] (g.BP) H (fun D => .of (B1 (by kernel_rfl) B)) (fun D H => ?_)
  obtain ⟨B, M⟩ := AO M
  refine BN 51 (.str (((((((((x6 ++ x7) ++ x8) ++ x9) ++ x10) ++ x11) ++ ([32, 32, 32, 32, 32, 32, 32, 32] : UV)) ++ x5) ++ x12) ++ ([117, 115, 116, 97, 114, 0, 48, 48] : UV))) h11 [(43, h.size), (39, h.size), (35, h.size), (31, h.size), (26, h.size), (19, h.size), (15, h.size), (11, h.size), (7, h.size), (3, h.size)] (g.BP) H (fun D => .of (B1 (by kernel_rfl) B)) (fun D H => ?_)
  have E := A.HD 0 (pr := [h.size, h.size, h.size]) (.cons 0 rfl (by simp [Ck.ids]) (.cons 0 rfl (by simp [Ck.ids]) (.cons 0 rfl (by simp [Ck.ids]) .nil)))
  obtain ⟨x13, X, M⟩ := bind_some M
  obtain ⟨v1, h12, R, rfl, E⟩ := CQ (av := [.str p0.Ah, Ai 32]) X E
  replace A := A.Sm E
  refine BN 54 (.str x13) h12 [(43, h.size), (39, h.size), (35, h.size), (31, h.size), (26, h.size), (19, h.size), (15, h.size), (11, h.size), (7, h.size), (3, h.size)] (h.size :: h.size :: h.size :: g.BP) H (fun D => Steps.call (by kernel_rfl) R) (fun D H => ?_)
  obtain ⟨B, M⟩ := AO M
  refine BN 55 (.str ((((((((((x6 ++ x7) ++ x8) ++ x9) ++ x10) ++ x11) ++ ([32, 32, 32, 32, 32, 32, 32, 32] : UV)) ++ x5) ++ x12) ++ ([117, 115, 116, 97, 114, 0, 48, 48] : UV)) ++ x13)) h12 [(43, h.size), (39, h.size), (35, h.size), (31, h.size), (26, h.size), (19, h.size), (15, h.size), (11, h.size), (7, h.size), (3, h.size)] (g.BP) H (fun D => .of (B1 (by kernel_rfl) B)) (fun D H => ?_)
  have E := A.HD 0 (pr := [h.size, h.size]) (.cons 0 rfl (by simp [Ck.ids]) (.cons 0 rfl (by simp [Ck.ids]) .nil))
  obtain ⟨x14, X, M⟩ := bind_some M
  obtain ⟨v1, h13, R, rfl, E⟩ := CQ (av := [.str p0.Aj, Ai 32]) X E
  replace A := A.Sm E
  refine BN 58 (.str x14) h13 [(43, h.size), (39, h.size), (35, h.size), (31, h.size), (26, h.size), (19, h.size), (15, h.size), (11, h.size), (7, h.size), (3, h.size)] (h.size :: h.size :: g.BP) H (fun D => Steps.call (by kernel_rfl) R) (fun D H => ?_)
  obtain ⟨B, M⟩ := AO M
  refine BN 59 (.str (((((((((((x6 ++ x7) ++ x8) ++ x9) ++ x10) ++ x11) ++ ([32, 32, 32, 32, 32, 32, 32, 32] : UV)) ++ x5) ++ x12) ++ ([117, 115, 116, 97, 114, 0, 48, 48] : UV)) ++ x13) ++ x14)) h13 [(43, h.size), (39, h.size), (35, h.size), (31, h.size), (26, h.size), (19, h.size), (15, h.size), (11, h.size), (7, h.size), (3, h.size)] (g.BP) H (fun D => .of (B1 (by kernel_rfl) B)) (fun D H => ?_)
  have E := A.HD 0 (pr := [h.size]) (.cons 0 rfl (by simp [Ck.ids]) .nil)
  obtain ⟨x15, X, M⟩ := bind_some M
  obtain ⟨v1, h14, R, rfl, E⟩ := Bp (av := [Ai p0.An, Ai 8]) X E
  replace A := A.Sm E
  refine BN 62 (.str x15) h14 [(43, h.size), (39, h.size), (35, h.size), (31, h.size), (26, h.size), (19, h.size), (15, h.size), (11, h.size), (7, h.size), (3, h.size)] (h.size :: g.BP) H (fun D => Steps.call (by kernel_rfl) R) (fun D H => ?_)
  obtain ⟨B, M⟩ := AO M
  refine BN 63 (.str ((((((((((((x6 ++ x7) ++ x8) ++ x9) ++ x10) ++ x11) ++ ([32, 32, 32, 32, 32, 32, 32, 32] : UV)) ++ x5) ++ x12) ++ ([117, 115, 116, 97, 114, 0, 48, 48] : UV)) ++ x13) ++ x14) ++ x15)) h14 [(43, h.size), (39, h.size), (35, h.size), (31, h.size), (26, h.size), (19, h.size), (15, h.size), (11, h.size), (7, h.size), (3, h.size)] (g.BP) H (fun D => .of (B1 (by kernel_rfl) B)) (fun D H => ?_)
  obtain ⟨x16, X, M⟩ := bind_some M
  obtain ⟨v1, h15, R, rfl, E⟩ := Bp (av := [Ai p0.A2, Ai 8]) X (A.cut 0)
  replace A := A.De E
  refine BN 66 (.str x16) h15 [(43, h.size), (39, h.size), (35, h.size), (31, h.size), (26, h.size), (19, h.size), (15, h.size), (11, h.size), (7, h.size), (3, h.size)] (g.BP) H (fun D => Steps.call (by kernel_rfl) R) (fun D H => ?_)
  obtain ⟨B, M⟩ := AO M
  refine BN 67 (.str (((((((((((((x6 ++ x7) ++ x8) ++ x9) ++ x10) ++ x11) ++ ([32, 32, 32, 32, 32, 32, 32, 32] : UV)) ++ x5) ++ x12) ++ ([117, 115, 116, 97, 114, 0, 48, 48] : UV)) ++ x13) ++ x14) ++ x15) ++ x16)) h15 [(43, h.size), (39, h.size), (35, h.size), (31, h.size), (26, h.size), (19, h.size), (15, h.size), (11, h.size), (7, h.size), (3, h.size)] (g.BP) H (fun D => .of (B1 (by kernel_rfl) B)) (fun D H => ?_)
  refine AG 1 [(68, .str x1)] H fun D H => ?_
  obtain ⟨x17, X, M⟩ := bind_some M
  obtain ⟨v1, h16, R, rfl, E⟩ := CQ (av := [.str x1, Ai 155]) X (A.cut 0)
  replace A := A.De E
  refine BN 69 (.str x17) h16 [(43, h.size), (39, h.size), (35, h.size), (31, h.size), (26, h.size), (19, h.size), (15, h.size), (11, h.size), (7, h.size), (3, h.size)] (g.BP) H (fun D => Steps.call (by kernel_rfl) R) (fun D H => ?_)
  obtain ⟨B, M⟩ := AO M
  refine BN 70 (.str ((((((((((((((x6 ++ x7) ++ x8) ++ x9) ++ x10) ++ x11) ++ ([32, 32, 32, 32, 32, 32, 32, 32] : UV)) ++ x5) ++ x12) ++ ([117, 115, 116, 97, 114, 0, 48, 48] : UV)) ++ x13) ++ x14) ++ x15) ++ x16) ++ x17)) h16 [(43, h.size), (39, h.size), (35, h.size), (31, h.size), (26, h.size), (19, h.size), (15, h.size), (11, h.size), (7, h.size), (3, h.size)] (g.BP) H (fun D => .of (B1 (by kernel_rfl) B)) (fun D H => ?_)
  obtain ⟨x18, X, M⟩ := bind_some M
  obtain ⟨v1, h17, R, rfl, E⟩ := CQ (av := [.str ([] : UV), Ai 12]) X (A.cut 0)
  replace A := A.De E
  refine BN 71 (.str x18) h17 [(43, h.size), (39, h.size), (35, h.size), (31, h.size), (26, h.size), (19, h.size), (15, h.size), (11, h.size), (7, h.size), (3, h.size)] (g.BP) H (fun D => Steps.call (by kernel_rfl) R) (fun D H => ?_)
  obtain ⟨B, M⟩ := AO M
  refine BN 72 (.str (((((((((((((((x6 ++ x7) ++ x8) ++ x9) ++ x10) ++ x11) ++ ([32, 32, 32, 32, 32, 32, 32, 32] : UV)) ++ x5) ++ x12) ++ ([117, 115, 116, 97, 114, 0, 48, 48] : UV)) ++ x13) ++ x14) ++ x15) ++ x16) ++ x17) ++ x18)) h17 [(43, h.size), (39, h.size), (35, h.size), (31, h.size), (26, h.size), (19, h.size), (15, h.size), (11, h.size), (7, h.size), (3, h.size)] (g.BP) H (fun D => .of (B1 (by kernel_rfl) B)) (fun D H => ?_)
  refine Be 1 [(7, .str (((((((((((((((x6 ++ x7) ++ x8) ++ x9) ++ x10) ++ x11) ++ ([32, 32, 32, 32, 32, 32, 32, 32] : UV)) ++ x5) ++ x12) ++ ([117, 115, 116, 97, 114, 0, 48, 48] : UV)) ++ x13) ++ x14) ++ x15) ++ x16) ++ x17) ++ x18))] 3 H fun D H => ?_
  obtain ⟨x19, X, M⟩ := bind_some M
  obtain ⟨v1, h18, R, rfl, E⟩ := Kn (av := [.str (((((((((((((((x6 ++ x7) ++ x8) ++ x9) ++ x10) ++ x11) ++ ([32, 32, 32, 32, 32, 32, 32, 32] : UV)) ++ x5) ++ x12) ++ ([117, 115, 116, 97, 114, 0, 48, 48] : UV)) ++ x13) ++ x14) ++ x15) ++ x16) ++ x17) ++ x18)]) X (A.cut 0)
  replace A := A.De E
  refine Aq 1 [] 74 R H fun D t H => ?_
  refine AL 1 [(2, .str x19)] H fun D H => AQ ?_
  obtain rfl := Ad M
  refine ⟨.inl rfl, .str x19, rH H, ?_⟩
  replace A := A.d0
  exact ⟨rfl, A⟩
 exact hF.elim
def Dh (p0 : AR) (p1 : Int) : Option ((List UInt8) × Int) :=
 (Aa (p0.Kind == 0) (some (48 : Int)) (some p0.Kind) : Option ((Int))).bind fun x1 => (DQ (⟨p0.Name, p0.Az, x1, p0.Mode, p0.Br, p0.CH, p0.Ah, p0.Aj, p0.An, p0.A2, p0.Time, p0.Extra, p0.Data⟩ : AR)).bind fun x2 => Aa (x2 != 0) (some (([] : UV), x2)) (Aa ((decide (x1 < 48)) || (decide (x1 > 55))) (some (([] : UV), (5 : Int))) (Aa (((decide (p1 < 0)) || (decide (p1 > 1099511627776))) || (((p1 != 0) && (x1 != 48)) && (x1 != 55))) (some (([] : UV), (6 : Int))) ((Dc (⟨p0.Name, p0.Az, x1, p0.Mode, p0.Br, p0.CH, p0.Ah, p0.Aj, p0.An, p0.A2, p0.Time, p0.Extra, p0.Data⟩ : AR) p1).bind fun (x3, x4) => (Ci x4).bind fun (x5, x6) => Aa (x6 != 0) (some (([] : UV), x6)) ((Aa (!(x5 == ([] : UV))) ((Cf (⟨([80, 97, 120, 72, 101, 97, 100, 101, 114, 115] : UV), ([] : UV), (120 : Int), (420 : Int), (0 : Int), (0 : Int), (x5.length : Int), (0 : Int), ([] : UV), ([] : UV), (0 : Int), (0 : Int), (0 : Int)⟩ : AK)).bind fun x8 => (Dw x5).bind fun x9 => BS (decide (x8.length + x9.length ≤ 9223372036854775807)) <| some (x8 ++ x9)) (some ([] : UV)) : Option (((List UInt8)))).bind fun x7 => (Cf x3).bind fun x10 => BS (decide (x7.length + x10.length ≤ 9223372036854775807)) <| some (x7 ++ x10, (0 : Int))))))
theorem KK {p0 p1 q0 q1} (M : Dh p0 p1 = some (q0, q1)) (A : HH g h [] F) (hc : A9 (cfg.still 14) av = [.agg (AE p0), Ai p1] := by kernel_rfl) : ∃ v Q, BB cfg g h 14 av v Q ∧ v = .tuple [.str q0, Ai q1] ∧ HH g Q [] F := by
 refine Dj 76 [.tmp 4, .tmp 5] hc ?_
 clear hc
 unfold Dh at M
 refine bg 76 [(0, .agg (AE p0)), (1, Ai p1)] fun D H => ?_
 refine AF 3 ?_
 obtain ⟨h1, e1, A⟩ := A.pu (.cells none 2 (AE p0))
 refine BF 2 (.ptr (some (h.size, 0))) e1 H fun D t H => ?_
 refine AL 2 [] H fun D H => AN ?_
 obtain ⟨o1, O, M⟩ := bind_some M
 refine Ao (Q' := fun e N Q => (∃ x1, e = .normal ∧ x1 = o1 ∧ Has N 76 [(1, Ai p1), (2, .ptr (some (h.size, 0)))] ∧ HH g Q [.obj h.size (.cells none 2 (DS p0 (Ab x1)))] F) ∨ False) ?_ ?_
 ·replace M := O
  clear O
  refine AF 3 (AV 1 [] 13 0 2 A H fun D t H => ?_)
  refine AL 1 [(14, .bool (p0.Kind == 0))] H fun D H => AX 14 H M (fun B M H => ?_) fun B M H => ?_
  ·refine BO 2 ?_
   obtain ⟨h2, X, A⟩ := A.s0 2 [Ab 48] [_, _, _, _, _, _, _, _, _, _, _, _, _, _]
   refine CO 1 [] X H fun D t H => ?_
   refine at_nil ?_
   exact .inl ⟨_, rfl, Ad M, H.ls, A⟩
  exact F9 (.inl ⟨_, rfl, Ad M, H.ls, A⟩)
 clear O
 clear A
 intro e D h3 hQ
 rcases hQ with ⟨x1, rfl, rfl, H, A⟩ | hF
 ·show AW _ _ _ _ _ _ _
  refine AF 3 (AZ 16 _ _ H (fun D => .of (BD (by kernel_rfl) (A.ET 0 rfl (o := 0) (n := 14) ⟨Nat.le_of_ble_eq_true rfl, rfl⟩))) fun D t H => ?_)
  obtain ⟨x2, X, M⟩ := bind_some M
  obtain ⟨v1, h4, R, rfl, E⟩ := Jr (av := [.agg (DS p0 (Ab x1))]) X (A.cut 0)
  replace A := A.De E
  refine A0 17 R H fun D t H => ?_
  refine AL 1 [(6, Ai x2)] H fun D H => AN (AF 2 (AL 2 [(19, .bool (x2 != 0))] H fun D H => AX 19 H M (fun B M H => ?_) fun B M H => ?_))
  ·refine AF 3 (AL 3 [(4, .str ([] : UV)), (5, Ai x2)] H fun D H => AQ ?_)
   obtain ⟨rfl, rfl⟩ := Bn M
   refine ⟨.inl rfl, .tuple [.str ([] : UV), Ai x2], rH H, ?_⟩
   replace A := A.d0
   exact ⟨rfl, A⟩
  refine Bl id (AN (AF 8 (AV 1 [] 22 0 2 A H fun D t H => ?_)))
  refine AG 2 [(24, .bool (decide (x1 < 48)))] H fun D H => Al 4 (fun N Q => h4 = Q ∧ Has N 76 [(1, Ai p1), (2, .ptr (some (h.size, 0))), (28, .bool ((decide (x1 < 48)) || (decide (x1 > 55))))]) ?_ ?_
  ·cases B : (decide (x1 < 48) : Bool) with
   | true =>
    replace H := H.kn 24 B
    exact AG 4 [(28, .bool true)] H fun D H => Ac H B
   | false =>
    replace H := H.kn 24 B
    refine AV 1 [] 26 0 2 A H fun D t H => ?_
    exact AG 2 [(28, .bool (decide (x1 > 55)))] H fun D H => Ac H B
  intro t D Q hK
  obtain ⟨e, H⟩ := hK
  subst e
  refine BK id (AX 28 H M (fun B M H => ?_) fun B M H => ?_)
  ·refine AF 2 (AL 2 [(4, .str ([] : UV)), (5, Ai 5)] H fun D H => AQ ?_)
   obtain ⟨rfl, rfl⟩ := Bn M
   refine ⟨.inl rfl, .tuple [.str ([] : UV), Ai 5], rH H, ?_⟩
   replace A := A.d0
   exact ⟨rfl, A⟩
  refine Bl id (AN (AF 20 (AG 3 [(31, .bool (decide (p1 < 0)))] H fun D H => Al 3 (fun N Q => h4 = Q ∧ Has N 76 [(1, Ai p1), (2, .ptr (some (h.size, 0))), (34, .bool ((decide (p1 < 0)) || (decide (p1 > 1099511627776))))]) ?_ ?_)))
  ·cases B : (decide (p1 < 0) : Bool) with
   | true =>
    replace H := H.kn 31 B
    exact AG 3 [(34, .bool true)] H fun D H => Ac H B
   | false =>
    replace H := H.kn 31 B
    exact AG 3 [(34, .bool (decide (p1 > 1099511627776)))] H fun D H => Ac H B
  intro t D Q hK
  obtain ⟨e, H⟩ := hK
  subst e
  refine AG 1 [(35, .bool ((decide (p1 < 0)) || (decide (p1 > 1099511627776))))] H fun D H => Al 13 (fun N Q => h4 = Q ∧ Has N 76 [(1, Ai p1), (2, .ptr (some (h.size, 0))), (48, .bool (((decide (p1 < 0)) || (decide (p1 > 1099511627776))) || (((p1 != 0) && (x1 != 48)) && (x1 != 55))))]) ?_ ?_
  ·cases B : ((decide (p1 < 0)) || (decide (p1 > 1099511627776)) : Bool) with
   | true =>
    replace H := H.kn 35 B
    exact AG 13 [(48, .bool true)] H fun D H => Ac H B
   | false =>
    replace H := H.kn 35 B
    refine AG 3 [(38, .bool (p1 != 0))] H fun D H => Al 4 (fun N Q => h4 = Q ∧ Has N 76 [(1, Ai p1), (2, .ptr (some (h.size, 0))), (35, .bool false), (42, .bool ((p1 != 0) && (x1 != 48)))]) ?_ ?_
    ·cases B : (p1 != 0 : Bool) with
     | true =>
      replace H := H.kn 38 B
      refine AV 1 [] 40 0 2 A H fun D t H => ?_
      exact AG 2 [(42, .bool (x1 != 48))] H fun D H => Ac H B
     | false =>
      replace H := H.kn 38 B
      exact AG 4 [(42, .bool false)] H fun D H => Ac H B
    intro t D Q hK
    obtain ⟨e, H⟩ := hK
    subst e
    refine AG 1 [(43, .bool ((p1 != 0) && (x1 != 48)))] H fun D H => Al 4 (fun N Q => h4 = Q ∧ Has N 76 [(1, Ai p1), (2, .ptr (some (h.size, 0))), (35, .bool false), (47, .bool (((p1 != 0) && (x1 != 48)) && (x1 != 55)))]) ?_ ?_
    ·cases B : ((p1 != 0) && (x1 != 48) : Bool) with
     | true =>
      replace H := H.kn 43 B
      refine AV 1 [] 45 0 2 A H fun D t H => ?_
      exact AG 2 [(47, .bool (x1 != 55))] H fun D H => Ac H B
     | false =>
      replace H := H.kn 43 B
      exact AG 4 [(47, .bool false)] H fun D H => Ac H B
    intro t D Q hK
    obtain ⟨e, H⟩ := hK
    subst e
    exact AG 1 [(48, .bool (((p1 != 0) && (x1 != 48)) && (x1 != 55)))] H fun D H => Ac H B
  intro t D Q hK
  obtain ⟨e, H⟩ := hK
  subst e
  refine BK id (AX 48 H M (fun B M H => ?_) fun B M H => ?_)
  ·refine AF 2 (AL 2 [(4, .str ([] : UV)), (5, Ai 6)] H fun D H => AQ ?_)
   obtain ⟨rfl, rfl⟩ := Bn M
   refine ⟨.inl rfl, .tuple [.str ([] : UV), Ai 6], rH H, ?_⟩
   replace A := A.d0
   exact ⟨rfl, A⟩
  refine Bs 9 id (AZ 50 _ _ H (fun D => .of (BD (by kernel_rfl) (A.ET 0 rfl (o := 0) (n := 14) ⟨Nat.le_of_ble_eq_true rfl, rfl⟩))) fun D t H => ?_)
  obtain ⟨⟨x3, x4⟩, X, M⟩ := bind_some M
  obtain ⟨v1, h5, R, rqw3, rfl, E⟩ := Kb (av := [.agg (DS p0 (Ab x1)), Ai p1]) X (A.cut 0)
  replace A := A.YV E
  refine Aq 1 [] 52 R H fun D t H => ?_
  obtain ⟨h6, e2, A⟩ := A.pu (.cells none 2 [.str ([] : UV), .str ([] : UV), Ab 0, Ai 0, Ai 0, Ai 0, Ai 0, Ai 0, .str ([] : UV), .str ([] : UV), Ai 0, Ai 0, Ai 0])
  refine Jg 3 [(53, .agg (AI x3)), (54, AP rqw3 x4.length)] 7 (.ptr (some (h5.size, 0))) e2 H fun D t H => ?_
  obtain ⟨h7, X, A⟩ := A.s0 0 (AI x3) [_, _, _, _, _, _, _, _, _, _, _, _, _]
  refine DG X H fun D t H => ?_
  refine Be 1 [(8, AP rqw3 x4.length)] 7 H fun D H => ?_
  replace A := A.k3 1 0 2
  obtain ⟨⟨x5, x6⟩, X, M⟩ := bind_some M
  obtain ⟨v1, h8, R, rfl, E⟩ := Ii (av := [AP rqw3 x4.length]) X (A.cut 1)
  replace A := A.g11 E
  refine Aq 1 [] 57 R H fun D t H => ?_
  refine AL 5 [(9, .str x5), (10, Ai x6)] H fun D H => AN (AF 2 (AL 2 [(61, .bool (x6 != 0))] H fun D H => AX 61 H M (fun B M H => ?_) fun B M H => ?_))
  ·refine AF 3 (AL 3 [(4, .str ([] : UV)), (5, Ai x6)] H fun D H => AQ ?_)
   obtain ⟨rfl, rfl⟩ := Bn M
   refine ⟨.inl rfl, .tuple [.str ([] : UV), Ai x6], rH H, ?_⟩
   replace A := A.d0
   exact ⟨rfl, A⟩
  refine Bs 1 id (AL 1 [(11, .str ([] : UV))] H fun D H => AN ?_)
  obtain ⟨o2, O, M⟩ := bind_some M
  refine Ao (Q' := fun e N Q => (∃ x7, e = .normal ∧ x7 = o2 ∧ Has N 76 [(7, .ptr (some (h5.size, 0))), (11, .str x7)] ∧ HH g Q [.obj h5.size (.cells none 2 (AI x3)), .obj h.size (.cells none 2 (DS p0 (Ab x1)))] F) ∨ False) ?_ ?_
  ·replace M := O
   clear O
   refine AF 2 (AL 2 [(64, .bool (!(x5 == ([] : UV))))] H fun D H => AX 64 H M (fun B M H => ?_) fun B M H => ?_)
   ·refine BO 8 ?_
    obtain ⟨x8, X, M⟩ := bind_some M
    obtain ⟨v1, h9, R, rfl, E⟩ := Ga (av := [.agg [.str ([80, 97, 120, 72, 101, 97, 100, 101, 114, 115] : UV), .str ([] : UV), Ab 120, Ai 420, Ai 0, Ai 0, Ai (x5.length : Int), Ai 0, .str ([] : UV), .str ([] : UV), Ai 0, Ai 0, Ai 0]]) X (A.cut 0)
    replace A := A.De E
    refine Aq 3 [] 68 R H fun D t H => ?_
    obtain ⟨x9, X, M⟩ := bind_some M
    obtain ⟨v1, h10, R, rfl, E⟩ := K7 (av := [.str x5]) X (A.cut 0)
    replace A := A.De E
    refine Aq 1 [] 70 R H fun D t H => ?_
    obtain ⟨B, M⟩ := AO M
    refine AZ 71 (.str (x8 ++ x9)) h10 H (fun D => .of (B1 (by kernel_rfl) B)) fun D t H => ?_
    refine A5 1 [(7, .ptr (some (h5.size, 0))), (11, .str (x8 ++ x9))] H fun D H => at_nil ?_
    replace A := A.k2 1 2
    exact .inl ⟨_, rfl, Ad M, H.ls, A⟩
   refine F9 ?_
   replace A := A.k2 1 2
   exact .inl ⟨_, rfl, Ad M, H.ls, A⟩
  clear O
  clear A
  intro e D h11 hQ
  rcases hQ with ⟨x7, rfl, rfl, H, A⟩ | hF
  ·show AW _ _ _ _ _ _ _
   refine AF 6 (Ax 1 [(72, .str x7)] 73 _ _ H (fun D => .of (BD (by kernel_rfl) (A.ET 0 rfl (o := 0) (n := 13) ⟨Nat.le_of_ble_eq_true rfl, rfl⟩))) fun D t H => ?_)
   obtain ⟨x10, X, M⟩ := bind_some M
   obtain ⟨v1, h12, R, rfl, E⟩ := Ga (av := [.agg (AI x3)]) X (A.cut 0)
   replace A := A.De E
   refine A0 74 R H fun D t H => ?_
   obtain ⟨B, M⟩ := AO M
   refine AZ 75 (.str (x7 ++ x10)) h12 H (fun D => .of (B1 (by kernel_rfl) B)) fun D t H => ?_
   refine AL 2 [(4, .str (x7 ++ x10)), (5, Ai 0)] H fun D H => AQ ?_
   obtain ⟨rfl, rfl⟩ := Bn M
   refine ⟨.inl rfl, .tuple [.str (x7 ++ x10), Ai 0], rH H, ?_⟩
   replace A := A.d0
   exact ⟨rfl, A⟩
  exact hF.elim
 exact hF.elim
def GK (p0 : List UInt8) (s : Int × Int) : Option ((Int × Int) ⊕ ((Int))) :=
 match s with
 | (x2, x3) => Aa (decide (x3 < (p0.length : Int))) ((MZ p0 x3).bind fun x5 => (DD x2 (256 : Int) (i64.wrap x5)).bind fun x6 => some (.inl (x6, i64.wrap (x3 + 1)))) (some (.inr x2))
def GP (p0 : List UInt8) (s : Int × Int) : Option ((Int × Int) ⊕ ((Int))) :=
 match s with
 | (x8, x9) => Aa (decide (x9 < (p0.length : Int))) ((MZ p0 x9).bind fun x11 => (DD x8 (256 : Int) (i64.wrap ((255 : Int) - (i64.wrap x11)))).bind fun x12 => some (.inl (x12, i64.wrap (x9 + 1)))) (some (.inr x8))
def Dl (p0 : List UInt8) (s : Int) : Option ((Int) ⊕ ((Int))) :=
 match s with
 | x13 => (Aa (decide (x13 < (p0.length : Int))) ((MZ p0 x13).bind fun x16 => some (x16 == 32)) (some false) : Option (Bool)).bind fun x15 => Aa x15 (some (.inl (i64.wrap (x13 + 1)))) (some (.inr x13))
def B6 (p0 : List UInt8) (s : Int × Int) : Option ((Int × Int) ⊕ ((Int × Int))) :=
 match s with
 | (x17, x18) => (Aa (decide (x17 < (p0.length : Int))) ((MZ p0 x17).bind fun x22 => some (decide (x22 ≥ 48))) (some false) : Option (Bool)).bind fun x21 => (Aa x21 ((MZ p0 x17).bind fun x24 => some (decide (x24 ≤ 55))) (some false) : Option (Bool)).bind fun x23 => Aa x23 ((MZ p0 x17).bind fun x25 => (DD x18 (8 : Int) (i64.wrap ((i64.wrap x25) - 48))).bind fun x26 => some (.inl (i64.wrap (x17 + 1), x26))) (some (.inr (x17, x18)))
def BQ (p0 : List UInt8) (s : Int) : Option ((Int) ⊕ ((Unit) ⊕ (Int × Int))) :=
 match s with
 | x27 => Aa (decide (x27 < (p0.length : Int))) ((MZ p0 x27).bind fun x30 => (Aa (x30 != 32) ((MZ p0 x27).bind fun x32 => some (x32 != 0)) (some false) : Option (Bool)).bind fun x31 => Aa x31 (some (.inr (.inr ((0 : Int), (2 : Int))))) (some (.inl (i64.wrap (x27 + 1))))) (some (.inr (.inl ())))
def BW (p0 : List UInt8) : Option (Int × Int) :=
 Aa ((decide ((p0.length : Int) < 2)) || (decide ((p0.length : Int) > 12))) (some ((0 : Int), (1 : Int))) ((MZ p0 (0 : Int)).bind fun x1 => Aa (x1 == 128) ((loop (GK p0) ((0 : Int), (1 : Int))).bind fun x4 => Aa (decide (x4 > 9007199254740991)) (some ((0 : Int), (6 : Int))) (some (x4, (0 : Int)))) ((MZ p0 (0 : Int)).bind fun x7 => Aa (x7 == 255) ((loop (GP p0) ((0 : Int), (1 : Int))).bind fun x10 => Aa (decide ((i64.wrap (x10 + 1)) > 9007199254740991)) (some ((0 : Int), (6 : Int))) (some (i64.wrap ((i64.wrap (0 - x10)) - 1), (0 : Int)))) ((loop (Dl p0) (0 : Int)).bind fun x14 => (loop (B6 p0) (x14, (0 : Int))).bind fun (x19, x20) => (loop (BQ p0) x19).bind fun o5 => (match o5 with | .inl _ => Aa (decide (x20 > 9007199254740991)) (some ((0 : Int), (6 : Int))) (some (x20, (0 : Int))) | .inr (x28, x29) => some (x28, x29)))))
theorem G8 {p0 q0 q1} (M : BW p0 = some (q0, q1)) (A : HH g h [] F) (hc : A9 (cfg.still 111) av = [.str p0] := by kernel_rfl) : ∃ v Q, BB cfg g h 111 av v Q ∧ v = .tuple [Ai q0, Ai q1] ∧ HH g Q [] F := by
 refine Dj 110 [.tmp 2, .tmp 3] hc ?_
 clear hc
 unfold BW at M
 refine bg 110 [(0, .str p0)] fun D H => ?_
 refine AF 2 (Be 2 [] 3 H fun D H => AL 3 [(4, Ai (p0.length : Int))] H fun D H => AN (AF 6 (AG 3 [(15, .bool (decide ((p0.length : Int) < 2)))] H fun D H => Al 3 (fun N Q => h = Q ∧ Has N 110 [(0, .str p0), (4, Ai (p0.length : Int)), (18, .bool ((decide ((p0.length : Int) < 2)) || (decide ((p0.length : Int) > 12))))]) ?_ ?_)))
 ·cases B : (decide ((p0.length : Int) < 2) : Bool) with
  | true =>
   replace H := H.kn 15 B
   exact AG 3 [(18, .bool true)] H fun D H => Ac H B
  | false =>
   replace H := H.kn 15 B
   exact AG 3 [(18, .bool (decide ((p0.length : Int) > 12)))] H fun D H => Ac H B
 intro t D Q hK
 obtain ⟨e, H⟩ := hK
 subst e
 refine BK id (AX 18 H M (fun B M H => ?_) fun B M H => ?_)
 ·refine AF 2 (AL 2 [(2, Ai 0), (3, Ai 1)] H fun D H => AQ ?_)
  obtain ⟨rfl, rfl⟩ := Bn M
  exact ⟨.inl rfl, _, rH H, rfl, A⟩
 refine Bl id (AN (AF 3 ?_))
 obtain ⟨x1, X, M⟩ := bind_some M
 refine Ax 1 [] 20 (Ab x1) h H (fun D => .of (FK (by kernel_rfl) X)) fun D t H => ?_
 refine AL 1 [(21, .bool (x1 == 128))] H fun D H => AX 21 H M (fun B M H => ?_) fun B M H => ?_
 ·refine AF 1 (AL 1 [(5, Ai 0)] H fun D H => AN (AF 1 (AL 1 [(6, Ai 1)] H fun D H => Ae (id := 0) (by kernel_rfl) ?_)))
  obtain ⟨o1, O, M⟩ := bind_some M
  refine Ao (Q' := fun e N Q => (∃ x4, e = .exit 0 ∧ x4 = o1 ∧ Has N 110 [(5, Ai x4)] ∧ HH g Q [] F) ∨ False) ?_ ?_
  ·refine Bc (by kernel_rfl) (fun (s : Int × Int) N Q => ∃ x2 x3, (x2, x3) = s ∧ Has N 110 [(0, .str p0), (4, Ai (p0.length : Int)), (5, Ai x2), (6, Ai x3)] ∧ HH g Q [] F) O ⟨_, _, rfl, H.ls, A⟩ ?_
   clear O M H A
   intro s q D h1 hI M
   obtain ⟨x2, x3, rfl, H, A⟩ := hI
   unfold GK at M
   refine AN (AF 3 (AL 3 [(24, .bool (decide (x3 < (p0.length : Int))))] H fun D H => AX 24 H M (fun B M H => ?_) fun B M H => ?_))
   ·refine Bl id (AN (Ae (id := 1) (by kernel_rfl) ?_))
    refine BO 7 ?_
    obtain ⟨x5, X, M⟩ := bind_some M
    refine Ax 3 [(27, Ai x2)] 30 (Ab x5) h1 H (fun D => .of (FK (by kernel_rfl) X)) fun D t H => ?_
    obtain ⟨x6, X, M⟩ := bind_some M
    obtain ⟨v1, h2, R, rfl, E⟩ := FO (av := [Ai x2, Ai 256, Ai (i64.wrap x5)]) X (A.cut 0)
    replace A := A.De E
    refine Aq 1 [] 32 R H fun D t H => ?_
    refine A5 1 [(0, .str p0), (4, Ai (p0.length : Int)), (5, Ai x6), (6, Ai x3)] H fun D H => FY 3 id (A5 3 [(0, .str p0), (4, Ai (p0.length : Int)), (5, Ai x6), (6, Ai (i64.wrap (x3 + 1)))] H fun D H => at_nil ?_)
    exact nx M ⟨_, _, rfl, H.ls, A⟩
   refine Bb (i := 0) (by kernel_rfl) ?_
   exact nr M fun e => .inl ⟨_, rfl, e, H.ls, A⟩
  clear O
  clear A
  intro e D h3 hQ
  rcases hQ with ⟨x4, rfl, rfl, H, A⟩ | hF
  ·show AW _ _ _ _ _ _ _
   refine AN (AF 2 (AL 2 [(34, .bool (decide (x4 > 9007199254740991)))] H fun D H => AX 34 H M (fun B M H => ?_) fun B M H => ?_))
   ·refine AF 2 (AL 2 [(2, Ai 0), (3, Ai 6)] H fun D H => AQ ?_)
    obtain ⟨rfl, rfl⟩ := Bn M
    exact ⟨.inl rfl, _, rH H, rfl, A⟩
   refine Bs 3 id (AL 3 [(2, Ai x4), (3, Ai 0)] H fun D H => AQ ?_)
   obtain ⟨rfl, rfl⟩ := Bn M
   exact ⟨.inl rfl, _, rH H, rfl, A⟩
  exact hF.elim
 refine Bl id (AN (AF 3 ?_))
 obtain ⟨x7, X, M⟩ := bind_some M
 refine Ax 1 [] 37 (Ab x7) h H (fun D => .of (FK (by kernel_rfl) X)) fun D t H => ?_
 refine AL 1 [(38, .bool (x7 == 255))] H fun D H => AX 38 H M (fun B M H => ?_) fun B M H => ?_
 ·refine AF 1 (AL 1 [(7, Ai 0)] H fun D H => AN (AF 1 (AL 1 [(8, Ai 1)] H fun D H => Ae (id := 2) (by kernel_rfl) ?_)))
  obtain ⟨o2, O, M⟩ := bind_some M
  refine Ao (Q' := fun e N Q => (∃ x10, e = .exit 2 ∧ x10 = o2 ∧ Has N 110 [(7, Ai x10)] ∧ HH g Q [] F) ∨ False) ?_ ?_
  ·refine Bc (by kernel_rfl) (fun (s : Int × Int) N Q => ∃ x8 x9, (x8, x9) = s ∧ Has N 110 [(0, .str p0), (4, Ai (p0.length : Int)), (7, Ai x8), (8, Ai x9)] ∧ HH g Q [] F) O ⟨_, _, rfl, H.ls, A⟩ ?_
   clear O M H A
   intro s q D h4 hI M
   obtain ⟨x8, x9, rfl, H, A⟩ := hI
   unfold GP at M
   refine AN (AF 3 (AL 3 [(41, .bool (decide (x9 < (p0.length : Int))))] H fun D H => AX 41 H M (fun B M H => ?_) fun B M H => ?_))
   ·refine Bl id (AN (Ae (id := 3) (by kernel_rfl) ?_))
    refine BO 8 ?_
    obtain ⟨x11, X, M⟩ := bind_some M
    refine Ax 3 [(44, Ai x8)] 47 (Ab x11) h4 H (fun D => .of (FK (by kernel_rfl) X)) fun D t H => ?_
    obtain ⟨x12, X, M⟩ := bind_some M
    obtain ⟨v1, h5, R, rfl, E⟩ := FO (av := [Ai x8, Ai 256, Ai (i64.wrap ((255 : Int) - (i64.wrap x11)))]) X (A.cut 0)
    replace A := A.De E
    refine Aq 2 [] 50 R H fun D t H => ?_
    refine A5 1 [(0, .str p0), (4, Ai (p0.length : Int)), (7, Ai x12), (8, Ai x9)] H fun D H => FY 3 id (A5 3 [(0, .str p0), (4, Ai (p0.length : Int)), (7, Ai x12), (8, Ai (i64.wrap (x9 + 1)))] H fun D H => at_nil ?_)
    exact nx M ⟨_, _, rfl, H.ls, A⟩
   refine Bb (i := 2) (by kernel_rfl) ?_
   exact nr M fun e => .inl ⟨_, rfl, e, H.ls, A⟩
  clear O
  clear A
  intro e D h6 hQ
  rcases hQ with ⟨x10, rfl, rfl, H, A⟩ | hF
  ·show AW _ _ _ _ _ _ _
   refine AN (AF 3 (AL 3 [(53, .bool (decide ((i64.wrap (x10 + 1)) > 9007199254740991)))] H fun D H => AX 53 H M (fun B M H => ?_) fun B M H => ?_))
   ·refine AF 2 (AL 2 [(2, Ai 0), (3, Ai 6)] H fun D H => AQ ?_)
    obtain ⟨rfl, rfl⟩ := Bn M
    exact ⟨.inl rfl, _, rH H, rfl, A⟩
   refine Bs 5 id (AL 5 [(2, Ai (i64.wrap ((i64.wrap (0 - x10)) - 1))), (3, Ai 0)] H fun D H => AQ ?_)
   obtain ⟨rfl, rfl⟩ := Bn M
   exact ⟨.inl rfl, _, rH H, rfl, A⟩
  exact hF.elim
 refine Bs 1 id (AL 1 [(9, Ai 0)] H fun D H => AN (Ae (id := 4) (by kernel_rfl) ?_))
 obtain ⟨o3, O, M⟩ := bind_some M
 refine Ao (Q' := fun e N Q => (∃ x14, e = .exit 4 ∧ x14 = o3 ∧ Has N 110 [(0, .str p0), (4, Ai (p0.length : Int)), (9, Ai x14)] ∧ HH g Q [] F) ∨ False) ?_ ?_
 ·refine Bc (by kernel_rfl) (fun (s : Int) N Q => ∃ x13, x13 = s ∧ Has N 110 [(0, .str p0), (4, Ai (p0.length : Int)), (9, Ai x13)] ∧ HH g Q [] F) O ⟨_, rfl, H.ls, A⟩ ?_
  clear O M H A
  intro s q D h7 hI M
  obtain ⟨x13, rfl, H, A⟩ := hI
  unfold Dl at M
  refine AN (AF 9 (AG 4 [(60, .bool (decide (x13 < (p0.length : Int))))] H fun D H => ?_))
  obtain ⟨x15, O, M⟩ := bind_some M
  refine Al 5 (fun N Q => Has N 110 [(0, .str p0), (4, Ai (p0.length : Int)), (9, Ai x13), (65, .bool x15)] ∧ HH g Q [] F) ?_ ?_
  ·rcases Ar O with ⟨B, M⟩ | ⟨B, M⟩
   ·replace H := H.kn 60 B
    obtain ⟨x16, X, M⟩ := bind_some M
    refine Ax 2 [] 63 (Ab x16) h7 H (fun D => .of (FK (by kernel_rfl) X)) fun D t H => ?_
    refine AG 2 [(65, .bool (x16 == 32))] H fun D H => ?_
    obtain rfl := Ad M
    exact at_nil ⟨H.ls, A⟩
   replace H := H.kn 60 B
   refine AG 5 [(65, .bool false)] H fun D H => ?_
   obtain rfl := Ad M
   exact at_nil ⟨H.ls, A⟩
  clear A
  intro t D h8 hK
  obtain ⟨H, A⟩ := hK
  refine BK id (AX 65 H M (fun B M H => ?_) fun B M H => ?_)
  ·refine Bl id (Ae (id := 5) (by kernel_rfl) ?_)
   refine BO 3 (A5 3 [(0, .str p0), (4, Ai (p0.length : Int)), (9, Ai (i64.wrap (x13 + 1)))] H fun D H => at_nil ?_)
   exact nx M ⟨_, rfl, H.ls, A⟩
  refine Bb (i := 4) (by kernel_rfl) ?_
  exact nr M fun e => .inl ⟨_, rfl, e, H.ls, A⟩
 clear O
 clear A
 intro e D h9 hQ
 rcases hQ with ⟨x14, rfl, rfl, H, A⟩ | hF
 ·show AW _ _ _ _ _ _ _
  refine AF 1 (AL 1 [(10, Ai 0)] H fun D H => AN (Ae (id := 6) (by kernel_rfl) ?_))
  obtain ⟨o4, O, M⟩ := bind_some M
  refine Ao (Q' := fun e N Q => (∃ x19 x20, e = .exit 6 ∧ (x19, x20) = o4 ∧ Has N 110 [(0, .str p0), (4, Ai (p0.length : Int)), (9, Ai x19), (10, Ai x20)] ∧ HH g Q [] F) ∨ False) ?_ ?_
  ·refine Bc (by kernel_rfl) (fun (s : Int × Int) N Q => ∃ x17 x18, (x17, x18) = s ∧ Has N 110 [(0, .str p0), (4, Ai (p0.length : Int)), (9, Ai x17), (10, Ai x18)] ∧ HH g Q [] F) O ⟨_, _, rfl, H.ls, A⟩ ?_
   clear O M H A
   intro s q D h10 hI M
   obtain ⟨x17, x18, rfl, H, A⟩ := hI
   unfold B6 at M
   refine AN (AF 15 (AG 4 [(71, .bool (decide (x17 < (p0.length : Int))))] H fun D H => ?_))
   obtain ⟨x21, O, M⟩ := bind_some M
   refine Al 5 (fun N Q => Has N 110 [(0, .str p0), (4, Ai (p0.length : Int)), (9, Ai x17), (10, Ai x18), (76, .bool x21)] ∧ HH g Q [] F) ?_ ?_
   ·rcases Ar O with ⟨B, M⟩ | ⟨B, M⟩
    ·replace H := H.kn 71 B
     obtain ⟨x22, X, M⟩ := bind_some M
     refine Ax 2 [] 74 (Ab x22) h10 H (fun D => .of (FK (by kernel_rfl) X)) fun D t H => ?_
     refine AG 2 [(76, .bool (decide (x22 ≥ 48)))] H fun D H => ?_
     obtain rfl := Ad M
     exact at_nil ⟨H.ls, A⟩
    replace H := H.kn 71 B
    refine AG 5 [(76, .bool false)] H fun D H => ?_
    obtain rfl := Ad M
    exact at_nil ⟨H.ls, A⟩
   clear A
   intro t D h11 hK
   obtain ⟨H, A⟩ := hK
   refine AG 1 [(77, .bool x21)] H fun D H => ?_
   obtain ⟨x23, O, M⟩ := bind_some M
   refine Al 5 (fun N Q => Has N 110 [(0, .str p0), (4, Ai (p0.length : Int)), (9, Ai x17), (10, Ai x18), (82, .bool x23)] ∧ HH g Q [] F) ?_ ?_
   ·rcases Ar O with ⟨B, M⟩ | ⟨B, M⟩
    ·replace H := H.kn 77 B
     obtain ⟨x24, X, M⟩ := bind_some M
     refine Ax 2 [] 80 (Ab x24) h11 H (fun D => .of (FK (by kernel_rfl) X)) fun D t H => ?_
     refine AG 2 [(82, .bool (decide (x24 ≤ 55)))] H fun D H => ?_
     obtain rfl := Ad M
     exact at_nil ⟨H.ls, A⟩
    replace H := H.kn 77 B
    refine AG 5 [(82, .bool false)] H fun D H => ?_
    obtain rfl := Ad M
    exact at_nil ⟨H.ls, A⟩
   clear A
   intro t D h12 hK
   obtain ⟨H, A⟩ := hK
   refine BK id (AX 82 H M (fun B M H => ?_) fun B M H => ?_)
   ·refine Bl id (Ae (id := 7) (by kernel_rfl) ?_)
    refine AF 8 ?_
    obtain ⟨x25, X, M⟩ := bind_some M
    refine Ax 3 [(83, Ai x18)] 86 (Ab x25) h12 H (fun D => .of (FK (by kernel_rfl) X)) fun D t H => ?_
    obtain ⟨x26, X, M⟩ := bind_some M
    obtain ⟨v1, h13, R, rfl, E⟩ := FO (av := [Ai x18, Ai 8, Ai (i64.wrap ((i64.wrap x25) - 48))]) X (A.cut 0)
    replace A := A.De E
    refine Aq 2 [] 89 R H fun D t H => ?_
    refine A5 1 [(0, .str p0), (4, Ai (p0.length : Int)), (9, Ai x17), (10, Ai x26)] H fun D H => FY 3 id (A5 3 [(0, .str p0), (4, Ai (p0.length : Int)), (9, Ai (i64.wrap (x17 + 1))), (10, Ai x26)] H fun D H => at_nil ?_)
    exact nx M ⟨_, _, rfl, H.ls, A⟩
   refine Bb (i := 6) (by kernel_rfl) ?_
   exact nr M fun e => .inl ⟨_, _, rfl, e, H.ls, A⟩
  clear O
  clear A
  intro e D h14 hQ
  rcases hQ with ⟨x19, x20, rfl, rfl, H, A⟩ | hF
  ·show AW _ _ _ _ _ _ _
   refine AN (Ae (id := 8) (by kernel_rfl) ?_)
   obtain ⟨o5, O, M⟩ := bind_some M
   refine Ao (Q' := fun e N Q => (e = .exit 8 ∧ .inl () = o5 ∧ Has N 110 [(10, Ai x20)] ∧ HH g Q [] F) ∨ (∃ x28 x29, e = .ret ∧ .inr (x28, x29) = o5 ∧ Has N 110 [(2, Ai x28), (3, Ai x29)] ∧ HH g Q [] F) ∨ False) ?_ ?_
   ·refine Bc (by kernel_rfl) (fun (s : Int) N Q => ∃ x27, x27 = s ∧ Has N 110 [(0, .str p0), (4, Ai (p0.length : Int)), (9, Ai x27), (10, Ai x20)] ∧ HH g Q [] F) O ⟨_, rfl, H.ls, A⟩ ?_
    clear O M H A
    intro s q D h15 hI M
    obtain ⟨x27, rfl, H, A⟩ := hI
    unfold BQ at M
    refine AN (AF 3 (AL 3 [(94, .bool (decide (x27 < (p0.length : Int))))] H fun D H => AX 94 H M (fun B M H => ?_) fun B M H => ?_))
    ·refine Bl id (Ae (id := 9) (by kernel_rfl) ?_)
     refine AN (AF 10 ?_)
     obtain ⟨x30, X, M⟩ := bind_some M
     refine Ax 2 [] 97 (Ab x30) h15 H (fun D => .of (FK (by kernel_rfl) X)) fun D t H => ?_
     refine AG 2 [(99, .bool (x30 != 32))] H fun D H => ?_
     obtain ⟨x31, O, M⟩ := bind_some M
     refine Al 5 (fun N Q => Has N 110 [(0, .str p0), (4, Ai (p0.length : Int)), (9, Ai x27), (10, Ai x20), (104, .bool x31)] ∧ HH g Q [] F) ?_ ?_
     ·rcases Ar O with ⟨B, M⟩ | ⟨B, M⟩
      ·replace H := H.kn 99 B
       obtain ⟨x32, X, M⟩ := bind_some M
       refine Ax 2 [] 102 (Ab x32) h15 H (fun D => .of (FK (by kernel_rfl) X)) fun D t H => ?_
       refine AG 2 [(104, .bool (x32 != 0))] H fun D H => ?_
       obtain rfl := Ad M
       exact at_nil ⟨H.ls, A⟩
      replace H := H.kn 99 B
      refine AG 5 [(104, .bool false)] H fun D H => ?_
      obtain rfl := Ad M
      exact at_nil ⟨H.ls, A⟩
     clear A
     intro t D h16 hK
     obtain ⟨H, A⟩ := hK
     refine BK id (AX 104 H M (fun B M H => ?_) fun B M H => ?_)
     ·refine AF 2 (AL 2 [(2, Ai 0), (3, Ai 2)] H fun D H => AQ ?_)
      exact nr M fun e => Or.inr (.inl ⟨_, _, rfl, e, H.ls, A⟩)
     refine FL 3 id (A5 3 [(0, .str p0), (4, Ai (p0.length : Int)), (9, Ai (i64.wrap (x27 + 1))), (10, Ai x20)] H fun D H => at_nil ?_)
     exact nx M ⟨_, rfl, H.ls, A⟩
    refine Bb (i := 8) (by kernel_rfl) ?_
    exact nr M fun e => .inl ⟨rfl, e, H.ls, A⟩
   clear O
   clear A
   intro e D h17 hQ
   rcases hQ with ⟨rfl, rfl, H, A⟩ | ⟨x28, x29, rfl, rfl, H, A⟩ | hF
   ·show AW _ _ _ _ _ _ _
    refine AN (AF 2 (AL 2 [(108, .bool (decide (x20 > 9007199254740991)))] H fun D H => AX 108 H M (fun B M H => ?_) fun B M H => ?_))
    ·refine AF 2 (AL 2 [(2, Ai 0), (3, Ai 6)] H fun D H => AQ ?_)
     obtain ⟨rfl, rfl⟩ := Bn M
     exact ⟨.inl rfl, _, rH H, rfl, A⟩
    refine Bs 3 id (AL 3 [(2, Ai x20), (3, Ai 0)] H fun D H => AQ ?_)
    obtain ⟨rfl, rfl⟩ := Bn M
    exact ⟨.inl rfl, _, rH H, rfl, A⟩
   ·obtain ⟨rfl, rfl⟩ := Bn M
    exact ⟨.inl rfl, _, rH H, rfl, A⟩
   exact hF.elim
  exact hF.elim
 exact hF.elim
def DK (p0 : List UInt8) : Option (Bool) :=
 (Aa ((p0.length : Int) != 512) (some true) ((MZ p0 (148 : Int)).bind fun x2 => some (decide (x2 ≥ 128))) : Option (Bool)).bind fun x1 => Aa x1 (some false) ((D7 p0 (some (148 : Int)) (some (156 : Int))).bind fun x3 => (BW x3).bind fun (x4, x5) => (Aa (x5 == 0) ((B2 p0 false).bind fun x7 => (Aa (x4 == x7) (some true) ((B2 p0 true).bind fun x9 => some (x4 == x9)) : Option (Bool)).bind fun x8 => some x8) (some false) : Option (Bool)).bind fun x6 => some x6)
theorem Jx {p0 q0} (M : DK p0 = some q0) (A : HH g h [] F) (hc : A9 (cfg.still 53) av = [.str p0] := by kernel_rfl) : ∃ v Q, BB cfg g h 53 av v Q ∧ v = .bool q0 ∧ HH g Q [] F := by
 refine Dj 33 [.tmp 2] hc ?_
 clear hc
 unfold DK at M
 refine bg 33 [(0, .str p0)] fun D H => ?_
 refine AF 1 (AL 1 [] H fun D H => AN (AF 8 (AG 4 [(8, .bool ((p0.length : Int) != 512))] H fun D H => ?_)))
 obtain ⟨x1, O, M⟩ := bind_some M
 refine Al 4 (fun N Q => Has N 33 [(0, .str p0), (12, .bool x1)] ∧ HH g Q [] F) ?_ ?_
 ·rcases Ar O with ⟨B, M⟩ | ⟨B, M⟩
  ·replace H := H.kn 8 B
   refine AG 4 [(12, .bool true)] H fun D H => ?_
   obtain rfl := Ad M
   exact at_nil ⟨H.ls, A⟩
  replace H := H.kn 8 B
  obtain ⟨x2, X, M⟩ := bind_some M
  refine Ax 1 [] 10 (Ab x2) h H (fun D => .of (FK (by kernel_rfl) X)) fun D t H => ?_
  refine AG 2 [(12, .bool (decide (x2 ≥ 128)))] H fun D H => ?_
  obtain rfl := Ad M
  exact at_nil ⟨H.ls, A⟩
 clear A
 intro t D h1 hK
 obtain ⟨H, A⟩ := hK
 refine BK id (AX 12 H M (fun B M H => ?_) fun B M H => ?_)
 ·refine AF 1 (AL 1 [(2, .bool false)] H fun D H => AQ ?_)
  obtain rfl := Ad M
  exact ⟨.inl rfl, _, rH H, rfl, A⟩
 refine Bs 8 id ?_
 obtain ⟨x3, X, M⟩ := bind_some M
 refine Ax 1 [] 15 (.str x3) h1 H (fun D => .of (Cs (k := .i64) (k' := .i64) (lo := (some (148 : Int))) (hi := (some (156 : Int))) (by kernel_rfl) X)) fun D t H => ?_
 obtain ⟨⟨x4, x5⟩, X, M⟩ := bind_some M
 obtain ⟨v1, h2, R, rfl, E⟩ := G8 (av := [.str x3]) X (A.cut 0)
 replace A := A.De E
 refine A0 16 R H fun D t H => ?_
 refine Be 5 [(3, Ai x4), (4, Ai x5)] 15 H fun D H => AG 3 [(21, .bool (x5 == 0))] H fun D H => ?_
 obtain ⟨x6, O, M⟩ := bind_some M
 refine Al 11 (fun N Q => Has N 33 [(32, .bool x6)] ∧ HH g Q [] F) ?_ ?_
 ·rcases Ar O with ⟨B, M⟩ | ⟨B, M⟩
  ·replace H := H.kn 21 B
   obtain ⟨x7, X, M⟩ := bind_some M
   obtain ⟨v1, h4, R, rfl, E⟩ := FT (av := [.str p0, .bool false]) X (A.cut 0)
   replace A := A.De E
   refine Aq 2 [(22, Ai x4)] 24 R H fun D t H => ?_
   refine AG 2 [(26, .bool (x4 == x7))] H fun D H => ?_
   obtain ⟨x8, O, M⟩ := bind_some M
   refine Al 5 (fun N Q => Has N 33 [(21, .bool true), (31, .bool x8)] ∧ HH g Q [] F) ?_ ?_
   ·rcases Ar O with ⟨B, M⟩ | ⟨B, M⟩
    ·replace H := H.kn 26 B
     refine AG 5 [(31, .bool true)] H fun D H => ?_
     obtain rfl := Ad M
     exact at_nil ⟨H.ls, A⟩
    replace H := H.kn 26 B
    obtain ⟨x9, X, M⟩ := bind_some M
    obtain ⟨v1, h6, R, rfl, E⟩ := FT (av := [.str p0, .bool true]) X (A.cut 0)
    replace A := A.De E
    refine Aq 2 [(27, Ai x4)] 29 R H fun D t H => ?_
    refine AG 2 [(31, .bool (x4 == x9))] H fun D H => ?_
    obtain rfl := Ad M
    exact at_nil ⟨H.ls, A⟩
   clear A
   intro t D h5 hK
   obtain ⟨H, A⟩ := hK
   refine AG 1 [(32, .bool x8)] H fun D H => ?_
   obtain rfl := Ad M
   exact at_nil ⟨H.ls, A⟩
  replace H := H.kn 21 B
  refine AG 11 [(32, .bool false)] H fun D H => ?_
  obtain rfl := Ad M
  exact at_nil ⟨H.ls, A⟩
 clear A
 intro t D h3 hK
 obtain ⟨H, A⟩ := hK
 refine AL 1 [(2, .bool x6)] H fun D H => AQ ?_
 obtain rfl := Ad M
 exact ⟨.inl rfl, _, rH H, rfl, A⟩
def BE (p0 : List UInt8) (p1 : Int) (p2 : Int) (p3 : Bool) : Option (Int × Int) :=
 (D7 p0 (some p1) (some (i64.wrap (p1 + p2)))).bind fun x1 => (BW x1).bind fun (x2, x3) => Aa (((x3 == 0) && (decide (x2 < 0))) && (!p3)) (some ((0 : Int), (6 : Int))) (some (x2, x3))
theorem Bk {p0 p1 p2 p3 q0 q1} (M : BE p0 p1 p2 p3 = some (q0, q1)) (A : HH g h [] F) (hc : A9 (cfg.still 55) av = [.str p0, Ai p1, Ai p2, .bool p3] := by kernel_rfl) : ∃ v Q, BB cfg g h 55 av v Q ∧ v = .tuple [Ai q0, Ai q1] ∧ HH g Q [] F := by
 refine Dj 34 [.tmp 8, .tmp 9] hc ?_
 clear hc
 unfold BE at M
 refine bg 34 [(0, .str p0), (1, Ai p1), (2, Ai p2), (3, .bool p3)] fun D H => ?_
 refine AF 2 (Be 2 [] 12 H fun D H => ?_)
 obtain ⟨x1, X, M⟩ := bind_some M
 refine Ax 5 [] 18 (.str x1) h H (fun D => .of (Cs (k := .i64) (k' := .i64) (lo := (some p1)) (hi := (some (i64.wrap (p1 + p2)))) (by kernel_rfl) X)) fun D t H => ?_
 obtain ⟨⟨x2, x3⟩, X, M⟩ := bind_some M
 obtain ⟨v1, h1, R, rfl, E⟩ := G8 (av := [.str x1]) X (A.cut 0)
 replace A := A.De E
 refine A0 19 R H fun D t H => ?_
 refine AL 5 [(10, Ai x2), (11, Ai x3)] H fun D H => AN (AF 10 (AG 3 [(24, .bool (x3 == 0))] H fun D H => Al 3 (fun N Q => h1 = Q ∧ Has N 34 [(3, .bool p3), (10, Ai x2), (11, Ai x3), (27, .bool ((x3 == 0) && (decide (x2 < 0))))]) ?_ ?_))
 ·cases B : (x3 == 0 : Bool) with
  | true =>
   replace H := H.kn 24 B
   exact AG 3 [(27, .bool (decide (x2 < 0)))] H fun D H => Ac H B
  | false =>
   replace H := H.kn 24 B
   exact AG 3 [(27, .bool false)] H fun D H => Ac H B
 intro t D Q hK
 obtain ⟨e, H⟩ := hK
 subst e
 refine AG 1 [(28, .bool ((x3 == 0) && (decide (x2 < 0))))] H fun D H => Al 3 (fun N Q => h1 = Q ∧ Has N 34 [(10, Ai x2), (11, Ai x3), (31, .bool (((x3 == 0) && (decide (x2 < 0))) && (!p3)))]) ?_ ?_
 ·cases B : ((x3 == 0) && (decide (x2 < 0)) : Bool) with
  | true =>
   replace H := H.kn 28 B
   exact AG 3 [(31, .bool (!p3))] H fun D H => Ac H B
  | false =>
   replace H := H.kn 28 B
   exact AG 3 [(31, .bool false)] H fun D H => Ac H B
 intro t D Q hK
 obtain ⟨e, H⟩ := hK
 subst e
 refine BK id (AX 31 H M (fun B M H => ?_) fun B M H => ?_)
 ·refine AF 2 (AL 2 [(8, Ai 0), (9, Ai 6)] H fun D H => AQ ?_)
  obtain ⟨rfl, rfl⟩ := Bn M
  exact ⟨.inl rfl, _, rH H, rfl, A⟩
 refine Bs 4 id (AL 4 [(8, Ai x2), (9, Ai x3)] H fun D H => AQ ?_)
 obtain ⟨rfl, rfl⟩ := Bn M
 exact ⟨.inl rfl, _, rH H, rfl, A⟩
end
end Go.Av.L
