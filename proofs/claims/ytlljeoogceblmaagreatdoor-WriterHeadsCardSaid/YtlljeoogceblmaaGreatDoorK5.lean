/-
 A part.
-/
import Derived.Test.YtlljeoogceblmaaGreatDoorKCfg
import Derived.Test.YtlljeoogceblmaaGreatDoorK4
namespace Go.Av.L
open Go.Av Go.Lib
open IntKind (i64)
set_option maxRecDepth 10000
set_option linter.unusedVariables false
set_option linter.unusedSimpArgs false
variable {g : Gd} {h : AD} {F : List Ck} {av : List AB}
noncomputable section
def Dc (p0 : AR) (p1 : Int) : Option (AK × (List AA)) :=
 BS (Ov 32 (([] : List AA).length + p0.Extra.length)) <| (C0 p0.Name).bind fun (x1, x2, x3) => (Aa x3 (some (p0.Name, (([] : List AA) ++ p0.Extra))) ((Ay (([] : List AA) ++ p0.Extra) (⟨([112, 97, 116, 104] : UV), p0.Name⟩ : AA)).bind fun x6 => some (([] : UV), x6)) : Option (((List UInt8) × (List AA)))).bind fun (x4, x5) => (Aa (decide ((p0.Az.length : Int) ≤ 100)) (some (p0.Az, x5)) ((Ay x5 (⟨([108, 105, 110, 107, 112, 97, 116, 104] : UV), p0.Az⟩ : AA)).bind fun x9 => some (([] : UV), x9)) : Option (((List UInt8) × (List AA)))).bind fun (x7, x8) => (Aa (decide ((p0.Ah.length : Int) ≤ 32)) (some (p0.Ah, x8)) ((Ay x8 (⟨([117, 110, 97, 109, 101] : UV), p0.Ah⟩ : AA)).bind fun x12 => some (([] : UV), x12)) : Option (((List UInt8) × (List AA)))).bind fun (x10, x11) => (Aa (decide ((p0.Aj.length : Int) ≤ 32)) (some (p0.Aj, x11)) ((Ay x11 (⟨([103, 110, 97, 109, 101] : UV), p0.Aj⟩ : AA)).bind fun x15 => some (([] : UV), x15)) : Option (((List UInt8) × (List AA)))).bind fun (x13, x14) => (Aa (decide (p0.Br < 2097152)) (some (p0.Br, x14)) ((Ap p0.Br).bind fun x18 => (Ay x14 (⟨([117, 105, 100] : UV), x18⟩ : AA)).bind fun x19 => some ((0 : Int), x19)) : Option ((Int × (List AA)))).bind fun (x16, x17) => (Aa (decide (p0.CH < 2097152)) (some (p0.CH, x17)) ((Ap p0.CH).bind fun x22 => (Ay x17 (⟨([103, 105, 100] : UV), x22⟩ : AA)).bind fun x23 => some ((0 : Int), x23)) : Option ((Int × (List AA)))).bind fun (x20, x21) => (Aa (decide (p1 < 8589934592)) (some (p1, x21)) ((Ap p1).bind fun x26 => (Ay x21 (⟨([115, 105, 122, 101] : UV), x26⟩ : AA)).bind fun x27 => some ((0 : Int), x27)) : Option ((Int × (List AA)))).bind fun (x24, x25) => (Aa (((p0.Time.BV == 0) && (decide (p0.Time.Cn ≥ 0))) && (decide (p0.Time.Cn < 8589934592))) (some (p0.Time.Cn, x25)) ((CI p0.Time.Cn p0.Time.BV).bind fun x30 => (Ay x25 (⟨([109, 116, 105, 109, 101] : UV), x30⟩ : AA)).bind fun x31 => some ((0 : Int), x31)) : Option ((Int × (List AA)))).bind fun (x28, x29) => some ((⟨x4, x7, p0.Kind, p0.Mode, x16, x20, x24, x28, x10, x13, p0.An, p0.A2, (2 : Int)⟩ : AK), x29)
theorem Kb {p0 p1 q0 q1} (M : Dc p0 p1 = some (q0, q1)) (A : HH g h [] F) (hc : A9 (cfg.still 49) av = [.agg (AE p0), Ai p1] := by kernel_rfl) : ∃ v Q, BB cfg g h 49 av v Q ∧ ∃ (Dj : Option Nat), v = .tuple [.agg (AI q0), AP Dj q1.length] ∧ HH g Q [.Ag Dj 117 (Ag AJ q1)] F := by
 refine Dj 142 [.cell 4 35, .tmp 5] hc ?_
 clear hc
 unfold Dc at M
 refine bg 142 [(0, .agg (AE p0)), (1, Ai p1)] fun D H => ?_
 refine AF 3 ?_
 obtain ⟨h1, e1, A⟩ := A.pu (.cells none 2 (AE p0))
 refine BF 2 (.ptr (some (h.size, 0))) e1 H fun D t H => ?_
 obtain ⟨h2, e2, A⟩ := A.pu (.cells none 2 [.str ([] : UV), .str ([] : UV), Ab 0, Ai 0, Ai 0, Ai 0, Ai 0, Ai 0, .str ([] : UV), .str ([] : UV), Ai 0, Ai 0, Ai 0])
 refine BF 4 (.ptr (some (h1.size, 0))) e2 H fun D t H => ?_
 refine Be 1 [] 11 H fun D H => AV 1 [] 12 1 2 A H fun D t H => ?_
 refine AV 1 [] 14 1 3 A H fun D t H => ?_
 refine AV 1 [] 16 1 8 A H fun D t H => ?_
 refine AV 1 [] 18 1 9 A H fun D t H => ?_
 obtain ⟨h3, e3, A⟩ := A.pu (.cells none 2 [.str ([] : UV), .str ([] : UV), Ab 0, Ai 0, Ai 0, Ai 0, Ai 0, Ai 0, .str ([] : UV), .str ([] : UV), Ai 0, Ai 0, Ai 0])
 refine Jg 1 [(19, .agg [.str ([] : UV), .str ([] : UV), Ab p0.Kind, Ai p0.Mode, Ai (0 : Int), Ai (0 : Int), Ai (0 : Int), Ai (0 : Int), .str ([] : UV), .str ([] : UV), Ai p0.An, Ai p0.A2, Ai (2 : Int)])] 6 (.ptr (some (h2.size, 0))) e3 H fun D t H => ?_
 obtain ⟨h4, X, E⟩ := A.st 0 rfl (o := 0) (new := [.str ([] : UV), .str ([] : UV), Ab p0.Kind, Ai p0.Mode, Ai 0, Ai 0, Ai 0, Ai 0, .str ([] : UV), .str ([] : UV), Ai p0.An, Ai p0.A2, Ai 2]) (ds := [.str ([] : UV), .str ([] : UV), Ab p0.Kind, Ai p0.Mode, Ai 0, Ai 0, Ai 0, Ai 0, .str ([] : UV), .str ([] : UV), Ai p0.An, Ai p0.A2, Ai 2]) (Nat.le_of_ble_eq_true rfl) rfl rfl
 replace A : HH g h4 [.obj h2.size (.cells none 2 [.str ([] : UV), .str ([] : UV), Ab p0.Kind, Ai p0.Mode, Ai 0, Ai 0, Ai 0, Ai 0, .str ([] : UV), .str ([] : UV), Ai p0.An, Ai p0.A2, Ai 2]), .obj h1.size (.cells none 2 [.str ([] : UV), .str ([] : UV), Ab 0, Ai 0, Ai 0, Ai 0, Ai 0, Ai 0, .str ([] : UV), .str ([] : UV), Ai 0, Ai 0, Ai 0]), .obj h.size (.cells none 2 (AE p0))] F := E
 refine DG X H fun D t H => ?_
 refine CT 2 id ?_
 obtain ⟨h5, e4, A⟩ := A.pL 117 []
 refine BF 20 (AP (some h4.size) (([] : List AA).length)) e4 H fun D t H => ?_
 refine Be 1 [(7, AP (some h4.size) (([] : List AA).length))] 5 H fun D H => AV 2 [(21, AP (some h4.size) (([] : List AA).length))] 23 3 12 A H fun D t H => ?_
 replace A : HH g h5 [.Ag (some h4.size) 117 (Ag AJ ([] : List AA)), _, _, _] F := A
 obtain ⟨B, M⟩ := AO M
 obtain ⟨r1, h6, X, E⟩ := HH.Ju AS (by decide) A 0 (xs := ([] : List AA)) (ys := p0.Extra) rfl (VU AS _ p0.Extra) (AS.A9 _) rfl B
 replace A : HH g h6 [.Ag r1 117 (Ag AJ (([] : List AA) ++ p0.Extra)), _, _, _] F := E
 refine AZ 24 _ _ H (fun D => .of (GY (s := DT (some h4.size) (([] : List AA).length)) (by kernel_rfl) X)) fun D t H => ?_
 refine A5 1 [(1, Ai p1), (2, .ptr (some (h.size, 0))), (4, .ptr (some (h1.size, 0))), (6, .ptr (some (h2.size, 0))), (7, AP r1 ((([] : List AA) ++ p0.Extra).length))] H fun D H => CT 10 id (AV 1 [] 27 3 0 A H fun D t H => ?_)
 obtain ⟨⟨x1, x2, x3⟩, X, M⟩ := bind_some M
 obtain ⟨v1, h7, R, rfl, E⟩ := G1 (av := [.str p0.Name]) X (A.cut 0)
 replace A := A.De E
 refine A0 28 R H fun D t H => ?_
 refine AL 7 [(10, .bool x3)] H fun D H => AN ?_
 obtain ⟨o1, O, M⟩ := bind_some M
 refine Ao (Q' := fun e N Q => (∃ x4 x5, e = .normal ∧ (x4, x5) = o1 ∧ ∃ r2, Has N 142 [(1, Ai p1), (2, .ptr (some (h.size, 0))), (4, .ptr (some (h1.size, 0))), (6, .ptr (some (h2.size, 0))), (7, AP r2 x5.length)] ∧ HH g Q [.Ag r2 117 (Ag AJ x5), .obj h2.size (.cells none 2 [.str x4, .str ([] : UV), Ab p0.Kind, Ai p0.Mode, Ai 0, Ai 0, Ai 0, Ai 0, .str ([] : UV), .str ([] : UV), Ai p0.An, Ai p0.A2, Ai 2]), .obj h1.size (.cells none 2 [.str ([] : UV), .str ([] : UV), Ab 0, Ai 0, Ai 0, Ai 0, Ai 0, Ai 0, .str ([] : UV), .str ([] : UV), Ai 0, Ai 0, Ai 0]), .obj h.size (.cells none 2 (AE p0))] F) ∨ False) ?_ ?_
 ·replace M := O
  clear O
  refine AF 1 (AL 1 [(32, .bool x3)] H fun D H => AX 32 H M (fun B M H => ?_) fun B M H => ?_)
  ·refine BO 4 (AV 1 [] 34 3 0 A H fun D t H => ?_)
   obtain ⟨h8, X, A⟩ := A.s1 0 [.str p0.Name] [_, _, _, _, _, _, _, _, _, _, _, _, _]
   refine CO 1 [] X H fun D t H => ?_
   refine at_nil ?_
   exact .inl ⟨_, _, rfl, Ad M, _, H.ls, A⟩
  refine BO 6 (AV 2 [(36, AP r1 ((([] : List AA) ++ p0.Extra).length))] 38 3 0 A H fun D t H => ?_)
  obtain ⟨x6, X, M⟩ := bind_some M
  obtain ⟨v1, h9, R, rqw4, rfl, E⟩ := BT (av := [AP r1 ((([] : List AA) ++ p0.Extra).length), .agg [.str ([112, 97, 116, 104] : UV), .str p0.Name]]) X (A.cut 1)
  replace A := A.g12 E
  refine Aq 1 [] 40 R H fun D t H => ?_
  refine A5 1 [(1, Ai p1), (2, .ptr (some (h.size, 0))), (4, .ptr (some (h1.size, 0))), (6, .ptr (some (h2.size, 0))), (7, AP rqw4 x6.length)] H fun D H => at_nil ?_
  replace A := A.k4 0 2 3 4
  exact .inl ⟨_, _, rfl, Ad M, rqw4, H.ls, A⟩
 clear O
 clear A
 intro e D h10 hQ
 rcases hQ with ⟨x4, x5, rfl, rfl, r2, H, A⟩ | hF
 ·show AW _ _ _ _ _ _ _
  refine AN ?_
  obtain ⟨o2, O, M⟩ := bind_some M
  refine Ao (Q' := fun e N Q => (∃ x7 x8, e = .normal ∧ (x7, x8) = o2 ∧ ∃ r3, Has N 142 [(1, Ai p1), (2, .ptr (some (h.size, 0))), (4, .ptr (some (h1.size, 0))), (6, .ptr (some (h2.size, 0))), (7, AP r3 x8.length)] ∧ HH g Q [.Ag r3 117 (Ag AJ x8), .obj h2.size (.cells none 2 [.str x4, .str x7, Ab p0.Kind, Ai p0.Mode, Ai 0, Ai 0, Ai 0, Ai 0, .str ([] : UV), .str ([] : UV), Ai p0.An, Ai p0.A2, Ai 2]), .obj h1.size (.cells none 2 [.str ([] : UV), .str ([] : UV), Ab 0, Ai 0, Ai 0, Ai 0, Ai 0, Ai 0, .str ([] : UV), .str ([] : UV), Ai 0, Ai 0, Ai 0]), .obj h.size (.cells none 2 (AE p0))] F) ∨ False) ?_ ?_
  ·replace M := O
   clear O
   refine AF 4 (AV 1 [] 42 3 1 A H fun D t H => ?_)
   refine AL 2 [(44, .bool (decide ((p0.Az.length : Int) ≤ 100)))] H fun D H => AX 44 H M (fun B M H => ?_) fun B M H => ?_
   ·refine BO 4 (AV 1 [] 46 3 1 A H fun D t H => ?_)
    obtain ⟨h11, X, A⟩ := A.s1 1 [.str p0.Az] [_, _, _, _, _, _, _, _, _, _, _, _, _]
    refine CO 1 [] X H fun D t H => ?_
    refine at_nil ?_
    exact .inl ⟨_, _, rfl, Ad M, _, H.ls, A⟩
   refine BO 6 (AV 2 [(48, AP r2 x5.length)] 50 3 1 A H fun D t H => ?_)
   obtain ⟨x9, X, M⟩ := bind_some M
   obtain ⟨v1, h12, R, rqw5, rfl, E⟩ := BT (av := [AP r2 x5.length, .agg [.str ([108, 105, 110, 107, 112, 97, 116, 104] : UV), .str p0.Az]]) X (A.cut 1)
   replace A := A.g12 E
   refine Aq 1 [] 52 R H fun D t H => ?_
   refine A5 1 [(1, Ai p1), (2, .ptr (some (h.size, 0))), (4, .ptr (some (h1.size, 0))), (6, .ptr (some (h2.size, 0))), (7, AP rqw5 x9.length)] H fun D H => at_nil ?_
   replace A := A.k4 0 2 3 4
   exact .inl ⟨_, _, rfl, Ad M, rqw5, H.ls, A⟩
  clear O
  clear A
  intro e D h13 hQ
  rcases hQ with ⟨x7, x8, rfl, rfl, r3, H, A⟩ | hF
  ·show AW _ _ _ _ _ _ _
   refine AN ?_
   obtain ⟨o3, O, M⟩ := bind_some M
   refine Ao (Q' := fun e N Q => (∃ x10 x11, e = .normal ∧ (x10, x11) = o3 ∧ ∃ r4, Has N 142 [(1, Ai p1), (2, .ptr (some (h.size, 0))), (4, .ptr (some (h1.size, 0))), (6, .ptr (some (h2.size, 0))), (7, AP r4 x11.length)] ∧ HH g Q [.Ag r4 117 (Ag AJ x11), .obj h2.size (.cells none 2 [.str x4, .str x7, Ab p0.Kind, Ai p0.Mode, Ai 0, Ai 0, Ai 0, Ai 0, .str x10, .str ([] : UV), Ai p0.An, Ai p0.A2, Ai 2]), .obj h1.size (.cells none 2 [.str ([] : UV), .str ([] : UV), Ab 0, Ai 0, Ai 0, Ai 0, Ai 0, Ai 0, .str ([] : UV), .str ([] : UV), Ai 0, Ai 0, Ai 0]), .obj h.size (.cells none 2 (AE p0))] F) ∨ False) ?_ ?_
   ·replace M := O
    clear O
    refine AF 4 (AV 1 [] 54 3 6 A H fun D t H => ?_)
    refine AL 2 [(56, .bool (decide ((p0.Ah.length : Int) ≤ 32)))] H fun D H => AX 56 H M (fun B M H => ?_) fun B M H => ?_
    ·refine BO 4 (AV 1 [] 58 3 6 A H fun D t H => ?_)
     obtain ⟨h14, X, A⟩ := A.s1 8 [.str p0.Ah] [_, _, _, _, _, _, _, _, _, _, _, _, _]
     refine CO 1 [] X H fun D t H => ?_
     refine at_nil ?_
     exact .inl ⟨_, _, rfl, Ad M, _, H.ls, A⟩
    refine BO 6 (AV 2 [(60, AP r3 x8.length)] 62 3 6 A H fun D t H => ?_)
    obtain ⟨x12, X, M⟩ := bind_some M
    obtain ⟨v1, h15, R, rqw6, rfl, E⟩ := BT (av := [AP r3 x8.length, .agg [.str ([117, 110, 97, 109, 101] : UV), .str p0.Ah]]) X (A.cut 1)
    replace A := A.g12 E
    refine Aq 1 [] 64 R H fun D t H => ?_
    refine A5 1 [(1, Ai p1), (2, .ptr (some (h.size, 0))), (4, .ptr (some (h1.size, 0))), (6, .ptr (some (h2.size, 0))), (7, AP rqw6 x12.length)] H fun D H => at_nil ?_
    replace A := A.k4 0 2 3 4
    exact .inl ⟨_, _, rfl, Ad M, rqw6, H.ls, A⟩
   clear O
   clear A
   intro e D h16 hQ
   rcases hQ with ⟨x10, x11, rfl, rfl, r4, H, A⟩ | hF
   ·show AW _ _ _ _ _ _ _
    refine AN ?_
    obtain ⟨o4, O, M⟩ := bind_some M
    refine Ao (Q' := fun e N Q => (∃ x13 x14, e = .normal ∧ (x13, x14) = o4 ∧ ∃ r5, Has N 142 [(1, Ai p1), (2, .ptr (some (h.size, 0))), (4, .ptr (some (h1.size, 0))), (6, .ptr (some (h2.size, 0))), (7, AP r5 x14.length)] ∧ HH g Q [.Ag r5 117 (Ag AJ x14), .obj h2.size (.cells none 2 [.str x4, .str x7, Ab p0.Kind, Ai p0.Mode, Ai 0, Ai 0, Ai 0, Ai 0, .str x10, .str x13, Ai p0.An, Ai p0.A2, Ai 2]), .obj h1.size (.cells none 2 [.str ([] : UV), .str ([] : UV), Ab 0, Ai 0, Ai 0, Ai 0, Ai 0, Ai 0, .str ([] : UV), .str ([] : UV), Ai 0, Ai 0, Ai 0]), .obj h.size (.cells none 2 (AE p0))] F) ∨ False) ?_ ?_
    ·replace M := O
     clear O
     refine AF 4 (AV 1 [] 66 3 7 A H fun D t H => ?_)
     refine AL 2 [(68, .bool (decide ((p0.Aj.length : Int) ≤ 32)))] H fun D H => AX 68 H M (fun B M H => ?_) fun B M H => ?_
     ·refine BO 4 (AV 1 [] 70 3 7 A H fun D t H => ?_)
      obtain ⟨h17, X, A⟩ := A.s1 9 [.str p0.Aj] [_, _, _, _, _, _, _, _, _, _, _, _, _]
      refine CO 1 [] X H fun D t H => ?_
      refine at_nil ?_
      exact .inl ⟨_, _, rfl, Ad M, _, H.ls, A⟩
     refine BO 6 (AV 2 [(72, AP r4 x11.length)] 74 3 7 A H fun D t H => ?_)
     obtain ⟨x15, X, M⟩ := bind_some M
     obtain ⟨v1, h18, R, rqw7, rfl, E⟩ := BT (av := [AP r4 x11.length, .agg [.str ([103, 110, 97, 109, 101] : UV), .str p0.Aj]]) X (A.cut 1)
     replace A := A.g12 E
     refine Aq 1 [] 76 R H fun D t H => ?_
     refine A5 1 [(1, Ai p1), (2, .ptr (some (h.size, 0))), (4, .ptr (some (h1.size, 0))), (6, .ptr (some (h2.size, 0))), (7, AP rqw7 x15.length)] H fun D H => at_nil ?_
     replace A := A.k4 0 2 3 4
     exact .inl ⟨_, _, rfl, Ad M, rqw7, H.ls, A⟩
    clear O
    clear A
    intro e D h19 hQ
    rcases hQ with ⟨x13, x14, rfl, rfl, r5, H, A⟩ | hF
    ·show AW _ _ _ _ _ _ _
     refine AN ?_
     obtain ⟨o5, O, M⟩ := bind_some M
     refine Ao (Q' := fun e N Q => (∃ x16 x17, e = .normal ∧ (x16, x17) = o5 ∧ ∃ r6, Has N 142 [(1, Ai p1), (2, .ptr (some (h.size, 0))), (4, .ptr (some (h1.size, 0))), (6, .ptr (some (h2.size, 0))), (7, AP r6 x17.length)] ∧ HH g Q [.Ag r6 117 (Ag AJ x17), .obj h2.size (.cells none 2 [.str x4, .str x7, Ab p0.Kind, Ai p0.Mode, Ai x16, Ai 0, Ai 0, Ai 0, .str x10, .str x13, Ai p0.An, Ai p0.A2, Ai 2]), .obj h1.size (.cells none 2 [.str ([] : UV), .str ([] : UV), Ab 0, Ai 0, Ai 0, Ai 0, Ai 0, Ai 0, .str ([] : UV), .str ([] : UV), Ai 0, Ai 0, Ai 0]), .obj h.size (.cells none 2 (AE p0))] F) ∨ False) ?_ ?_
     ·replace M := O
      clear O
      refine AF 3 (AV 1 [] 78 3 4 A H fun D t H => ?_)
      refine AL 1 [(79, .bool (decide (p0.Br < 2097152)))] H fun D H => AX 79 H M (fun B M H => ?_) fun B M H => ?_
      ·refine BO 4 (AV 1 [] 81 3 4 A H fun D t H => ?_)
       obtain ⟨h20, X, A⟩ := A.s1 4 [Ai p0.Br] [_, _, _, _, _, _, _, _, _, _, _, _, _]
       refine CO 1 [] X H fun D t H => ?_
       refine at_nil ?_
       exact .inl ⟨_, _, rfl, Ad M, _, H.ls, A⟩
      refine BO 7 (AV 2 [(83, AP r5 x14.length)] 85 3 4 A H fun D t H => ?_)
      obtain ⟨x18, X, M⟩ := bind_some M
      obtain ⟨v1, h21, R, rfl, E⟩ := BH (av := [Ai p0.Br]) X (A.cut 0)
      replace A := A.De E
      refine A0 86 R H fun D t H => ?_
      obtain ⟨x19, X, M⟩ := bind_some M
      obtain ⟨v1, h22, R, rqw9, rfl, E⟩ := BT (av := [AP r5 x14.length, .agg [.str ([117, 105, 100] : UV), .str x18]]) X (A.cut 1)
      replace A := A.g12 E
      refine Aq 1 [] 88 R H fun D t H => ?_
      refine A5 1 [(1, Ai p1), (2, .ptr (some (h.size, 0))), (4, .ptr (some (h1.size, 0))), (6, .ptr (some (h2.size, 0))), (7, AP rqw9 x19.length)] H fun D H => at_nil ?_
      replace A := A.k4 0 2 3 4
      exact .inl ⟨_, _, rfl, Ad M, rqw9, H.ls, A⟩
     clear O
     clear A
     intro e D h23 hQ
     rcases hQ with ⟨x16, x17, rfl, rfl, r6, H, A⟩ | hF
     ·show AW _ _ _ _ _ _ _
      refine AN ?_
      obtain ⟨o6, O, M⟩ := bind_some M
      refine Ao (Q' := fun e N Q => (∃ x20 x21, e = .normal ∧ (x20, x21) = o6 ∧ ∃ r7, Has N 142 [(1, Ai p1), (2, .ptr (some (h.size, 0))), (4, .ptr (some (h1.size, 0))), (6, .ptr (some (h2.size, 0))), (7, AP r7 x21.length)] ∧ HH g Q [.Ag r7 117 (Ag AJ x21), .obj h2.size (.cells none 2 [.str x4, .str x7, Ab p0.Kind, Ai p0.Mode, Ai x16, Ai x20, Ai 0, Ai 0, .str x10, .str x13, Ai p0.An, Ai p0.A2, Ai 2]), .obj h1.size (.cells none 2 [.str ([] : UV), .str ([] : UV), Ab 0, Ai 0, Ai 0, Ai 0, Ai 0, Ai 0, .str ([] : UV), .str ([] : UV), Ai 0, Ai 0, Ai 0]), .obj h.size (.cells none 2 (AE p0))] F) ∨ False) ?_ ?_
      ·replace M := O
       clear O
       refine AF 3 (AV 1 [] 90 3 5 A H fun D t H => ?_)
       refine AL 1 [(91, .bool (decide (p0.CH < 2097152)))] H fun D H => AX 91 H M (fun B M H => ?_) fun B M H => ?_
       ·refine BO 4 (AV 1 [] 93 3 5 A H fun D t H => ?_)
        obtain ⟨h24, X, A⟩ := A.s1 5 [Ai p0.CH] [_, _, _, _, _, _, _, _, _, _, _, _, _]
        refine CO 1 [] X H fun D t H => ?_
        refine at_nil ?_
        exact .inl ⟨_, _, rfl, Ad M, _, H.ls, A⟩
       refine BO 7 (AV 2 [(95, AP r6 x17.length)] 97 3 5 A H fun D t H => ?_)
       obtain ⟨x22, X, M⟩ := bind_some M
       obtain ⟨v1, h25, R, rfl, E⟩ := BH (av := [Ai p0.CH]) X (A.cut 0)
       replace A := A.De E
       refine A0 98 R H fun D t H => ?_
       obtain ⟨x23, X, M⟩ := bind_some M
       obtain ⟨v1, h26, R, rqw11, rfl, E⟩ := BT (av := [AP r6 x17.length, .agg [.str ([103, 105, 100] : UV), .str x22]]) X (A.cut 1)
       replace A := A.g12 E
       refine Aq 1 [] 100 R H fun D t H => ?_
       refine A5 1 [(1, Ai p1), (2, .ptr (some (h.size, 0))), (4, .ptr (some (h1.size, 0))), (6, .ptr (some (h2.size, 0))), (7, AP rqw11 x23.length)] H fun D H => at_nil ?_
       replace A := A.k4 0 2 3 4
       exact .inl ⟨_, _, rfl, Ad M, rqw11, H.ls, A⟩
      clear O
      clear A
      intro e D h27 hQ
      rcases hQ with ⟨x20, x21, rfl, rfl, r7, H, A⟩ | hF
      ·show AW _ _ _ _ _ _ _
       refine AN ?_
       obtain ⟨o7, O, M⟩ := bind_some M
       refine Ao (Q' := fun e N Q => (∃ x24 x25, e = .normal ∧ (x24, x25) = o7 ∧ ∃ r8, Has N 142 [(2, .ptr (some (h.size, 0))), (4, .ptr (some (h1.size, 0))), (6, .ptr (some (h2.size, 0))), (7, AP r8 x25.length)] ∧ HH g Q [.Ag r8 117 (Ag AJ x25), .obj h2.size (.cells none 2 [.str x4, .str x7, Ab p0.Kind, Ai p0.Mode, Ai x16, Ai x20, Ai x24, Ai 0, .str x10, .str x13, Ai p0.An, Ai p0.A2, Ai 2]), .obj h1.size (.cells none 2 [.str ([] : UV), .str ([] : UV), Ab 0, Ai 0, Ai 0, Ai 0, Ai 0, Ai 0, .str ([] : UV), .str ([] : UV), Ai 0, Ai 0, Ai 0]), .obj h.size (.cells none 2 (AE p0))] F) ∨ False) ?_ ?_
       ·replace M := O
        clear O
        refine AF 2 (AL 2 [(102, .bool (decide (p1 < 8589934592)))] H fun D H => AX 102 H M (fun B M H => ?_) fun B M H => ?_)
        ·refine BO 3 ?_
         obtain ⟨h28, X, A⟩ := A.s1 6 [Ai p1] [_, _, _, _, _, _, _, _, _, _, _, _, _]
         refine CO 2 [] X H fun D t H => ?_
         refine at_nil ?_
         exact .inl ⟨_, _, rfl, Ad M, _, H.ls, A⟩
        refine BO 6 ?_
        obtain ⟨x26, X, M⟩ := bind_some M
        obtain ⟨v1, h29, R, rfl, E⟩ := BH (av := [Ai p1]) X (A.cut 0)
        replace A := A.De E
        refine Aq 2 [(105, AP r7 x21.length)] 107 R H fun D t H => ?_
        obtain ⟨x27, X, M⟩ := bind_some M
        obtain ⟨v1, h30, R, rqw13, rfl, E⟩ := BT (av := [AP r7 x21.length, .agg [.str ([115, 105, 122, 101] : UV), .str x26]]) X (A.cut 1)
        replace A := A.g12 E
        refine Aq 1 [] 109 R H fun D t H => ?_
        refine A5 1 [(2, .ptr (some (h.size, 0))), (4, .ptr (some (h1.size, 0))), (6, .ptr (some (h2.size, 0))), (7, AP rqw13 x27.length)] H fun D H => at_nil ?_
        replace A := A.k4 0 2 3 4
        exact .inl ⟨_, _, rfl, Ad M, rqw13, H.ls, A⟩
       clear O
       clear A
       intro e D h31 hQ
       rcases hQ with ⟨x24, x25, rfl, rfl, r8, H, A⟩ | hF
       ·show AW _ _ _ _ _ _ _
        refine AN ?_
        obtain ⟨o8, O, M⟩ := bind_some M
        refine Ao (Q' := fun e N Q => (∃ x28 x29, e = .normal ∧ (x28, x29) = o8 ∧ ∃ r9, Has N 142 [(4, .ptr (some (h1.size, 0))), (6, .ptr (some (h2.size, 0))), (7, AP r9 x29.length)] ∧ HH g Q [.Ag r9 117 (Ag AJ x29), .obj h2.size (.cells none 2 [.str x4, .str x7, Ab p0.Kind, Ai p0.Mode, Ai x16, Ai x20, Ai x24, Ai x28, .str x10, .str x13, Ai p0.An, Ai p0.A2, Ai 2]), .obj h1.size (.cells none 2 [.str ([] : UV), .str ([] : UV), Ab 0, Ai 0, Ai 0, Ai 0, Ai 0, Ai 0, .str ([] : UV), .str ([] : UV), Ai 0, Ai 0, Ai 0]), .obj h.size (.cells none 2 (AE p0))] F) ∨ False) ?_ ?_
        ·replace M := O
         clear O
         refine AF 16 (AV 2 [] 112 3 11 A H fun D t H => ?_)
         refine AG 2 [(114, .bool (p0.Time.BV == 0))] H fun D H => Al 5 (fun N Q => h31 = Q ∧ Has N 142 [(2, .ptr (some (h.size, 0))), (4, .ptr (some (h1.size, 0))), (6, .ptr (some (h2.size, 0))), (7, AP r8 x25.length), (119, .bool ((p0.Time.BV == 0) && (decide (p0.Time.Cn ≥ 0))))]) ?_ ?_
         ·cases B : (p0.Time.BV == 0 : Bool) with
          | true =>
           replace H := H.kn 114 B
           refine AV 2 [] 117 3 10 A H fun D t H => ?_
           exact AG 2 [(119, .bool (decide (p0.Time.Cn ≥ 0)))] H fun D H => Ac H B
          | false =>
           replace H := H.kn 114 B
           exact AG 5 [(119, .bool false)] H fun D H => Ac H B
         intro t D Q hK
         obtain ⟨e, H⟩ := hK
         subst e
         refine AG 1 [(120, .bool ((p0.Time.BV == 0) && (decide (p0.Time.Cn ≥ 0))))] H fun D H => Al 5 (fun N Q => h31 = Q ∧ Has N 142 [(2, .ptr (some (h.size, 0))), (4, .ptr (some (h1.size, 0))), (6, .ptr (some (h2.size, 0))), (7, AP r8 x25.length), (125, .bool (((p0.Time.BV == 0) && (decide (p0.Time.Cn ≥ 0))) && (decide (p0.Time.Cn < 8589934592))))]) ?_ ?_
         ·cases B : ((p0.Time.BV == 0) && (decide (p0.Time.Cn ≥ 0)) : Bool) with
          | true =>
           replace H := H.kn 120 B
           refine AV 2 [] 123 3 10 A H fun D t H => ?_
           exact AG 2 [(125, .bool (decide (p0.Time.Cn < 8589934592)))] H fun D H => Ac H B
          | false =>
           replace H := H.kn 120 B
           exact AG 5 [(125, .bool false)] H fun D H => Ac H B
         intro t D Q hK
         obtain ⟨e, H⟩ := hK
         subst e
         refine BK id (AX 125 H M (fun B M H => ?_) fun B M H => ?_)
         ·refine BO 5 (AV 2 [] 128 3 10 A H fun D t H => ?_)
          obtain ⟨h32, X, A⟩ := A.s1 7 [Ai p0.Time.Cn] [_, _, _, _, _, _, _, _, _, _, _, _, _]
          refine CO 1 [] X H fun D t H => ?_
          refine at_nil ?_
          exact .inl ⟨_, _, rfl, Ad M, _, H.ls, A⟩
         refine BO 11 (AV 3 [(130, AP r8 x25.length)] 133 3 10 A H fun D t H => ?_)
         refine AV 2 [] 136 3 11 A H fun D t H => ?_
         obtain ⟨x30, X, M⟩ := bind_some M
         obtain ⟨v1, h33, R, rfl, E⟩ := KL (av := [Ai p0.Time.Cn, Ai p0.Time.BV]) X (A.cut 0)
         replace A := A.De E
         refine A0 137 R H fun D t H => ?_
         obtain ⟨x31, X, M⟩ := bind_some M
         obtain ⟨v1, h34, R, rqw15, rfl, E⟩ := BT (av := [AP r8 x25.length, .agg [.str ([109, 116, 105, 109, 101] : UV), .str x30]]) X (A.cut 1)
         replace A := A.g12 E
         refine Aq 1 [] 139 R H fun D t H => ?_
         refine A5 1 [(4, .ptr (some (h1.size, 0))), (6, .ptr (some (h2.size, 0))), (7, AP rqw15 x31.length)] H fun D H => at_nil ?_
         replace A := A.k4 0 2 3 4
         exact .inl ⟨_, _, rfl, Ad M, rqw15, H.ls, A⟩
        clear O
        clear A
        intro e D h35 hQ
        rcases hQ with ⟨x28, x29, rfl, rfl, r9, H, A⟩ | hF
        ·show AW _ _ _ _ _ _ _
         refine AF 4 (AZ 140 _ _ H (fun D => .of (BD (by kernel_rfl) (A.ET 1 rfl (o := 0) (n := 13) ⟨Nat.le_of_ble_eq_true rfl, rfl⟩))) fun D t H => ?_)
         obtain ⟨h36, X, A⟩ := A.s2 0 [.str x4, .str x7, Ab p0.Kind, Ai p0.Mode, Ai x16, Ai x20, Ai x24, Ai x28, .str x10, .str x13, Ai p0.An, Ai p0.A2, Ai 2] [_, _, _, _, _, _, _, _, _, _, _, _, _]
         refine JI 1 [(141, AP r9 x29.length)] X H fun D t H => ?_
         refine AL 1 [(5, AP r9 x29.length)] H fun D H => AQ ?_
         obtain ⟨rfl, rfl⟩ := Bn M
         refine ⟨.inl rfl, .tuple [.agg [.str x4, .str x7, Ab p0.Kind, Ai p0.Mode, Ai x16, Ai x20, Ai x24, Ai x28, .str x10, .str x13, Ai p0.An, Ai p0.A2, Ai 2], AP r9 x29.length], DV (.cell (rT H) (C7 (by kernel_rfl) (by kernel_rfl) (A.la 2 0 13)) (.tmp (rT H) .nil)), ?_⟩
         replace A := A.d1
         exact ⟨r9, rfl, A⟩
        exact hF.elim
       exact hF.elim
      exact hF.elim
     exact hF.elim
    exact hF.elim
   exact hF.elim
  exact hF.elim
 exact hF.elim
def B0 (p0 : List AA) (s : Int) : Option ((Int) ⊕ ((Unit) ⊕ ((List UInt8) × Int))) :=
 match s with
 | x1 => Aa (decide (x1 < (p0.length : Int))) ((Hj p0 x1).bind fun x4 => (Bz x4).bind fun x5 => Aa (!x5) (some (.inr (.inr (([] : UV), (2 : Int))))) (some (.inl (i64.wrap (x1 + 1))))) (some (.inr (.inl ())))
def Bx (p0 : List AA) (s : (List UInt8) × Int) : Option (((List UInt8) × Int) ⊕ (((List UInt8)) ⊕ ((List UInt8) × Int))) :=
 match s with
 | (x6, x7) => Aa (decide (x7 < (p0.length : Int))) ((Hj p0 x7).bind fun x11 => (Hj p0 x7).bind fun x12 => (Hj p0 x7).bind fun x13 => (Dg x11).bind fun x14 => (Ap x14).bind fun x15 => BS (decide (x15.length + ([32] : UV).length ≤ 9223372036854775807)) <| BS (decide ((x15 ++ ([32] : UV)).length + x12.Key.length ≤ 9223372036854775807)) <| BS (decide (((x15 ++ ([32] : UV)) ++ x12.Key).length + ([61] : UV).length ≤ 9223372036854775807)) <| BS (decide ((((x15 ++ ([32] : UV)) ++ x12.Key) ++ ([61] : UV)).length + x13.Value.length ≤ 9223372036854775807)) <| BS (decide (((((x15 ++ ([32] : UV)) ++ x12.Key) ++ ([61] : UV)) ++ x13.Value).length + ([10] : UV).length ≤ 9223372036854775807)) <| BS (decide (x6.length + (((((x15 ++ ([32] : UV)) ++ x12.Key) ++ ([61] : UV)) ++ x13.Value) ++ ([10] : UV)).length ≤ 9223372036854775807)) <| Aa (decide (((x6 ++ (((((x15 ++ ([32] : UV)) ++ x12.Key) ++ ([61] : UV)) ++ x13.Value) ++ ([10] : UV))).length : Int) > 65536)) (some (.inr (.inr (([] : UV), (12 : Int))))) (some (.inl (x6 ++ (((((x15 ++ ([32] : UV)) ++ x12.Key) ++ ([61] : UV)) ++ x13.Value) ++ ([10] : UV)), i64.wrap (x7 + 1))))) (some (.inr (.inl x6)))
def Ci (p0 : List AA) : Option ((List UInt8) × Int) :=
 Aa (decide ((p0.length : Int) > 256)) (some (([] : UV), (8 : Int))) ((loop (B0 p0) (0 : Int)).bind fun o1 => (match o1 with | .inl _ => (loop (Bx p0) (([] : UV), (0 : Int))).bind fun o2 => (match o2 with | .inl x8 => some (x8, (0 : Int)) | .inr (x9, x10) => some (x9, x10)) | .inr (x2, x3) => some (x2, x3)))
theorem Ii {p0 rp0 q0 q1} (M : Ci p0 = some (q0, q1)) (A : HH g h [.Ag rp0 117 (Ag AJ p0)] F) (hc : A9 (cfg.still 50) av = [AP rp0 p0.length] := by kernel_rfl) : ∃ v Q, BB cfg g h 50 av v Q ∧ v = .tuple [.str q0, Ai q1] ∧ HH g Q [.Ag rp0 117 (Ag AJ p0)] F := by
 refine Dj 55 [.tmp 2, .tmp 3] hc ?_
 clear hc
 unfold Ci at M
 refine bg 55 [(0, AP rp0 p0.length)] fun D H => ?_
 refine AF 2 (AL 2 [] H fun D H => AN (AF 3 (AL 3 [(9, .bool (decide ((p0.length : Int) > 256)))] H fun D H => AX 9 H M (fun B M H => ?_) fun B M H => ?_)))
 ·refine AF 2 (AL 2 [(2, .str ([] : UV)), (3, Ai 8)] H fun D H => AQ ?_)
  obtain ⟨rfl, rfl⟩ := Bn M
  exact ⟨.inl rfl, _, rH H, rfl, A⟩
 refine Bl id (AN (AF 1 (AL 1 [(4, Ai 0)] H fun D H => Ae (id := 0) (by kernel_rfl) ?_)))
 obtain ⟨o1, O, M⟩ := bind_some M
 refine Ao (Q' := fun e N Q => (e = .exit 0 ∧ .inl () = o1 ∧ Has N 55 [(0, AP rp0 p0.length)] ∧ HH g Q [.Ag rp0 117 (Ag AJ p0)] F) ∨ (∃ x2 x3, e = .ret ∧ .inr (x2, x3) = o1 ∧ Has N 55 [(2, .str x2), (3, Ai x3)] ∧ HH g Q [.Ag rp0 117 (Ag AJ p0)] F) ∨ False) ?_ ?_
 ·refine Bc (by kernel_rfl) (fun (s : Int) N Q => ∃ x1, x1 = s ∧ Has N 55 [(0, AP rp0 p0.length), (4, Ai x1)] ∧ HH g Q [.Ag rp0 117 (Ag AJ p0)] F) O ⟨_, rfl, H.ls, A⟩ ?_
  clear O M H A
  intro s q D h1 hI M
  obtain ⟨x1, rfl, H, A⟩ := hI
  unfold B0 at M
  refine AN (AF 4 (AL 4 [(13, .bool (decide (x1 < (p0.length : Int))))] H fun D H => AX 13 H M (fun B M H => ?_) fun B M H => ?_))
  ·refine Bl id (AN (Ae (id := 1) (by kernel_rfl) ?_))
   refine AF 6 ?_
   obtain ⟨x4, X, M⟩ := bind_some M
   obtain ⟨i1, er1, _, X, hq1⟩ := HH.SL AS (by decide) A 0 (xs := p0) rfl X
   refine Ax 2 [] 18 (.ptr (some (i1, x1.toNat * 2))) h1 H (fun D => .of (HN (s := DT rp0 p0.length) (by kernel_rfl) X)) fun D t H => ?_
   refine AZ 19 _ _ H (fun D => .of (BD (by kernel_rfl) (Kt AS (HH.row A 0 rfl er1) hq1 0 2 (Nat.le_of_ble_eq_true rfl)))) fun D t H => ?_
   obtain ⟨x5, X, M⟩ := bind_some M
   obtain ⟨v1, h2, R, rfl, E⟩ := GZ (av := [.agg [.str x4.Key, .str x4.Value]]) X (A.cut 0)
   replace A := A.De E
   refine A0 20 R H fun D t H => ?_
   refine AL 1 [(21, .bool (!x5))] H fun D H => AX 21 H M (fun B M H => ?_) fun B M H => ?_
   ·refine AF 2 (AL 2 [(2, .str ([] : UV)), (3, Ai 2)] H fun D H => AQ ?_)
    exact nr M fun e => Or.inr (.inl ⟨_, _, rfl, e, H.ls, A⟩)
   refine FL 3 id (A5 3 [(0, AP rp0 p0.length), (4, Ai (i64.wrap (x1 + 1)))] H fun D H => at_nil ?_)
   exact nx M ⟨_, rfl, H.ls, A⟩
  refine Bb (i := 0) (by kernel_rfl) ?_
  exact nr M fun e => .inl ⟨rfl, e, H.ls, A⟩
 clear O
 clear A
 intro e D h3 hQ
 rcases hQ with ⟨rfl, rfl, H, A⟩ | ⟨x2, x3, rfl, rfl, H, A⟩ | hF
 ·show AW _ _ _ _ _ _ _
  refine AF 1 (AL 1 [(5, .str ([] : UV))] H fun D H => AN (AF 1 (AL 1 [(6, Ai 0)] H fun D H => Ae (id := 2) (by kernel_rfl) ?_)))
  obtain ⟨o2, O, M⟩ := bind_some M
  refine Ao (Q' := fun e N Q => (∃ x8, e = .exit 2 ∧ .inl x8 = o2 ∧ Has N 55 [(5, .str x8)] ∧ HH g Q [.Ag rp0 117 (Ag AJ p0)] F) ∨ (∃ x9 x10, e = .ret ∧ .inr (x9, x10) = o2 ∧ Has N 55 [(2, .str x9), (3, Ai x10)] ∧ HH g Q [.Ag rp0 117 (Ag AJ p0)] F) ∨ False) ?_ ?_
  ·refine Bc (by kernel_rfl) (fun (s : (List UInt8) × Int) N Q => ∃ x6 x7, (x6, x7) = s ∧ Has N 55 [(0, AP rp0 p0.length), (5, .str x6), (6, Ai x7)] ∧ HH g Q [.Ag rp0 117 (Ag AJ p0)] F) O ⟨_, _, rfl, H.ls, A⟩ ?_
   clear O M H A
   intro s q D h4 hI M
   obtain ⟨x6, x7, rfl, H, A⟩ := hI
   unfold Bx at M
   refine AN (AF 4 (AL 4 [(25, .bool (decide (x7 < (p0.length : Int))))] H fun D H => AX 25 H M (fun B M H => ?_) fun B M H => ?_))
   ·refine Bl id (AN (Ae (id := 3) (by kernel_rfl) ?_))
    refine AN (UI 12 24 [(0, []), (1, []), (2, []), (3, []), (4, []), (8, []), (9, []), (10, []), (11, []), (12, []), (15, []), (16, []), (17, []), (18, []), (19, []), (5, [12, 19]), (6, [12, 19]), (7, []), (13, []), (14, []), (20, []), (21, []), (22, []), (23, [])] ?_)
    refine AG 3 [(28, .str x6), (29, AP rp0 p0.length), (30, Ai x7)] H fun D H => ?_
    obtain ⟨x11, X, M⟩ := bind_some M
    obtain ⟨i2, er2, _, X, hq2⟩ := HH.SL AS (by decide) A 0 (xs := p0) rfl X
    refine BN 31 (.ptr (some (i2, x7.toNat * 2))) h4 [] (g.BP) H (fun D => .of (HN (s := DT rp0 p0.length) (by kernel_rfl) X)) (fun D H => ?_)
    refine BN 32 (.agg [.str x11.Key, .str x11.Value]) h4 [(4, i2)] (g.BP) H (fun D => .of (BD (by kernel_rfl) (Kt AS (HH.row A 0 rfl er2) hq2 0 2 (Nat.le_of_ble_eq_true rfl)))) (fun D H => ?_)
    refine AG 2 [(36, AP rp0 p0.length), (37, Ai x7)] H fun D H => ?_
    obtain ⟨x12, X, M⟩ := bind_some M
    obtain ⟨i3, er3, _, X, hq3⟩ := HH.SL AS (by decide) A 0 (xs := p0) rfl X
    refine BN 38 (.ptr (some (i3, x7.toNat * 2))) h4 [(4, i2)] (g.BP) H (fun D => .of (HN (s := DT rp0 p0.length) (by kernel_rfl) X)) (fun D H => ?_)
    refine AG 1 [(39, .ptr (some (i3, x7.toNat * 2)))] H fun D H => BN 40 (.str x12.Key) h4 [(12, i3), (4, i2)] (g.BP) H (fun D => .of (GN (by kernel_rfl) (IW AS (HH.row A 0 rfl er3) hq3 (o := 0) rfl))) (fun D H => ?_)
    refine AG 2 [(43, AP rp0 p0.length), (44, Ai x7)] H fun D H => ?_
    obtain ⟨x13, X, M⟩ := bind_some M
    obtain ⟨i4, er4, _, X, hq4⟩ := HH.SL AS (by decide) A 0 (xs := p0) rfl X
    refine BN 45 (.ptr (some (i4, x7.toNat * 2))) h4 [(12, i3), (4, i2)] (g.BP) H (fun D => .of (HN (s := DT rp0 p0.length) (by kernel_rfl) X)) (fun D H => ?_)
    refine AG 1 [(46, .ptr (some (i4, x7.toNat * 2 + 1)))] H fun D H => BN 47 (.str x13.Value) h4 [(19, i4), (12, i3), (4, i2)] (g.BP) H (fun D => .of (GN (by kernel_rfl) (IW AS (HH.row A 0 rfl er4) hq4 (o := 1) rfl))) (fun D H => ?_)
    have E := A.HD 0 (pr := [i4, i3]) (.cons 0 rfl (by simp [Ck.ids, er4]) (.cons 0 rfl (by simp [Ck.ids, er3]) .nil))
    obtain ⟨x14, X, M⟩ := bind_some M
    obtain ⟨v1, h5, R, rfl, E⟩ := J7 (av := [.agg [.str x11.Key, .str x11.Value]]) X E
    replace A := A.Sm E
    refine BN 33 (Ai x14) h5 [(19, i4), (12, i3), (4, i2)] (i4 :: i3 :: g.BP) H (fun D => Steps.call (by kernel_rfl) R) (fun D H => ?_)
    have E := A.HD 0 (pr := [i4, i3]) (.cons 0 rfl (by simp [Ck.ids, er4]) (.cons 0 rfl (by simp [Ck.ids, er3]) .nil))
    obtain ⟨x15, X, M⟩ := bind_some M
    obtain ⟨v1, h6, R, rfl, E⟩ := BH (av := [Ai x14]) X E
    replace A := A.Sm E
    refine BN 34 (.str x15) h6 [(19, i4), (12, i3), (4, i2)] (i4 :: i3 :: g.BP) H (fun D => Steps.call (by kernel_rfl) R) (fun D H => ?_)
    obtain ⟨B, M⟩ := AO M
    refine BN 35 (.str (x15 ++ ([32] : UV))) h6 [(19, i4), (12, i3), (4, i2)] (g.BP) H (fun D => .of (B1 (by kernel_rfl) B)) (fun D H => ?_)
    obtain ⟨B, M⟩ := AO M
    refine BN 41 (.str ((x15 ++ ([32] : UV)) ++ x12.Key)) h6 [(19, i4), (12, i3), (4, i2)] (g.BP) H (fun D => .of (B1 (by kernel_rfl) B)) (fun D H => ?_)
    obtain ⟨B, M⟩ := AO M
    refine BN 42 (.str (((x15 ++ ([32] : UV)) ++ x12.Key) ++ ([61] : UV))) h6 [(19, i4), (12, i3), (4, i2)] (g.BP) H (fun D => .of (B1 (by kernel_rfl) B)) (fun D H => ?_)
    obtain ⟨B, M⟩ := AO M
    refine BN 48 (.str ((((x15 ++ ([32] : UV)) ++ x12.Key) ++ ([61] : UV)) ++ x13.Value)) h6 [(19, i4), (12, i3), (4, i2)] (g.BP) H (fun D => .of (B1 (by kernel_rfl) B)) (fun D H => ?_)
    obtain ⟨B, M⟩ := AO M
    refine BN 49 (.str (((((x15 ++ ([32] : UV)) ++ x12.Key) ++ ([61] : UV)) ++ x13.Value) ++ ([10] : UV))) h6 [(19, i4), (12, i3), (4, i2)] (g.BP) H (fun D => .of (B1 (by kernel_rfl) B)) (fun D H => ?_)
    obtain ⟨B, M⟩ := AO M
    refine BN 50 (.str (x6 ++ (((((x15 ++ ([32] : UV)) ++ x12.Key) ++ ([61] : UV)) ++ x13.Value) ++ ([10] : UV)))) h6 [(19, i4), (12, i3), (4, i2)] (g.BP) H (fun D => .of (B1 (by kernel_rfl) B)) (fun D H => ?_)
    refine A5 1 [(0, AP rp0 p0.length), (5, .str (x6 ++ (((((x15 ++ ([32] : UV)) ++ x12.Key) ++ ([61] : UV)) ++ x13.Value) ++ ([10] : UV)))), (6, Ai x7)] H fun D H => CT 3 id (AL 3 [(53, .bool (decide (((x6 ++ (((((x15 ++ ([32] : UV)) ++ x12.Key) ++ ([61] : UV)) ++ x13.Value) ++ ([10] : UV))).length : Int) > 65536)))] H fun D H => AX 53 H M (fun B M H => ?_) fun B M H => ?_)
    ·refine AF 2 (AL 2 [(2, .str ([] : UV)), (3, Ai 12)] H fun D H => AQ ?_)
     exact nr M fun e => Or.inr (.inl ⟨_, _, rfl, e, H.ls, A⟩)
    refine FL 3 id (A5 3 [(0, AP rp0 p0.length), (5, .str (x6 ++ (((((x15 ++ ([32] : UV)) ++ x12.Key) ++ ([61] : UV)) ++ x13.Value) ++ ([10] : UV)))), (6, Ai (i64.wrap (x7 + 1)))] H fun D H => at_nil ?_)
    exact nx M ⟨_, _, rfl, H.ls, A⟩
   refine Bb (i := 2) (by kernel_rfl) ?_
   exact nr M fun e => .inl ⟨_, rfl, e, H.ls, A⟩
  clear O
  clear A
  intro e D h7 hQ
  rcases hQ with ⟨x8, rfl, rfl, H, A⟩ | ⟨x9, x10, rfl, rfl, H, A⟩ | hF
  ·show AW _ _ _ _ _ _ _
   refine AF 3 (AL 3 [(2, .str x8), (3, Ai 0)] H fun D H => AQ ?_)
   obtain ⟨rfl, rfl⟩ := Bn M
   exact ⟨.inl rfl, _, rH H, rfl, A⟩
  ·obtain ⟨rfl, rfl⟩ := Bn M
   exact ⟨.inl rfl, _, rH H, rfl, A⟩
  exact hF.elim
 ·obtain ⟨rfl, rfl⟩ := Bn M
  exact ⟨.inl rfl, _, rH H, rfl, A⟩
 exact hF.elim
def DU (p1 : Int) (s : (List UInt8)) : Option (((List UInt8)) ⊕ (((List UInt8)))) :=
 match s with
 | x3 => Aa (decide ((x3.length : Int) < p1)) (BS (decide (x3.length + ([0] : UV).length ≤ 9223372036854775807)) <| some (.inl (x3 ++ ([0] : UV)))) (some (.inr x3))
def EH (p0 : List UInt8) (p1 : Int) : Option ((List UInt8) × Bool) :=
 (Aa (((decide (p1 < 0)) || (decide (p1 > 512))) || (decide ((p0.length : Int) > p1))) (some true) ((Aw p0).bind fun x2 => some (!(x2 == p0))) : Option (Bool)).bind fun x1 => Aa x1 (some (([] : UV), false)) ((loop (DU p1) p0).bind fun x4 => some (x4, true))
theorem Js {p0 p1 q0 q1} (M : EH p0 p1 = some (q0, q1)) (A : HH g h [] F) (hc : A9 (cfg.still 164) av = [.str p0, Ai p1] := by kernel_rfl) : ∃ v Q, BB cfg g h 164 av v Q ∧ v = .tuple [.str q0, .bool q1] ∧ HH g Q [] F := by
 refine Dj 31 [.tmp 4, .tmp 5] hc ?_
 clear hc
 unfold EH at M
 refine bg 31 [(0, .str p0), (1, Ai p1)] fun D H => ?_
 refine AF 2 (AL 2 [] H fun D H => AN (AF 18 (AG 3 [(8, .bool (decide (p1 < 0)))] H fun D H => Al 3 (fun N Q => h = Q ∧ Has N 31 [(0, .str p0), (1, Ai p1), (11, .bool ((decide (p1 < 0)) || (decide (p1 > 512))))]) ?_ ?_)))
 ·cases B : (decide (p1 < 0) : Bool) with
  | true =>
   replace H := H.kn 8 B
   exact AG 3 [(11, .bool true)] H fun D H => Ac H B
  | false =>
   replace H := H.kn 8 B
   exact AG 3 [(11, .bool (decide (p1 > 512)))] H fun D H => Ac H B
 intro t D Q hK
 obtain ⟨e, H⟩ := hK
 subst e
 refine AG 1 [(12, .bool ((decide (p1 < 0)) || (decide (p1 > 512))))] H fun D H => Al 5 (fun N Q => h = Q ∧ Has N 31 [(0, .str p0), (1, Ai p1), (17, .bool (((decide (p1 < 0)) || (decide (p1 > 512))) || (decide ((p0.length : Int) > p1))))]) ?_ ?_
 ·cases B : ((decide (p1 < 0)) || (decide (p1 > 512)) : Bool) with
  | true =>
   replace H := H.kn 12 B
   exact AG 5 [(17, .bool true)] H fun D H => Ac H B
  | false =>
   replace H := H.kn 12 B
   exact AG 5 [(17, .bool (decide ((p0.length : Int) > p1)))] H fun D H => Ac H B
 intro t D Q hK
 obtain ⟨e, H⟩ := hK
 subst e
 refine AG 1 [(18, .bool (((decide (p1 < 0)) || (decide (p1 > 512))) || (decide ((p0.length : Int) > p1))))] H fun D H => ?_
 obtain ⟨x1, O, M⟩ := bind_some M
 refine Al 5 (fun N Q => Has N 31 [(0, .str p0), (1, Ai p1), (23, .bool x1)] ∧ HH g Q [] F) ?_ ?_
 ·rcases Ar O with ⟨B, M⟩ | ⟨B, M⟩
  ·replace H := H.kn 18 B
   refine AG 5 [(23, .bool true)] H fun D H => ?_
   obtain rfl := Ad M
   exact at_nil ⟨H.ls, A⟩
  replace H := H.kn 18 B
  obtain ⟨x2, X, M⟩ := bind_some M
  obtain ⟨v1, h2, R, rfl, E⟩ := BR (av := [.str p0]) X (A.cut 0)
  replace A := A.De E
  refine Aq 1 [] 20 R H fun D t H => ?_
  refine AG 3 [(23, .bool (!(x2 == p0)))] H fun D H => ?_
  obtain rfl := Ad M
  exact at_nil ⟨H.ls, A⟩
 clear A
 intro t D h1 hK
 obtain ⟨H, A⟩ := hK
 refine BK id (AX 23 H M (fun B M H => ?_) fun B M H => ?_)
 ·refine AF 2 (AL 2 [(4, .str ([] : UV)), (5, .bool false)] H fun D H => AQ ?_)
  obtain ⟨rfl, rfl⟩ := Bn M
  exact ⟨.inl rfl, _, rH H, rfl, A⟩
 refine Bl id (AN (Ae (id := 0) (by kernel_rfl) ?_))
 obtain ⟨o1, O, M⟩ := bind_some M
 refine Ao (Q' := fun e N Q => (∃ x4, e = .exit 0 ∧ x4 = o1 ∧ Has N 31 [(0, .str x4)] ∧ HH g Q [] F) ∨ False) ?_ ?_
 ·refine Bc (by kernel_rfl) (fun (s : (List UInt8)) N Q => ∃ x3, x3 = s ∧ Has N 31 [(0, .str x3), (1, Ai p1)] ∧ HH g Q [] F) O ⟨_, rfl, H.ls, A⟩ ?_
  clear O M H A
  intro s q D h3 hI M
  obtain ⟨x3, rfl, H, A⟩ := hI
  unfold DU at M
  refine AN (AF 4 (AL 4 [(27, .bool (decide ((x3.length : Int) < p1)))] H fun D H => AX 27 H M (fun B M H => ?_) fun B M H => ?_))
  ·refine Bl id (Ae (id := 1) (by kernel_rfl) ?_)
   refine BO 3 (AG 1 [(28, .str x3)] H fun D H => ?_)
   obtain ⟨B, M⟩ := AO M
   refine AZ 29 (.str (x3 ++ ([0] : UV))) h3 H (fun D => .of (B1 (by kernel_rfl) B)) fun D t H => ?_
   refine A5 1 [(0, .str (x3 ++ ([0] : UV))), (1, Ai p1)] H fun D H => at_nil ?_
   exact nx M ⟨_, rfl, H.ls, A⟩
  refine Bb (i := 0) (by kernel_rfl) ?_
  exact nr M fun e => .inl ⟨_, rfl, e, H.ls, A⟩
 clear O
 clear A
 intro e D h4 hQ
 rcases hQ with ⟨x4, rfl, rfl, H, A⟩ | hF
 ·show AW _ _ _ _ _ _ _
  refine AF 3 (AL 3 [(4, .str x4), (5, .bool true)] H fun D H => AQ ?_)
  obtain ⟨rfl, rfl⟩ := Bn M
  exact ⟨.inl rfl, _, rH H, rfl, A⟩
 exact hF.elim
def A3 (p0 : List UInt8) (p1 : Int) : Option ((List UInt8)) :=
 (EH p0 p1).bind fun (x1, x2) => some x1
theorem CQ {p0 p1 q0} (M : A3 p0 p1 = some q0) (A : HH g h [] F) (hc : A9 (cfg.still 108) av = [.str p0, Ai p1] := by kernel_rfl) : ∃ v Q, BB cfg g h 108 av v Q ∧ v = .str q0 ∧ HH g Q [] F := by
 refine Dj 14 [.tmp 4] hc ?_
 clear hc
 unfold A3 at M
 refine bg 14 [(0, .str p0), (1, Ai p1)] fun D H => ?_
 refine AF 1 (Be 1 [] 8 H fun D H => ?_)
 obtain ⟨⟨x1, x2⟩, X, M⟩ := bind_some M
 obtain ⟨v1, h1, R, rfl, E⟩ := Js (av := [.str p0, Ai p1]) X (A.cut 0)
 replace A := A.De E
 refine Aq 2 [] 10 R H fun D t H => ?_
 refine Be 5 [(5, .str x1)] 2 H fun D H => AL 2 [(4, .str x1)] H fun D H => AQ ?_
 obtain rfl := Ad M
 exact ⟨.inl rfl, _, rH H, rfl, A⟩
def Fy (p0 : Int) (p1 : Int) (s : Int × Int) : Option ((Int × Int) ⊕ ((Int))) :=
 match s with
 | (x1, x2) => Aa ((decide (x2 < p1)) && (decide (x1 < 18014398509481984))) (some (.inl (i64.wrap (x1 * p0), i64.wrap (x2 + 1)))) (some (.inr x1))
def DM (p0 : Int) (p1 : Int) : Option (Int) :=
 (loop (Fy p0 p1) ((1 : Int), (0 : Int))).bind fun x3 => some x3
theorem Jz {p0 p1 q0} (M : DM p0 p1 = some q0) (A : HH g h [] F) (hc : A9 (cfg.still 207) av = [Ai p0, Ai p1] := by kernel_rfl) : ∃ v Q, BB cfg g h 207 av v Q ∧ v = Ai q0 ∧ HH g Q [] F := by
 refine Dj 20 [.tmp 4] hc ?_
 clear hc
 unfold DM at M
 refine bg 20 [(0, Ai p0), (1, Ai p1)] fun D H => ?_
 refine AF 1 (Be 1 [] 1 H fun D H => AL 1 [(5, Ai 1)] H fun D H => AN (AF 1 (AL 1 [(6, Ai 0)] H fun D H => Ae (id := 0) (by kernel_rfl) ?_)))
 obtain ⟨o1, O, M⟩ := bind_some M
 refine Ao (Q' := fun e N Q => (∃ x3, e = .exit 0 ∧ x3 = o1 ∧ Has N 20 [(5, Ai x3)] ∧ HH g Q [] F) ∨ False) ?_ ?_
 ·refine Bc (by kernel_rfl) (fun (s : Int × Int) N Q => ∃ x1 x2, (x1, x2) = s ∧ Has N 20 [(0, Ai p0), (1, Ai p1), (5, Ai x1), (6, Ai x2)] ∧ HH g Q [] F) O ⟨_, _, rfl, H.ls, A⟩ ?_
  clear O M H A
  intro s q D h1 hI M
  obtain ⟨x1, x2, rfl, H, A⟩ := hI
  unfold Fy at M
  refine AN (AF 7 (AG 4 [(10, .bool (decide (x2 < p1)))] H fun D H => Al 3 (fun N Q => h1 = Q ∧ Has N 20 [(0, Ai p0), (1, Ai p1), (5, Ai x1), (6, Ai x2), (13, .bool ((decide (x2 < p1)) && (decide (x1 < 18014398509481984))))]) ?_ ?_))
  ·cases B : (decide (x2 < p1) : Bool) with
   | true =>
    replace H := H.kn 10 B
    exact AG 3 [(13, .bool (decide (x1 < 18014398509481984)))] H fun D H => Ac H B
   | false =>
    replace H := H.kn 10 B
    exact AG 3 [(13, .bool false)] H fun D H => Ac H B
  intro t D Q hK
  obtain ⟨e, H⟩ := hK
  subst e
  refine BK id (AX 13 H M (fun B M H => ?_) fun B M H => ?_)
  ·refine Bl id (AN (Ae (id := 1) (by kernel_rfl) ?_))
   refine BO 4 (A5 4 [(0, Ai p0), (1, Ai p1), (5, Ai (i64.wrap (x1 * p0))), (6, Ai x2)] H fun D H => FY 3 id (A5 3 [(0, Ai p0), (1, Ai p1), (5, Ai (i64.wrap (x1 * p0))), (6, Ai (i64.wrap (x2 + 1)))] H fun D H => at_nil ?_))
   exact nx M ⟨_, _, rfl, H.ls, A⟩
  refine Bb (i := 0) (by kernel_rfl) ?_
  exact nr M fun e => .inl ⟨_, rfl, e, H.ls, A⟩
 clear O
 clear A
 intro e D h2 hQ
 rcases hQ with ⟨x3, rfl, rfl, H, A⟩ | hF
 ·show AW _ _ _ _ _ _ _
  refine AF 2 (AL 2 [(4, Ai x3)] H fun D H => AQ ?_)
  obtain rfl := Ad M
  exact ⟨.inl rfl, _, rH H, rfl, A⟩
 exact hF.elim
def BU (p1 : Int) (s : Int × (List UInt8) × Int) : Option ((Int × (List UInt8) × Int) ⊕ (((List UInt8)))) :=
 match s with
 | (x3, x4, x5) => Aa (decide (x5 < p1)) ((D7 ([48, 49, 50, 51, 52, 53, 54, 55] : UV) (some (Int.tmod x3 (8 : Int))) (some (i64.wrap ((Int.tmod x3 (8 : Int)) + 1)))).bind fun x7 => BS (decide (x7.length + x4.length ≤ 9223372036854775807)) <| some (.inl (i64.wrap (Int.tdiv x3 (8 : Int)), x7 ++ x4, i64.wrap (x5 + 1)))) (some (.inr x4))
def DH (p0 : Int) (p1 : Int) : Option ((List UInt8) × Bool) :=
 (Aa (((decide (p1 < 2)) || (decide (p1 > 12))) || (decide (p0 < 0))) (some true) ((DM (8 : Int) (i64.wrap (p1 - 1))).bind fun x2 => some (decide (p0 ≥ x2))) : Option (Bool)).bind fun x1 => Aa x1 (some (([] : UV), false)) ((loop (BU p1) (p0, ([0] : UV), (1 : Int))).bind fun x6 => some (x6, true))
theorem Jv {p0 p1 q0 q1} (M : DH p0 p1 = some (q0, q1)) (A : HH g h [] F) (hc : A9 (cfg.still 165) av = [Ai p0, Ai p1] := by kernel_rfl) : ∃ v Q, BB cfg g h 165 av v Q ∧ v = .tuple [.str q0, .bool q1] ∧ HH g Q [] F := by
 refine Dj 41 [.tmp 4, .tmp 5] hc ?_
 clear hc
 unfold DH at M
 refine bg 41 [(0, Ai p0), (1, Ai p1)] fun D H => ?_
 refine AF 2 (AL 2 [] H fun D H => AN (AF 17 (AG 3 [(10, .bool (decide (p1 < 2)))] H fun D H => Al 3 (fun N Q => h = Q ∧ Has N 41 [(0, Ai p0), (1, Ai p1), (13, .bool ((decide (p1 < 2)) || (decide (p1 > 12))))]) ?_ ?_)))
 ·cases B : (decide (p1 < 2) : Bool) with
  | true =>
   replace H := H.kn 10 B
   exact AG 3 [(13, .bool true)] H fun D H => Ac H B
  | false =>
   replace H := H.kn 10 B
   exact AG 3 [(13, .bool (decide (p1 > 12)))] H fun D H => Ac H B
 intro t D Q hK
 obtain ⟨e, H⟩ := hK
 subst e
 refine AG 1 [(14, .bool ((decide (p1 < 2)) || (decide (p1 > 12))))] H fun D H => Al 3 (fun N Q => h = Q ∧ Has N 41 [(0, Ai p0), (1, Ai p1), (17, .bool (((decide (p1 < 2)) || (decide (p1 > 12))) || (decide (p0 < 0))))]) ?_ ?_
 ·cases B : ((decide (p1 < 2)) || (decide (p1 > 12)) : Bool) with
  | true =>
   replace H := H.kn 14 B
   exact AG 3 [(17, .bool true)] H fun D H => Ac H B
  | false =>
   replace H := H.kn 14 B
   exact AG 3 [(17, .bool (decide (p0 < 0)))] H fun D H => Ac H B
 intro t D Q hK
 obtain ⟨e, H⟩ := hK
 subst e
 refine AG 1 [(18, .bool (((decide (p1 < 2)) || (decide (p1 > 12))) || (decide (p0 < 0))))] H fun D H => ?_
 obtain ⟨x1, O, M⟩ := bind_some M
 refine Al 6 (fun N Q => Has N 41 [(0, Ai p0), (1, Ai p1), (24, .bool x1)] ∧ HH g Q [] F) ?_ ?_
 ·rcases Ar O with ⟨B, M⟩ | ⟨B, M⟩
  ·replace H := H.kn 18 B
   refine AG 6 [(24, .bool true)] H fun D H => ?_
   obtain rfl := Ad M
   exact at_nil ⟨H.ls, A⟩
  replace H := H.kn 18 B
  obtain ⟨x2, X, M⟩ := bind_some M
  obtain ⟨v1, h2, R, rfl, E⟩ := Jz (av := [Ai 8, Ai (i64.wrap (p1 - 1))]) X (A.cut 0)
  replace A := A.De E
  refine Aq 3 [(19, Ai p0)] 22 R H fun D t H => ?_
  refine AG 2 [(24, .bool (decide (p0 ≥ x2)))] H fun D H => ?_
  obtain rfl := Ad M
  exact at_nil ⟨H.ls, A⟩
 clear A
 intro t D h1 hK
 obtain ⟨H, A⟩ := hK
 refine BK id (AX 24 H M (fun B M H => ?_) fun B M H => ?_)
 ·refine AF 2 (AL 2 [(4, .str ([] : UV)), (5, .bool false)] H fun D H => AQ ?_)
  obtain ⟨rfl, rfl⟩ := Bn M
  exact ⟨.inl rfl, _, rH H, rfl, A⟩
 refine Bs 1 id (AL 1 [(6, .str ([0] : UV))] H fun D H => AN (AF 1 (AL 1 [(7, Ai 1)] H fun D H => Ae (id := 0) (by kernel_rfl) ?_)))
 obtain ⟨o1, O, M⟩ := bind_some M
 refine Ao (Q' := fun e N Q => (∃ x6, e = .exit 0 ∧ x6 = o1 ∧ Has N 41 [(6, .str x6)] ∧ HH g Q [] F) ∨ False) ?_ ?_
 ·refine Bc (by kernel_rfl) (fun (s : Int × (List UInt8) × Int) N Q => ∃ x3 x4 x5, (x3, x4, x5) = s ∧ Has N 41 [(0, Ai x3), (1, Ai p1), (6, .str x4), (7, Ai x5)] ∧ HH g Q [] F) O ⟨_, _, _, rfl, H.ls, A⟩ ?_
  clear O M H A
  intro s q D h3 hI M
  obtain ⟨x3, x4, x5, rfl, H, A⟩ := hI
  unfold BU at M
  refine AN (AF 3 (AL 3 [(27, .bool (decide (x5 < p1)))] H fun D H => AX 27 H M (fun B M H => ?_) fun B M H => ?_))
  ·refine Bl id (AN (Ae (id := 1) (by kernel_rfl) ?_))
   refine AF 9 ?_
   obtain ⟨x7, X, M⟩ := bind_some M
   refine Ax 5 [] 35 (.str x7) h3 H (fun D => .of (Cs (k := .i64) (k' := .i64) (lo := (some (Int.tmod x3 (8 : Int)))) (hi := (some (i64.wrap ((Int.tmod x3 (8 : Int)) + 1)))) (by kernel_rfl) X)) fun D t H => ?_
   refine AG 1 [(36, .str x4)] H fun D H => ?_
   obtain ⟨B, M⟩ := AO M
   refine AZ 37 (.str (x7 ++ x4)) h3 H (fun D => .of (B1 (by kernel_rfl) B)) fun D t H => ?_
   refine A5 1 [(0, Ai x3), (1, Ai p1), (6, .str (x7 ++ x4)), (7, Ai x5)] H fun D H => FY 3 id (A5 3 [(0, Ai (i64.wrap (Int.tdiv x3 (8 : Int)))), (1, Ai p1), (6, .str (x7 ++ x4)), (7, Ai x5)] H fun D H => FY 3 id (A5 3 [(0, Ai (i64.wrap (Int.tdiv x3 (8 : Int)))), (1, Ai p1), (6, .str (x7 ++ x4)), (7, Ai (i64.wrap (x5 + 1)))] H fun D H => at_nil ?_))
   exact nx M ⟨_, _, _, rfl, H.ls, A⟩
  refine Bb (i := 0) (by kernel_rfl) ?_
  exact nr M fun e => .inl ⟨_, rfl, e, H.ls, A⟩
 clear O
 clear A
 intro e D h4 hQ
 rcases hQ with ⟨x6, rfl, rfl, H, A⟩ | hF
 ·show AW _ _ _ _ _ _ _
  refine AF 3 (AL 3 [(4, .str x6), (5, .bool true)] H fun D H => AQ ?_)
  obtain ⟨rfl, rfl⟩ := Bn M
  exact ⟨.inl rfl, _, rH H, rfl, A⟩
 exact hF.elim
def A8 (p0 : Int) (p1 : Int) : Option ((List UInt8)) :=
 (DH p0 p1).bind fun (x1, x2) => some x1
theorem Bp {p0 p1 q0} (M : A8 p0 p1 = some q0) (A : HH g h [] F) (hc : A9 (cfg.still 109) av = [Ai p0, Ai p1] := by kernel_rfl) : ∃ v Q, BB cfg g h 109 av v Q ∧ v = .str q0 ∧ HH g Q [] F := by
 refine Dj 14 [.tmp 4] hc ?_
 clear hc
 unfold A8 at M
 refine bg 14 [(0, Ai p0), (1, Ai p1)] fun D H => ?_
 refine AF 1 (Be 1 [] 8 H fun D H => ?_)
 obtain ⟨⟨x1, x2⟩, X, M⟩ := bind_some M
 obtain ⟨v1, h1, R, rfl, E⟩ := Jv (av := [Ai p0, Ai p1]) X (A.cut 0)
 replace A := A.De E
 refine Aq 2 [] 10 R H fun D t H => ?_
 refine Be 5 [(5, .str x1)] 2 H fun D H => AL 2 [(4, .str x1)] H fun D H => AQ ?_
 obtain rfl := Ad M
 exact ⟨.inl rfl, _, rH H, rfl, A⟩
def D9 (p0 : List UInt8) (p1 : Bool) (s : Int × Int) : Option ((Int × Int) ⊕ ((Int))) :=
 match s with
 | (x1, x2) => Aa (decide (x2 < 512)) ((Aa ((decide (x2 ≥ 148)) && (decide (x2 ≤ 155))) (some (i64.wrap (x1 + 32))) ((Aa p1 ((MZ p0 x2).bind fun x6 => some (decide (x6 ≥ 128))) (some false) : Option (Bool)).bind fun x5 => Aa x5 ((MZ p0 x2).bind fun x7 => some (i64.wrap (x1 + (i64.wrap ((i64.wrap x7) - 256))))) ((MZ p0 x2).bind fun x8 => some (i64.wrap (x1 + (i64.wrap x8))))) : Option ((Int))).bind fun x4 => some (.inl (x4, i64.wrap (x2 + 1)))) (some (.inr x1))
def B2 (p0 : List UInt8) (p1 : Bool) : Option (Int) :=
 (loop (D9 p0 p1) ((0 : Int), (0 : Int))).bind fun x3 => some x3
theorem FT {p0 p1 q0} (M : B2 p0 p1 = some q0) (A : HH g h [] F) (hc : A9 (cfg.still 112) av = [.str p0, .bool p1] := by kernel_rfl) : ∃ v Q, BB cfg g h 112 av v Q ∧ v = Ai q0 ∧ HH g Q [] F := by
 refine Dj 40 [.tmp 4] hc ?_
 clear hc
 unfold B2 at M
 refine bg 40 [(0, .str p0), (1, .bool p1)] fun D H => ?_
 refine AF 1 (Be 1 [] 1 H fun D H => AL 1 [(5, Ai 0)] H fun D H => AN (AF 1 (AL 1 [(6, Ai 0)] H fun D H => Ae (id := 0) (by kernel_rfl) ?_)))
 obtain ⟨o1, O, M⟩ := bind_some M
 refine Ao (Q' := fun e N Q => (∃ x3, e = .exit 0 ∧ x3 = o1 ∧ Has N 40 [(5, Ai x3)] ∧ HH g Q [] F) ∨ False) ?_ ?_
 ·refine Bc (by kernel_rfl) (fun (s : Int × Int) N Q => ∃ x1 x2, (x1, x2) = s ∧ Has N 40 [(0, .str p0), (1, .bool p1), (5, Ai x1), (6, Ai x2)] ∧ HH g Q [] F) O ⟨_, _, rfl, H.ls, A⟩ ?_
  clear O M H A
  intro s q D h1 hI M
  obtain ⟨x1, x2, rfl, H, A⟩ := hI
  unfold D9 at M
  refine AN (AF 2 (AL 2 [(8, .bool (decide (x2 < 512)))] H fun D H => AX 8 H M (fun B M H => ?_) fun B M H => ?_))
  ·refine Bl id (AN ?_)
   obtain ⟨o2, O, M⟩ := bind_some M
   refine Ao (Q' := fun e N Q => (∃ x4, e = .normal ∧ x4 = o2 ∧ Has N 40 [(0, .str p0), (1, .bool p1), (5, Ai x4), (6, Ai x2)] ∧ HH g Q [] F) ∨ False) ?_ ?_
   ·replace M := O
    clear O
    refine Ae (id := 1) (by kernel_rfl) ?_
    refine AF 6 (AG 3 [(13, .bool (decide (x2 ≥ 148)))] H fun D H => Al 3 (fun N Q => h1 = Q ∧ Has N 40 [(0, .str p0), (1, .bool p1), (5, Ai x1), (6, Ai x2), (16, .bool ((decide (x2 ≥ 148)) && (decide (x2 ≤ 155))))]) ?_ ?_)
    ·cases B : (decide (x2 ≥ 148) : Bool) with
     | true =>
      replace H := H.kn 13 B
      exact AG 3 [(16, .bool (decide (x2 ≤ 155)))] H fun D H => Ac H B
     | false =>
      replace H := H.kn 13 B
      exact AG 3 [(16, .bool false)] H fun D H => Ac H B
    intro t D Q hK
    obtain ⟨e, H⟩ := hK
    subst e
    refine BK id (AX 16 H M (fun B M H => ?_) fun B M H => ?_)
    ·refine BO 3 (A5 3 [(0, .str p0), (1, .bool p1), (5, Ai (i64.wrap (x1 + 32))), (6, Ai x2)] H fun D H => at_nil ?_)
     exact .inl ⟨_, rfl, Ad M, H.ls, A⟩
    refine AF 7 (AG 2 [(20, .bool p1)] H fun D H => ?_)
    obtain ⟨x5, O, M⟩ := bind_some M
    refine Al 5 (fun N Q => Has N 40 [(0, .str p0), (1, .bool p1), (5, Ai x1), (6, Ai x2), (25, .bool x5)] ∧ HH g Q [] F) ?_ ?_
    ·rcases Ar O with ⟨B, M⟩ | ⟨B, M⟩
     ·replace H := H.kn 20 B
      obtain ⟨x6, X, M⟩ := bind_some M
      refine Ax 2 [] 23 (Ab x6) h1 H (fun D => .of (FK (by kernel_rfl) X)) fun D t H => ?_
      refine AG 2 [(25, .bool (decide (x6 ≥ 128)))] H fun D H => ?_
      obtain rfl := Ad M
      exact at_nil ⟨H.ls, A⟩
     replace H := H.kn 20 B
     refine AG 5 [(25, .bool false)] H fun D H => ?_
     obtain rfl := Ad M
     exact at_nil ⟨H.ls, A⟩
    clear A
    intro t D h2 hK
    obtain ⟨H, A⟩ := hK
    refine BK id (AX 25 H M (fun B M H => ?_) fun B M H => ?_)
    ·refine BO 8 ?_
     obtain ⟨x7, X, M⟩ := bind_some M
     refine Ax 3 [(26, Ai x1)] 29 (Ab x7) h2 H (fun D => .of (FK (by kernel_rfl) X)) fun D t H => ?_
     refine A5 4 [(0, .str p0), (1, .bool p1), (5, Ai (i64.wrap (x1 + (i64.wrap ((i64.wrap x7) - 256))))), (6, Ai x2)] H fun D H => at_nil ?_
     exact .inl ⟨_, rfl, Ad M, H.ls, A⟩
    refine BO 7 ?_
    obtain ⟨x8, X, M⟩ := bind_some M
    refine Ax 3 [(33, Ai x1)] 36 (Ab x8) h2 H (fun D => .of (FK (by kernel_rfl) X)) fun D t H => ?_
    refine A5 3 [(0, .str p0), (1, .bool p1), (5, Ai (i64.wrap (x1 + (i64.wrap x8)))), (6, Ai x2)] H fun D H => at_nil ?_
    exact .inl ⟨_, rfl, Ad M, H.ls, A⟩
   clear O
   clear A
   intro e D h3 hQ
   rcases hQ with ⟨x4, rfl, rfl, H, A⟩ | hF
   ·show AW _ _ _ _ _ _ _
    refine BO 3 (A5 3 [(0, .str p0), (1, .bool p1), (5, Ai x4), (6, Ai (i64.wrap (x2 + 1)))] H fun D H => at_nil ?_)
    exact nx M ⟨_, _, rfl, H.ls, A⟩
   exact hF.elim
  refine Bb (i := 0) (by kernel_rfl) ?_
  exact nr M fun e => .inl ⟨_, rfl, e, H.ls, A⟩
 clear O
 clear A
 intro e D h4 hQ
 rcases hQ with ⟨x3, rfl, rfl, H, A⟩ | hF
 ·show AW _ _ _ _ _ _ _
  refine AF 2 (AL 2 [(4, Ai x3)] H fun D H => AQ ?_)
  obtain rfl := Ad M
  exact ⟨.inl rfl, _, rH H, rfl, A⟩
 exact hF.elim
def B9 (s : Int × (List UInt8) × Int) : Option ((Int × (List UInt8) × Int) ⊕ (((List UInt8)))) :=
 match s with
 | (x2, x3, x4) => Aa (decide (x4 < 6)) ((D7 ([48, 49, 50, 51, 52, 53, 54, 55] : UV) (some (Int.tmod x2 (8 : Int))) (some (i64.wrap ((Int.tmod x2 (8 : Int)) + 1)))).bind fun x6 => BS (decide (x6.length + x3.length ≤ 9223372036854775807)) <| some (.inl (i64.wrap (Int.tdiv x2 (8 : Int)), x6 ++ x3, i64.wrap (x4 + 1)))) (some (.inr x3))
def Di (p0 : List UInt8) : Option ((List UInt8)) :=
 (B2 p0 false).bind fun x1 => (loop (B9) (x1, ([] : UV), (0 : Int))).bind fun x5 => (D7 p0 none (some (148 : Int))).bind fun x7 => BS (decide (x7.length + x5.length ≤ 9223372036854775807)) <| BS (decide ((x7 ++ x5).length + ([0, 32] : UV).length ≤ 9223372036854775807)) <| (D7 p0 (some (156 : Int)) none).bind fun x8 => BS (decide (((x7 ++ x5) ++ ([0, 32] : UV)).length + x8.length ≤ 9223372036854775807)) <| some (((x7 ++ x5) ++ ([0, 32] : UV)) ++ x8)
theorem Kn {p0 q0} (M : Di p0 = some q0) (A : HH g h [] F) (hc : A9 (cfg.still 110) av = [.str p0] := by kernel_rfl) : ∃ v Q, BB cfg g h 110 av v Q ∧ v = .str q0 ∧ HH g Q [] F := by
 refine Dj 30 [.tmp 2] hc ?_
 clear hc
 unfold Di at M
 refine bg 30 [(0, .str p0)] fun D H => ?_
 refine AF 1 (Be 1 [] 3 H fun D H => ?_)
 obtain ⟨x1, X, M⟩ := bind_some M
 obtain ⟨v1, h1, R, rfl, E⟩ := FT (av := [.str p0, .bool false]) X (A.cut 0)
 replace A := A.De E
 refine Aq 1 [] 7 R H fun D t H => ?_
 refine Be 1 [(3, Ai x1)] 1 H fun D H => AL 1 [(4, .str ([] : UV))] H fun D H => AN (AF 1 (AL 1 [(5, Ai 0)] H fun D H => Ae (id := 0) (by kernel_rfl) ?_))
 obtain ⟨o1, O, M⟩ := bind_some M
 refine Ao (Q' := fun e N Q => (∃ x5, e = .exit 0 ∧ x5 = o1 ∧ Has N 30 [(0, .str p0), (4, .str x5)] ∧ HH g Q [] F) ∨ False) ?_ ?_
 ·refine Bc (by kernel_rfl) (fun (s : Int × (List UInt8) × Int) N Q => ∃ x2 x3 x4, (x2, x3, x4) = s ∧ Has N 30 [(0, .str p0), (3, Ai x2), (4, .str x3), (5, Ai x4)] ∧ HH g Q [] F) O ⟨_, _, _, rfl, H.ls, A⟩ ?_
  clear O M H A
  intro s q D h2 hI M
  obtain ⟨x2, x3, x4, rfl, H, A⟩ := hI
  unfold B9 at M
  refine AN (AF 2 (AL 2 [(9, .bool (decide (x4 < 6)))] H fun D H => AX 9 H M (fun B M H => ?_) fun B M H => ?_))
  ·refine Bl id (AN (Ae (id := 1) (by kernel_rfl) ?_))
   refine AF 9 ?_
   obtain ⟨x6, X, M⟩ := bind_some M
   refine Ax 5 [] 17 (.str x6) h2 H (fun D => .of (Cs (k := .i64) (k' := .i64) (lo := (some (Int.tmod x2 (8 : Int)))) (hi := (some (i64.wrap ((Int.tmod x2 (8 : Int)) + 1)))) (by kernel_rfl) X)) fun D t H => ?_
   refine AG 1 [(18, .str x3)] H fun D H => ?_
   obtain ⟨B, M⟩ := AO M
   refine AZ 19 (.str (x6 ++ x3)) h2 H (fun D => .of (B1 (by kernel_rfl) B)) fun D t H => ?_
   refine A5 1 [(0, .str p0), (3, Ai x2), (4, .str (x6 ++ x3)), (5, Ai x4)] H fun D H => FY 3 id (A5 3 [(0, .str p0), (3, Ai (i64.wrap (Int.tdiv x2 (8 : Int)))), (4, .str (x6 ++ x3)), (5, Ai x4)] H fun D H => FY 3 id (A5 3 [(0, .str p0), (3, Ai (i64.wrap (Int.tdiv x2 (8 : Int)))), (4, .str (x6 ++ x3)), (5, Ai (i64.wrap (x4 + 1)))] H fun D H => at_nil ?_))
   exact nx M ⟨_, _, _, rfl, H.ls, A⟩
  refine Bb (i := 0) (by kernel_rfl) ?_
  exact nr M fun e => .inl ⟨_, rfl, e, H.ls, A⟩
 clear O
 clear A
 intro e D h3 hQ
 rcases hQ with ⟨x5, rfl, rfl, H, A⟩ | hF
 ·show AW _ _ _ _ _ _ _
  refine AN (HB 8 9 ?_)
  obtain ⟨x7, X, M⟩ := bind_some M
  refine Ax 1 [] 23 (.str x7) h3 H (fun D => .of (Cs (k := .i64) (k' := .i64) (lo := none) (hi := (some (148 : Int))) (by kernel_rfl) X)) fun D t H => ?_
  refine AG 1 [(24, .str x5)] H fun D H => ?_
  obtain ⟨B, M⟩ := AO M
  refine AZ 25 (.str (x7 ++ x5)) h3 H (fun D => .of (B1 (by kernel_rfl) B)) fun D t H => ?_
  obtain ⟨B, M⟩ := AO M
  refine AZ 26 (.str ((x7 ++ x5) ++ ([0, 32] : UV))) h3 H (fun D => .of (B1 (by kernel_rfl) B)) fun D t H => ?_
  obtain ⟨x8, X, M⟩ := bind_some M
  refine Ax 1 [] 28 (.str x8) h3 H (fun D => .of (Cs (k := .i64) (k' := .i64) (lo := (some (156 : Int))) (hi := none) (by kernel_rfl) X)) fun D t H => ?_
  obtain ⟨B, M⟩ := AO M
  refine AZ 29 (.str (((x7 ++ x5) ++ ([0, 32] : UV)) ++ x8)) h3 H (fun D => .of (B1 (by kernel_rfl) B)) fun D t H => ?_
  refine AL 1 [(2, .str (((x7 ++ x5) ++ ([0, 32] : UV)) ++ x8))] H fun D H => AQ ?_
  obtain rfl := Ad M
  exact ⟨.inl rfl, _, rH H, rfl, A⟩
 exact hF.elim
def C8 (s : (List UInt8)) : Option (((List UInt8)) ⊕ (((List UInt8)))) :=
 match s with
 | x1 => Aa ((Int.tmod (x1.length : Int) (512 : Int)) != 0) (BS (decide (x1.length + ([0] : UV).length ≤ 9223372036854775807)) <| some (.inl (x1 ++ ([0] : UV)))) (some (.inr x1))
def Dw (p0 : List UInt8) : Option ((List UInt8)) :=
 (loop (C8) p0).bind fun x2 => some x2
theorem K7 {p0 q0} (M : Dw p0 = some q0) (A : HH g h [] F) (hc : A9 (cfg.still 52) av = [.str p0] := by kernel_rfl) : ∃ v Q, BB cfg g h 52 av v Q ∧ v = .str q0 ∧ HH g Q [] F := by
 refine Dj 10 [.tmp 2] hc ?_
 clear hc
 unfold Dw at M
 refine bg 10 [(0, .str p0)] fun D H => ?_
 refine AF 1 (AL 1 [] H fun D H => AN (Ae (id := 0) (by kernel_rfl) ?_))
 obtain ⟨o1, O, M⟩ := bind_some M
 refine Ao (Q' := fun e N Q => (∃ x2, e = .exit 0 ∧ x2 = o1 ∧ Has N 10 [(0, .str x2)] ∧ HH g Q [] F) ∨ False) ?_ ?_
 ·refine Bc (by kernel_rfl) (fun (s : (List UInt8)) N Q => ∃ x1, x1 = s ∧ Has N 10 [(0, .str x1)] ∧ HH g Q [] F) O ⟨_, rfl, H.ls, A⟩ ?_
  clear O M H A
  intro s q D h1 hI M
  obtain ⟨x1, rfl, H, A⟩ := hI
  unfold C8 at M
  refine AN (AF 4 (AL 4 [(6, .bool ((Int.tmod (x1.length : Int) (512 : Int)) != 0))] H fun D H => AX 6 H M (fun B M H => ?_) fun B M H => ?_))
  ·refine Bl id (Ae (id := 1) (by kernel_rfl) ?_)
   refine BO 3 (AG 1 [(7, .str x1)] H fun D H => ?_)
   obtain ⟨B, M⟩ := AO M
   refine AZ 8 (.str (x1 ++ ([0] : UV))) h1 H (fun D => .of (B1 (by kernel_rfl) B)) fun D t H => ?_
   refine A5 1 [(0, .str (x1 ++ ([0] : UV)))] H fun D H => at_nil ?_
   exact nx M ⟨_, rfl, H.ls, A⟩
  refine Bb (i := 0) (by kernel_rfl) ?_
  exact nr M fun e => .inl ⟨_, rfl, e, H.ls, A⟩
 clear O
 clear A
 intro e D h2 hQ
 rcases hQ with ⟨x2, rfl, rfl, H, A⟩ | hF
 ·show AW _ _ _ _ _ _ _
  refine AF 2 (AL 2 [(2, .str x2)] H fun D H => AQ ?_)
  obtain rfl := Ad M
  exact ⟨.inl rfl, _, rH H, rfl, A⟩
 exact hF.elim
def DD (p0 : Int) (p1 : Int) (p2 : Int) : Option (Int) :=
 Aa (decide (p0 > 9007199254740991)) (some p0) (some (i64.wrap ((i64.wrap (p0 * p1)) + p2)))
theorem FO {p0 p1 p2 q0} (M : DD p0 p1 p2 = some q0) (A : HH g h [] F) (hc : A9 (cfg.still 166) av = [Ai p0, Ai p1, Ai p2] := by kernel_rfl) : ∃ v Q, BB cfg g h 166 av v Q ∧ v = Ai q0 ∧ HH g Q [] F := by
 refine Dj 15 [.tmp 6] hc ?_
 clear hc
 unfold DD at M
 refine bg 15 [(0, Ai p0), (1, Ai p1), (2, Ai p2)] fun D H => ?_
 refine AF 1 (AL 1 [] H fun D H => AN (AF 2 (AL 2 [(8, .bool (decide (p0 > 9007199254740991)))] H fun D H => AX 8 H M (fun B M H => ?_) fun B M H => ?_)))
 ·refine AF 2 (AL 2 [(6, Ai p0)] H fun D H => AQ ?_)
  obtain rfl := Ad M
  exact ⟨.inl rfl, _, rH H, rfl, A⟩
 refine Bs 6 id (AL 6 [(6, Ai (i64.wrap ((i64.wrap (p0 * p1)) + p2)))] H fun D H => AQ ?_)
 obtain rfl := Ad M
 exact ⟨.inl rfl, _, rH H, rfl, A⟩
def GA (p0 : List UInt8) (s : Int) : Option ((Int) ⊕ ((Unit) ⊕ (Bool))) :=
 match s with
 | x1 => Aa (decide (x1 < (p0.length : Int))) ((MZ p0 x1).bind fun x3 => Aa (x3 != 0) (some (.inr (.inr false))) (some (.inl (i64.wrap (x1 + 1))))) (some (.inr (.inl ())))
def E0 (p0 : List UInt8) : Option (Bool) :=
 (loop (GA p0) (0 : Int)).bind fun o1 => (match o1 with | .inl _ => some true | .inr x2 => some x2)
theorem J1 {p0 q0} (M : E0 p0 = some q0) (A : HH g h [] F) (hc : A9 (cfg.still 54) av = [.str p0] := by kernel_rfl) : ∃ v Q, BB cfg g h 54 av v Q ∧ v = .bool q0 ∧ HH g Q [] F := by
 refine Dj 14 [.tmp 2] hc ?_
 clear hc
 unfold E0 at M
 refine bg 14 [(0, .str p0)] fun D H => ?_
 refine AF 1 (AL 1 [] H fun D H => AN (AF 1 (AL 1 [(3, Ai 0)] H fun D H => Ae (id := 0) (by kernel_rfl) ?_)))
 obtain ⟨o1, O, M⟩ := bind_some M
 refine Ao (Q' := fun e N Q => (e = .exit 0 ∧ .inl () = o1 ∧ Has N 14 [] ∧ HH g Q [] F) ∨ (∃ x2, e = .ret ∧ .inr x2 = o1 ∧ Has N 14 [(2, .bool x2)] ∧ HH g Q [] F) ∨ False) ?_ ?_
 ·refine Bc (by kernel_rfl) (fun (s : Int) N Q => ∃ x1, x1 = s ∧ Has N 14 [(0, .str p0), (3, Ai x1)] ∧ HH g Q [] F) O ⟨_, rfl, H.ls, A⟩ ?_
  clear O M H A
  intro s q D h1 hI M
  obtain ⟨x1, rfl, H, A⟩ := hI
  unfold GA at M
  refine AN (AF 4 (AL 4 [(7, .bool (decide (x1 < (p0.length : Int))))] H fun D H => AX 7 H M (fun B M H => ?_) fun B M H => ?_))
  ·refine Bl id (AN (Ae (id := 1) (by kernel_rfl) ?_))
   refine AF 4 ?_
   obtain ⟨x3, X, M⟩ := bind_some M
   refine Ax 2 [] 12 (Ab x3) h1 H (fun D => .of (FK (by kernel_rfl) X)) fun D t H => ?_
   refine AL 1 [(13, .bool (x3 != 0))] H fun D H => AX 13 H M (fun B M H => ?_) fun B M H => ?_
   ·refine AF 1 (AL 1 [(2, .bool false)] H fun D H => AQ ?_)
    exact nr M fun e => Or.inr (.inl ⟨_, rfl, e, H.ls, A⟩)
   refine FL 3 id (A5 3 [(0, .str p0), (3, Ai (i64.wrap (x1 + 1)))] H fun D H => at_nil ?_)
   exact nx M ⟨_, rfl, H.ls, A⟩
  refine Bb (i := 0) (by kernel_rfl) ?_
  exact nr M fun e => .inl ⟨rfl, e, H.ls, A⟩
 clear O
 clear A
 intro e D h2 hQ
 rcases hQ with ⟨rfl, rfl, H, A⟩ | ⟨x2, rfl, rfl, H, A⟩ | hF
 ·show AW _ _ _ _ _ _ _
  refine AF 1 (AL 1 [(2, .bool true)] H fun D H => AQ ?_)
  obtain rfl := Ad M
  exact ⟨.inl rfl, _, rH H, rfl, A⟩
 ·obtain rfl := Ad M
  exact ⟨.inl rfl, _, rH H, rfl, A⟩
 exact hF.elim
end
end Go.Av.L
