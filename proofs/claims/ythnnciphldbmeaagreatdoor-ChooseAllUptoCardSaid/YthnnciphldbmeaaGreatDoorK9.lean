/-
 Models of functions, and that the abstract run tells them. Written by lift2.py.
-/
import Derived.Test.YthnnciphldbmeaaGreatDoorKCfg
import Derived.Test.YthnnciphldbmeaaGreatDoorK0
import Derived.Test.YthnnciphldbmeaaGreatDoorK3
import Derived.Test.YthnnciphldbmeaaGreatDoorK7
import Derived.Test.YthnnciphldbmeaaGreatDoorK8
namespace Go.Av.L
open Go.Av Go.Lib
set_option maxRecDepth 10000
set_option maxHeartbeats 4000000
set_option linter.unusedVariables false
set_option linter.unusedSimpArgs false
variable {g : Gd} {h : AH} {F : List Ck} {av : List AA}
noncomputable section
def Db (p0 : AV) (p1 : List (List UInt8)) : Option (Bool) :=
 (Co p0).bind fun x1 => Ae (((x1 || (decide ((p1.length : Int) > 4))) || (decide ((p0.Name.length : Int) > 4096))) || (decide ((p0.Bf.length : Int) > 4096))) ((CI).bind fun x2 => some x2) ((FE).bind fun _ => (G2 (⟨([] : List AP), ([] : List AP), ([] : List A0), false, false, (0 : Int), false, (⟨(0 : Int), (0 : Int)⟩ : Aw), (0 : Int), (0 : Int), (4096 : Int), (65536 : Int), (4096 : Int)⟩ : Bb)).bind fun (w5, x5) => (match w5 with | some x4w4 => Ae ((x5 != 0) || false) (some false) ((C7 p0).bind fun x6 => Ae (x6 != 0) ((CI).bind fun x7 => some x7) ((C8 p1).bind fun x8w9 => (CO x4w4 p0 x8w9).bind fun (x9, x10, x11, x12) => (Ae ((x10 == 0) && (x11 == 0)) ((DM x9 p0).bind fun x14 => some x14) (some false) : Option (Bool)).bind fun x13 => (Ae x13 ((CI).bind fun x16 => some x16) (some false) : Option (Bool)).bind fun x15 => some x15)) | none => Ae ((x5 != 0) || true) (some false) ((C7 p0).bind fun x17 => Ae (x17 != 0) ((CI).bind fun x18 => some x18) ((C8 p1).bind fun x19w17 => (FI p0 x19w17).bind fun (x20, x21, x22) => (Ae ((x21 == 0) && (x22 == 0)) ((DM x20 p0).bind fun x24 => some x24) (some false) : Option (Bool)).bind fun x23 => (Ae x23 ((CI).bind fun x26 => some x26) (some false) : Option (Bool)).bind fun x25 => some x25))))
theorem Iu {p0 p1 q0} (hm : Db p0 p1 = some q0) (A : HH g h [] F) (hc : BI (cfg.still 4) av = [.agg (AD p0), vs eS p1] := by kernel_rfl) : ∃ v h', BL cfg g h 4 av v h' ∧ v = .bool q0 ∧ HH g h' [] F := by
 refine D5 68 [.tmp 4] hc ?_
 clear hc
 unfold Db at hm
 refine bg 68 [(0, .agg (AD p0)), (1, vs eS p1)] fun fr H => ?_
 refine AG 2 ?_
 obtain ⟨h1, e1, A⟩ := A.pu (.cells none 2 (AD p0))
 refine BC 2 (.ptr (some (h.size, 0))) e1 H fun fr t H => ?_
 refine AN 1 [] H fun fr H => AQ (AG 19 (Az 10 _ _ H (fun fr => .of (Bs (by kernel_rfl) (A.GA 0 rfl (o := 0) (n := 14) ⟨Nat.le_of_ble_eq_true rfl, rfl⟩))) fun fr t H => ?_))
 obtain ⟨x1, hx, hm⟩ := bind_some hm
 obtain ⟨v1, h2, hr, rfl, A1⟩ := K5 (av := [.agg (AD p0)]) hx (A.cut 0)
 replace A : HH g h2 [.obj h.size (.cells none 2 (AD p0))] F := A.CL (n := 0) A1
 refine Ay 11 hr H fun fr t H => ?_
 refine AF 1 [(12, .bool x1)] H fun fr H => An 4 (fun fr' h' => h2 = h' ∧ Has fr' 68 [(1, vs eS p1), (2, .ptr (some (h.size, 0))), (16, .bool (x1 || (decide ((p1.length : Int) > 4))))]) ?_ ?_
 ·cases hb : (x1 : Bool) with
  | true =>
   replace H := H.kn 12 hb
   exact AF 4 [(16, .bool true)] H fun fr H => AY H hb
  | false =>
   replace H := H.kn 12 hb
   exact AF 4 [(16, .bool (decide ((p1.length : Int) > 4)))] H fun fr H => AY H hb
 intro t fr h' hK
 obtain ⟨e, H⟩ := hK
 subst e
 refine AF 1 [(17, .bool (x1 || (decide ((p1.length : Int) > 4))))] H fun fr H => An 5 (fun fr' h' => h2 = h' ∧ Has fr' 68 [(1, vs eS p1), (2, .ptr (some (h.size, 0))), (22, .bool ((x1 || (decide ((p1.length : Int) > 4))) || (decide ((p0.Name.length : Int) > 4096))))]) ?_ ?_
 ·cases hb : (x1 || (decide ((p1.length : Int) > 4)) : Bool) with
  | true =>
   replace H := H.kn 17 hb
   exact AF 5 [(22, .bool true)] H fun fr H => AY H hb
  | false =>
   replace H := H.kn 17 hb
   refine AR 1 [] 19 0 0 A H fun fr t H => ?_
   exact AF 3 [(22, .bool (decide ((p0.Name.length : Int) > 4096)))] H fun fr H => AY H hb
 intro t fr h' hK
 obtain ⟨e, H⟩ := hK
 subst e
 refine AF 1 [(23, .bool ((x1 || (decide ((p1.length : Int) > 4))) || (decide ((p0.Name.length : Int) > 4096))))] H fun fr H => An 5 (fun fr' h' => h2 = h' ∧ Has fr' 68 [(1, vs eS p1), (2, .ptr (some (h.size, 0))), (28, .bool (((x1 || (decide ((p1.length : Int) > 4))) || (decide ((p0.Name.length : Int) > 4096))) || (decide ((p0.Bf.length : Int) > 4096))))]) ?_ ?_
 ·cases hb : ((x1 || (decide ((p1.length : Int) > 4))) || (decide ((p0.Name.length : Int) > 4096)) : Bool) with
  | true =>
   replace H := H.kn 23 hb
   exact AF 5 [(28, .bool true)] H fun fr H => AY H hb
  | false =>
   replace H := H.kn 23 hb
   refine AR 1 [] 25 0 1 A H fun fr t H => ?_
   exact AF 3 [(28, .bool (decide ((p0.Bf.length : Int) > 4096)))] H fun fr H => AY H hb
 intro t fr h' hK
 obtain ⟨e, H⟩ := hK
 subst e
 refine BB id (Ak 28 H hm (fun hb hm H => ?_) fun hb hm H => ?_)
 ·refine AG 2 ?_
  obtain ⟨x2, hx, hm⟩ := bind_some hm
  obtain ⟨v1, h3, hr, rfl, A1⟩ := DU (av := []) hx (A.cut 0)
  replace A := A.EV A1
  refine Ay 29 hr H fun fr t H => ?_
  refine AN 1 [(4, .bool x2)] H fun fr H => AS ?_
  obtain rfl := Aa hm
  refine ⟨.inl rfl, .bool x2, rH H, ?_⟩
  replace A := A.d0
  exact ⟨rfl, A⟩
 refine Cm 7 id ?_
 obtain ⟨⟨⟩, hx, hm⟩ := bind_some hm
 obtain ⟨v1, h4, hr, rfl, A1⟩ := Iw (av := []) hx (A.cut 0)
 replace A := A.EV A1
 refine Ay 31 hr H fun fr t H => ?_
 obtain ⟨⟨w5, x5⟩, hx, hm⟩ := bind_some hm
 obtain ⟨v1, h5, hr, hc⟩ := LY (av := [.agg [.slice none 0, .slice none 0, .slice none 0, .bool false, .bool false, Ai 0, .bool false, Ai 0, Ai 0, Ai 0, Ai 0, Ai 4096, Ai 65536, Ai 4096]]) hx (A.cut 0)
 rcases hc with ⟨bx4w4, rx4w4_14, rx4w4_15, bx4w4_16, rx4w4_16_0, bx4w4_17, x4w4, rfl, rfl, A1⟩ | ⟨rfl, rfl, A1⟩
 ·replace A : HH g h5 [.obj bx4w4 (.cells none 2 [vs AE x4w4.c_.Ah, vs AE x4w4.c_.Aj, vs AJ x4w4.c_.Bl, .bool x4w4.c_.Ho, .bool x4w4.c_.BP, Ai x4w4.c_.Bm, .bool x4w4.c_.CC, Ai x4w4.c_.BD.DF, Ai x4w4.c_.BD.Bp, Ai x4w4.c_.HG, Ai x4w4.c_.B3, Ai x4w4.c_.Name, Ai x4w4.c_.Head, Ai x4w4.c_.Bd, AI rx4w4_14 x4w4.AZ.length, AI rx4w4_15 x4w4.Ac.length, .ptr (some (bx4w4_16, 0)), .ptr (some (bx4w4_17, 0))]), .AL rx4w4_14 136 (AL (eP AB) x4w4.AZ), .AL rx4w4_15 136 (AL (eP AB) x4w4.Ac), .obj bx4w4_16 (.cells none 2 [AI rx4w4_16_0 x4w4.Ad.l_.length, Ai x4w4.Ad.Ba]), .AL rx4w4_16_0 142 (AL (eP AK) x4w4.Ad.l_), .obj bx4w4_17 (.cells none 2 ([Ai x4w4.Ap.n_, Ai x4w4.Ap.Aq] ++ (Cl 257 (AA.int .i64) x4w4.Ap.BJ ++ []))), _] F := A.CL (n := 0) A1
  refine Ay 32 hr H fun fr t H => ?_
  refine AN 5 [(5, .ptr (some (bx4w4, 0))), (6, Ai x5)] H fun fr H => AQ (AG 6 (AF 3 [(37, .bool (x5 != 0))] H fun fr H => An 3 (fun fr' h' => h5 = h' ∧ Has fr' 68 [(1, vs eS p1), (2, .ptr (some (h.size, 0))), (5, .ptr (some (bx4w4, 0))), (40, .bool ((x5 != 0) || false))]) ?_ ?_))
  ·cases hb : (x5 != 0 : Bool) with
   | true =>
    replace H := H.kn 37 hb
    exact AF 3 [(40, .bool true)] H fun fr H => AY H hb
   | false =>
    replace H := H.kn 37 hb
    exact AF 3 [(40, .bool false)] H fun fr H => AY H hb
  intro t fr h' hK
  obtain ⟨e, H⟩ := hK
  subst e
  refine BB id (Ak 40 H hm (fun hb hm H => ?_) fun hb hm H => ?_)
  ·refine AG 1 (AN 1 [(4, .bool false)] H fun fr H => AS ?_)
   obtain rfl := Aa hm
   refine ⟨.inl rfl, .bool false, rH H, ?_⟩
   replace A := A.d0
   exact ⟨rfl, A⟩
  refine Be id (AQ (AG 3 (Az 41 _ _ H (fun fr => .of (Bs (by kernel_rfl) (A.GA 6 rfl (o := 0) (n := 14) ⟨Nat.le_of_ble_eq_true rfl, rfl⟩))) fun fr t H => ?_)))
  obtain ⟨x6, hx, hm⟩ := bind_some hm
  obtain ⟨v1, h6, hr, rfl, A1⟩ := HE (av := [.agg (AD p0)]) hx (A.cut 0)
  replace A := A.EV A1
  refine Ay 42 hr H fun fr t H => ?_
  refine AN 1 [(43, .bool (x6 != 0))] H fun fr H => Ak 43 H hm (fun hb hm H => ?_) fun hb hm H => ?_
  ·refine AG 2 ?_
   obtain ⟨x7, hx, hm⟩ := bind_some hm
   obtain ⟨v1, h7, hr, rfl, A1⟩ := DU (av := []) hx (A.cut 0)
   replace A := A.EV A1
   refine Ay 44 hr H fun fr t H => ?_
   refine AN 1 [(4, .bool x7)] H fun fr H => AS ?_
   obtain rfl := Aa hm
   refine ⟨.inl rfl, .bool x7, rH H, ?_⟩
   replace A := A.d0
   exact ⟨rfl, A⟩
  refine Be id (AQ (Jk 8 13 [(0, []), (1, []), (2, []), (9, []), (3, [1, 9]), (4, [9]), (5, []), (6, []), (7, []), (8, []), (10, []), (11, []), (12, [])] ?_))
  refine AF 1 [(46, .ptr (some (bx4w4, 0)))] H fun fr H => B0 47 (.agg (AD p0)) h6 [(1, h.size)] (g.BU) H (fun fr => .of (Bs (by kernel_rfl) (A.la 6 0 14))) (fun fr H => ?_)
  refine AF 1 [(48, vs eS p1)] H fun fr H => ?_
  obtain ⟨h8, e2, A⟩ := A.pu (.cells none 2 [.str ([] : List UInt8), .str ([] : List UInt8), Ab 0, Ai 0, Ai 0, Ai 0, .str ([] : List UInt8), .str ([] : List UInt8), Ai 0, Ai 0, Ai 0, Ai 0, .slice none 0, .str ([] : List UInt8)])
  refine B0 7 (.ptr (some (h6.size, 0))) h8 [(9, h6.size), (1, h.size)] (g.BU) H (fun fr => .of (Qk (by kernel_rfl) (congrArg some e2.symm))) (fun fr H => ?_)
  have A1 := A.Gm 0 (pr := [h6.size, h.size]) (.cons 0 rfl (by simp [Ck.ids]) (.cons 7 rfl (by simp [Ck.ids]) .nil))
  obtain ⟨x8w9, hx, hm⟩ := bind_some hm
  obtain ⟨v1, h9, hr, bx8w9, bx8w9_0, rfl, A1⟩ := HF (av := [vs eS p1]) hx A1
  replace A : HH g h9 [.obj bx8w9 (.cells none 2 [.map (some bx8w9_0)]), .obj bx8w9_0 (.map 2 (BR (fun k : List UInt8 => .str k) (fun v : Bool => .bool v) x8w9.DT)), .obj h6.size (.cells none 2 [.str ([] : List UInt8), .str ([] : List UInt8), Ab (0 : Int), Ai (0 : Int), Ai (0 : Int), Ai (0 : Int), .str ([] : List UInt8), .str ([] : List UInt8), Ai (0 : Int), Ai (0 : Int), Ai (0 : Int), Ai (0 : Int), .slice none 0, .str ([] : List UInt8)]), _, _, _, _, _, _, _] F := A.OS (n := 0) A1
  refine B0 49 (.ptr (some (bx8w9, 0))) h9 [(9, h6.size), (1, h.size)] (h6.size :: h.size :: g.BU) H (fun fr => Steps.call (by kernel_rfl) hr) (fun fr H => ?_)
  replace A : HH g h9 [_, _, _, _, _, _, _, _, _, _] F := ((((((((A.front 1 rfl).front 1 rfl).front 8 rfl).front 8 rfl).front 8 rfl).front 8 rfl).front 8 rfl).front 8 rfl)
  have A1 := A.Gm 8 (pr := [h6.size]) (.cons 0 rfl (by simp [Ck.ids]) .nil)
  obtain ⟨⟨x9, x10, x11, x12⟩, hx, hm⟩ := bind_some hm
  obtain ⟨v1, h10, hr, rfl, A1⟩ := HZ (av := [.ptr (some (bx4w4, 0)), .agg (AD p0), .ptr (some (bx8w9, 0))]) hx A1
  replace A : HH g h10 [.obj bx4w4 (.cells none 2 [_, _, _, _, _, _, _, _, _, _, _, _, _, _, _, _, _, _]), .AL rx4w4_14 136 (AL (eP AB) x4w4.AZ), .AL rx4w4_15 136 (AL (eP AB) x4w4.Ac), .obj bx4w4_16 (.cells none 2 [AI rx4w4_16_0 x4w4.Ad.l_.length, Ai x4w4.Ad.Ba]), .AL rx4w4_16_0 142 (AL (eP AK) x4w4.Ad.l_), .obj bx4w4_17 (.cells none 2 ([Ai x12.n_, Ai x12.Aq] ++ (Cl 257 (AA.int .i64) x12.BJ ++ []))), .obj bx8w9 (.cells none 2 [.map (some bx8w9_0)]), .obj bx8w9_0 (.map 2 (BR (fun k : List UInt8 => .str k) (fun v : Bool => .bool v) x8w9.DT)), _, _] F := A.OS (n := 8) A1
  refine B0 50 (.tuple [.agg (AD x9), Ai x10, Ai x11]) h10 [(9, h6.size), (1, h.size)] (h6.size :: g.BU) H (fun fr => Steps.call (by kernel_rfl) hr) (fun fr H => ?_)
  refine AF 4 [(51, .agg (AD x9)), (52, Ai x10), (53, Ai x11)] H fun fr H => ?_
  obtain ⟨h11, hx, A⟩ := A.s8 0 (AD x9) [_, _, _, _, _, _, _, _, _, _, _, _, _, _]
  refine K2 (.tuple []) h11 [(9, h6.size), (1, h.size)] (g.BU) H (fun fr => .of (Nr (by kernel_rfl) (Lj hx rfl))) (fun fr H => ?_)
  refine BT 2 [(8, Ai x10), (9, Ai x11)] 15 H fun fr H => AF 3 [(56, .bool (x10 == 0))] H fun fr H => An 3 (fun fr' h' => h11 = h' ∧ Has fr' 68 [(2, .ptr (some (h.size, 0))), (7, .ptr (some (h6.size, 0))), (59, .bool ((x10 == 0) && (x11 == 0)))]) ?_ ?_
  ·cases hb : (x10 == 0 : Bool) with
   | true =>
    replace H := H.kn 56 hb
    exact AF 3 [(59, .bool (x11 == 0))] H fun fr H => AY H hb
   | false =>
    replace H := H.kn 56 hb
    exact AF 3 [(59, .bool false)] H fun fr H => AY H hb
  intro t fr h' hK
  obtain ⟨e, H⟩ := hK
  subst e
  refine AF 1 [(60, .bool ((x10 == 0) && (x11 == 0)))] H fun fr H => ?_
  obtain ⟨x13, ho, hm⟩ := bind_some hm
  refine An 4 (fun fr' h' => Has fr' 68 [(64, .bool x13)] ∧ HH g h' [.obj bx4w4 (.cells none 2 [vs AE x4w4.c_.Ah, vs AE x4w4.c_.Aj, vs AJ x4w4.c_.Bl, .bool x4w4.c_.Ho, .bool x4w4.c_.BP, Ai x4w4.c_.Bm, .bool x4w4.c_.CC, Ai x4w4.c_.BD.DF, Ai x4w4.c_.BD.Bp, Ai x4w4.c_.HG, Ai x4w4.c_.B3, Ai x4w4.c_.Name, Ai x4w4.c_.Head, Ai x4w4.c_.Bd, AI rx4w4_14 x4w4.AZ.length, AI rx4w4_15 x4w4.Ac.length, .ptr (some (bx4w4_16, 0)), .ptr (some (bx4w4_17, 0))]), .AL rx4w4_14 136 (AL (eP AB) x4w4.AZ), .AL rx4w4_15 136 (AL (eP AB) x4w4.Ac), .obj bx4w4_16 (.cells none 2 [AI rx4w4_16_0 x4w4.Ad.l_.length, Ai x4w4.Ad.Ba]), .AL rx4w4_16_0 142 (AL (eP AK) x4w4.Ad.l_), .obj bx4w4_17 (.cells none 2 ([Ai x12.n_, Ai x12.Aq] ++ (Cl 257 (AA.int .i64) x12.BJ ++ []))), .obj bx8w9 (.cells none 2 [.map (some bx8w9_0)]), .obj bx8w9_0 (.map 2 (BR (fun k : List UInt8 => .str k) (fun v : Bool => .bool v) x8w9.DT)), .obj h6.size (.cells none 2 (AD x9)), .obj h.size (.cells none 2 (AD p0))] F) ?_ ?_
  ·rcases AU ho with ⟨hb, hm⟩ | ⟨hb, hm⟩
   ·replace H := H.kn 60 hb
    refine Az 61 _ _ H (fun fr => .of (Bs (by kernel_rfl) (A.GA 8 rfl (o := 0) (n := 14) ⟨Nat.le_of_ble_eq_true rfl, rfl⟩))) fun fr t H => ?_
    refine Az 62 _ _ H (fun fr => .of (Bs (by kernel_rfl) (A.GA 9 rfl (o := 0) (n := 14) ⟨Nat.le_of_ble_eq_true rfl, rfl⟩))) fun fr t H => ?_
    obtain ⟨x14, hx, hm⟩ := bind_some hm
    obtain ⟨v1, h13, hr, rfl, A1⟩ := HX (av := [.agg (AD x9), .agg (AD p0)]) hx (A.cut 0)
    replace A := A.EV A1
    refine Ay 63 hr H fun fr t H => ?_
    refine AF 1 [(64, .bool x14)] H fun fr H => ?_
    obtain rfl := Aa hm
    exact at_nil ⟨H.ls, A⟩
   replace H := H.kn 60 hb
   refine AF 4 [(64, .bool false)] H fun fr H => ?_
   obtain rfl := Aa hm
   exact at_nil ⟨H.ls, A⟩
  clear A
  intro t fr h12 hK
  obtain ⟨H, A⟩ := hK
  refine AF 1 [(65, .bool x13)] H fun fr H => ?_
  obtain ⟨x15, ho, hm⟩ := bind_some hm
  refine An 2 (fun fr' h' => Has fr' 68 [(67, .bool x15)] ∧ HH g h' [.obj bx4w4 (.cells none 2 [vs AE x4w4.c_.Ah, vs AE x4w4.c_.Aj, vs AJ x4w4.c_.Bl, .bool x4w4.c_.Ho, .bool x4w4.c_.BP, Ai x4w4.c_.Bm, .bool x4w4.c_.CC, Ai x4w4.c_.BD.DF, Ai x4w4.c_.BD.Bp, Ai x4w4.c_.HG, Ai x4w4.c_.B3, Ai x4w4.c_.Name, Ai x4w4.c_.Head, Ai x4w4.c_.Bd, AI rx4w4_14 x4w4.AZ.length, AI rx4w4_15 x4w4.Ac.length, .ptr (some (bx4w4_16, 0)), .ptr (some (bx4w4_17, 0))]), .AL rx4w4_14 136 (AL (eP AB) x4w4.AZ), .AL rx4w4_15 136 (AL (eP AB) x4w4.Ac), .obj bx4w4_16 (.cells none 2 [AI rx4w4_16_0 x4w4.Ad.l_.length, Ai x4w4.Ad.Ba]), .AL rx4w4_16_0 142 (AL (eP AK) x4w4.Ad.l_), .obj bx4w4_17 (.cells none 2 ([Ai x12.n_, Ai x12.Aq] ++ (Cl 257 (AA.int .i64) x12.BJ ++ []))), .obj bx8w9 (.cells none 2 [.map (some bx8w9_0)]), .obj bx8w9_0 (.map 2 (BR (fun k : List UInt8 => .str k) (fun v : Bool => .bool v) x8w9.DT)), .obj h6.size (.cells none 2 (AD x9)), .obj h.size (.cells none 2 (AD p0))] F) ?_ ?_
  ·rcases AU ho with ⟨hb, hm⟩ | ⟨hb, hm⟩
   ·replace H := H.kn 65 hb
    obtain ⟨x16, hx, hm⟩ := bind_some hm
    obtain ⟨v1, h15, hr, rfl, A1⟩ := DU (av := []) hx (A.cut 0)
    replace A := A.EV A1
    refine Ay 66 hr H fun fr t H => ?_
    refine AF 1 [(67, .bool x16)] H fun fr H => ?_
    obtain rfl := Aa hm
    exact at_nil ⟨H.ls, A⟩
   replace H := H.kn 65 hb
   refine AF 2 [(67, .bool false)] H fun fr H => ?_
   obtain rfl := Aa hm
   exact at_nil ⟨H.ls, A⟩
  clear A
  intro t fr h14 hK
  obtain ⟨H, A⟩ := hK
  refine AN 1 [(4, .bool x15)] H fun fr H => AS ?_
  obtain rfl := Aa hm
  refine ⟨.inl rfl, .bool x15, rH H, ?_⟩
  replace A := A.d0
  exact ⟨rfl, A⟩
 replace A := A.EV A1
 refine Ay 32 hr H fun fr t H => ?_
 refine AN 5 [(5, .ptr none), (6, Ai x5)] H fun fr H => AQ (AG 6 (AF 3 [(37, .bool (x5 != 0))] H fun fr H => An 3 (fun fr' h' => h5 = h' ∧ Has fr' 68 [(1, vs eS p1), (2, .ptr (some (h.size, 0))), (5, .ptr none), (40, .bool ((x5 != 0) || true))]) ?_ ?_))
 ·cases hb : (x5 != 0 : Bool) with
  | true =>
   replace H := H.kn 37 hb
   exact AF 3 [(40, .bool true)] H fun fr H => AY H hb
  | false =>
   replace H := H.kn 37 hb
   exact AF 3 [(40, .bool true)] H fun fr H => AY H hb
 intro t fr h' hK
 obtain ⟨e, H⟩ := hK
 subst e
 refine BB id (Ak 40 H hm (fun hb hm H => ?_) fun hb hm H => ?_)
 ·refine AG 1 (AN 1 [(4, .bool false)] H fun fr H => AS ?_)
  obtain rfl := Aa hm
  refine ⟨.inl rfl, .bool false, rH H, ?_⟩
  replace A := A.d0
  exact ⟨rfl, A⟩
 refine Be id (AQ (AG 3 (Az 41 _ _ H (fun fr => .of (Bs (by kernel_rfl) (A.GA 0 rfl (o := 0) (n := 14) ⟨Nat.le_of_ble_eq_true rfl, rfl⟩))) fun fr t H => ?_)))
 obtain ⟨x17, hx, hm⟩ := bind_some hm
 obtain ⟨v1, h16, hr, rfl, A1⟩ := HE (av := [.agg (AD p0)]) hx (A.cut 0)
 replace A := A.EV A1
 refine Ay 42 hr H fun fr t H => ?_
 refine AN 1 [(43, .bool (x17 != 0))] H fun fr H => Ak 43 H hm (fun hb hm H => ?_) fun hb hm H => ?_
 ·refine AG 2 ?_
  obtain ⟨x18, hx, hm⟩ := bind_some hm
  obtain ⟨v1, h17, hr, rfl, A1⟩ := DU (av := []) hx (A.cut 0)
  replace A := A.EV A1
  refine Ay 44 hr H fun fr t H => ?_
  refine AN 1 [(4, .bool x18)] H fun fr H => AS ?_
  obtain rfl := Aa hm
  refine ⟨.inl rfl, .bool x18, rH H, ?_⟩
  replace A := A.d0
  exact ⟨rfl, A⟩
 refine Be id (AQ (Jk 8 13 [(0, []), (1, []), (2, []), (9, []), (3, [1, 9]), (4, [9]), (5, []), (6, []), (7, []), (8, []), (10, []), (11, []), (12, [])] ?_))
 refine AF 1 [(46, .ptr none)] H fun fr H => B0 47 (.agg (AD p0)) h16 [(1, h.size)] (g.BU) H (fun fr => .of (Bs (by kernel_rfl) (A.la 0 0 14))) (fun fr H => ?_)
 refine AF 1 [(48, vs eS p1)] H fun fr H => ?_
 obtain ⟨h18, e3, A⟩ := A.pu (.cells none 2 [.str ([] : List UInt8), .str ([] : List UInt8), Ab 0, Ai 0, Ai 0, Ai 0, .str ([] : List UInt8), .str ([] : List UInt8), Ai 0, Ai 0, Ai 0, Ai 0, .slice none 0, .str ([] : List UInt8)])
 refine B0 7 (.ptr (some (h16.size, 0))) h18 [(9, h16.size), (1, h.size)] (g.BU) H (fun fr => .of (Qk (by kernel_rfl) (congrArg some e3.symm))) (fun fr H => ?_)
 have A1 := A.Gm 0 (pr := [h16.size, h.size]) (.cons 0 rfl (by simp [Ck.ids]) (.cons 1 rfl (by simp [Ck.ids]) .nil))
 obtain ⟨x19w17, hx, hm⟩ := bind_some hm
 obtain ⟨v1, h19, hr, bx19w17, bx19w17_0, rfl, A1⟩ := HF (av := [vs eS p1]) hx A1
 replace A : HH g h19 [.obj bx19w17 (.cells none 2 [.map (some bx19w17_0)]), .obj bx19w17_0 (.map 2 (BR (fun k : List UInt8 => .str k) (fun v : Bool => .bool v) x19w17.DT)), .obj h16.size (.cells none 2 [.str ([] : List UInt8), .str ([] : List UInt8), Ab (0 : Int), Ai (0 : Int), Ai (0 : Int), Ai (0 : Int), .str ([] : List UInt8), .str ([] : List UInt8), Ai (0 : Int), Ai (0 : Int), Ai (0 : Int), Ai (0 : Int), .slice none 0, .str ([] : List UInt8)]), _] F := A.OS (n := 0) A1
 refine B0 49 (.ptr (some (bx19w17, 0))) h19 [(9, h16.size), (1, h.size)] (h16.size :: h.size :: g.BU) H (fun fr => Steps.call (by kernel_rfl) hr) (fun fr H => ?_)
 have A1 := A.Gm 2 (pr := [h16.size]) (.cons 0 rfl (by simp [Ck.ids]) .nil)
 obtain ⟨⟨x20, x21, x22⟩, hx, hm⟩ := bind_some hm
 obtain ⟨v1, h20, hr, rfl, A1⟩ := JO (av := [.ptr none, .agg (AD p0), .ptr (some (bx19w17, 0))]) hx A1
 replace A := A.Xc A1
 refine B0 50 (.tuple [.agg (AD x20), Ai x21, Ai x22]) h20 [(9, h16.size), (1, h.size)] (h16.size :: g.BU) H (fun fr => Steps.call (by kernel_rfl) hr) (fun fr H => ?_)
 refine AF 4 [(51, .agg (AD x20)), (52, Ai x21), (53, Ai x22)] H fun fr H => ?_
 obtain ⟨h21, hx, A⟩ := A.s2 0 (AD x20) [_, _, _, _, _, _, _, _, _, _, _, _, _, _]
 refine K2 (.tuple []) h21 [(9, h16.size), (1, h.size)] (g.BU) H (fun fr => .of (Nr (by kernel_rfl) (Lj hx rfl))) (fun fr H => ?_)
 refine BT 2 [(8, Ai x21), (9, Ai x22)] 15 H fun fr H => AF 3 [(56, .bool (x21 == 0))] H fun fr H => An 3 (fun fr' h' => h21 = h' ∧ Has fr' 68 [(2, .ptr (some (h.size, 0))), (7, .ptr (some (h16.size, 0))), (59, .bool ((x21 == 0) && (x22 == 0)))]) ?_ ?_
 ·cases hb : (x21 == 0 : Bool) with
  | true =>
   replace H := H.kn 56 hb
   exact AF 3 [(59, .bool (x22 == 0))] H fun fr H => AY H hb
  | false =>
   replace H := H.kn 56 hb
   exact AF 3 [(59, .bool false)] H fun fr H => AY H hb
 intro t fr h' hK
 obtain ⟨e, H⟩ := hK
 subst e
 refine AF 1 [(60, .bool ((x21 == 0) && (x22 == 0)))] H fun fr H => ?_
 obtain ⟨x23, ho, hm⟩ := bind_some hm
 refine An 4 (fun fr' h' => Has fr' 68 [(64, .bool x23)] ∧ HH g h' [.obj bx19w17 (.cells none 2 [.map (some bx19w17_0)]), .obj bx19w17_0 (.map 2 (BR (fun k : List UInt8 => .str k) (fun v : Bool => .bool v) x19w17.DT)), .obj h16.size (.cells none 2 (AD x20)), .obj h.size (.cells none 2 (AD p0))] F) ?_ ?_
 ·rcases AU ho with ⟨hb, hm⟩ | ⟨hb, hm⟩
  ·replace H := H.kn 60 hb
   refine Az 61 _ _ H (fun fr => .of (Bs (by kernel_rfl) (A.GA 2 rfl (o := 0) (n := 14) ⟨Nat.le_of_ble_eq_true rfl, rfl⟩))) fun fr t H => ?_
   refine Az 62 _ _ H (fun fr => .of (Bs (by kernel_rfl) (A.GA 3 rfl (o := 0) (n := 14) ⟨Nat.le_of_ble_eq_true rfl, rfl⟩))) fun fr t H => ?_
   obtain ⟨x24, hx, hm⟩ := bind_some hm
   obtain ⟨v1, h23, hr, rfl, A1⟩ := HX (av := [.agg (AD x20), .agg (AD p0)]) hx (A.cut 0)
   replace A := A.EV A1
   refine Ay 63 hr H fun fr t H => ?_
   refine AF 1 [(64, .bool x24)] H fun fr H => ?_
   obtain rfl := Aa hm
   exact at_nil ⟨H.ls, A⟩
  replace H := H.kn 60 hb
  refine AF 4 [(64, .bool false)] H fun fr H => ?_
  obtain rfl := Aa hm
  exact at_nil ⟨H.ls, A⟩
 clear A
 intro t fr h22 hK
 obtain ⟨H, A⟩ := hK
 refine AF 1 [(65, .bool x23)] H fun fr H => ?_
 obtain ⟨x25, ho, hm⟩ := bind_some hm
 refine An 2 (fun fr' h' => Has fr' 68 [(67, .bool x25)] ∧ HH g h' [.obj bx19w17 (.cells none 2 [.map (some bx19w17_0)]), .obj bx19w17_0 (.map 2 (BR (fun k : List UInt8 => .str k) (fun v : Bool => .bool v) x19w17.DT)), .obj h16.size (.cells none 2 (AD x20)), .obj h.size (.cells none 2 (AD p0))] F) ?_ ?_
 ·rcases AU ho with ⟨hb, hm⟩ | ⟨hb, hm⟩
  ·replace H := H.kn 65 hb
   obtain ⟨x26, hx, hm⟩ := bind_some hm
   obtain ⟨v1, h25, hr, rfl, A1⟩ := DU (av := []) hx (A.cut 0)
   replace A := A.EV A1
   refine Ay 66 hr H fun fr t H => ?_
   refine AF 1 [(67, .bool x26)] H fun fr H => ?_
   obtain rfl := Aa hm
   exact at_nil ⟨H.ls, A⟩
  replace H := H.kn 65 hb
  refine AF 2 [(67, .bool false)] H fun fr H => ?_
  obtain rfl := Aa hm
  exact at_nil ⟨H.ls, A⟩
 clear A
 intro t fr h24 hK
 obtain ⟨H, A⟩ := hK
 refine AN 1 [(4, .bool x25)] H fun fr H => AS ?_
 obtain rfl := Aa hm
 refine ⟨.inl rfl, .bool x25, rH H, ?_⟩
 replace A := A.d0
 exact ⟨rfl, A⟩
end
end Go.Av.L
