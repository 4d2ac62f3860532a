/-
 Models of functions, and that the abstract run tells them. Written by lift2.py.
-/
import Derived.Test.YtipknimgfcokeaaGreatDoorKCfg
import Derived.Test.YtipknimgfcokeaaGreatDoorK5
import Derived.Test.YtipknimgfcokeaaGreatDoorK6
namespace Go.Av.L
open Go.Av Go.Lib
set_option maxRecDepth 10000
set_option linter.unusedVariables false
set_option linter.unusedSimpArgs false
variable {g : Gd} {h : AH} {F : List Ck} {av : List AB}
noncomputable section
def Bz (p0 : List UInt8) (p1_10_0 : Cp) (p1_11 : Int) (s : Int) : Option ((Int) ⊕ ((Unit) ⊕ (Int))) :=
 match s with
 | x1 => Af (decide (x1 < (p0.length : Int))) ((Ff p0 x1).bind fun x3 => (Co (x3.toNat : Int) (⟨p1_10_0.a_, p1_10_0.d_, p1_10_0.CH, p0, p1_10_0.EA, p1_10_0.Bs⟩ : Cp) p1_11).bind fun x4 => Af x4 (some (.inr (.inr x1))) (some (.inl (IntKind.i64.wrap (x1 + 1))))) (some (.inr (.inl ())))
def Bk (p0 : List UInt8) (p1_10_0 : Cp) (p1_11 : Int) : Option (Int) :=
 (loop (Bz p0 p1_10_0 p1_11) (0 : Int)).bind fun o1 => (match o1 with | .inl _ => some (-1 : Int) | .inr x2 => some x2)
theorem FH {p0 p1_10_0 p1_11 rp0 bp1_10 bp1_10_0 bp1_10_0_1 rp1_10_0_1_2 rp1_10_0_1_3 rp1_10_0_1_4 bp1_10_0_4 rp1_10_0_5 bp1_11 q0} (hm : Bk p0 p1_10_0 p1_11 = some q0) (A : HH g h [.AO rp0 5 (AO eY p0), .obj bp1_10 (.cells none 2 [.ptr (some (bp1_10_0, 0))]), .obj bp1_10_0 (.cells none 2 [.Aq (AK p1_10_0.a_), .ptr (some (bp1_10_0_1, 0)), Ai p1_10_0.CH, AG rp0 p0.length, .map (some bp1_10_0_4), AG rp1_10_0_5 p1_10_0.Bs.length]), .obj bp1_10_0_1 (.cells none 2 (Ej 256 (AB.int .u8) p1_10_0.d_.Az ++ [Ai p1_10_0.d_.Al, AG rp1_10_0_1_2 p1_10_0.d_.Ba.length, AG rp1_10_0_1_3 p1_10_0.d_.BX.length, AG rp1_10_0_1_4 p1_10_0.d_.BV.length, .int .i32 p1_10_0.d_.Aj, .int .i32 p1_10_0.d_.BN, .bool p1_10_0.d_.BE])), .AO rp1_10_0_1_2 21 (AO (eI .i32) p1_10_0.d_.Ba), .AO rp1_10_0_1_3 4 (AO eB p1_10_0.d_.BX), .AO rp1_10_0_1_4 4 (AO eB p1_10_0.d_.BV), .obj bp1_10_0_4 (.map 2 (Cz (fun k : List UInt8 => .str k) (fun v : Int => .int .i32 v) p1_10_0.EA)), .AO rp1_10_0_5 63 (AO (eL (eI .i64)) p1_10_0.Bs), .obj bp1_11 (.cells none 2 [Ai p1_11])] F) (hc : BZ (cfg.still 45) av = [AG rp0 p0.length, .func (.func 46) [] [.ptr (some (bp1_10, 0)), .ptr (some (bp1_11, 0))]] := by kernel_rfl) : ∃ v h', Bg cfg g h 45 av v h' ∧ v = Ai q0 ∧ HH g h' [.AO rp0 5 (AO eY p0), .obj bp1_10 (.cells none 2 [.ptr (some (bp1_10_0, 0))]), .obj bp1_10_0 (.cells none 2 [.Aq (AK p1_10_0.a_), .ptr (some (bp1_10_0_1, 0)), Ai p1_10_0.CH, AG rp0 p0.length, .map (some bp1_10_0_4), AG rp1_10_0_5 p1_10_0.Bs.length]), .obj bp1_10_0_1 (.cells none 2 (Ej 256 (AB.int .u8) p1_10_0.d_.Az ++ [Ai p1_10_0.d_.Al, AG rp1_10_0_1_2 p1_10_0.d_.Ba.length, AG rp1_10_0_1_3 p1_10_0.d_.BX.length, AG rp1_10_0_1_4 p1_10_0.d_.BV.length, .int .i32 p1_10_0.d_.Aj, .int .i32 p1_10_0.d_.BN, .bool p1_10_0.d_.BE])), .AO rp1_10_0_1_2 21 (AO (eI .i32) p1_10_0.d_.Ba), .AO rp1_10_0_1_3 4 (AO eB p1_10_0.d_.BX), .AO rp1_10_0_1_4 4 (AO eB p1_10_0.d_.BV), .obj bp1_10_0_4 (.map 2 (Cz (fun k : List UInt8 => .str k) (fun v : Int => .int .i32 v) p1_10_0.EA)), .AO rp1_10_0_5 63 (AO (eL (eI .i64)) p1_10_0.Bs), .obj bp1_11 (.cells none 2 [Ai p1_11])] F := by
 refine E5 19 [.tmp 4] hc ?_
 clear hc
 unfold Bk at hm
 refine bg 19 [(0, AG rp0 p0.length), (1, .func (.func 46) [] [.ptr (some (bp1_10, 0)), .ptr (some (bp1_11, 0))])] fun fr H => ?_
 refine AD 1 (AM 1 [] H fun fr H => AQ (AD 3 (AM 3 [(7, Ai (p0.length : Int)), (8, Ai 0)] H fun fr H => Ac (id := 0) (by kernel_rfl) ?_)))
 obtain ⟨o1, ho, hm⟩ := bind_some hm
 refine As (Q' := fun e fr' h' => (e = .exit 0 ∧ .inl () = o1 ∧ Has fr' 19 [] ∧ HH g h' [.AO rp0 5 (AO eY p0), .obj bp1_10 (.cells none 2 [.ptr (some (bp1_10_0, 0))]), .obj bp1_10_0 (.cells none 2 [.Aq (AK p1_10_0.a_), .ptr (some (bp1_10_0_1, 0)), Ai p1_10_0.CH, AG rp0 p0.length, .map (some bp1_10_0_4), AG rp1_10_0_5 p1_10_0.Bs.length]), .obj bp1_10_0_1 (.cells none 2 (Ej 256 (AB.int .u8) p1_10_0.d_.Az ++ [Ai p1_10_0.d_.Al, AG rp1_10_0_1_2 p1_10_0.d_.Ba.length, AG rp1_10_0_1_3 p1_10_0.d_.BX.length, AG rp1_10_0_1_4 p1_10_0.d_.BV.length, .int .i32 p1_10_0.d_.Aj, .int .i32 p1_10_0.d_.BN, .bool p1_10_0.d_.BE])), .AO rp1_10_0_1_2 21 (AO (eI .i32) p1_10_0.d_.Ba), .AO rp1_10_0_1_3 4 (AO eB p1_10_0.d_.BX), .AO rp1_10_0_1_4 4 (AO eB p1_10_0.d_.BV), .obj bp1_10_0_4 (.map 2 (Cz (fun k : List UInt8 => .str k) (fun v : Int => .int .i32 v) p1_10_0.EA)), .AO rp1_10_0_5 63 (AO (eL (eI .i64)) p1_10_0.Bs), .obj bp1_11 (.cells none 2 [Ai p1_11])] F) ∨ (∃ x2, e = .ret ∧ .inr x2 = o1 ∧ Has fr' 19 [(4, Ai x2)] ∧ HH g h' [.AO rp0 5 (AO eY p0), .obj bp1_10 (.cells none 2 [.ptr (some (bp1_10_0, 0))]), .obj bp1_10_0 (.cells none 2 [.Aq (AK p1_10_0.a_), .ptr (some (bp1_10_0_1, 0)), Ai p1_10_0.CH, AG rp0 p0.length, .map (some bp1_10_0_4), AG rp1_10_0_5 p1_10_0.Bs.length]), .obj bp1_10_0_1 (.cells none 2 (Ej 256 (AB.int .u8) p1_10_0.d_.Az ++ [Ai p1_10_0.d_.Al, AG rp1_10_0_1_2 p1_10_0.d_.Ba.length, AG rp1_10_0_1_3 p1_10_0.d_.BX.length, AG rp1_10_0_1_4 p1_10_0.d_.BV.length, .int .i32 p1_10_0.d_.Aj, .int .i32 p1_10_0.d_.BN, .bool p1_10_0.d_.BE])), .AO rp1_10_0_1_2 21 (AO (eI .i32) p1_10_0.d_.Ba), .AO rp1_10_0_1_3 4 (AO eB p1_10_0.d_.BX), .AO rp1_10_0_1_4 4 (AO eB p1_10_0.d_.BV), .obj bp1_10_0_4 (.map 2 (Cz (fun k : List UInt8 => .str k) (fun v : Int => .int .i32 v) p1_10_0.EA)), .AO rp1_10_0_5 63 (AO (eL (eI .i64)) p1_10_0.Bs), .obj bp1_11 (.cells none 2 [Ai p1_11])] F) ∨ False) ?_ ?_
 ·refine B2 (by kernel_rfl) (fun (s : Int) fr' h' => ∃ x1, x1 = s ∧ Has fr' 19 [(0, AG rp0 p0.length), (1, .func (.func 46) [] [.ptr (some (bp1_10, 0)), .ptr (some (bp1_11, 0))]), (7, Ai (p0.length : Int)), (8, Ai x1)] ∧ HH g h' [.AO rp0 5 (AO eY p0), .obj bp1_10 (.cells none 2 [.ptr (some (bp1_10_0, 0))]), .obj bp1_10_0 (.cells none 2 [.Aq (AK p1_10_0.a_), .ptr (some (bp1_10_0_1, 0)), Ai p1_10_0.CH, AG rp0 p0.length, .map (some bp1_10_0_4), AG rp1_10_0_5 p1_10_0.Bs.length]), .obj bp1_10_0_1 (.cells none 2 (Ej 256 (AB.int .u8) p1_10_0.d_.Az ++ [Ai p1_10_0.d_.Al, AG rp1_10_0_1_2 p1_10_0.d_.Ba.length, AG rp1_10_0_1_3 p1_10_0.d_.BX.length, AG rp1_10_0_1_4 p1_10_0.d_.BV.length, .int .i32 p1_10_0.d_.Aj, .int .i32 p1_10_0.d_.BN, .bool p1_10_0.d_.BE])), .AO rp1_10_0_1_2 21 (AO (eI .i32) p1_10_0.d_.Ba), .AO rp1_10_0_1_3 4 (AO eB p1_10_0.d_.BX), .AO rp1_10_0_1_4 4 (AO eB p1_10_0.d_.BV), .obj bp1_10_0_4 (.map 2 (Cz (fun k : List UInt8 => .str k) (fun v : Int => .int .i32 v) p1_10_0.EA)), .AO rp1_10_0_5 63 (AO (eL (eI .i64)) p1_10_0.Bs), .obj bp1_11 (.cells none 2 [Ai p1_11])] F) ho ⟨_, rfl, H.ls, A⟩ ?_
  clear ho hm H A
  intro s q fr h1 hI hm
  obtain ⟨x1, rfl, H, A⟩ := hI
  unfold Bz at hm
  refine AD 1 (AM 1 [(9, .bool (decide (x1 < (p0.length : Int))))] H fun fr H => AQ (AV 9 H hm (fun hb hm H => ?_) fun hb hm H => ?_))
  ·refine CE id (AQ (Ac (id := 1) (by kernel_rfl) ?_))
   refine AD 2 (Bw 2 [(5, Ai x1)] 6 H fun fr H => ?_)
   obtain ⟨x3, hx, hm⟩ := bind_some hm
   obtain ⟨i1, er1, _, hx, hq1⟩ := HH.ND J1 (by decide) A 0 (xs := p0) rfl hx
   refine BI 3 [(11, .func (.func 46) [] [.ptr (some (bp1_10, 0)), .ptr (some (bp1_11, 0))])] 14 (.ptr (some (i1, x1.toNat * 1))) h1 H (fun fr => .of (FI (s := Cf rp0 p0.length) (by kernel_rfl) hx)) fun fr t H => ?_
   refine Ax 15 _ _ H (fun fr => .of (Dd (by kernel_rfl) (E7 J1 (HH.row A 0 rfl er1) hq1 (o := 0) rfl))) fun fr t H => ?_
   replace A : HH g h1 [_, _, _, _, _, _, _, _, _, _] F := ((((((((((A.front 9 rfl).front 9 rfl).front 9 rfl).front 3 rfl).front 9 rfl).front 9 rfl).front 9 rfl).front 9 rfl).front 9 rfl).front 9 rfl)
   obtain ⟨x4, hx, hm⟩ := bind_some hm
   obtain ⟨v1, h2, hr, rfl, A1⟩ := Gs (av := [Ab (x3.toNat : Int), .ptr (some (bp1_10, 0)), .ptr (some (bp1_11, 0))]) hx (A.cut 10)
   replace A : HH g h2 [.obj bp1_10 (.cells none 2 [.ptr (some (bp1_10_0, 0))]), .obj bp1_10_0 (.cells none 2 [_, _, _, _, _, _]), .obj bp1_10_0_1 (.cells none 2 (Ej 256 (AB.int .u8) p1_10_0.d_.Az ++ [Ai p1_10_0.d_.Al, AG rp1_10_0_1_2 p1_10_0.d_.Ba.length, AG rp1_10_0_1_3 p1_10_0.d_.BX.length, AG rp1_10_0_1_4 p1_10_0.d_.BV.length, .int .i32 p1_10_0.d_.Aj, .int .i32 p1_10_0.d_.BN, .bool p1_10_0.d_.BE])), .AO rp1_10_0_1_2 21 (AO (eI .i32) p1_10_0.d_.Ba), .AO rp1_10_0_1_3 4 (AO eB p1_10_0.d_.BX), .AO rp1_10_0_1_4 4 (AO eB p1_10_0.d_.BV), .AO rp0 5 (AO eY p0), .obj bp1_10_0_4 (.map 2 (Cz (fun k : List UInt8 => .str k) (fun v : Int => .int .i32 v) p1_10_0.EA)), .AO rp1_10_0_5 63 (AO (eL (eI .i64)) p1_10_0.Bs), .obj bp1_11 (.cells none 2 [Ai p1_11])] F := A.Ex (n := 10) A1
   refine Be 16 hr H fun fr t H => ?_
   refine BK id (AV 16 H hm (fun hb hm H => ?_) fun hb hm H => ?_)
   ·refine AD 2 (AM 2 [(4, Ai x1)] H fun fr H => Ag ?_)
    replace A : HH g h2 [_, _, _, _, _, _, _, _, _, _] F := ((((((((((A.front 9 rfl).front 9 rfl).front 9 rfl).front 8 rfl).front 8 rfl).front 8 rfl).front 8 rfl).front 8 rfl).front 8 rfl).front 9 rfl)
    exact nr hm fun e => Or.inr (.inl ⟨_, rfl, e, H.ls, A⟩)
   refine KX 2 id (BG 2 [(0, AG rp0 p0.length), (1, .func (.func 46) [] [.ptr (some (bp1_10, 0)), .ptr (some (bp1_11, 0))]), (7, Ai (p0.length : Int)), (8, Ai (IntKind.i64.wrap (x1 + 1)))] H fun fr H => at_nil ?_)
   replace A : HH g h2 [_, _, _, _, _, _, _, _, _, _] F := ((((((((((A.front 9 rfl).front 9 rfl).front 9 rfl).front 8 rfl).front 8 rfl).front 8 rfl).front 8 rfl).front 8 rfl).front 8 rfl).front 9 rfl)
   exact nx hm ⟨_, rfl, H.ls, A⟩
  refine BO (i := 0) (by kernel_rfl) ?_
  exact nr hm fun e => .inl ⟨rfl, e, H.ls, A⟩
 clear ho
 clear A
 intro e fr h3 hQ
 rcases hQ with ⟨rfl, rfl, H, A⟩ | ⟨x2, rfl, rfl, H, A⟩ | hF
 ·show AW _ _ _ _ _ _ _
  refine AD 1 (AM 1 [(4, Ai (-1))] H fun fr H => Ag ?_)
  obtain rfl := Ah hm
  exact ⟨.inl rfl, _, rH H, rfl, A⟩
 ·obtain rfl := Ah hm
  exact ⟨.inl rfl, _, rH H, rfl, A⟩
 exact hF.elim
def D7 (p0 : Cp) (s : (Nat → Int) × (List UInt8) × Int) : Option (((Nat → Int) × (List UInt8) × Int) ⊕ (((Nat → Int) × (List UInt8)))) :=
 match s with
 | (x1, x2, x3) => Af (decide (x3 < 256)) ((Bk x2 (⟨p0.a_, (⟨x1, p0.d_.Al, p0.d_.Ba, p0.d_.BX, p0.d_.BV, p0.d_.Aj, p0.d_.BN, p0.d_.BE⟩ : Bu), p0.CH, x2, p0.EA, p0.Bs⟩ : Cp) x3).bind fun x6 => (Af (decide (x6 < 0)) ((RB (IntKind.u8.wrap x3)).bind fun x9 => Cm (KI 1 (x2.length + ([x9] : List UInt8).length)) <| some ((x2 ++ ([x9] : List UInt8)), (x2.length : Int))) (some (x2, x6)) : Option (((List UInt8) × Int))).bind fun (x7, x8) => (SW 256 x1 x3).bind fun x10 => some (.inl ((PA x1 x3.toNat (IntKind.u8.wrap x8)), x7, IntKind.i64.wrap (x3 + 1)))) (some (.inr (x1, x2)))
def Cr (p0 : Cp) : Option (Bu × (List UInt8)) :=
 (loop (D7 p0) (p0.d_.Az, p0.JU, (0 : Int))).bind fun (x4, x5) => some ((⟨x4, (x5.length : Int), p0.d_.Ba, p0.d_.BX, p0.d_.BV, p0.d_.Aj, p0.d_.BN, p0.d_.BE⟩ : Bu), x5)
theorem Ht {p0 bp0 bp0_1 rp0_1_2 rp0_1_3 rp0_1_4 rp0_3 bp0_4 rp0_5 u1 u5} (hm : Cr p0 = some (u1, u5)) (A : HH g h [.obj bp0 (.cells none 2 [.Aq (AK p0.a_), .ptr (some (bp0_1, 0)), Ai p0.CH, AG rp0_3 p0.JU.length, .map (some bp0_4), AG rp0_5 p0.Bs.length]), .obj bp0_1 (.cells none 2 (Ej 256 (AB.int .u8) p0.d_.Az ++ [Ai p0.d_.Al, AG rp0_1_2 p0.d_.Ba.length, AG rp0_1_3 p0.d_.BX.length, AG rp0_1_4 p0.d_.BV.length, .int .i32 p0.d_.Aj, .int .i32 p0.d_.BN, .bool p0.d_.BE])), .AO rp0_1_2 21 (AO (eI .i32) p0.d_.Ba), .AO rp0_1_3 4 (AO eB p0.d_.BX), .AO rp0_1_4 4 (AO eB p0.d_.BV), .AO rp0_3 5 (AO eY p0.JU), .obj bp0_4 (.map 2 (Cz (fun k : List UInt8 => .str k) (fun v : Int => .int .i32 v) p0.EA)), .AO rp0_5 63 (AO (eL (eI .i64)) p0.Bs)] F) (hc : BZ (cfg.still 23) av = [.ptr (some (bp0, 0))] := by kernel_rfl) : ∃ v h', Bg cfg g h 23 av v h' ∧ ∃ (r'5 : Option Nat), v = .tuple [] ∧ HH g h' [.obj bp0 (.cells none 2 [.Aq (AK p0.a_), .ptr (some (bp0_1, 0)), Ai p0.CH, AG r'5 u5.length, .map (some bp0_4), AG rp0_5 p0.Bs.length]), .obj bp0_1 (.cells none 2 (Ej 256 (AB.int .u8) u1.Az ++ [Ai u1.Al, AG rp0_1_2 p0.d_.Ba.length, AG rp0_1_3 p0.d_.BX.length, AG rp0_1_4 p0.d_.BV.length, .int .i32 u1.Aj, .int .i32 u1.BN, .bool u1.BE])), .AO rp0_1_2 21 (AO (eI .i32) p0.d_.Ba), .AO rp0_1_3 4 (AO eB p0.d_.BX), .AO rp0_1_4 4 (AO eB p0.d_.BV), .AO r'5 5 (AO eY u5), .obj bp0_4 (.map 2 (Cz (fun k : List UInt8 => .str k) (fun v : Int => .int .i32 v) p0.EA)), .AO rp0_5 63 (AO (eL (eI .i64)) p0.Bs)] F := by
 refine E5 53 [] hc ?_
 clear hc
 unfold Cr at hm
 refine bg 53 [(0, .ptr (some (bp0, 0)))] fun fr H => ?_
 refine AD 1 ?_
 obtain ⟨h1, e1, A⟩ := A.pu (.cells none 2 [.ptr (some (bp0, 0))])
 refine Bo 1 (.ptr (some (h.size, 0))) e1 H fun fr t H => ?_
 refine BK id (AQ (AD 1 (AM 1 [(4, Ai 0)] H fun fr H => Ac (id := 0) (by kernel_rfl) ?_)))
 obtain ⟨o1, ho, hm⟩ := bind_some hm
 refine As (Q' := fun e fr' h' => (∃ x4 x5, e = .exit 0 ∧ (x4, x5) = o1 ∧ ∃ r2, Has fr' 53 [(1, .ptr (some (h.size, 0)))] ∧ HH g h' [.obj h.size (.cells none 2 [.ptr (some (bp0, 0))]), .obj bp0 (.cells none 2 [.Aq (AK p0.a_), .ptr (some (bp0_1, 0)), Ai p0.CH, AG r2 x5.length, .map (some bp0_4), AG rp0_5 p0.Bs.length]), .obj bp0_1 (.cells none 2 (Ej 256 (AB.int .u8) x4 ++ [Ai p0.d_.Al, AG rp0_1_2 p0.d_.Ba.length, AG rp0_1_3 p0.d_.BX.length, AG rp0_1_4 p0.d_.BV.length, .int .i32 p0.d_.Aj, .int .i32 p0.d_.BN, .bool p0.d_.BE])), .AO rp0_1_2 21 (AO (eI .i32) p0.d_.Ba), .AO rp0_1_3 4 (AO eB p0.d_.BX), .AO rp0_1_4 4 (AO eB p0.d_.BV), .AO r2 5 (AO eY x5), .obj bp0_4 (.map 2 (Cz (fun k : List UInt8 => .str k) (fun v : Int => .int .i32 v) p0.EA)), .AO rp0_5 63 (AO (eL (eI .i64)) p0.Bs)] F) ∨ False) ?_ ?_
 ·refine B2 (by kernel_rfl) (fun (s : (Nat → Int) × (List UInt8) × Int) fr' h' => ∃ x1 x2 x3, (x1, x2, x3) = s ∧ ∃ r1, Has fr' 53 [(1, .ptr (some (h.size, 0))), (4, Ai x3)] ∧ HH g h' [.obj h.size (.cells none 2 [.ptr (some (bp0, 0))]), .obj bp0 (.cells none 2 [.Aq (AK p0.a_), .ptr (some (bp0_1, 0)), Ai p0.CH, AG r1 x2.length, .map (some bp0_4), AG rp0_5 p0.Bs.length]), .obj bp0_1 (.cells none 2 (Ej 256 (AB.int .u8) x1 ++ [Ai p0.d_.Al, AG rp0_1_2 p0.d_.Ba.length, AG rp0_1_3 p0.d_.BX.length, AG rp0_1_4 p0.d_.BV.length, .int .i32 p0.d_.Aj, .int .i32 p0.d_.BN, .bool p0.d_.BE])), .AO rp0_1_2 21 (AO (eI .i32) p0.d_.Ba), .AO rp0_1_3 4 (AO eB p0.d_.BX), .AO rp0_1_4 4 (AO eB p0.d_.BV), .AO r1 5 (AO eY x2), .obj bp0_4 (.map 2 (Cz (fun k : List UInt8 => .str k) (fun v : Int => .int .i32 v) p0.EA)), .AO rp0_5 63 (AO (eL (eI .i64)) p0.Bs)] F) ho ⟨_, _, _, rfl, rp0_3, H.ls, A⟩ ?_
  clear ho hm H A
  intro s q fr h2 hI hm
  obtain ⟨x1, x2, x3, rfl, r1, H, A⟩ := hI
  unfold D7 at hm
  refine AD 1 (AM 1 [(5, .bool (decide (x3 < 256)))] H fun fr H => AQ (AV 5 H hm (fun hb hm H => ?_) fun hb hm H => ?_))
  ·refine CE id (AQ (Ac (id := 1) (by kernel_rfl) ?_))
   refine AD 3 ?_
   obtain ⟨h3, e2, A⟩ := A.pu (.cells none 2 [Ai 0])
   refine F8 1 [(6, Ai x3)] 2 (.ptr (some (h2.size, 0))) e2 H fun fr t H => ?_
   obtain ⟨h4, hx, A⟩ := A.s0 0 [Ai x3] [_]
   refine Kh hx H fun fr t H => ?_
   refine CG 7 id (Io 7 1 0 A H fun fr t H => ?_)
   refine Ad 2 [] 10 2 3 A H fun fr t H => ?_
   replace A : HH g h4 [_, _, _, _, _, _, _, _, _, _] F := ((((((((((A.front 0 rfl).front 9 rfl).front 9 rfl).front 8 rfl).front 8 rfl).front 8 rfl).front 8 rfl).front 8 rfl).front 8 rfl).front 9 rfl)
   obtain ⟨x6, hx, hm⟩ := bind_some hm
   obtain ⟨v1, h5, hr, rfl, A1⟩ := FH (av := [AG r1 x2.length, .func (.func 46) [] [.ptr (some (h.size, 0)), .ptr (some (h2.size, 0))]]) hx (A.cut 10)
   replace A : HH g h5 [.AO r1 5 (AO eY x2), .obj h.size (.cells none 2 [.ptr (some (bp0, 0))]), .obj bp0 (.cells none 2 [_, _, _, _, _, _]), .obj bp0_1 (.cells none 2 (Ej 256 (AB.int .u8) x1 ++ [Ai p0.d_.Al, AG rp0_1_2 p0.d_.Ba.length, AG rp0_1_3 p0.d_.BX.length, AG rp0_1_4 p0.d_.BV.length, .int .i32 p0.d_.Aj, .int .i32 p0.d_.BN, .bool p0.d_.BE])), .AO rp0_1_2 21 (AO (eI .i32) p0.d_.Ba), .AO rp0_1_3 4 (AO eB p0.d_.BX), .AO rp0_1_4 4 (AO eB p0.d_.BV), .obj bp0_4 (.map 2 (Cz (fun k : List UInt8 => .str k) (fun v : Int => .int .i32 v) p0.EA)), .AO rp0_5 63 (AO (eL (eI .i64)) p0.Bs), .obj h2.size (.cells none 2 [Ai x3])] F := A.Ex (n := 10) A1
   refine Ap 1 [] 12 hr H fun fr t H => ?_
   refine AM 1 [(3, Ai x6)] H fun fr H => AQ ?_
   obtain ⟨o2, ho, hm⟩ := bind_some hm
   refine As (Q' := fun e fr' h' => (∃ x7 x8, e = .normal ∧ (x7, x8) = o2 ∧ ∃ r3, Has fr' 53 [(1, .ptr (some (h.size, 0))), (2, .ptr (some (h2.size, 0))), (3, Ai x8), (4, Ai x3)] ∧ HH g h' [.AO r3 5 (AO eY x7), .obj h.size (.cells none 2 [.ptr (some (bp0, 0))]), .obj bp0 (.cells none 2 [.Aq (AK p0.a_), .ptr (some (bp0_1, 0)), Ai p0.CH, AG r3 x7.length, .map (some bp0_4), AG rp0_5 p0.Bs.length]), .obj bp0_1 (.cells none 2 (Ej 256 (AB.int .u8) x1 ++ [Ai p0.d_.Al, AG rp0_1_2 p0.d_.Ba.length, AG rp0_1_3 p0.d_.BX.length, AG rp0_1_4 p0.d_.BV.length, .int .i32 p0.d_.Aj, .int .i32 p0.d_.BN, .bool p0.d_.BE])), .AO rp0_1_2 21 (AO (eI .i32) p0.d_.Ba), .AO rp0_1_3 4 (AO eB p0.d_.BX), .AO rp0_1_4 4 (AO eB p0.d_.BV), .obj bp0_4 (.map 2 (Cz (fun k : List UInt8 => .str k) (fun v : Int => .int .i32 v) p0.EA)), .AO rp0_5 63 (AO (eL (eI .i64)) p0.Bs), .obj h2.size (.cells none 2 [Ai x3])] F) ∨ False) ?_ ?_
   ·replace hm := ho
    clear ho
    refine AD 2 (AM 2 [(14, .bool (decide (x6 < 0)))] H fun fr H => AV 14 H hm (fun hb hm H => ?_) fun hb hm H => ?_)
    ·refine AD 6 (Io 15 1 0 A H fun fr t H => ?_)
     refine Ad 2 [] 18 2 3 A H fun fr t H => ?_
     refine BG 2 [(1, .ptr (some (h.size, 0))), (2, .ptr (some (h2.size, 0))), (3, Ai (x2.length : Int)), (4, Ai x3)] H fun fr H => BK id (Ft 7 12 [(0, []), (1, []), (2, []), (3, []), (4, []), (5, []), (6, []), (7, []), (8, [0]), (9, []), (10, []), (11, [])] ?_)
     refine BT 20 (.ptr (some (bp0, 0))) h5 [(0, h.size)] (g.BR) H (fun fr => .of (Dd (by kernel_rfl) (A.l1 1 0))) (fun fr H => ?_)
     refine BT 21 (.ptr (some (bp0, 0))) h5 [(1, h.size), (0, h.size)] (g.BR) H (fun fr => .of (Dd (by kernel_rfl) (A.l1 1 0))) (fun fr H => ?_)
     refine AE 2 [(23, .ptr (some (bp0, 3)))] H fun fr H => BT 24 (AG r1 x2.length) h5 [(4, bp0), (1, h.size), (0, h.size)] (g.BR) H (fun fr => .of (Dd (by kernel_rfl) (A.l1 2 3))) (fun fr H => ?_)
     refine BT 25 (Ai x3) h5 [(5, h2.size), (4, bp0), (1, h.size), (0, h.size)] (g.BR) H (fun fr => .of (Dd (by kernel_rfl) (A.l1 9 0))) (fun fr H => ?_)
     refine AE 1 [(26, Ab (IntKind.u8.wrap x3))] H fun fr H => ?_
     obtain ⟨x9, hx, hm⟩ := bind_some hm
     have hx := LY hx
     rw [hx] at H
     obtain ⟨h6, e3, A⟩ := A.pL 5 [Ab (x9.toNat : Int)]
     refine BT 27 (AG (some h5.size) (([x9] : List UInt8).length)) h6 [(7, h5.size), (5, h2.size), (4, bp0), (1, h.size), (0, h.size)] (g.BR) H (fun fr => .of (OQ (by kernel_rfl) (congrArg some e3.symm))) (fun fr H => ?_)
     replace A : HH g h6 [_, .AO (some h5.size) 5 ([Ab (x9.toNat : Int)]), _, _, _, _, _, _, _, _, _] F := (A.front 1 rfl)
     have A1 := A.Fe 1 (pr := [h.size]) (.cons 1 rfl (by simp [Ck.ids]) .nil)
     obtain ⟨hb, hm⟩ := BQ hm
     obtain ⟨r4, h7, hx, A1⟩ := HH.Hd J1 (by decide) A1 0 (xs := x2) (ys := ([x9] : List UInt8)) rfl (B6 A 1 rfl (n := ([x9] : List UInt8).length) (z := 1) rfl (by decide)) rfl rfl hb
     replace A := A.VA A1
     replace A : HH g h7 [_, _, _, _, _, _, _, _, _, _] F := (HH.Oi ((((((((((A.front 10 rfl).front 10 rfl).front 10 rfl).front 10 rfl).front 10 rfl).front 10 rfl).front 10 rfl).front 10 rfl).front 10 rfl).front 9 rfl) 10)
     refine BT 28 (AG r4 ((x2 ++ ([x9] : List UInt8)).length)) h7 [(7, h5.size), (5, h2.size), (4, bp0), (1, h.size), (0, h.size)] (h.size :: g.BR) H (fun fr => .of (Er (s := Cf r1 x2.length) (by kernel_rfl) hx)) (fun fr H => ?_)
     refine AE 2 [(30, .ptr (some (bp0, 3)))] H fun fr H => ?_
     obtain ⟨h8, hx, A1⟩ := A.st 2 rfl (o := 3) (new := [AG r4 ((x2 ++ ([x9] : List UInt8)).length)]) (ds := [.Aq (AK p0.a_), .ptr (some (bp0_1, 0)), Ai p0.CH, AG r4 ((x2 ++ ([x9] : List UInt8)).length), .map (some bp0_4), AG rp0_5 p0.Bs.length]) (Nat.le_of_ble_eq_true rfl) rfl rfl
     replace A : HH g h8 [_, _, .obj bp0 (.cells none 2 [_, _, _, AG r4 ((x2 ++ ([x9] : List UInt8)).length), _, _]), _, _, _, _, _, _, _] F := A1
     refine Gj (.tuple []) h8 [(7, h5.size), (5, h2.size), (4, bp0), (1, h.size), (0, h.size)] (g.BR) H (fun fr => .of (MS (by kernel_rfl) rfl hx)) (fun fr H => ?_)
     refine at_nil ?_
     exact .inl ⟨_, _, rfl, Ah hm, _, H.ls, A⟩
    exact By (.inl ⟨_, _, rfl, Ah hm, _, H.ls, A⟩)
   clear ho
   clear A
   intro e fr h9 hQ
   rcases hQ with ⟨x7, x8, rfl, rfl, r3, H, A⟩ | hF
   ·show AW _ _ _ _ _ _ _
    refine EO 8 11 ?_
    refine Io 31 1 0 A H fun fr t H => ?_
    refine Ad 2 [] 34 2 1 A H fun fr t H => ?_
    refine Io 35 9 0 A H fun fr t H => ?_
    obtain ⟨x10, hq1, hm⟩ := bind_some hm
    refine BI 4 [(37, Ab (IntKind.u8.wrap x8))] 40 (.ptr (some (bp0_1, 0 + x3.toNat * 1))) h9 H (fun fr => .of (J4 (by kernel_rfl) (Um hq1 (bp0_1, 0) 1))) fun fr t H => ?_
    obtain ⟨h10, hx, A1⟩ := HH.YK A 3 (AB.int .u8) (X := x1) [] ([Ai p0.d_.Al, AG rp0_1_2 p0.d_.Ba.length, AG rp0_1_3 p0.d_.BX.length, AG rp0_1_4 p0.d_.BV.length, .int .i32 p0.d_.Aj, .int .i32 p0.d_.BN, .bool p0.d_.BE] : List AB) (off := 0) rfl rfl (i := x3) (IntKind.u8.wrap x8) hq1 rfl
    replace A : HH g h10 [_, _, _, .obj bp0_1 (.cells none 2 (Ej 256 (AB.int .u8) (PA x1 x3.toNat (IntKind.u8.wrap x8)) ++ [Ai p0.d_.Al, AG rp0_1_2 p0.d_.Ba.length, AG rp0_1_3 p0.d_.BX.length, AG rp0_1_4 p0.d_.BV.length, .int .i32 p0.d_.Aj, .int .i32 p0.d_.BN, .bool p0.d_.BE])), _, _, _, _, _, _] F := A1
    refine Kh hx H fun fr t H => ?_
    refine Gq 2 id (BG 2 [(1, .ptr (some (h.size, 0))), (4, Ai (IntKind.i64.wrap (x3 + 1)))] H fun fr H => at_nil ?_)
    replace A := A.k9 1 2 3 4 5 6 0 7 8
    exact nx hm ⟨_, _, _, rfl, _, H.ls, A⟩
   exact hF.elim
  refine BO (i := 0) (by kernel_rfl) ?_
  exact nr hm fun e => .inl ⟨_, _, rfl, e, _, H.ls, A⟩
 clear ho
 clear A
 intro e fr h11 hQ
 rcases hQ with ⟨x4, x5, rfl, rfl, r2, H, A⟩ | hF
 ·show AW _ _ _ _ _ _ _
  refine EO 10 12 ?_
  refine Io 42 0 0 A H fun fr t H => ?_
  refine Ad 2 [] 45 1 1 A H fun fr t H => ?_
  refine Io 46 0 0 A H fun fr t H => ?_
  refine Ad 2 [] 49 1 3 A H fun fr t H => ?_
  obtain ⟨h12, hx, A1⟩ := A.st 2 rfl (o := 256) (new := [Ai (x5.length : Int)]) (ds := (Ej 256 (AB.int .u8) x4 ++ [Ai (x5.length : Int), AG rp0_1_2 p0.d_.Ba.length, AG rp0_1_3 p0.d_.BX.length, AG rp0_1_4 p0.d_.BV.length, .int .i32 p0.d_.Aj, .int .i32 p0.d_.BN, .bool p0.d_.BE])) (Nat.le_of_ble_eq_true (by kernel_rfl)) rfl (by kernel_rfl)
  replace A : HH g h12 [_, _, .obj bp0_1 (.cells none 2 (Ej 256 (AB.int .u8) x4 ++ [Ai (x5.length : Int), AG rp0_1_2 p0.d_.Ba.length, AG rp0_1_3 p0.d_.BX.length, AG rp0_1_4 p0.d_.BV.length, .int .i32 p0.d_.Aj, .int .i32 p0.d_.BN, .bool p0.d_.BE])), _, _, _, _, _, _] F := A1
  refine C1 3 [] hx H fun fr t H => ?_
  refine at_nil ?_
  obtain ⟨rfl, rfl⟩ := Ds hm
  refine ⟨.inr rfl, .tuple [], rH H, ?_⟩
  replace A := A.k8 1 2 3 4 5 6 7 8
  exact ⟨r2, rfl, A⟩
 exact hF.elim
def HA (p0 : List Int) (s : (List UInt8) × Int) : Option (((List UInt8) × Int) ⊕ (((List UInt8)))) :=
 match s with
 | (x1, x2) => Af (decide (x2 < (p0.length : Int))) ((Ff p0 x2).bind fun x4 => (RB (IntKind.u8.wrap x4)).bind fun x5 => (RB (IntKind.u8.wrap (GZ .i64 x4 (8 : Int)))).bind fun x6 => Cm (KI 1 (x1.length + ([x5, x6] : List UInt8).length)) <| some (.inl ((x1 ++ ([x5, x6] : List UInt8)), IntKind.i64.wrap (x2 + 1)))) (some (.inr x1))
def H6 (p0 : List Int) : Option ((List UInt8)) :=
 (loop (HA p0) (([] : List UInt8), (0 : Int))).bind fun x3 => some x3
theorem P2 {p0 q0} (hm : H6 p0 = some q0) (A : HH g h [] F) (hc : BZ (cfg.still 48) av = [vs (eI .i64) p0] := by kernel_rfl) : ∃ v h', Bg cfg g h 48 av v h' ∧ v = .str q0 ∧ HH g h' [] F := by
 refine E5 23 [.tmp 2] hc ?_
 clear hc
 unfold H6 at hm
 refine bg 23 [(0, vs (eI .i64) p0)] fun fr H => ?_
 refine AD 1 (Bw 1 [] 1 H fun fr H => AM 1 [(3, .slice none 0)] H fun fr H => AQ (AD 3 (AM 3 [(6, vs (eI .i64) p0), (7, Ai (p0.length : Int)), (8, Ai 0)] H fun fr H => Ac (id := 0) (by kernel_rfl) ?_)))
 replace A : HH g h [.AO none 5 (AO eY ([] : List UInt8))] F := A.IY 5
 obtain ⟨o1, ho, hm⟩ := bind_some hm
 refine As (Q' := fun e fr' h' => (∃ x3, e = .exit 0 ∧ x3 = o1 ∧ ∃ r2, Has fr' 23 [(3, AG r2 x3.length)] ∧ HH g h' [.AO r2 5 (AO eY x3)] F) ∨ False) ?_ ?_
 ·refine B2 (by kernel_rfl) (fun (s : (List UInt8) × Int) fr' h' => ∃ x1 x2, (x1, x2) = s ∧ ∃ r1, Has fr' 23 [(3, AG r1 x1.length), (6, vs (eI .i64) p0), (7, Ai (p0.length : Int)), (8, Ai x2)] ∧ HH g h' [.AO r1 5 (AO eY x1)] F) ho ⟨_, _, rfl, none, H.ls, A⟩ ?_
  clear ho hm H A
  intro s q fr h1 hI hm
  obtain ⟨x1, x2, rfl, r1, H, A⟩ := hI
  unfold HA at hm
  refine AD 1 (AM 1 [(9, .bool (decide (x2 < (p0.length : Int))))] H fun fr H => AQ (AV 9 H hm (fun hb hm H => ?_) fun hb hm H => ?_))
  ·refine CE id (AQ (Ac (id := 1) (by kernel_rfl) ?_))
   refine AD 3 ?_
   obtain ⟨x4, hx, hm⟩ := bind_some hm
   refine Ax 10 (.Aq [Ai x4]) h1 H (fun fr => .of (Hl (e := (eI .i64)) (x := x4) (encI .i64) (by decide) (by kernel_rfl) hx)) fun fr t H => ?_
   refine Ax 11 (Ai x4) h1 H (fun fr => .of (FK (by kernel_rfl))) fun fr t H => ?_
   refine Vt 1 [(5, Ai x4)] 9 H fun fr H => AE 6 [(12, AG r1 x1.length), (14, Ab (IntKind.u8.wrap x4)), (17, Ab (IntKind.u8.wrap (GZ .i64 x4 (8 : Int))))] H fun fr H => ?_
   obtain ⟨x5, hx, hm⟩ := bind_some hm
   have hx := LY hx
   rw [hx] at H
   obtain ⟨x6, hx, hm⟩ := bind_some hm
   have hx := LY hx
   rw [hx] at H
   obtain ⟨h2, e1, A⟩ := A.pL 5 [Ab (x5.toNat : Int), Ab (x6.toNat : Int)]
   refine Bo 18 (AG (some h1.size) (([x5, x6] : List UInt8).length)) e1 H fun fr t H => ?_
   obtain ⟨hb, hm⟩ := BQ hm
   obtain ⟨r3, h3, hx, A1⟩ := HH.Hd J1 (by decide) A 1 (xs := x1) (ys := ([x5, x6] : List UInt8)) rfl (B6 A 0 rfl (n := ([x5, x6] : List UInt8).length) (z := 1) rfl (by decide)) rfl rfl hb
   replace A : HH g h3 [.AO (some h1.size) 5 ([Ab (x5.toNat : Int), Ab (x6.toNat : Int)]), .AO r3 5 (AO eY (x1 ++ ([x5, x6] : List UInt8)))] F := A1
   replace A := A.k1 1
   refine Ax 19 _ _ H (fun fr => .of (Er (s := Cf r1 x1.length) (by kernel_rfl) hx)) fun fr t H => ?_
   refine BG 1 [(3, AG r3 ((x1 ++ ([x5, x6] : List UInt8)).length)), (6, vs (eI .i64) p0), (7, Ai (p0.length : Int)), (8, Ai x2)] H fun fr H => Gq 2 id (BG 2 [(3, AG r3 ((x1 ++ ([x5, x6] : List UInt8)).length)), (6, vs (eI .i64) p0), (7, Ai (p0.length : Int)), (8, Ai (IntKind.i64.wrap (x2 + 1)))] H fun fr H => at_nil ?_)
   exact nx hm ⟨_, _, rfl, _, H.ls, A⟩
  refine BO (i := 0) (by kernel_rfl) ?_
  exact nr hm fun e => .inl ⟨_, rfl, e, _, H.ls, A⟩
 clear ho
 clear A
 intro e fr h4 hQ
 rcases hQ with ⟨x3, rfl, rfl, r2, H, A⟩ | hF
 ·show AW _ _ _ _ _ _ _
  refine AD 3 (AE 1 [(21, AG r2 x3.length)] H fun fr H => Ax 22 (.str x3) h4 H (fun fr => .of (Ou (xs := x3) A 0 rfl (by kernel_rfl))) fun fr t H => ?_)
  refine AM 1 [(2, .str x3)] H fun fr H => Ag ?_
  obtain rfl := Ah hm
  refine ⟨.inl rfl, .str x3, rH H, ?_⟩
  replace A := A.d0
  exact ⟨rfl, A⟩
 exact hF.elim
def B7 (p0 : Cp) (p1 : List Int) : Option (Int × Bool × (List Bool) × (List Bool) × (List ((List UInt8) × Int)) × (List (List Int))) :=
 Af ((p1.length : Int) == 0) (some ((-1 : Int), true, p0.d_.BX, p0.d_.BV, p0.EA, p0.Bs)) ((H6 p1).bind fun x1 => Af ((Dm p0.EA x1).isSome) (some (((Dm p0.EA x1).getD (0 : Int)), true, p0.d_.BX, p0.d_.BV, p0.EA, p0.Bs)) (Af ((p0.Bs.length : Int) == p0.CH) (some ((0 : Int), false, p0.d_.BX, p0.d_.BV, p0.EA, p0.Bs)) (Cm (KI 24 (p0.Bs.length + ([p1] : List (List Int)).length)) <| (D8 p0.a_ p1 false).bind fun x2 => Cm (KI 1 (p0.d_.BX.length + ([x2] : List Bool).length)) <| (D8 p0.a_ p1 true).bind fun x3 => Cm (KI 1 (p0.d_.BV.length + ([x3] : List Bool).length)) <| some (IntKind.i32.wrap (p0.Bs.length : Int), true, (p0.d_.BX ++ ([x2] : List Bool)), (p0.d_.BV ++ ([x3] : List Bool)), (CO p0.EA x1 (IntKind.i32.wrap (p0.Bs.length : Int))), (p0.Bs ++ ([p1] : List (List Int)))))))
theorem EG {p0 p1 bp0 bp0_1 rp0_1_2 rp0_1_3 rp0_1_4 rp0_3 bp0_4 rp0_5 q0 q1 u3 u4 u6 u7} (hm : B7 p0 p1 = some (q0, q1, u3, u4, u6, u7)) (A : HH g h [.obj bp0 (.cells none 2 [.Aq (AK p0.a_), .ptr (some (bp0_1, 0)), Ai p0.CH, AG rp0_3 p0.JU.length, .map (some bp0_4), AG rp0_5 p0.Bs.length]), .obj bp0_1 (.cells none 2 (Ej 256 (AB.int .u8) p0.d_.Az ++ [Ai p0.d_.Al, AG rp0_1_2 p0.d_.Ba.length, AG rp0_1_3 p0.d_.BX.length, AG rp0_1_4 p0.d_.BV.length, .int .i32 p0.d_.Aj, .int .i32 p0.d_.BN, .bool p0.d_.BE])), .AO rp0_1_2 21 (AO (eI .i32) p0.d_.Ba), .AO rp0_1_3 4 (AO eB p0.d_.BX), .AO rp0_1_4 4 (AO eB p0.d_.BV), .AO rp0_3 5 (AO eY p0.JU), .obj bp0_4 (.map 2 (Cz (fun k : List UInt8 => .str k) (fun v : Int => .int .i32 v) p0.EA)), .AO rp0_5 63 (AO (eL (eI .i64)) p0.Bs)] F) (hc : BZ (cfg.still 24) av = [.ptr (some (bp0, 0)), vs (eI .i64) p1] := by kernel_rfl) : ∃ v h', Bg cfg g h 24 av v h' ∧ ∃ (r'3 : Option Nat) (r'4 : Option Nat) (r'7 : Option Nat), v = .tuple [.int .i32 q0, .bool q1] ∧ HH g h' [.obj bp0 (.cells none 2 [.Aq (AK p0.a_), .ptr (some (bp0_1, 0)), Ai p0.CH, AG rp0_3 p0.JU.length, .map (some bp0_4), AG r'7 u7.length]), .obj bp0_1 (.cells none 2 (Ej 256 (AB.int .u8) p0.d_.Az ++ [Ai p0.d_.Al, AG rp0_1_2 p0.d_.Ba.length, AG r'3 u3.length, AG r'4 u4.length, .int .i32 p0.d_.Aj, .int .i32 p0.d_.BN, .bool p0.d_.BE])), .AO rp0_1_2 21 (AO (eI .i32) p0.d_.Ba), .AO r'3 4 (AO eB u3), .AO r'4 4 (AO eB u4), .AO rp0_3 5 (AO eY p0.JU), .obj bp0_4 (.map 2 (Cz (fun k : List UInt8 => .str k) (fun v : Int => .int .i32 v) u6)), .AO r'7 63 (AO (eL (eI .i64)) u7)] F := by
 refine E5 101 [.tmp 4, .tmp 5] hc ?_
 clear hc
 unfold B7 at hm
 refine bg 101 [(0, .ptr (some (bp0, 0))), (1, vs (eI .i64) p1)] fun fr H => ?_
 refine AD 2 (AM 2 [] H fun fr H => AQ (AD 3 (AM 3 [(12, .bool ((p1.length : Int) == 0))] H fun fr H => AV 12 H hm (fun hb hm H => ?_) fun hb hm H => ?_)))
 ·refine AD 2 (AM 2 [(4, .int .i32 (-1)), (5, .bool true)] H fun fr H => Ag ?_)
  obtain ⟨rfl, rfl, rfl, rfl, rfl, rfl⟩ := TJ hm
  exact ⟨.inl rfl, _, rH H, _, _, _, rfl, A⟩
 refine Ca 3 id ?_
 obtain ⟨x1, hx, hm⟩ := bind_some hm
 obtain ⟨v1, h1, hr, rfl, A1⟩ := P2 (av := [vs (eI .i64) p1]) hx (A.cut 0)
 replace A := A.Ea A1
 refine Ap 1 [] 14 hr H fun fr t H => ?_
 refine AM 1 [(6, .str x1)] H fun fr H => AQ (AD 11 (Ad 3 [] 19 0 4 A H fun fr t H => ?_))
 refine BI 1 [] 21 (.tuple [.int .i32 ((Dm p0.EA x1).getD (0 : Int)), .bool ((Dm p0.EA x1).isSome)]) h1 H (fun fr => .of (VW (by kernel_rfl) (HH.Tz (kt := 9) (et := 21) (ek := fun k : List UInt8 => .str k) (ev := fun v : Int => .int .i32 v) (WR (by kernel_rfl)) A 6 rfl (t := 70) (by kernel_rfl) (z := (0 : Int)) (by kernel_rfl) x1))) fun fr t H => ?_
 refine Bw 5 [(7, .int .i32 ((Dm p0.EA x1).getD (0 : Int))), (8, .bool ((Dm p0.EA x1).isSome))] 1 H fun fr H => AM 1 [(24, .bool ((Dm p0.EA x1).isSome))] H fun fr H => AV 24 H hm (fun hb hm H => ?_) fun hb hm H => ?_
 ·refine AD 3 (AM 3 [(4, .int .i32 ((Dm p0.EA x1).getD (0 : Int))), (5, .bool true)] H fun fr H => Ag ?_)
  obtain ⟨rfl, rfl, rfl, rfl, rfl, rfl⟩ := TJ hm
  exact ⟨.inl rfl, _, rH H, _, _, _, rfl, A⟩
 refine CE id (AQ (AQ (EO 7 10 ?_)))
 refine Ad 3 [] 29 0 5 A H fun fr t H => ?_
 refine Ad 4 [(30, Ai (p0.Bs.length : Int))] 34 0 2 A H fun fr t H => ?_
 refine AM 1 [(35, .bool ((p0.Bs.length : Int) == p0.CH))] H fun fr H => AV 35 H hm (fun hb hm H => ?_) fun hb hm H => ?_
 ·refine AD 2 (AM 2 [(4, .int .i32 0), (5, .bool false)] H fun fr H => Ag ?_)
  obtain ⟨rfl, rfl, rfl, rfl, rfl, rfl⟩ := TJ hm
  exact ⟨.inl rfl, _, rH H, _, _, _, rfl, A⟩
 refine Ca 7 id (Ad 3 [] 39 0 5 A H fun fr t H => ?_)
 refine Bw 3 [(9, .int .i32 (IntKind.i32.wrap (p0.Bs.length : Int)))] 7 H fun fr H => Ad 3 [] 45 0 4 A H fun fr t H => ?_
 refine AE 2 [(46, .str x1), (47, .int .i32 (IntKind.i32.wrap (p0.Bs.length : Int)))] H fun fr H => ?_
 obtain ⟨h2, hx, A1⟩ := HH.RJ (kt := 9) (et := 21) (ek := fun k : List UInt8 => .str k) (ev := fun v : Int => .int .i32 v) (WR (by kernel_rfl)) A 6 rfl (t := 70) (by kernel_rfl) x1 (IntKind.i32.wrap (p0.Bs.length : Int))
 replace A : HH g h2 [_, _, _, _, _, _, .obj bp0_4 (.map 2 (Cz (fun k : List UInt8 => .str k) (fun v : Int => .int .i32 v) (CO p0.EA x1 (IntKind.i32.wrap (p0.Bs.length : Int))))), _] F := A1
 refine K6 (.tuple []) h2 H (fun fr => .of (Rq (by kernel_rfl) hx)) fun fr t H => ?_
 refine CG 11 id (Ad 4 [(48, .ptr (some (bp0, 0)))] 52 0 5 A H fun fr t H => ?_)
 refine AE 1 [(53, vs (eI .i64) p1)] H fun fr H => ?_
 obtain ⟨h3, e1, A⟩ := A.pL 63 [vs (eI .i64) p1]
 refine Bo 54 (AG (some h2.size) (([p1] : List (List Int)).length)) e1 H fun fr t H => ?_
 obtain ⟨hb, hm⟩ := BQ hm
 obtain ⟨r1, h4, hx, A1⟩ := HH.Hd (WE _) (by decide) A 8 (xs := p0.Bs) (ys := ([p1] : List (List Int))) rfl (B6 A 0 rfl (n := ([p1] : List (List Int)).length) (z := 1) rfl (by decide)) rfl rfl hb
 replace A : HH g h4 [.AO (some h2.size) 63 ([vs (eI .i64) p1]), _, _, _, _, _, _, _, .AO r1 63 (AO (eL (eI .i64)) (p0.Bs ++ ([p1] : List (List Int))))] F := A1
 replace A := A.k8 1 2 3 4 5 6 7 8
 refine Ax 55 _ _ H (fun fr => .of (Er (s := Cf rp0_5 p0.Bs.length) (by kernel_rfl) hx)) fun fr t H => ?_
 obtain ⟨h5, hx, A1⟩ := A.st 0 rfl (o := 5) (new := [AG r1 ((p0.Bs ++ ([p1] : List (List Int))).length)]) (ds := [.Aq (AK p0.a_), .ptr (some (bp0_1, 0)), Ai p0.CH, AG rp0_3 p0.JU.length, .map (some bp0_4), AG r1 ((p0.Bs ++ ([p1] : List (List Int))).length)]) (Nat.le_of_ble_eq_true rfl) rfl rfl
 replace A : HH g h5 [.obj bp0 (.cells none 2 [_, _, _, _, _, AG r1 ((p0.Bs ++ ([p1] : List (List Int))).length)]), _, _, _, _, _, _, _] F := A1
 refine C1 2 [] hx H fun fr t H => ?_
 refine BK id (AQ (Ft 12 22 [(0, []), (1, []), (2, []), (3, []), (4, []), (5, []), (6, []), (7, []), (8, []), (9, []), (10, []), (11, []), (12, []), (13, []), (14, []), (15, []), (16, [3, 7, 10]), (17, []), (18, [3]), (19, []), (20, []), (21, [])] ?_))
 refine AE 3 [(60, .ptr (some (bp0, 1)))] H fun fr H => BT 61 (.ptr (some (bp0_1, 0))) h5 [(3, bp0)] (g.BR) H (fun fr => .of (Dd (by kernel_rfl) (A.l1 0 1))) (fun fr H => ?_)
 refine AE 3 [(64, .ptr (some (bp0, 1)))] H fun fr H => BT 65 (.ptr (some (bp0_1, 0))) h5 [(7, bp0), (3, bp0)] (g.BR) H (fun fr => .of (Dd (by kernel_rfl) (A.l1 0 1))) (fun fr H => ?_)
 refine AE 2 [(67, .ptr (some (bp0_1, 258)))] H fun fr H => BT 68 (AG rp0_1_3 p0.d_.BX.length) h5 [(10, bp0_1), (7, bp0), (3, bp0)] (g.BR) H (fun fr => .of (Dd (by kernel_rfl) (A.O7 1 rfl (o := 258) (by kernel_rfl)))) (fun fr H => ?_)
 refine AE 3 [(71, .ptr (some (bp0, 0)))] H fun fr H => BT 72 (.Aq (AK p0.a_)) h5 [(14, bp0), (10, bp0_1), (7, bp0), (3, bp0)] (g.BR) H (fun fr => .of (Dd (by kernel_rfl) (A.l1 0 0))) (fun fr H => ?_)
 refine AE 1 [(73, vs (eI .i64) p1)] H fun fr H => ?_
 have A1 := A.Fe 0 (pr := [bp0_1, bp0, bp0]) (.cons 1 rfl (by simp [Ck.ids]) (.cons 0 rfl (by simp [Ck.ids]) (.cons 0 rfl (by simp [Ck.ids]) .nil)))
 obtain ⟨x2, hx, hm⟩ := bind_some hm
 obtain ⟨v1, h6, hr, rfl, A1⟩ := H4 (av := [.Aq (AK p0.a_), vs (eI .i64) p1, .bool false]) hx A1
 replace A := A.Tu A1
 refine BT 74 (.bool x2) h6 [(14, bp0), (10, bp0_1), (7, bp0), (3, bp0)] (bp0_1 :: bp0 :: bp0 :: g.BR) H (fun fr => Steps.call (by kernel_rfl) hr) (fun fr H => ?_)
 obtain ⟨h7, e2, A⟩ := A.pL 4 [.bool x2]
 refine BT 75 (AG (some h6.size) (([x2] : List Bool).length)) h7 [(17, h6.size), (14, bp0), (10, bp0_1), (7, bp0), (3, bp0)] (g.BR) H (fun fr => .of (OQ (by kernel_rfl) (congrArg some e2.symm))) (fun fr H => ?_)
 replace A : HH g h7 [_, .AO (some h6.size) 4 ([.bool x2]), _, _, _, _, _, _, _] F := (A.front 4 rfl)
 have A1 := A.Fe 1 (pr := [bp0]) (.cons 1 rfl (by simp [Ck.ids]) .nil)
 obtain ⟨hb, hm⟩ := BQ hm
 obtain ⟨r2, h8, hx, A1⟩ := HH.Hd Fx (by decide) A1 0 (xs := p0.d_.BX) (ys := ([x2] : List Bool)) rfl (B6 A 1 rfl (n := ([x2] : List Bool).length) (z := 1) rfl (by decide)) rfl rfl hb
 replace A := A.VA A1
 replace A := A.k8 0 2 3 4 5 6 7 8
 refine BT 76 (AG r2 ((p0.d_.BX ++ ([x2] : List Bool)).length)) h8 [(17, h6.size), (14, bp0), (10, bp0_1), (7, bp0), (3, bp0)] (bp0 :: g.BR) H (fun fr => .of (Er (s := Cf rp0_1_3 p0.d_.BX.length) (by kernel_rfl) hx)) (fun fr H => ?_)
 refine AE 2 [(78, .ptr (some (bp0_1, 258)))] H fun fr H => ?_
 obtain ⟨h9, hx, A1⟩ := A.st 2 rfl (o := 258) (new := [AG r2 ((p0.d_.BX ++ ([x2] : List Bool)).length)]) (ds := (Ej 256 (AB.int .u8) p0.d_.Az ++ ([Ai p0.d_.Al, AG rp0_1_2 p0.d_.Ba.length, AG r2 ((p0.d_.BX ++ ([x2] : List Bool)).length), AG rp0_1_4 p0.d_.BV.length, .int .i32 p0.d_.Aj, .int .i32 p0.d_.BN, .bool p0.d_.BE]))) (Nat.le_of_ble_eq_true (by kernel_rfl)) rfl (by kernel_rfl)
 replace A : HH g h9 [_, _, .obj bp0_1 (.cells none 2 (Ej 256 (AB.int .u8) p0.d_.Az ++ ([Ai p0.d_.Al, AG rp0_1_2 p0.d_.Ba.length, AG r2 ((p0.d_.BX ++ ([x2] : List Bool)).length), AG rp0_1_4 p0.d_.BV.length, .int .i32 p0.d_.Aj, .int .i32 p0.d_.BN, .bool p0.d_.BE]))), _, _, _, _, _] F := A1
 refine Gj (.tuple []) h9 [(17, h6.size), (14, bp0), (10, bp0_1), (7, bp0), (3, bp0)] (g.BR) H (fun fr => .of (MS (by kernel_rfl) rfl hx)) (fun fr H => ?_)
 refine BK id (AQ (Ft 13 22 [(0, []), (1, []), (2, []), (3, []), (4, []), (5, []), (6, []), (7, []), (8, []), (9, []), (10, []), (11, []), (12, []), (13, []), (14, []), (15, []), (16, [3, 7, 10]), (17, []), (18, [3]), (19, []), (20, []), (21, [])] ?_))
 refine AE 3 [(81, .ptr (some (bp0, 1)))] H fun fr H => BT 82 (.ptr (some (bp0_1, 0))) h9 [(3, bp0)] (g.BR) H (fun fr => .of (Dd (by kernel_rfl) (A.l1 1 1))) (fun fr H => ?_)
 refine AE 3 [(85, .ptr (some (bp0, 1)))] H fun fr H => BT 86 (.ptr (some (bp0_1, 0))) h9 [(7, bp0), (3, bp0)] (g.BR) H (fun fr => .of (Dd (by kernel_rfl) (A.l1 1 1))) (fun fr H => ?_)
 refine AE 2 [(88, .ptr (some (bp0_1, 259)))] H fun fr H => BT 89 (AG rp0_1_4 p0.d_.BV.length) h9 [(10, bp0_1), (7, bp0), (3, bp0)] (g.BR) H (fun fr => .of (Dd (by kernel_rfl) (A.O7 2 rfl (o := 259) (by kernel_rfl)))) (fun fr H => ?_)
 refine AE 3 [(92, .ptr (some (bp0, 0)))] H fun fr H => BT 93 (.Aq (AK p0.a_)) h9 [(14, bp0), (10, bp0_1), (7, bp0), (3, bp0)] (g.BR) H (fun fr => .of (Dd (by kernel_rfl) (A.l1 1 0))) (fun fr H => ?_)
 refine AE 1 [(94, vs (eI .i64) p1)] H fun fr H => ?_
 have A1 := A.Fe 0 (pr := [bp0_1, bp0, bp0]) (.cons 2 rfl (by simp [Ck.ids]) (.cons 1 rfl (by simp [Ck.ids]) (.cons 1 rfl (by simp [Ck.ids]) .nil)))
 obtain ⟨x3, hx, hm⟩ := bind_some hm
 obtain ⟨v1, h10, hr, rfl, A1⟩ := H4 (av := [.Aq (AK p0.a_), vs (eI .i64) p1, .bool true]) hx A1
 replace A := A.Tu A1
 refine BT 95 (.bool x3) h10 [(14, bp0), (10, bp0_1), (7, bp0), (3, bp0)] (bp0_1 :: bp0 :: bp0 :: g.BR) H (fun fr => Steps.call (by kernel_rfl) hr) (fun fr H => ?_)
 obtain ⟨h11, e3, A⟩ := A.pL 4 [.bool x3]
 refine BT 96 (AG (some h10.size) (([x3] : List Bool).length)) h11 [(17, h10.size), (14, bp0), (10, bp0_1), (7, bp0), (3, bp0)] (g.BR) H (fun fr => .of (OQ (by kernel_rfl) (congrArg some e3.symm))) (fun fr H => ?_)
 replace A : HH g h11 [_, .AO (some h10.size) 4 ([.bool x3]), _, _, _, _, _, _, _] F := (A.front 5 rfl)
 have A1 := A.Fe 1 (pr := [bp0]) (.cons 2 rfl (by simp [Ck.ids]) .nil)
 obtain ⟨hb, hm⟩ := BQ hm
 obtain ⟨r3, h12, hx, A1⟩ := HH.Hd Fx (by decide) A1 0 (xs := p0.d_.BV) (ys := ([x3] : List Bool)) rfl (B6 A 1 rfl (n := ([x3] : List Bool).length) (z := 1) rfl (by decide)) rfl rfl hb
 replace A := A.VA A1
 replace A := A.k8 0 2 3 4 5 6 7 8
 refine BT 97 (AG r3 ((p0.d_.BV ++ ([x3] : List Bool)).length)) h12 [(17, h10.size), (14, bp0), (10, bp0_1), (7, bp0), (3, bp0)] (bp0 :: g.BR) H (fun fr => .of (Er (s := Cf rp0_1_4 p0.d_.BV.length) (by kernel_rfl) hx)) (fun fr H => ?_)
 refine AE 2 [(99, .ptr (some (bp0_1, 259)))] H fun fr H => ?_
 obtain ⟨h13, hx, A1⟩ := A.st 3 rfl (o := 259) (new := [AG r3 ((p0.d_.BV ++ ([x3] : List Bool)).length)]) (ds := (Ej 256 (AB.int .u8) p0.d_.Az ++ ([Ai p0.d_.Al, AG rp0_1_2 p0.d_.Ba.length, AG r2 ((p0.d_.BX ++ ([x2] : List Bool)).length), AG r3 ((p0.d_.BV ++ ([x3] : List Bool)).length), .int .i32 p0.d_.Aj, .int .i32 p0.d_.BN, .bool p0.d_.BE]))) (Nat.le_of_ble_eq_true (by kernel_rfl)) rfl (by kernel_rfl)
 replace A : HH g h13 [_, _, _, .obj bp0_1 (.cells none 2 (Ej 256 (AB.int .u8) p0.d_.Az ++ ([Ai p0.d_.Al, AG rp0_1_2 p0.d_.Ba.length, AG r2 ((p0.d_.BX ++ ([x2] : List Bool)).length), AG r3 ((p0.d_.BV ++ ([x3] : List Bool)).length), .int .i32 p0.d_.Aj, .int .i32 p0.d_.BN, .bool p0.d_.BE]))), _, _, _, _] F := A1
 refine Gj (.tuple []) h13 [(17, h10.size), (14, bp0), (10, bp0_1), (7, bp0), (3, bp0)] (g.BR) H (fun fr => .of (MS (by kernel_rfl) rfl hx)) (fun fr H => ?_)
 refine CG 3 id (AM 3 [(4, .int .i32 (IntKind.i32.wrap (p0.Bs.length : Int))), (5, .bool true)] H fun fr H => Ag ?_)
 obtain ⟨rfl, rfl, rfl, rfl, rfl, rfl⟩ := TJ hm
 refine ⟨.inl rfl, .tuple [.int .i32 (IntKind.i32.wrap (p0.Bs.length : Int)), .bool true], rH H, ?_⟩
 replace A := A.k8 2 3 4 1 0 5 6 7
 exact ⟨r2, r3, r1, rfl, A⟩
def FB (p1 : Int) (x1 : Ak) (x4 : Bu) (x5 : List UInt8) (x7 : Int) (x14 : Int) (x25 : Int) (s : (List Int) × (List Bool) × (List Bool) × (List ((List UInt8) × Int)) × (List (List Int)) × Int) : Option (((List Int) × (List Bool) × (List Bool) × (List ((List UInt8) × Int)) × (List (List Int)) × Int) ⊕ (((List Int) × (List Bool) × (List Bool) × (List ((List UInt8) × Int)) × (List (List Int))) ⊕ ((List Int) × (List Bool) × (List Bool) × (List ((List UInt8) × Int)) × (List (List Int)) × Int))) :=
 match s with
 | (x37, x38, x39, x40, x41, x42) => Af (decide (x42 < (x5.length : Int))) ((Ff x5 x42).bind fun x54 => (Ff x41 x25).bind fun x55 => (EZ x1 x55 (x54.toNat : Int)).bind fun x56 => (B7 (⟨x1, (⟨x4.Az, x4.Al, x37, x38, x39, x7, x14, x4.BE⟩ : Bu), p1, x5, x40, x41⟩ : Cp) x56).bind fun (x57, x58, x59, x60, x61, x62) => Af (!x58) (some (.inr (.inr (x37, x59, x60, x61, x62, (7 : Int))))) (Cm (KI 4 (x37.length + ([x57] : List Int).length)) <| some (.inl ((x37 ++ ([x57] : List Int)), x59, x60, x61, x62, IntKind.i64.wrap (x42 + 1))))) (some (.inr (.inl (x37, x38, x39, x40, x41))))
def G7 (p1 : Int) (x1 : Ak) (x4 : Bu) (x5 : List UInt8) (x7 : Int) (x14 : Int) (s : (List Int) × (List Bool) × (List Bool) × (List ((List UInt8) × Int)) × (List (List Int)) × Int) : Option (((List Int) × (List Bool) × (List Bool) × (List ((List UInt8) × Int)) × (List (List Int)) × Int) ⊕ (((List Int) × (List Bool) × (List Bool) × (List ((List UInt8) × Int)) × (List (List Int))) ⊕ ((List Int) × (List Bool) × (List Bool) × (List ((List UInt8) × Int)) × (List (List Int)) × Int))) :=
 match s with
 | (x20, x21, x22, x23, x24, x25) => Af (decide (x25 < (x24.length : Int))) ((loop (FB p1 x1 x4 x5 x7 x14 x25) (x20, x21, x22, x23, x24, (0 : Int))).bind fun o2 => (match o2 with | .inl (x43, x44, x45, x46, x47) => some (.inl (x43, x44, x45, x46, x47, IntKind.i64.wrap (x25 + 1))) | .inr (x48, x49, x50, x51, x52, x53) => some (.inr (.inr (x48, x49, x50, x51, x52, x53))))) (some (.inr (.inl (x20, x21, x22, x23, x24))))
def DI (p0 : AI) (p1 : Int) : Option ((Option Bu) × Int) :=
 Af ((decide (p1 < 1)) || (decide (p1 > 4096))) (some (none, (6 : Int))) ((Fo p0 (4096 : Int)).bind fun (w2, x2) => (match w2 with | some x1 => Af (x2 != 0) (some (none, x2)) ((E9 x1 ([] : List UInt8) (0 : Int)).bind fun x3 => (Cr (⟨x1, (⟨Qw, (0 : Int), ([] : List Int), ([] : List Bool), ([] : List Bool), (0 : Int), (0 : Int), decide ((x3.length : Int) > 0)⟩ : Bu), p1, ([] : List UInt8), ([] : List ((List UInt8) × Int)), ([] : List (List Int))⟩ : Cp)).bind fun (x4, x5) => (Db x1 true).bind fun x6 => (B7 (⟨x1, (⟨x4.Az, x4.Al, ([] : List Int), ([] : List Bool), ([] : List Bool), x4.Aj, x4.BN, x4.BE⟩ : Bu), p1, x5, ([] : List ((List UInt8) × Int)), ([] : List (List Int))⟩ : Cp) x6).bind fun (x7, x8, x9, x10, x11, x12) => (Db x1 false).bind fun x13 => (B7 (⟨x1, (⟨x4.Az, x4.Al, ([] : List Int), x9, x10, x7, x4.BN, x4.BE⟩ : Bu), p1, x5, x11, x12⟩ : Cp) x13).bind fun (x14, x15, x16, x17, x18, x19) => Af ((!x8) || (!x15)) (some (none, (7 : Int))) ((loop (G7 p1 x1 x4 x5 x7 x14) (([] : List Int), x16, x17, x18, x19, (0 : Int))).bind fun o1 => (match o1 with | .inl (x26, x27, x28, x29, x30) => some (some (⟨x4.Az, x4.Al, x26, x27, x28, x7, x14, x4.BE⟩ : Bu), (0 : Int)) | .inr (x31, x32, x33, x34, x35, x36) => some (none, x36)))) | none => Af (x2 != 0) (some (none, x2)) (none)))
theorem IE {p0 p1 o0 q1} (hm : DI p0 p1 = some (o0, q1)) (A : HH g h [] F) (hc : BZ (cfg.still 8) av = [.agg (Aa p0), Ai p1] := by kernel_rfl) : ∃ v h', Bg cfg g h 8 av v h' ∧ ((∃ (q0 : Bu), o0 = some q0 ∧ v = .tuple [.Aq (Ej 256 (AB.int .u8) q0.Az ++ [Ai q0.Al, vs (eI .i32) q0.Ba, vs eB q0.BX, vs eB q0.BV, .int .i32 q0.Aj, .int .i32 q0.BN, .bool q0.BE]), Ai q1] ∧ HH g h' [] F) ∨ (o0 = none ∧ v = .tuple [.ptr none, Ai q1] ∧ HH g h' [] F)) := by
 refine Xh 131 [.tmp 4, .tmp 5] hc ?_
 clear hc
 unfold DI at hm
 refine bg 131 [(0, .agg (Aa p0)), (1, Ai p1)] fun fr H => ?_
 refine AD 3 ?_
 obtain ⟨h1, e1, A⟩ := A.pu (.cells none 2 (Aa p0))
 refine Bo 2 (.ptr (some (h.size, 0))) e1 H fun fr t H => ?_
 refine AM 2 [] H fun fr H => AQ (AD 6 (AE 3 [(18, .bool (decide (p1 < 1)))] H fun fr H => BD 3 (fun fr' h' => h1 = h' ∧ Has fr' 131 [(1, Ai p1), (2, .ptr (some (h.size, 0))), (21, .bool ((decide (p1 < 1)) || (decide (p1 > 4096))))]) ?_ ?_))
 ·cases hb : (decide (p1 < 1) : Bool) with
  | true =>
   replace H := H.kn 18 hb
   exact AE 3 [(21, .bool true)] H fun fr H => Am H hb
  | false =>
   replace H := H.kn 18 hb
   exact AE 3 [(21, .bool (decide (p1 > 4096)))] H fun fr H => Am H hb
 intro t fr h' hK
 obtain ⟨e, H⟩ := hK
 subst e
 refine BK id (AV 21 H hm (fun hb hm H => ?_) fun hb hm H => ?_)
 ·refine AD 2 (AM 2 [(4, .ptr none), (5, Ai 6)] H fun fr H => Ag ?_)
  obtain ⟨rfl, rfl⟩ := Ds hm
  refine ⟨.inl rfl, .tuple [.ptr none, Ai 6], rH H, ?_⟩
  replace A := A.d0
  refine ⟨.tuple [.ptr none, Ai 6], h1, by first | rfl | (simp only [JK, Ja, JP, JO, Jd, JZ, JG, JI, JW, JN, JQ, I8, I9, HN, HG, HM, HQ, HX, HI, HJ, Option.map_some] <;> rfl), ?_⟩
  exact .inr ⟨rfl, rfl, A⟩
 refine Ca 7 id (Ax 23 _ _ H (fun fr => .of (CD (by kernel_rfl) (A.GX 0 rfl (o := 0) (n := 2) ⟨Nat.le_of_ble_eq_true rfl, rfl⟩))) fun fr t H => ?_)
 obtain ⟨⟨w2, x2⟩, hx, hm⟩ := bind_some hm
 obtain ⟨v1, h2, hr, hc⟩ := OI (av := [.agg (Aa p0), Ai 4096]) hx (A.cut 0)
 rcases hc with ⟨x1, rfl, rfl, A1⟩ | ⟨rfl, rfl, A1⟩
 ·replace A : HH g h2 [.obj h.size (.cells none 2 (Aa p0))] F := A.Ex (n := 0) A1
  refine Be 24 hr H fun fr t H => ?_
  refine AM 5 [(6, .Aq (AK x1)), (7, Ai x2)] H fun fr H => AQ (AD 2 (AM 2 [(28, .bool (x2 != 0))] H fun fr H => AV 28 H hm (fun hb hm H => ?_) fun hb hm H => ?_))
  ·refine AD 3 (AM 3 [(4, .ptr none), (5, Ai x2)] H fun fr H => Ag ?_)
   obtain ⟨rfl, rfl⟩ := Ds hm
   refine ⟨.inl rfl, .tuple [.ptr none, Ai x2], rH H, ?_⟩
   replace A := A.d0
   refine ⟨.tuple [.ptr none, Ai x2], h2, by first | rfl | (simp only [JK, Ja, JP, JO, Jd, JZ, JG, JI, JW, JN, JQ, I8, I9, HN, HG, HM, HQ, HX, HI, HJ, Option.map_some] <;> rfl), ?_⟩
   exact .inr ⟨rfl, rfl, A⟩
  refine Ca 12 id ?_
  obtain ⟨x3, hx, hm⟩ := bind_some hm
  obtain ⟨v1, h3, hr, rqw4, rfl, A1⟩ := Ly (av := [.Aq (AK x1), .str ([] : List UInt8), Ai 0]) hx (A.cut 0)
  replace A := A.XR A1
  refine Ap 2 [(30, .Aq (AK x1))] 32 hr H fun fr t H => ?_
  obtain ⟨h4, e2, A⟩ := A.pu (.cells none 2 (Ej 256 (AB.int .u8) Qw ++ [Ai 0, .slice none 0, .slice none 0, .slice none 0, .int .i32 0, .int .i32 0, .bool (decide ((x3.length : Int) > 0))]))
  refine F8 3 [] 36 (.ptr (some (h3.size, 0))) e2 H fun fr t H => ?_
  refine AE 1 [(37, Ai p1)] H fun fr H => ?_
  obtain ⟨h5, e3⟩ : ∃ x, x = h4.push (.map 2 []) := ⟨_, rfl⟩
  replace A : HH g h5 [.obj h4.size (.map 2 (Cz (fun k : List UInt8 => .str k) (fun v : Int => .int .i32 v) ([] : List ((List UInt8) × Int)))), .obj h3.size (.cells none 2 (Ej 256 (AB.int .u8) Qw ++ [Ai 0, .slice none 0, .slice none 0, .slice none 0, .int .i32 0, .int .i32 0, .bool (decide ((x3.length : Int) > 0))])), _, _] F := (A.push _).to e3
  refine Bo 38 (.map (some h4.size)) e3 H fun fr t H => ?_
  obtain ⟨h6, e4, A⟩ := A.pu (.cells none 2 [.Aq (AK x1), .ptr (some (h3.size, 0)), Ai p1, .slice none 0, .map (some h4.size), .slice none 0])
  refine F8 1 [] 40 (.ptr (some (h5.size, 0))) e4 H fun fr t H => ?_
  refine Bw 1 [(8, .ptr (some (h5.size, 0)))] 2 H fun fr H => ?_
  replace A : HH g h6 [.AO none 21 (AO (eI .i32) ([] : List Int)), .obj h5.size (.cells none 2 [.Aq (AK x1), .ptr (some (h3.size, 0)), Ai p1, .slice none 0, .map (some h4.size), .slice none 0]), _, .obj h3.size (.cells none 2 (Ej 256 (AB.int .u8) Qw ++ [Ai 0, AG none (([] : List Int).length), .slice none 0, .slice none 0, .int .i32 0, .int .i32 0, .bool (decide ((x3.length : Int) > 0))])), _, _] F := A.IY 21
  replace A : HH g h6 [.AO none 4 (AO eB ([] : List Bool)), _, _, _, .obj h3.size (.cells none 2 (Ej 256 (AB.int .u8) Qw ++ [Ai 0, AG none (([] : List Int).length), AG none (([] : List Bool).length), .slice none 0, .int .i32 0, .int .i32 0, .bool (decide ((x3.length : Int) > 0))])), _, _] F := A.IY 4
  replace A : HH g h6 [_, _, _, _, _, .obj h3.size (.cells none 2 (Ej 256 (AB.int .u8) Qw ++ [Ai 0, AG none (([] : List Int).length), AG none (([] : List Bool).length), AG none (([] : List Bool).length), .int .i32 0, .int .i32 0, .bool (decide ((x3.length : Int) > 0))])), _, _] F := A.IY 4
  replace A : HH g h6 [.AO none 5 (AO eY ([] : List UInt8)), _, _, _, .obj h5.size (.cells none 2 [_, _, _, AG none (([] : List UInt8).length), _, _]), _, _, _, _] F := A.IY 5
  replace A : HH g h6 [.AO none 63 (AO (eL (eI .i64)) ([] : List (List Int))), _, _, _, _, .obj h5.size (.cells none 2 [_, _, _, _, _, AG none (([] : List (List Int)).length)]), _, _, _, _] F := A.IY 63
  replace A : HH g h6 [_, _, _, _, _, _, _, _, _, _] F := ((((((((A.front 0 rfl).front 6 rfl).front 2 rfl).front 3 rfl).front 4 rfl).front 5 rfl).front 7 rfl).front 7 rfl)
  obtain ⟨⟨x4, x5⟩, hx, hm⟩ := bind_some hm
  obtain ⟨v1, h7, hr, r1, rfl, A1⟩ := Ht (av := [.ptr (some (h5.size, 0))]) hx (A.cut 8)
  replace A : HH g h7 [.obj h5.size (.cells none 2 [_, _, _, AG r1 x5.length, _, _]), .obj h3.size (.cells none 2 (Ej 256 (AB.int .u8) x4.Az ++ [Ai x4.Al, AG none (([] : List Int).length), AG none (([] : List Bool).length), AG none (([] : List Bool).length), .int .i32 x4.Aj, .int .i32 x4.BN, .bool x4.BE])), .AO none 21 (AO (eI .i32) ([] : List Int)), .AO none 4 (AO eB ([] : List Bool)), .AO none 4 (AO eB ([] : List Bool)), .AO r1 5 (AO eY x5), .obj h4.size (.map 2 (Cz (fun k : List UInt8 => .str k) (fun v : Int => .int .i32 v) ([] : List ((List UInt8) × Int)))), .AO none 63 (AO (eL (eI .i64)) ([] : List (List Int))), _, _] F := A.Ex (n := 8) A1
  refine LS 1 [] hr H fun fr t H => ?_
  refine CG 2 id (AM 2 [] H fun fr H => AQ (Ft 9 15 [(0, []), (1, []), (2, []), (3, []), (4, []), (5, []), (6, [3]), (7, [10003]), (8, []), (9, []), (10, []), (11, []), (12, []), (13, []), (14, [])] ?_))
  refine AE 3 [(46, .ptr (some (h5.size, 1)))] H fun fr H => BT 47 (.ptr (some (h3.size, 0))) h7 [(3, h5.size)] (g.BR) H (fun fr => .of (Dd (by kernel_rfl) (A.l1 0 1))) (fun fr H => ?_)
  refine AE 2 [(48, .ptr (some (h5.size, 0))), (49, .Aq (AK x1))] H fun fr H => ?_
  have A1 := A.Fe 0 (pr := [h5.size]) (.cons 0 rfl (by simp [Ck.ids]) .nil)
  obtain ⟨x6, hx, hm⟩ := bind_some hm
  obtain ⟨v1, h8, hr, rfl, A1⟩ := GD (av := [.Aq (AK x1), .bool true]) hx A1
  replace A := A.Tu A1
  refine BT 50 (vs (eI .i64) x6) h8 [(3, h5.size)] (h5.size :: g.BR) H (fun fr => Steps.call (by kernel_rfl) hr) (fun fr H => ?_)
  obtain ⟨⟨x7, x8, x9, x10, x11, x12⟩, hx, hm⟩ := bind_some hm
  obtain ⟨v1, h9, hr, r2, r3, r4, rfl, A1⟩ := EG (av := [.ptr (some (h5.size, 0)), vs (eI .i64) x6]) hx (A.cut 8)
  replace A : HH g h9 [.obj h5.size (.cells none 2 [_, _, _, _, _, AG r4 x12.length]), .obj h3.size (.cells none 2 (Ej 256 (AB.int .u8) x4.Az ++ [Ai x4.Al, AG none (([] : List Int).length), AG r2 x9.length, AG r3 x10.length, .int .i32 x4.Aj, .int .i32 x4.BN, .bool x4.BE])), .AO none 21 (AO (eI .i32) ([] : List Int)), .AO r2 4 (AO eB x9), .AO r3 4 (AO eB x10), .AO r1 5 (AO eY x5), .obj h4.size (.map 2 (Cz (fun k : List UInt8 => .str k) (fun v : Int => .int .i32 v) x11)), .AO r4 63 (AO (eL (eI .i64)) x12), _, _] F := A.Ex (n := 8) A1
  refine BT 51 (.tuple [.int .i32 x7, .bool x8]) h9 [(3, h5.size)] (g.BR) H (fun fr => Steps.call (by kernel_rfl) hr) (fun fr H => ?_) (hre := fun fr => LF (j := 3) rfl (UG (i := 3) (by kernel_rfl) (A.l1 0 1) (MU _ _)) (rfl))
  refine AE 5 [(52, .int .i32 x7), (53, .bool x8), (55, .ptr (some (h3.size, 260)))] H fun fr H => ?_
  obtain ⟨h10, hx, A1⟩ := A.st 1 rfl (o := 260) (new := [.int .i32 x7]) (ds := (Ej 256 (AB.int .u8) x4.Az ++ [Ai x4.Al, AG none (([] : List Int).length), AG r2 x9.length, AG r3 x10.length, .int .i32 x7, .int .i32 x4.BN, .bool x4.BE])) (Nat.le_of_ble_eq_true (by kernel_rfl)) rfl (by kernel_rfl)
  replace A : HH g h10 [_, .obj h3.size (.cells none 2 (Ej 256 (AB.int .u8) x4.Az ++ [Ai x4.Al, AG none (([] : List Int).length), AG r2 x9.length, AG r3 x10.length, .int .i32 x7, .int .i32 x4.BN, .bool x4.BE])), _, _, _, _, _, _, _, _] F := A1
  refine Gj (.tuple []) h10 [(3, h5.size)] (g.BR) H (fun fr => .of (MS (by kernel_rfl) rfl hx)) (fun fr H => ?_)
  refine AM 1 [(9, .bool x8)] H fun fr H => AQ (Ft 10 15 [(0, []), (1, []), (2, []), (3, []), (4, []), (5, []), (6, [3]), (7, [10003]), (8, []), (9, []), (10, []), (11, []), (12, []), (13, []), (14, [])] ?_)
  refine AE 3 [(59, .ptr (some (h5.size, 1)))] H fun fr H => BT 60 (.ptr (some (h3.size, 0))) h10 [(3, h5.size)] (g.BR) H (fun fr => .of (Dd (by kernel_rfl) (A.l1 0 1))) (fun fr H => ?_)
  refine AE 2 [(61, .ptr (some (h5.size, 0))), (62, .Aq (AK x1))] H fun fr H => ?_
  have A1 := A.Fe 0 (pr := [h5.size]) (.cons 0 rfl (by simp [Ck.ids]) .nil)
  obtain ⟨x13, hx, hm⟩ := bind_some hm
  obtain ⟨v1, h11, hr, rfl, A1⟩ := GD (av := [.Aq (AK x1), .bool false]) hx A1
  replace A := A.Tu A1
  refine BT 63 (vs (eI .i64) x13) h11 [(3, h5.size)] (h5.size :: g.BR) H (fun fr => Steps.call (by kernel_rfl) hr) (fun fr H => ?_)
  obtain ⟨⟨x14, x15, x16, x17, x18, x19⟩, hx, hm⟩ := bind_some hm
  obtain ⟨v1, h12, hr, r5, r6, r7, rfl, A1⟩ := EG (av := [.ptr (some (h5.size, 0)), vs (eI .i64) x13]) hx (A.cut 8)
  replace A : HH g h12 [.obj h5.size (.cells none 2 [_, _, _, _, _, AG r7 x19.length]), .obj h3.size (.cells none 2 (Ej 256 (AB.int .u8) x4.Az ++ [Ai x4.Al, AG none (([] : List Int).length), AG r5 x16.length, AG r6 x17.length, .int .i32 x7, .int .i32 x4.BN, .bool x4.BE])), .AO none 21 (AO (eI .i32) ([] : List Int)), .AO r5 4 (AO eB x16), .AO r6 4 (AO eB x17), .AO r1 5 (AO eY x5), .obj h4.size (.map 2 (Cz (fun k : List UInt8 => .str k) (fun v : Int => .int .i32 v) x18)), .AO r7 63 (AO (eL (eI .i64)) x19), _, _] F := A.Ex (n := 8) A1
  refine BT 64 (.tuple [.int .i32 x14, .bool x15]) h12 [(3, h5.size)] (g.BR) H (fun fr => Steps.call (by kernel_rfl) hr) (fun fr H => ?_) (hre := fun fr => LF (j := 3) rfl (UG (i := 3) (by kernel_rfl) (A.l1 0 1) (MU _ _)) (rfl))
  refine AE 5 [(65, .int .i32 x14), (66, .bool x15), (68, .ptr (some (h3.size, 261)))] H fun fr H => ?_
  obtain ⟨h13, hx, A1⟩ := A.st 1 rfl (o := 261) (new := [.int .i32 x14]) (ds := (Ej 256 (AB.int .u8) x4.Az ++ [Ai x4.Al, AG none (([] : List Int).length), AG r5 x16.length, AG r6 x17.length, .int .i32 x7, .int .i32 x14, .bool x4.BE])) (Nat.le_of_ble_eq_true (by kernel_rfl)) rfl (by kernel_rfl)
  replace A : HH g h13 [_, .obj h3.size (.cells none 2 (Ej 256 (AB.int .u8) x4.Az ++ [Ai x4.Al, AG none (([] : List Int).length), AG r5 x16.length, AG r6 x17.length, .int .i32 x7, .int .i32 x14, .bool x4.BE])), _, _, _, _, _, _, _, _] F := A1
  refine Gj (.tuple []) h13 [(3, h5.size)] (g.BR) H (fun fr => .of (MS (by kernel_rfl) rfl hx)) (fun fr H => ?_)
  refine AM 1 [(10, .bool x15)] H fun fr H => AQ (AD 6 (AE 3 [(71, .bool (!x8))] H fun fr H => BD 3 (fun fr' h' => h13 = h' ∧ Has fr' 131 [(6, .Aq (AK x1)), (8, .ptr (some (h5.size, 0))), (74, .bool ((!x8) || (!x15)))]) ?_ ?_))
  ·cases hb : (!x8 : Bool) with
   | true =>
    replace H := H.kn 71 hb
    exact AE 3 [(74, .bool true)] H fun fr H => Am H hb
   | false =>
    replace H := H.kn 71 hb
    exact AE 3 [(74, .bool (!x15))] H fun fr H => Am H hb
  intro t fr h' hK
  obtain ⟨e, H⟩ := hK
  subst e
  refine BK id (AV 74 H hm (fun hb hm H => ?_) fun hb hm H => ?_)
  ·refine AD 2 (AM 2 [(4, .ptr none), (5, Ai 7)] H fun fr H => Ag ?_)
   obtain ⟨rfl, rfl⟩ := Ds hm
   refine ⟨.inl rfl, .tuple [.ptr none, Ai 7], rH H, ?_⟩
   replace A := A.d0
   refine ⟨.tuple [.ptr none, Ai 7], h13, by first | rfl | (simp only [JK, Ja, JP, JO, Jd, JZ, JG, JI, JW, JN, JQ, I8, I9, HN, HG, HM, HQ, HX, HI, HJ, Option.map_some] <;> rfl), ?_⟩
   exact .inr ⟨rfl, rfl, A⟩
  refine CE id (AQ (AD 1 (AM 1 [(11, Ai 0)] H fun fr H => Ac (id := 0) (by kernel_rfl) ?_)))
  replace A := A.k9 0 1 2 3 4 5 6 7 9
  obtain ⟨o1, ho, hm⟩ := bind_some hm
  refine As (Q' := fun e fr' h' => (∃ x26 x27 x28 x29 x30, e = .exit 0 ∧ .inl (x26, x27, x28, x29, x30) = o1 ∧ ∃ r12 r13 r14 r15, Has fr' 131 [(8, .ptr (some (h5.size, 0)))] ∧ HH g h' [.obj h5.size (.cells none 2 [.Aq (AK x1), .ptr (some (h3.size, 0)), Ai p1, AG r1 x5.length, .map (some h4.size), AG r15 x30.length]), .obj h3.size (.cells none 2 (Ej 256 (AB.int .u8) x4.Az ++ [Ai x4.Al, AG r12 x26.length, AG r13 x27.length, AG r14 x28.length, .int .i32 x7, .int .i32 x14, .bool x4.BE])), .AO r12 21 (AO (eI .i32) x26), .AO r13 4 (AO eB x27), .AO r14 4 (AO eB x28), .AO r1 5 (AO eY x5), .obj h4.size (.map 2 (Cz (fun k : List UInt8 => .str k) (fun v : Int => .int .i32 v) x29)), .AO r15 63 (AO (eL (eI .i64)) x30), .obj h.size (.cells none 2 (Aa p0))] F) ∨ (∃ x31 x32 x33 x34 x35 x36, e = .ret ∧ .inr (x31, x32, x33, x34, x35, x36) = o1 ∧ ∃ r16 r17 r18 r19, Has fr' 131 [(4, .ptr none), (5, Ai x36)] ∧ HH g h' [.obj h5.size (.cells none 2 [.Aq (AK x1), .ptr (some (h3.size, 0)), Ai p1, AG r1 x5.length, .map (some h4.size), AG r19 x35.length]), .obj h3.size (.cells none 2 (Ej 256 (AB.int .u8) x4.Az ++ [Ai x4.Al, AG r16 x31.length, AG r17 x32.length, AG r18 x33.length, .int .i32 x7, .int .i32 x14, .bool x4.BE])), .AO r16 21 (AO (eI .i32) x31), .AO r17 4 (AO eB x32), .AO r18 4 (AO eB x33), .AO r1 5 (AO eY x5), .obj h4.size (.map 2 (Cz (fun k : List UInt8 => .str k) (fun v : Int => .int .i32 v) x34)), .AO r19 63 (AO (eL (eI .i64)) x35), .obj h.size (.cells none 2 (Aa p0))] F) ∨ False) ?_ ?_
  ·refine B2 (by kernel_rfl) (fun (s : (List Int) × (List Bool) × (List Bool) × (List ((List UInt8) × Int)) × (List (List Int)) × Int) fr' h' => ∃ x20 x21 x22 x23 x24 x25, (x20, x21, x22, x23, x24, x25) = s ∧ ∃ r8 r9 r10 r11, Has fr' 131 [(6, .Aq (AK x1)), (8, .ptr (some (h5.size, 0))), (11, Ai x25)] ∧ HH g h' [.obj h5.size (.cells none 2 [.Aq (AK x1), .ptr (some (h3.size, 0)), Ai p1, AG r1 x5.length, .map (some h4.size), AG r11 x24.length]), .obj h3.size (.cells none 2 (Ej 256 (AB.int .u8) x4.Az ++ [Ai x4.Al, AG r8 x20.length, AG r9 x21.length, AG r10 x22.length, .int .i32 x7, .int .i32 x14, .bool x4.BE])), .AO r8 21 (AO (eI .i32) x20), .AO r9 4 (AO eB x21), .AO r10 4 (AO eB x22), .AO r1 5 (AO eY x5), .obj h4.size (.map 2 (Cz (fun k : List UInt8 => .str k) (fun v : Int => .int .i32 v) x23)), .AO r11 63 (AO (eL (eI .i64)) x24), .obj h.size (.cells none 2 (Aa p0))] F) ho ⟨_, _, _, _, _, _, rfl, none, _, _, _, H.ls, A⟩ ?_
   clear ho hm H A
   intro s q fr h14 hI hm
   obtain ⟨x20, x21, x22, x23, x24, x25, rfl, r8, r9, r10, r11, H, A⟩ := hI
   unfold G7 at hm
   refine AQ (AD 7 (Ad 4 [(75, Ai x25)] 79 0 5 A H fun fr t H => ?_))
   refine AM 2 [(81, .bool (decide (x25 < (x24.length : Int))))] H fun fr H => AV 81 H hm (fun hb hm H => ?_) fun hb hm H => ?_
   ·refine CE id (AQ (Ac (id := 1) (by kernel_rfl) ?_))
    refine AD 6 (Ad 3 [] 87 0 3 A H fun fr t H => ?_)
    refine AM 2 [(88, Ai (x5.length : Int)), (89, Ai 0)] H fun fr H => Ac (id := 2) (by kernel_rfl) ?_
    obtain ⟨o2, ho, hm⟩ := bind_some hm
    refine As (Q' := fun e fr' h' => (∃ x43 x44 x45 x46 x47, e = .exit 2 ∧ .inl (x43, x44, x45, x46, x47) = o2 ∧ ∃ r24 r25 r26 r27, Has fr' 131 [(6, .Aq (AK x1)), (8, .ptr (some (h5.size, 0))), (11, Ai x25)] ∧ HH g h' [.obj h5.size (.cells none 2 [.Aq (AK x1), .ptr (some (h3.size, 0)), Ai p1, AG r1 x5.length, .map (some h4.size), AG r27 x47.length]), .obj h3.size (.cells none 2 (Ej 256 (AB.int .u8) x4.Az ++ [Ai x4.Al, AG r24 x43.length, AG r25 x44.length, AG r26 x45.length, .int .i32 x7, .int .i32 x14, .bool x4.BE])), .AO r24 21 (AO (eI .i32) x43), .AO r25 4 (AO eB x44), .AO r26 4 (AO eB x45), .AO r1 5 (AO eY x5), .obj h4.size (.map 2 (Cz (fun k : List UInt8 => .str k) (fun v : Int => .int .i32 v) x46)), .AO r27 63 (AO (eL (eI .i64)) x47), .obj h.size (.cells none 2 (Aa p0))] F) ∨ (∃ x48 x49 x50 x51 x52 x53, e = .ret ∧ .inr (x48, x49, x50, x51, x52, x53) = o2 ∧ ∃ r28 r29 r30 r31, Has fr' 131 [(4, .ptr none), (5, Ai x53)] ∧ HH g h' [.obj h5.size (.cells none 2 [.Aq (AK x1), .ptr (some (h3.size, 0)), Ai p1, AG r1 x5.length, .map (some h4.size), AG r31 x52.length]), .obj h3.size (.cells none 2 (Ej 256 (AB.int .u8) x4.Az ++ [Ai x4.Al, AG r28 x48.length, AG r29 x49.length, AG r30 x50.length, .int .i32 x7, .int .i32 x14, .bool x4.BE])), .AO r28 21 (AO (eI .i32) x48), .AO r29 4 (AO eB x49), .AO r30 4 (AO eB x50), .AO r1 5 (AO eY x5), .obj h4.size (.map 2 (Cz (fun k : List UInt8 => .str k) (fun v : Int => .int .i32 v) x51)), .AO r31 63 (AO (eL (eI .i64)) x52), .obj h.size (.cells none 2 (Aa p0))] F) ∨ False) ?_ ?_
    ·refine B2 (by kernel_rfl) (fun (s : (List Int) × (List Bool) × (List Bool) × (List ((List UInt8) × Int)) × (List (List Int)) × Int) fr' h' => ∃ x37 x38 x39 x40 x41 x42, (x37, x38, x39, x40, x41, x42) = s ∧ ∃ r20 r21 r22 r23, Has fr' 131 [(6, .Aq (AK x1)), (8, .ptr (some (h5.size, 0))), (11, Ai x25), (87, AG r1 x5.length), (88, Ai (x5.length : Int)), (89, Ai x42)] ∧ HH g h' [.obj h5.size (.cells none 2 [.Aq (AK x1), .ptr (some (h3.size, 0)), Ai p1, AG r1 x5.length, .map (some h4.size), AG r23 x41.length]), .obj h3.size (.cells none 2 (Ej 256 (AB.int .u8) x4.Az ++ [Ai x4.Al, AG r20 x37.length, AG r21 x38.length, AG r22 x39.length, .int .i32 x7, .int .i32 x14, .bool x4.BE])), .AO r20 21 (AO (eI .i32) x37), .AO r21 4 (AO eB x38), .AO r22 4 (AO eB x39), .AO r1 5 (AO eY x5), .obj h4.size (.map 2 (Cz (fun k : List UInt8 => .str k) (fun v : Int => .int .i32 v) x40)), .AO r23 63 (AO (eL (eI .i64)) x41), .obj h.size (.cells none 2 (Aa p0))] F) ho ⟨_, _, _, _, _, _, rfl, _, _, _, _, H.ls, A⟩ ?_
     clear ho hm H A
     intro s q fr h15 hI hm
     obtain ⟨x37, x38, x39, x40, x41, x42, rfl, r20, r21, r22, r23, H, A⟩ := hI
     unfold FB at hm
     refine AD 1 (AM 1 [(90, .bool (decide (x42 < (x5.length : Int))))] H fun fr H => AQ (AV 90 H hm (fun hb hm H => ?_) fun hb hm H => ?_))
     ·refine CE id (AQ (Ac (id := 3) (by kernel_rfl) ?_))
      refine AD 3 ?_
      obtain ⟨x54, hx, hm⟩ := bind_some hm
      obtain ⟨i1, er1, _, hx, hq1⟩ := HH.ND J1 (by decide) A 5 (xs := x5) rfl hx
      refine Ax 91 (.ptr (some (i1, x42.toNat * 1))) h15 H (fun fr => .of (FI (s := Cf r1 x5.length) (by kernel_rfl) hx)) fun fr t H => ?_
      refine Ax 92 _ _ H (fun fr => .of (Dd (by kernel_rfl) (E7 J1 (HH.row A 5 rfl er1) hq1 (o := 0) rfl))) fun fr t H => ?_
      refine Bw 1 [(13, Ab (x54.toNat : Int))] 17 H fun fr H => Ad 5 [(94, .ptr (some (h5.size, 0))), (95, .Aq (AK x1))] 99 0 5 A H fun fr t H => ?_
      obtain ⟨x55, hx, hm⟩ := bind_some hm
      obtain ⟨i2, er2, _, hx, hq2⟩ := HH.ND (WE _) (by decide) A 7 (xs := x41) rfl hx
      refine BI 1 [] 101 (.ptr (some (i2, x25.toNat * 1))) h15 H (fun fr => .of (FI (s := Cf r23 x41.length) (by kernel_rfl) hx)) fun fr t H => ?_
      refine Ax 102 _ _ H (fun fr => .of (Dd (by kernel_rfl) (E7 (WE _) (HH.row A 7 rfl er2) hq2 (o := 0) rfl))) fun fr t H => ?_
      obtain ⟨x56, hx, hm⟩ := bind_some hm
      obtain ⟨v1, h16, hr, rfl, A1⟩ := Ib (av := [.Aq (AK x1), vs (eI .i64) x55, Ab (x54.toNat : Int)]) hx (A.cut 0)
      replace A := A.Ea A1
      refine Ap 1 [] 104 hr H fun fr t H => ?_
      obtain ⟨⟨x57, x58, x59, x60, x61, x62⟩, hx, hm⟩ := bind_some hm
      obtain ⟨v1, h17, hr, r32, r33, r34, rfl, A1⟩ := EG (av := [.ptr (some (h5.size, 0)), vs (eI .i64) x56]) hx (A.cut 8)
      replace A : HH g h17 [.obj h5.size (.cells none 2 [_, _, _, _, _, AG r34 x62.length]), .obj h3.size (.cells none 2 (Ej 256 (AB.int .u8) x4.Az ++ [Ai x4.Al, AG r20 x37.length, AG r32 x59.length, AG r33 x60.length, .int .i32 x7, .int .i32 x14, .bool x4.BE])), .AO r20 21 (AO (eI .i32) x37), .AO r32 4 (AO eB x59), .AO r33 4 (AO eB x60), .AO r1 5 (AO eY x5), .obj h4.size (.map 2 (Cz (fun k : List UInt8 => .str k) (fun v : Int => .int .i32 v) x61)), .AO r34 63 (AO (eL (eI .i64)) x62), _] F := A.Ex (n := 8) A1
      refine Be 105 hr H fun fr t H => ?_
      refine AM 5 [(14, .int .i32 x57), (15, .bool x58)] H fun fr H => AQ (AD 2 (AM 2 [(109, .bool (!x58))] H fun fr H => AV 109 H hm (fun hb hm H => ?_) fun hb hm H => ?_))
      ·refine AD 2 (AM 2 [(4, .ptr none), (5, Ai 7)] H fun fr H => Ag ?_)
       exact nr hm fun e => Or.inr (.inl ⟨_, _, _, _, _, _, rfl, e, _, _, _, _, H.ls, A⟩)
      refine CE id (Ft 22 17 [(0, []), (1, []), (2, []), (3, []), (4, []), (5, []), (6, []), (7, []), (8, []), (9, []), (10, []), (11, []), (12, []), (13, [3]), (14, []), (15, []), (16, [])] ?_)
      refine AE 3 [(112, .ptr (some (h5.size, 1)))] H fun fr H => BT 113 (.ptr (some (h3.size, 0))) h17 [(3, h5.size)] (g.BR) H (fun fr => .of (Dd (by kernel_rfl) (A.l1 0 1))) (fun fr H => ?_)
      refine AE 3 [(116, .ptr (some (h5.size, 1)))] H fun fr H => BT 117 (.ptr (some (h3.size, 0))) h17 [(7, h5.size), (3, h5.size)] (g.BR) H (fun fr => .of (Dd (by kernel_rfl) (A.l1 0 1))) (fun fr H => ?_)
      refine AE 2 [(119, .ptr (some (h3.size, 257)))] H fun fr H => BT 120 (AG r20 x37.length) h17 [(10, h3.size), (7, h5.size), (3, h5.size)] (g.BR) H (fun fr => .of (Dd (by kernel_rfl) (A.O7 1 rfl (o := 257) (by kernel_rfl)))) (fun fr H => ?_)
      refine AE 1 [(121, .int .i32 x57)] H fun fr H => ?_
      obtain ⟨h18, e5, A⟩ := A.pL 21 [.int .i32 x57]
      refine BT 122 (AG (some h17.size) (([x57] : List Int).length)) h18 [(12, h17.size), (10, h3.size), (7, h5.size), (3, h5.size)] (g.BR) H (fun fr => .of (OQ (by kernel_rfl) (congrArg some e5.symm))) (fun fr H => ?_)
      replace A : HH g h18 [_, .AO (some h17.size) 21 ([.int .i32 x57]), _, _, _, _, _, _, _, _] F := (A.front 3 rfl)
      have A1 := A.Fe 1 (pr := [h5.size]) (.cons 1 rfl (by simp [Ck.ids]) .nil)
      obtain ⟨hb, hm⟩ := BQ hm
      obtain ⟨r35, h19, hx, A1⟩ := HH.Hd (encI .i32) (by decide) A1 0 (xs := x37) (ys := ([x57] : List Int)) rfl (B6 A 1 rfl (n := ([x57] : List Int).length) (z := 1) rfl (by decide)) rfl rfl hb
      replace A := A.VA A1
      replace A := A.k9 0 2 3 4 5 6 7 8 9
      refine BT 123 (AG r35 ((x37 ++ ([x57] : List Int)).length)) h19 [(12, h17.size), (10, h3.size), (7, h5.size), (3, h5.size)] (h5.size :: g.BR) H (fun fr => .of (Er (s := Cf r20 x37.length) (by kernel_rfl) hx)) (fun fr H => ?_)
      refine AE 2 [(125, .ptr (some (h3.size, 257)))] H fun fr H => ?_
      obtain ⟨h20, hx, A1⟩ := A.st 2 rfl (o := 257) (new := [AG r35 ((x37 ++ ([x57] : List Int)).length)]) (ds := (Ej 256 (AB.int .u8) x4.Az ++ ([Ai x4.Al, AG r35 ((x37 ++ ([x57] : List Int)).length), AG r32 x59.length, AG r33 x60.length, .int .i32 x7, .int .i32 x14, .bool x4.BE]))) (Nat.le_of_ble_eq_true (by kernel_rfl)) rfl (by kernel_rfl)
      replace A : HH g h20 [_, _, .obj h3.size (.cells none 2 (Ej 256 (AB.int .u8) x4.Az ++ ([Ai x4.Al, AG r35 ((x37 ++ ([x57] : List Int)).length), AG r32 x59.length, AG r33 x60.length, .int .i32 x7, .int .i32 x14, .bool x4.BE]))), _, _, _, _, _, _] F := A1
      refine Gj (.tuple []) h20 [(12, h17.size), (10, h3.size), (7, h5.size), (3, h5.size)] (g.BR) H (fun fr => .of (MS (by kernel_rfl) rfl hx)) (fun fr H => ?_)
      refine Gq 2 id (BG 2 [(6, .Aq (AK x1)), (8, .ptr (some (h5.size, 0))), (11, Ai x25), (87, AG r1 x5.length), (88, Ai (x5.length : Int)), (89, Ai (IntKind.i64.wrap (x42 + 1)))] H fun fr H => at_nil ?_)
      replace A := A.k9 1 2 0 3 4 5 6 7 8
      exact nx hm ⟨_, _, _, _, _, _, rfl, _, _, _, _, H.ls, A⟩
     refine BO (i := 2) (by kernel_rfl) ?_
     exact nr hm fun e => .inl ⟨_, _, _, _, _, rfl, e, _, _, _, _, H.ls, A⟩
    clear ho
    clear A
    intro e fr h21 hQ
    rcases hQ with ⟨x43, x44, x45, x46, x47, rfl, rfl, r24, r25, r26, r27, H, A⟩ | ⟨x48, x49, x50, x51, x52, x53, rfl, rfl, r28, r29, r30, r31, H, A⟩ | hF
    ·show AW _ _ _ _ _ _ _
     refine Bd 3 (BG 3 [(6, .Aq (AK x1)), (8, .ptr (some (h5.size, 0))), (11, Ai (IntKind.i64.wrap (x25 + 1)))] H fun fr H => at_nil ?_)
     exact nx hm ⟨_, _, _, _, _, _, rfl, _, _, _, _, H.ls, A⟩
    ·exact nr hm fun e => Or.inr (.inl ⟨_, _, _, _, _, _, rfl, e, _, _, _, _, H.ls, A⟩)
    exact hF.elim
   refine BO (i := 0) (by kernel_rfl) ?_
   exact nr hm fun e => .inl ⟨_, _, _, _, _, rfl, e, _, _, _, _, H.ls, A⟩
  clear ho
  clear A
  intro e fr h22 hQ
  rcases hQ with ⟨x26, x27, x28, x29, x30, rfl, rfl, r12, r13, r14, r15, H, A⟩ | ⟨x31, x32, x33, x34, x35, x36, rfl, rfl, r16, r17, r18, r19, H, A⟩ | hF
  ·show AW _ _ _ _ _ _ _
   refine AD 6 (Ad 3 [] 130 0 1 A H fun fr t H => ?_)
   refine AM 2 [(4, .ptr (some (h3.size, 0))), (5, Ai 0)] H fun fr H => Ag ?_
   obtain ⟨rfl, rfl⟩ := Ds hm
   refine ⟨.inl rfl, .tuple [.ptr (some (h3.size, 0)), Ai 0], rH H, ?_⟩
   replace A := A.k4 1 2 3 4
   obtain ⟨h23, A1, hy0⟩ := (A.front 0 rfl).Vz
   replace A : HH g h23 [_, _, _] F := A1
   obtain ⟨h24, hz1, A1⟩ := (A.front 0 rfl).VN (n := x26.length) (z := 1) ((encI .i32).Hb _) (by decide)
   replace A : HH g h24 [_, _] F := A1
   obtain ⟨h25, hz2, A1⟩ := (A.front 0 rfl).VN (n := x27.length) (z := 1) (Fx.Hb _) (by decide)
   replace A : HH g h25 [_] F := A1
   obtain ⟨h26, hz3, A1⟩ := (A.front 0 rfl).VN (n := x28.length) (z := 1) (Fx.Hb _) (by decide)
   replace A : HH g h26 [] F := A1
   have hz0 := hy0 (Ej 256 (AB.int .u8) x4.Az ++ [Ai x4.Al, vs (eI .i32) x26, vs eB x27, vs eB x28, .int .i32 x7, .int .i32 x14, .bool x4.BE]) h26 (by simp only [JK, Ja, JP, JO, Jd, JZ, JG, JI, JW, JN, JQ, I8, I9, HN, HG, HM, HQ, HX, HI, HJ, Option.map_some, QU, Qa, hz1, hz2, hz3] <;> rfl)
   refine ⟨.tuple [.Aq (Ej 256 (AB.int .u8) x4.Az ++ [Ai x4.Al, vs (eI .i32) x26, vs eB x27, vs eB x28, .int .i32 x7, .int .i32 x14, .bool x4.BE]), Ai 0], h26, by first | rfl | (simp only [JK, Ja, JP, JO, Jd, JZ, JG, JI, JW, JN, JQ, I8, I9, HN, HG, HM, HQ, HX, HI, HJ, Option.map_some, QU, Qa, hz0, hz1, hz2, hz3] <;> rfl), ?_⟩
   exact .inl ⟨(⟨x4.Az, x4.Al, x26, x27, x28, x7, x14, x4.BE⟩ : Bu), rfl, rfl, A⟩
  ·obtain ⟨rfl, rfl⟩ := Ds hm
   refine ⟨.inl rfl, .tuple [.ptr none, Ai x36], rH H, ?_⟩
   replace A := A.d0
   refine ⟨.tuple [.ptr none, Ai x36], h22, by first | rfl | (simp only [JK, Ja, JP, JO, Jd, JZ, JG, JI, JW, JN, JQ, I8, I9, HN, HG, HM, HQ, HX, HI, HJ, Option.map_some] <;> rfl), ?_⟩
   exact .inr ⟨rfl, rfl, A⟩
  exact hF.elim
 replace A : HH g h2 [.obj h.size (.cells none 2 (Aa p0))] F := A.Ex (n := 0) A1
 refine Be 24 hr H fun fr t H => ?_
 refine AM 5 [(6, .ptr none), (7, Ai x2)] H fun fr H => AQ (AD 2 (AM 2 [(28, .bool (x2 != 0))] H fun fr H => AV 28 H hm (fun hb hm H => ?_) fun hb hm H => ?_))
 ·refine AD 3 (AM 3 [(4, .ptr none), (5, Ai x2)] H fun fr H => Ag ?_)
  obtain ⟨rfl, rfl⟩ := Ds hm
  refine ⟨.inl rfl, .tuple [.ptr none, Ai x2], rH H, ?_⟩
  replace A := A.d0
  refine ⟨.tuple [.ptr none, Ai x2], h2, by first | rfl | (simp only [JK, Ja, JP, JO, Jd, JZ, JG, JI, JW, JN, JQ, I8, I9, HN, HG, HM, HQ, HX, HI, HJ, Option.map_some] <;> rfl), ?_⟩
  exact .inr ⟨rfl, rfl, A⟩
 refine Ca 12 id ?_
 cases hm
def IN (p0 : List AY) (s : Int × Int) : Option ((Int × Int) ⊕ ((Int))) :=
 match s with
 | (x1, x2) => Af (decide (x2 < (p0.length : Int))) (((Ff p0 x2).bind fun x5 => Af (x5.Kind == 1) (some (mx x1 x5.C4)) (some x1) : Option ((Int))).bind fun x4 => some (.inl (x4, IntKind.i64.wrap (x2 + 1)))) (some (.inr x1))
def GA (p0 : List AY) : Option (Int) :=
 (loop (IN p0) ((0 : Int), (0 : Int))).bind fun x3 => some x3
theorem MD {p0 q0} (hm : GA p0 = some q0) (A : HH g h [] F) (hc : BZ (cfg.still 12) av = [vs AS p0] := by kernel_rfl) : ∃ v h', Bg cfg g h 12 av v h' ∧ v = Ai q0 ∧ HH g h' [] F := by
 refine E5 21 [.tmp 2] hc ?_
 clear hc
 unfold GA at hm
 refine bg 21 [(0, vs AS p0)] fun fr H => ?_
 refine AD 1 (Bw 1 [] 1 H fun fr H => AM 1 [(3, Ai 0)] H fun fr H => AQ (AD 3 (AM 3 [(6, vs AS p0), (7, Ai (p0.length : Int)), (8, Ai 0)] H fun fr H => Ac (id := 0) (by kernel_rfl) ?_)))
 obtain ⟨o1, ho, hm⟩ := bind_some hm
 refine As (Q' := fun e fr' h' => (∃ x3, e = .exit 0 ∧ x3 = o1 ∧ Has fr' 21 [(3, Ai x3)] ∧ HH g h' [] F) ∨ False) ?_ ?_
 ·refine B2 (by kernel_rfl) (fun (s : Int × Int) fr' h' => ∃ x1 x2, (x1, x2) = s ∧ Has fr' 21 [(3, Ai x1), (6, vs AS p0), (7, Ai (p0.length : Int)), (8, Ai x2)] ∧ HH g h' [] F) ho ⟨_, _, rfl, H.ls, A⟩ ?_
  clear ho hm H A
  intro s q fr h1 hI hm
  obtain ⟨x1, x2, rfl, H, A⟩ := hI
  unfold IN at hm
  refine AD 1 (AM 1 [(9, .bool (decide (x2 < (p0.length : Int))))] H fun fr H => AQ (AV 9 H hm (fun hb hm H => ?_) fun hb hm H => ?_))
  ·refine CE id (AQ ?_)
   obtain ⟨o2, ho, hm⟩ := bind_some hm
   refine As (Q' := fun e fr' h' => (∃ x4, e = .normal ∧ x4 = o2 ∧ Has fr' 21 [(3, Ai x4), (6, vs AS p0), (7, Ai (p0.length : Int)), (8, Ai x2)] ∧ HH g h' [] F) ∨ False) ?_ ?_
   ·replace hm := ho
    clear ho
    refine Ac (id := 1) (by kernel_rfl) ?_
    refine AD 4 ?_
    obtain ⟨x5, hx, hm⟩ := bind_some hm
    refine Ax 10 (.Aq (AS x5)) h1 H (fun fr => .of (Hl (e := AS) (x := x5) B1 (by decide) (by kernel_rfl) hx)) fun fr t H => ?_
    refine Ax 11 (.agg (AS x5)) h1 H (fun fr => .of (FK (by kernel_rfl))) fun fr t H => ?_
    obtain ⟨h2, e1, A⟩ := A.pu (.cells none 2 [Ai 0, Ai 0, .str ([] : List UInt8)])
    refine Bo 5 (.ptr (some (h1.size, 0))) e1 H fun fr t H => ?_
    obtain ⟨h3, hx, A⟩ := A.s0 0 (AS x5) [_, _, _]
    refine DN hx H fun fr t H => ?_
    refine CG 3 id (Ad 1 [] 13 0 0 A H fun fr t H => ?_)
    refine AM 1 [(14, .bool (x5.Kind == 1))] H fun fr H => AV 14 H hm (fun hb hm H => ?_) fun hb hm H => ?_
    ·refine Bd 5 (Ad 2 [(15, Ai x1)] 17 0 1 A H fun fr t H => ?_)
     refine BG 2 [(3, Ai (mx x1 x5.C4)), (6, vs AS p0), (7, Ai (p0.length : Int)), (8, Ai x2)] H fun fr H => at_nil ?_
     replace A := A.d0
     exact .inl ⟨_, rfl, Ah hm, H.ls, A⟩
    refine By ?_
    replace A := A.d0
    exact .inl ⟨_, rfl, Ah hm, H.ls, A⟩
   clear ho
   clear A
   intro e fr h4 hQ
   rcases hQ with ⟨x4, rfl, rfl, H, A⟩ | hF
   ·show AW _ _ _ _ _ _ _
    refine Bd 2 (BG 2 [(3, Ai x4), (6, vs AS p0), (7, Ai (p0.length : Int)), (8, Ai (IntKind.i64.wrap (x2 + 1)))] H fun fr H => at_nil ?_)
    exact nx hm ⟨_, _, rfl, H.ls, A⟩
   exact hF.elim
  refine BO (i := 0) (by kernel_rfl) ?_
  exact nr hm fun e => .inl ⟨_, rfl, e, H.ls, A⟩
 clear ho
 clear A
 intro e fr h5 hQ
 rcases hQ with ⟨x3, rfl, rfl, H, A⟩ | hF
 ·show AW _ _ _ _ _ _ _
  refine AD 2 (AM 2 [(2, Ai x3)] H fun fr H => Ag ?_)
  obtain rfl := Ah hm
  exact ⟨.inl rfl, _, rH H, rfl, A⟩
 exact hF.elim
end
end Go.Av.L
