/-
 A part.
-/
import Derived.Test.YtdbkpibbjnhmgaaDoorKCfg
import Derived.Test.YtdbkpibbjnhmgaaDoorK0
import Derived.Test.YtdbkpibbjnhmgaaDoorK1
namespace Go.Av.L
open Go.Av Go.Lib
set_option maxRecDepth 10000
set_option linter.unusedVariables false
set_option linter.unusedSimpArgs false
variable {g : Gd} {h : AB} {F : List Ck} {av : List AA}
noncomputable section
def Cj (x6 : List (List UInt8)) (s : (List AD) × Int) : Option (((List AD) × Int) ⊕ (((List AD)))) :=
 match s with
 | (x7, x8) => Ax (decide (x8 < (x6.length : Int))) ((JW x6 none (some x8)).bind fun x10 => (Bl x7 x10 (-1 : Int)).bind fun x11 => some (.inl (x11, IntKind.i64.wrap (x8 + 1)))) (some (.inr x7))
def Cn (p0 : List AS) (s : (List AD) × Int) : Option (((List AD) × Int) ⊕ (((List AD)))) :=
 match s with
 | (x1, x2) => Ax (decide (x2 < (p0.length : Int))) (((Em p0 x2).bind fun x5 => (CK x5.Name).bind fun x6 => (loop (Cj x6) (x1, (1 : Int))).bind fun x9 => Ax (decide ((x6.length : Int) > 0)) ((Bl x9 x6 x2).bind fun x12 => some x12) (some x9) : Option (((List AD)))).bind fun x4 => some (.inl (x4, IntKind.i64.wrap (x2 + 1)))) (some (.inr x1))
def Cd (p0 : List AS) : Option ((List AD)) :=
 (loop (Cn p0) (([] : List AD), (0 : Int))).bind fun x3 => some x3
theorem Hi {p0 q0} (hm : Cd p0 = some q0) (A : HH g h [] F) (hc : Bp (cfg.still 9) av = [vs AE p0] := by kernel_rfl) : ∃ v h', Bz cfg g h 9 av v h' ∧ ∃ (rq0 : Option Nat), v = AJ rq0 q0.length ∧ HH g h' [.AL rq0 35 (AL AG q0)] F := by
 refine G7 39 [.tmp 2] hc ?_
 clear hc
 unfold Cd at hm
 refine bg 39 [(0, vs AE p0)] fun fr H => ?_
 refine AH 1 (DC 1 [] 2 H fun fr H => ?_)
 obtain ⟨h1, e1, A⟩ := A.pL 35 []
 refine DE 7 (AJ (some h.size) (([] : List AD).length)) e1 H fun fr t H => ?_
 refine AN 1 [(3, AJ (some h.size) (([] : List AD).length))] H fun fr H => AR (AH 1 (AN 1 [(4, Ai 0)] H fun fr H => AO (id := 0) (by kernel_rfl) ?_))
 replace A : HH g h1 [.AL (some h.size) 35 (AL AG ([] : List AD))] F := A
 obtain ⟨o1, ho, hm⟩ := bind_some hm
 refine Af (Q' := fun e fr' h' => (∃ x3, e = .exit 0 ∧ x3 = o1 ∧ ∃ r2, Has fr' 39 [(3, AJ r2 x3.length)] ∧ HH g h' [.AL r2 35 (AL AG x3)] F) ∨ False) ?_ ?_
 ·refine Bn (by kernel_rfl) (fun (s : (List AD) × Int) fr' h' => ∃ x1 x2, (x1, x2) = s ∧ ∃ r1, Has fr' 39 [(0, vs AE p0), (3, AJ r1 x1.length), (4, Ai x2)] ∧ HH g h' [.AL r1 35 (AL AG x1)] F) ho ⟨_, _, rfl, some h.size, H.ls, A⟩ ?_
  clear ho hm H A
  intro s q fr h2 hI hm
  obtain ⟨x1, x2, rfl, r1, H, A⟩ := hI
  unfold Cn at hm
  refine AR (AH 4 (AN 4 [(11, .bool (decide (x2 < (p0.length : Int))))] H fun fr H => Aw 11 H hm (fun hb hm H => ?_) fun hb hm H => ?_))
  ·refine CZ id (AR ?_)
   obtain ⟨o2, ho, hm⟩ := bind_some hm
   refine Af (Q' := fun e fr' h' => (∃ x4, e = .normal ∧ x4 = o2 ∧ ∃ r3, Has fr' 39 [(0, vs AE p0), (3, AJ r3 x4.length), (4, Ai x2)] ∧ HH g h' [.AL r3 35 (AL AG x4)] F) ∨ False) ?_ ?_
   ·replace hm := ho
    clear ho
    refine AO (id := 1) (by kernel_rfl) ?_
    refine AH 7 ?_
    obtain ⟨x5, hx, hm⟩ := bind_some hm
    refine Ad 2 [] 16 (.C3 (AE x5)) h2 H (fun fr => .of (GZ (e := AE) (x := x5) CU (by decide) (by kernel_rfl) hx)) fun fr t H => ?_
    refine Ad 1 [] 18 (.str x5.Name) h2 H (fun fr => .of (Jt (by kernel_rfl))) fun fr t H => ?_
    obtain ⟨x6, hx, hm⟩ := bind_some hm
    obtain ⟨v1, h3, hr, rfl, A1⟩ := E8 (av := [.str x5.Name]) hx (A.cut 0)
    replace A := A.Oi A1
    refine Co 19 hr H fun fr t H => ?_
    refine AN 1 [(5, vs eS x6)] H fun fr H => AR (AH 1 (AN 1 [(6, Ai 1)] H fun fr H => AO (id := 2) (by kernel_rfl) ?_))
    obtain ⟨o3, ho, hm⟩ := bind_some hm
    refine Af (Q' := fun e fr' h' => (∃ x9, e = .exit 2 ∧ x9 = o3 ∧ ∃ r5, Has fr' 39 [(0, vs AE p0), (3, AJ r5 x9.length), (4, Ai x2), (5, vs eS x6)] ∧ HH g h' [.AL r5 35 (AL AG x9)] F) ∨ False) ?_ ?_
    ·refine Bn (by kernel_rfl) (fun (s : (List AD) × Int) fr' h' => ∃ x7 x8, (x7, x8) = s ∧ ∃ r4, Has fr' 39 [(0, vs AE p0), (3, AJ r4 x7.length), (4, Ai x2), (5, vs eS x6), (6, Ai x8)] ∧ HH g h' [.AL r4 35 (AL AG x7)] F) ho ⟨_, _, rfl, _, H.ls, A⟩ ?_
     clear ho hm H A
     intro s q fr h4 hI hm
     obtain ⟨x7, x8, rfl, r4, H, A⟩ := hI
     unfold Cj at hm
     refine AR (AH 4 (AN 4 [(23, .bool (decide (x8 < (x6.length : Int))))] H fun fr H => Aw 23 H hm (fun hb hm H => ?_) fun hb hm H => ?_))
     ·refine CZ id (AR (AO (id := 3) (by kernel_rfl) ?_))
      refine B7 6 ?_
      obtain ⟨x10, hx, hm⟩ := bind_some hm
      refine Ad 3 [(26, AJ r4 x7.length)] 29 (vs eS x10) h4 H (fun fr => .of (Uf (e := eS) encS (k := .i64) (k' := .i64) (lo := none) (hi := (some x8)) (by kernel_rfl) hx)) fun fr t H => ?_
      obtain ⟨x11, hx, hm⟩ := bind_some hm
      obtain ⟨v1, h5, hr, rqw2, rfl, A1⟩ := EC (av := [AJ r4 x7.length, vs eS x10, Ai (-1)]) hx (A.cut 1)
      replace A := A.g12 A1
      refine Co 30 hr H fun fr t H => ?_
      refine Bf 1 [(0, vs AE p0), (3, AJ rqw2 x11.length), (4, Ai x2), (5, vs eS x6), (6, Ai x8)] H fun fr H => Ju 3 id (Bf 3 [(0, vs AE p0), (3, AJ rqw2 x11.length), (4, Ai x2), (5, vs eS x6), (6, Ai (IntKind.i64.wrap (x8 + 1)))] H fun fr H => at_nil ?_)
      replace A := A.d1
      exact nx hm ⟨_, _, rfl, rqw2, H.ls, A⟩
     refine Bi (i := 2) (by kernel_rfl) ?_
     exact nr hm fun e => .inl ⟨_, rfl, e, _, H.ls, A⟩
    clear ho
    clear A
    intro e fr h6 hQ
    rcases hQ with ⟨x9, rfl, rfl, r5, H, A⟩ | hF
    ·show AW _ _ _ _ _ _ _
     refine AH 3 (AN 3 [(33, .bool (decide ((x6.length : Int) > 0)))] H fun fr H => Aw 33 H hm (fun hb hm H => ?_) fun hb hm H => ?_)
     ·refine B7 5 ?_
      obtain ⟨x12, hx, hm⟩ := bind_some hm
      obtain ⟨v1, h7, hr, rqw3, rfl, A1⟩ := EC (av := [AJ r5 x9.length, vs eS x6, Ai x2]) hx (A.cut 1)
      replace A := A.g12 A1
      refine Bg 3 [] 37 hr H fun fr t H => ?_
      refine Bf 1 [(0, vs AE p0), (3, AJ rqw3 x12.length), (4, Ai x2)] H fun fr H => at_nil ?_
      replace A := A.d1
      exact .inl ⟨_, rfl, Ao hm, rqw3, H.ls, A⟩
     exact Ej (.inl ⟨_, rfl, Ao hm, _, H.ls, A⟩)
    exact hF.elim
   clear ho
   clear A
   intro e fr h8 hQ
   rcases hQ with ⟨x4, rfl, rfl, r3, H, A⟩ | hF
   ·show AW _ _ _ _ _ _ _
    refine B7 3 (Bf 3 [(0, vs AE p0), (3, AJ r3 x4.length), (4, Ai (IntKind.i64.wrap (x2 + 1)))] H fun fr H => at_nil ?_)
    exact nx hm ⟨_, _, rfl, _, H.ls, A⟩
   exact hF.elim
  refine Bi (i := 0) (by kernel_rfl) ?_
  exact nr hm fun e => .inl ⟨_, rfl, e, _, H.ls, A⟩
 clear ho
 clear A
 intro e fr h9 hQ
 rcases hQ with ⟨x3, rfl, rfl, r2, H, A⟩ | hF
 ·show AW _ _ _ _ _ _ _
  refine AH 2 (AN 2 [(2, AJ r2 x3.length)] H fun fr H => BB ?_)
  obtain rfl := Ao hm
  exact ⟨.inl rfl, _, rH H, _, rfl, A⟩
 exact hF.elim
def A9 (ar : List AF) (x1 : List (List UInt8)) (s : Nat × Int) : Option ((Nat × Int) ⊕ ((Nat) ⊕ (Unit))) :=
 match s with
 | (x2, x3) => Ax (decide (x3 < (x1.length : Int))) ((Em x1 x3).bind fun x5 => (ar[x2]?).bind fun x6 => Kq (Cb x6.AP x5) (fun x7 => some (.inl (x7, IntKind.i64.wrap (x3 + 1)))) (some (.inr (.inr ())))) (some (.inr (.inl x2)))
def BX (p0 : Aj) (p1 : List UInt8) (ar : List AF) : Option ((Option Nat)) :=
 (C7 p1).bind fun x1 => (loop (A9 ar x1) (p0.Bb, (0 : Int))).bind fun o1 => (match o1 with | .inl x4 => some (some x4) | .inr _ => some none)
theorem Dn {I p0 p1 ar bp0 o0} (hm : BX p0 p1 ar = some o0) (hc : Bp (cfg.still 27) av = [.ptr (some (bp0, 0)), .str p1]) (hF : EW BC I ar ∈ F) (A : HH g h [.obj bp0 (.cells none 2 [.ptr (some (BA I p0.Bb, 0)), Ai p0.n_])] F) : ∃ v h', Bz cfg g h 27 av v h' ∧ ((∃ (q0 : Nat), o0 = some q0 ∧ v = .ptr (some (BA I q0, 0)) ∧ HH g h' [.obj bp0 (.cells none 2 [.ptr (some (BA I p0.Bb, 0)), Ai p0.n_])] F) ∨ (o0 = none ∧ v = .ptr none ∧ HH g h' [.obj bp0 (.cells none 2 [.ptr (some (BA I p0.Bb, 0)), Ai p0.n_])] F)) := by
 refine G7 29 [.tmp 4] hc ?_
 clear hc
 unfold BX at hm
 refine bg 29 [(0, .ptr (some (bp0, 0))), (1, .str p1)] fun fr H => ?_
 refine AH 1 (DC 1 [] 5 H fun fr H => EA 3 [] 11 0 0 A H fun fr t H => ?_)
 refine AN 1 [(5, .ptr (some (BA I p0.Bb, 0)))] H fun fr H => AR (AH 4 ?_)
 obtain ⟨x1, hx, hm⟩ := bind_some hm
 obtain ⟨v1, h1, hr, rqw1, rfl, A1⟩ := FP (av := [.str p1]) hx (A.cut 0)
 replace A := A.VF A1
 refine Bg 1 [] 13 hr H fun fr t H => ?_
 refine AN 2 [(14, Ai (x1.length : Int)), (15, Ai 0)] H fun fr H => AO (id := 0) (by kernel_rfl) ?_
 obtain ⟨o1, ho, hm⟩ := bind_some hm
 refine Af (Q' := fun e fr' h' => (∃ x4, e = .exit 0 ∧ .inl x4 = o1 ∧ Has fr' 29 [(5, .ptr (some (BA I x4, 0)))] ∧ HH g h' [.obj bp0 (.cells none 2 [.ptr (some (BA I p0.Bb, 0)), Ai p0.n_])] F) ∨ (e = .ret ∧ .inr () = o1 ∧ Has fr' 29 [(4, .ptr none)] ∧ HH g h' [.obj bp0 (.cells none 2 [.ptr (some (BA I p0.Bb, 0)), Ai p0.n_])] F) ∨ False) ?_ ?_
 ·refine Bn (by kernel_rfl) (fun (s : Nat × Int) fr' h' => ∃ x2 x3, (x2, x3) = s ∧ Has fr' 29 [(5, .ptr (some (BA I x2, 0))), (13, AJ rqw1 x1.length), (14, Ai (x1.length : Int)), (15, Ai x3)] ∧ HH g h' [.AL rqw1 9 (AL eS x1), .obj bp0 (.cells none 2 [.ptr (some (BA I p0.Bb, 0)), Ai p0.n_])] F) ho ⟨_, _, rfl, H.ls, A⟩ ?_
  clear ho hm H A
  intro s q fr h2 hI hm
  obtain ⟨x2, x3, rfl, H, A⟩ := hI
  unfold A9 at hm
  refine AH 1 (AN 1 [(16, .bool (decide (x3 < (x1.length : Int))))] H fun fr H => AR (Aw 16 H hm (fun hb hm H => ?_) fun hb hm H => ?_))
  ·refine CZ id (AR (AO (id := 1) (by kernel_rfl) ?_))
   refine AH 3 ?_
   obtain ⟨x5, hx, hm⟩ := bind_some hm
   obtain ⟨i1, er1, _, hx, hq1⟩ := HH.Kr encS (by decide) A 0 (xs := x1) rfl hx
   refine Am 17 (.ptr (some (i1, x3.toNat * 1))) h2 H (fun fr => .of (Db (s := Cq rqw1 x1.length) (by kernel_rfl) hx)) fun fr t H => ?_
   refine Am 18 _ _ H (fun fr => .of (DN (by kernel_rfl) (Cm encS (HH.row A 0 rfl er1) hq1 (o := 0) rfl))) fun fr t H => ?_
   refine DC 1 [(7, .str x5)] 7 H fun fr H => ?_
   obtain ⟨x6, hq2, hm⟩ := bind_some hm
   refine Ad 3 [] 22 _ _ H (fun fr => .of (DN (by kernel_rfl) (FZ (N := BC) (I := I) (A.okF hF) hq2 (o := 2) (v := .map (some (CO I x2))) rfl))) fun fr t H => ?_
   rcases Et hm with ⟨x7, hq3, hm⟩ | ⟨hq3, hm⟩
   ·refine Ad 1 [] 24 (.ptr (some (BA I x7, 0))) h2 H (fun fr => .of (GY (by kernel_rfl) (Fz (N := BC) (I := I) (A.okF hF) hq2 (kt := 9) (et := 52) (by kernel_rfl) (t := 56) (by kernel_rfl) (zv := .ptr none) (by kernel_rfl) (s := x5) (v := x7) hq3))) fun fr t H => ?_
    refine Bf 1 [(5, .ptr (some (BA I x7, 0))), (13, AJ rqw1 x1.length), (14, Ai (x1.length : Int)), (15, Ai x3)] H fun fr H => G5 2 id (AN 2 [(26, .bool false)] H fun fr H => F4 (x := .tmp 26) (by kernel_rfl) H (fun fr => by kernel_rfl) ?_)
    refine IK 2 id (Bf 2 [(5, .ptr (some (BA I x7, 0))), (13, AJ rqw1 x1.length), (14, Ai (x1.length : Int)), (15, Ai (IntKind.i64.wrap (x3 + 1)))] H fun fr H => at_nil ?_)
    exact nx hm ⟨_, _, rfl, H.ls, A⟩
   refine Ad 1 [] 24 (.ptr none) h2 H (fun fr => .of (GY (by kernel_rfl) (GJ (N := BC) (I := I) (A.okF hF) hq2 (kt := 9) (et := 52) (by kernel_rfl) (t := 56) (by kernel_rfl) (zv := .ptr none) (by kernel_rfl) (s := x5) hq3))) fun fr t H => ?_
   refine Bf 1 [(5, .ptr none), (13, AJ rqw1 x1.length), (14, Ai (x1.length : Int)), (15, Ai x3)] H fun fr H => G5 2 id (AN 2 [(26, .bool true)] H fun fr H => Ia (x := .tmp 26) (by kernel_rfl) H (fun fr => by kernel_rfl) ?_)
   refine AH 1 (AN 1 [(4, .ptr none)] H fun fr H => BB ?_)
   replace A := A.k1 1
   exact nr hm fun e => Or.inr (.inl ⟨rfl, e, H.ls, A⟩)
  refine Bi (i := 0) (by kernel_rfl) ?_
  replace A := A.k1 1
  exact nr hm fun e => .inl ⟨_, rfl, e, H.ls, A⟩
 clear ho
 clear A
 intro e fr h3 hQ
 rcases hQ with ⟨x4, rfl, rfl, H, A⟩ | ⟨rfl, rfl, H, A⟩ | hF
 ·show AW _ _ _ _ _ _ _
  refine AH 2 (AN 2 [(4, .ptr (some (BA I x4, 0)))] H fun fr H => BB ?_)
  obtain rfl := Ao hm
  refine ⟨.inl rfl, .ptr (some (BA I x4, 0)), rH H, ?_⟩
  exact .inl ⟨x4, rfl, rfl, A⟩
 ·obtain rfl := Ao hm
  refine ⟨.inl rfl, .ptr none, rH H, ?_⟩
  exact .inr ⟨rfl, rfl, A⟩
 exact hF.elim
def Ch (p0 : Aj) (p1 : List UInt8) (ar : List AF) : Option (Int × Bool) :=
 (BX p0 p1 ar).bind fun w2 => (match w2 with | some x1 => (ar[x1]?).bind fun x2 => (ar[p0.Bb]?).bind fun x3 => Ax (Nat.beq x1 p0.Bb) (some ((0 : Int), false)) ((ar[x1]?).bind fun x4 => some (x4.at_, true)) | none => some ((0 : Int), false))
theorem Hf {I p0 p1 ar bp0 q0 q1} (hm : Ch p0 p1 ar = some (q0, q1)) (hc : Bp (cfg.still 18) av = [.ptr (some (bp0, 0)), .str p1]) (hF : EW BC I ar ∈ F) (A : HH g h [.obj bp0 (.cells none 2 [.ptr (some (BA I p0.Bb, 0)), Ai p0.n_])] F) : ∃ v h', Bz cfg g h 18 av v h' ∧ v = .tuple [Ai q0, .bool q1] ∧ HH g h' [.obj bp0 (.cells none 2 [.ptr (some (BA I p0.Bb, 0)), Ai p0.n_])] F := by
 refine G7 24 [.tmp 4, .tmp 5] hc ?_
 clear hc
 unfold Ch at hm
 refine bg 24 [(0, .ptr (some (bp0, 0))), (1, .str p1)] fun fr H => ?_
 refine AH 2 (DC 2 [] 4 H fun fr H => ?_)
 have A1 := A.cut 1
 obtain ⟨w2, hx, hm⟩ := bind_some hm
 obtain ⟨v1, h1, hr, hc⟩ := Dn (av := [.ptr (some (bp0, 0)), .str p1]) hx (by kernel_rfl) (List.mem_append_right _ hF) A1
 rcases hc with ⟨x1, rfl, rfl, A1⟩ | ⟨rfl, rfl, A1⟩
 ·replace A := A.g11 A1
  refine Bg 2 [] 9 hr H fun fr t H => ?_
  refine AN 1 [(6, .ptr (some (BA I x1, 0)))] H fun fr H => AR (AH 10 (EA 7 [(12, .bool false), (13, .ptr (some (BA I x1, 0)))] 17 0 0 A H fun fr t H => ?_))
  obtain ⟨x2, hq1, hm⟩ := bind_some hm
  obtain ⟨x3, hq2, hm⟩ := bind_some hm
  refine Am 18 (.bool (Nat.beq x1 p0.Bb)) h1 H (fun fr => .of (Ve (t := 52) (by kernel_rfl) (SX (N := BC) (I := I) (A.okF hF) hq1 hq2 Nw (t := 52) (e := 58) (by kernel_rfl) (z := 2) (by kernel_rfl)))) fun fr t H => ?_
  refine AN 1 [(19, .bool (Nat.beq x1 p0.Bb))] H fun fr H => Aw 19 H hm (fun hb hm H => ?_) fun hb hm H => ?_
  ·refine AH 2 (AN 2 [(4, Ai 0), (5, .bool false)] H fun fr H => BB ?_)
   obtain ⟨rfl, rfl⟩ := Ie hm
   exact ⟨.inl rfl, _, rH H, rfl, A⟩
  refine Mi 6 id ?_
  obtain ⟨x4, hq3, hm⟩ := bind_some hm
  refine Ad 3 [] 23 _ _ H (fun fr => .of (DN (by kernel_rfl) (FZ (N := BC) (I := I) (A.okF hF) hq3 (o := 0) (v := Ai x4.at_) rfl))) fun fr t H => ?_
  refine AN 2 [(4, Ai x4.at_), (5, .bool true)] H fun fr H => BB ?_
  obtain ⟨rfl, rfl⟩ := Ie hm
  exact ⟨.inl rfl, _, rH H, rfl, A⟩
 replace A := A.g11 A1
 refine Bg 2 [] 9 hr H fun fr t H => ?_
 refine AN 1 [(6, .ptr none)] H fun fr H => AR (AH 10 (AN 10 [(19, .bool true)] H fun fr H => Ia (x := .tmp 19) (by kernel_rfl) H (fun fr => by kernel_rfl) ?_))
 refine AH 2 (AN 2 [(4, Ai 0), (5, .bool false)] H fun fr H => BB ?_)
 obtain ⟨rfl, rfl⟩ := Ie hm
 exact ⟨.inl rfl, _, rH H, rfl, A⟩
def Au (x3 : List UInt8) (x4 : AF) (s : (List (List UInt8)) × Int) : Option (((List (List UInt8)) × Int) ⊕ (((List (List UInt8))))) :=
 match s with
 | (x5, x6) => Ax (decide (x6 < ((Az (x4.AP.map Prod.fst)).length : Int))) ((Em (Az (x4.AP.map Prod.fst)) x6).bind fun x8 => DW (decide (x3.length + x8.length ≤ 9223372036854775807)) <| DW (QX 16 (x5.length + ([x3 ++ x8] : List (List UInt8)).length)) <| some (.inl ((x5 ++ ([x3 ++ x8] : List (List UInt8))), IntKind.i64.wrap (x6 + 1)))) (some (.inr x5))
def B3 (p0 : Aj) (p1 : List UInt8) (ar : List AF) : Option ((List (List UInt8))) :=
 (BX p0 p1 ar).bind fun w2 => (match w2 with | some x1 => (DK p1).bind fun x2 => (Ax (!(x2 == ([] : List UInt8))) (DW (decide (x2.length + ([47] : List UInt8).length ≤ 9223372036854775807)) <| some (x2 ++ ([47] : List UInt8))) (some x2) : Option (((List UInt8)))).bind fun x3 => (ar[x1]?).bind fun x4 => DW (HJ (x4.AP.map Prod.fst)) <| (loop (Au x3 x4) (([] : List (List UInt8)), (0 : Int))).bind fun x7 => some x7 | none => some ([] : List (List UInt8)))
theorem GN {I p0 p1 ar bp0 q0} (hm : B3 p0 p1 ar = some q0) (hc : Bp (cfg.still 12) av = [.ptr (some (bp0, 0)), .str p1]) (hF : EW BC I ar ∈ F) (A : HH g h [.obj bp0 (.cells none 2 [.ptr (some (BA I p0.Bb, 0)), Ai p0.n_])] F) : ∃ v h', Bz cfg g h 12 av v h' ∧ ∃ (rq0 : Option Nat), v = AJ rq0 q0.length ∧ HH g h' [.AL rq0 9 (AL eS q0), .obj bp0 (.cells none 2 [.ptr (some (BA I p0.Bb, 0)), Ai p0.n_])] F := by
 refine G7 40 [.tmp 4] hc ?_
 clear hc
 unfold B3 at hm
 refine bg 40 [(0, .ptr (some (bp0, 0))), (1, .str p1)] fun fr H => ?_
 refine AH 1 (DC 1 [] 4 H fun fr H => ?_)
 have A1 := A.cut 1
 obtain ⟨w2, hx, hm⟩ := bind_some hm
 obtain ⟨v1, h1, hr, hc⟩ := Dn (av := [.ptr (some (bp0, 0)), .str p1]) hx (by kernel_rfl) (List.mem_append_right _ hF) A1
 rcases hc with ⟨x1, rfl, rfl, A1⟩ | ⟨rfl, rfl, A1⟩
 ·replace A := A.g11 A1
  refine Bg 2 [] 12 hr H fun fr t H => ?_
  refine AN 1 [(5, .ptr (some (BA I x1, 0)))] H fun fr H => AR (AH 2 (AN 2 [(14, .bool false)] H fun fr H => F4 (x := .tmp 14) (by kernel_rfl) H (fun fr => by kernel_rfl) ?_))
  refine Mi 3 id ?_
  obtain ⟨x2, hx, hm⟩ := bind_some hm
  obtain ⟨v1, h2, hr, rfl, A1⟩ := IM (av := [.str p1]) hx (A.cut 0)
  replace A := A.Oi A1
  refine Bg 1 [] 16 hr H fun fr t H => ?_
  refine AN 1 [(6, .str x2)] H fun fr H => AR ?_
  obtain ⟨o1, ho, hm⟩ := bind_some hm
  refine Af (Q' := fun e fr' h' => (∃ x3, e = .normal ∧ x3 = o1 ∧ Has fr' 40 [(5, .ptr (some (BA I x1, 0))), (6, .str x3)] ∧ HH g h' [.obj bp0 (.cells none 2 [.ptr (some (BA I p0.Bb, 0)), Ai p0.n_])] F) ∨ False) ?_ ?_
  ·replace hm := ho
   clear ho
   refine AH 2 (AN 2 [(18, .bool (!(x2 == ([] : List UInt8))))] H fun fr H => Aw 18 H hm (fun hb hm H => ?_) fun hb hm H => ?_)
   ·refine B7 3 (Al 1 [(19, .str x2)] H fun fr H => ?_)
    obtain ⟨hb, hm⟩ := Ac hm
    refine Am 20 (.str (x2 ++ ([47] : List UInt8))) h2 H (fun fr => .of (Ii (by kernel_rfl) hb)) fun fr t H => ?_
    refine Bf 1 [(5, .ptr (some (BA I x1, 0))), (6, .str (x2 ++ ([47] : List UInt8)))] H fun fr H => at_nil ?_
    exact .inl ⟨_, rfl, Ao hm, H.ls, A⟩
   exact Ej (.inl ⟨_, rfl, Ao hm, H.ls, A⟩)
  clear ho
  clear A
  intro e fr h3 hQ
  rcases hQ with ⟨x3, rfl, rfl, H, A⟩ | hF
  ·show AW _ _ _ _ _ _ _
   refine AH 1 (AN 1 [(7, .slice none 0)] H fun fr H => AR (AH 8 ?_))
   obtain ⟨x4, hq1, hm⟩ := bind_some hm
   refine Ad 3 [] 24 _ _ H (fun fr => .of (DN (by kernel_rfl) (FZ (N := BC) (I := I) (A.okF hF) hq1 (o := 2) (v := .map (some (CO I x1))) rfl))) fun fr t H => ?_
   obtain ⟨h4, e1, A⟩ := A.pu (.cells none 2 [.map (some (CO I x1))])
   have hr : ∀ g, Bz cfg g h3 30 [.map (some (CO I x1))] (.func (.func 44) [] [.ptr (some (h3.size, 0))]) h4 := fun g => by rw [e1]; exact ⟨2, by kernel_rfl⟩
   refine Am 25 _ _ H (fun fr => Steps.call (by kernel_rfl) (hr _)) fun fr t H => ?_
   have A1 := A.cut 1
   obtain ⟨hb, hm⟩ := Ac hm
   obtain ⟨r1, h5, hr, A1⟩ := NK (C := cfg) (f := 29) (it := 44) (t := 9) (N := BC) (I := I) A1 (A.okF hF) hq1 (by kernel_rfl) (l := exts) rfl (by kernel_rfl) 0 rfl hb
   replace A := A.g12 A1
   refine Co 26 hr H fun fr t H => ?_
   refine AN 2 [(27, Ai ((Az (x4.AP.map Prod.fst)).length : Int)), (28, Ai 0)] H fun fr H => AO (id := 0) (by kernel_rfl) ?_
   replace A : HH g h5 [.AL none 9 (AL eS ([] : List (List UInt8))), _, _, _] F := A.Qq 9
   obtain ⟨o2, ho, hm⟩ := bind_some hm
   refine Af (Q' := fun e fr' h' => (∃ x7, e = .exit 0 ∧ x7 = o2 ∧ ∃ r3, Has fr' 40 [(7, AJ r3 x7.length)] ∧ HH g h' [.AL r3 9 (AL eS x7), .obj h3.size (.cells none 2 [.map (some (CO I x1))]), .obj bp0 (.cells none 2 [.ptr (some (BA I p0.Bb, 0)), Ai p0.n_])] F) ∨ False) ?_ ?_
   ·refine Bn (by kernel_rfl) (fun (s : (List (List UInt8)) × Int) fr' h' => ∃ x5 x6, (x5, x6) = s ∧ ∃ r2, Has fr' 40 [(6, .str x3), (7, AJ r2 x5.length), (26, AJ r1 ((Az (x4.AP.map Prod.fst)).length)), (27, Ai ((Az (x4.AP.map Prod.fst)).length : Int)), (28, Ai x6)] ∧ HH g h' [.AL r2 9 (AL eS x5), .AL r1 9 (AL eS (Az (x4.AP.map Prod.fst))), .obj h3.size (.cells none 2 [.map (some (CO I x1))]), .obj bp0 (.cells none 2 [.ptr (some (BA I p0.Bb, 0)), Ai p0.n_])] F) ho ⟨_, _, rfl, none, H.ls, A⟩ ?_
    clear ho hm H A
    intro s q fr h6 hI hm
    obtain ⟨x5, x6, rfl, r2, H, A⟩ := hI
    unfold Au at hm
    refine AH 1 (AN 1 [(29, .bool (decide (x6 < ((Az (x4.AP.map Prod.fst)).length : Int))))] H fun fr H => AR (Aw 29 H hm (fun hb hm H => ?_) fun hb hm H => ?_))
    ·refine CZ id (AR (AO (id := 1) (by kernel_rfl) ?_))
     refine AH 3 ?_
     obtain ⟨x8, hx, hm⟩ := bind_some hm
     obtain ⟨i1, er1, _, hx, hq2⟩ := HH.Kr encS (by decide) A 1 (xs := (Az (x4.AP.map Prod.fst))) rfl hx
     refine Am 30 (.ptr (some (i1, x6.toNat * 1))) h6 H (fun fr => .of (Db (s := Cq r1 ((Az (x4.AP.map Prod.fst)).length)) (by kernel_rfl) hx)) fun fr t H => ?_
     refine Am 31 _ _ H (fun fr => .of (DN (by kernel_rfl) (Cm encS (HH.row A 1 rfl er1) hq2 (o := 0) rfl))) fun fr t H => ?_
     refine Sr 1 [(9, .str x8)] 7 H fun fr H => Al 3 [(32, AJ r2 x5.length), (33, .str x3), (34, .str x8)] H fun fr H => ?_
     obtain ⟨hb, hm⟩ := Ac hm
     refine Am 35 (.str (x3 ++ x8)) h6 H (fun fr => .of (Ii (by kernel_rfl) hb)) fun fr t H => ?_
     obtain ⟨h7, e2, A⟩ := A.pL 9 [.str (x3 ++ x8)]
     refine DE 36 (AJ (some h6.size) (([x3 ++ x8] : List (List UInt8)).length)) e2 H fun fr t H => ?_
     obtain ⟨hb, hm⟩ := Ac hm
     obtain ⟨r4, h8, hx, A1⟩ := HH.NR encS (by decide) A 1 (xs := x5) (ys := ([x3 ++ x8] : List (List UInt8))) rfl (Di A 0 rfl (n := ([x3 ++ x8] : List (List UInt8)).length) (z := 1) rfl (by decide)) rfl rfl hb
     replace A : HH g h8 [.AL (some h6.size) 9 ([.str (x3 ++ x8)]), .AL r4 9 (AL eS (x5 ++ ([x3 ++ x8] : List (List UInt8)))), _, _, _] F := A1
     replace A := A.k4 1 2 3 4
     refine Am 37 _ _ H (fun fr => .of (JS (s := Cq r2 x5.length) (by kernel_rfl) hx)) fun fr t H => ?_
     refine Bf 1 [(6, .str x3), (7, AJ r4 ((x5 ++ ([x3 ++ x8] : List (List UInt8))).length)), (26, AJ r1 ((Az (x4.AP.map Prod.fst)).length)), (27, Ai ((Az (x4.AP.map Prod.fst)).length : Int)), (28, Ai x6)] H fun fr H => Ju 2 id (Bf 2 [(6, .str x3), (7, AJ r4 ((x5 ++ ([x3 ++ x8] : List (List UInt8))).length)), (26, AJ r1 ((Az (x4.AP.map Prod.fst)).length)), (27, Ai ((Az (x4.AP.map Prod.fst)).length : Int)), (28, Ai (IntKind.i64.wrap (x6 + 1)))] H fun fr H => at_nil ?_)
     exact nx hm ⟨_, _, rfl, _, H.ls, A⟩
    refine Bi (i := 0) (by kernel_rfl) ?_
    replace A := A.k3 0 2 3
    exact nr hm fun e => .inl ⟨_, rfl, e, _, H.ls, A⟩
   clear ho
   clear A
   intro e fr h9 hQ
   rcases hQ with ⟨x7, rfl, rfl, r3, H, A⟩ | hF
   ·show AW _ _ _ _ _ _ _
    refine AH 2 (AN 2 [(4, AJ r3 x7.length)] H fun fr H => BB ?_)
    obtain rfl := Ao hm
    refine ⟨.inl rfl, AJ r3 x7.length, rH H, ?_⟩
    replace A := A.k2 0 2
    exact ⟨r3, rfl, A⟩
   exact hF.elim
  exact hF.elim
 replace A := A.g11 A1
 refine Bg 2 [] 12 hr H fun fr t H => ?_
 refine AN 1 [(5, .ptr none)] H fun fr H => AR (AH 2 (AN 2 [(14, .bool true)] H fun fr H => Ia (x := .tmp 14) (by kernel_rfl) H (fun fr => by kernel_rfl) ?_))
 refine AH 1 (AN 1 [(4, .slice none 0)] H fun fr H => BB ?_)
 obtain rfl := Ao hm
 refine ⟨.inl rfl, .slice none 0, rH H, ?_⟩
 replace A : HH g h1 [.AL none 9 (AL eS ([] : List (List UInt8))), _] F := A.Qq 9
 exact ⟨none, rfl, A⟩
def Ct (p0 : List (List UInt8)) (s : (List UInt8) × Int) : Option (((List UInt8) × Int) ⊕ (((List UInt8)))) :=
 match s with
 | (x1, x2) => Ax (decide (x2 < (p0.length : Int))) (((Em p0 x2).bind fun x5 => Ax (x5 == ([] : List UInt8)) (some x1) ((Ax (!(x1 == ([] : List UInt8))) (DW (decide (x1.length + ([47] : List UInt8).length ≤ 9223372036854775807)) <| some (x1 ++ ([47] : List UInt8))) (some x1) : Option (((List UInt8)))).bind fun x6 => (Em p0 x2).bind fun x7 => DW (decide (x6.length + x7.length ≤ 9223372036854775807)) <| some (x6 ++ x7)) : Option (((List UInt8)))).bind fun x4 => some (.inl (x4, IntKind.i64.wrap (x2 + 1)))) (some (.inr x1))
def Cs (p0 : List (List UInt8)) : Option ((List UInt8)) :=
 (loop (Ct p0) (([] : List UInt8), (0 : Int))).bind fun x3 => some x3
theorem Hy {p0 q0} (hm : Cs p0 = some q0) (A : HH g h [] F) (hc : Bp (cfg.still 11) av = [vs eS p0] := by kernel_rfl) : ∃ v h', Bz cfg g h 11 av v h' ∧ v = .str q0 ∧ HH g h' [] F := by
 refine G7 27 [.tmp 2] hc ?_
 clear hc
 unfold Cs at hm
 refine bg 27 [(0, vs eS p0)] fun fr H => ?_
 refine AH 1 (DC 1 [] 1 H fun fr H => AN 1 [(3, .str ([] : List UInt8))] H fun fr H => AR (AH 1 (AN 1 [(4, Ai 0)] H fun fr H => AO (id := 0) (by kernel_rfl) ?_)))
 obtain ⟨o1, ho, hm⟩ := bind_some hm
 refine Af (Q' := fun e fr' h' => (∃ x3, e = .exit 0 ∧ x3 = o1 ∧ Has fr' 27 [(3, .str x3)] ∧ HH g h' [] F) ∨ False) ?_ ?_
 ·refine Bn (by kernel_rfl) (fun (s : (List UInt8) × Int) fr' h' => ∃ x1 x2, (x1, x2) = s ∧ Has fr' 27 [(0, vs eS p0), (3, .str x1), (4, Ai x2)] ∧ HH g h' [] F) ho ⟨_, _, rfl, H.ls, A⟩ ?_
  clear ho hm H A
  intro s q fr h1 hI hm
  obtain ⟨x1, x2, rfl, H, A⟩ := hI
  unfold Ct at hm
  refine AR (AH 4 (AN 4 [(8, .bool (decide (x2 < (p0.length : Int))))] H fun fr H => Aw 8 H hm (fun hb hm H => ?_) fun hb hm H => ?_))
  ·refine CZ id (AR ?_)
   obtain ⟨o2, ho, hm⟩ := bind_some hm
   refine Af (Q' := fun e fr' h' => (∃ x4, e = .normal ∧ x4 = o2 ∧ Has fr' 27 [(0, vs eS p0), (3, .str x4), (4, Ai x2)] ∧ HH g h' [] F) ∨ False) ?_ ?_
   ·replace hm := ho
    clear ho
    refine AO (id := 1) (by kernel_rfl) ?_
    refine AR (AH 5 ?_)
    obtain ⟨x5, hx, hm⟩ := bind_some hm
    refine Ad 2 [] 13 (.C3 [.str x5]) h1 H (fun fr => .of (GZ (e := eS) (x := x5) encS (by decide) (by kernel_rfl) hx)) fun fr t H => ?_
    refine Am 14 (.str x5) h1 H (fun fr => .of (Jt (by kernel_rfl))) fun fr t H => ?_
    refine AN 1 [(15, .bool (x5 == ([] : List UInt8)))] H fun fr H => Aw 15 H hm (fun hb hm H => ?_) fun hb hm H => ?_
    ·refine Bi (i := 1) (by kernel_rfl) ?_
     exact .inl ⟨_, rfl, Ao hm, H.ls, A⟩
    refine CZ id (AR ?_)
    obtain ⟨o3, ho, hm⟩ := bind_some hm
    refine Af (Q' := fun e fr' h' => (∃ x6, e = .normal ∧ x6 = o3 ∧ Has fr' 27 [(0, vs eS p0), (3, .str x6), (4, Ai x2)] ∧ HH g h' [] F) ∨ False) ?_ ?_
    ·replace hm := ho
     clear ho
     refine AH 2 (AN 2 [(17, .bool (!(x1 == ([] : List UInt8))))] H fun fr H => Aw 17 H hm (fun hb hm H => ?_) fun hb hm H => ?_)
     ·refine B7 3 (Al 1 [(18, .str x1)] H fun fr H => ?_)
      obtain ⟨hb, hm⟩ := Ac hm
      refine Am 19 (.str (x1 ++ ([47] : List UInt8))) h1 H (fun fr => .of (Ii (by kernel_rfl) hb)) fun fr t H => ?_
      refine Bf 1 [(0, vs eS p0), (3, .str (x1 ++ ([47] : List UInt8))), (4, Ai x2)] H fun fr H => at_nil ?_
      exact .inl ⟨_, rfl, Ao hm, H.ls, A⟩
     exact Ej (.inl ⟨_, rfl, Ao hm, H.ls, A⟩)
    clear ho
    clear A
    intro e fr h2 hQ
    rcases hQ with ⟨x6, rfl, rfl, H, A⟩ | hF
    ·show AW _ _ _ _ _ _ _
     refine B7 7 ?_
     obtain ⟨x7, hx, hm⟩ := bind_some hm
     refine Ad 3 [(20, .str x6)] 23 (.C3 [.str x7]) h2 H (fun fr => .of (GZ (e := eS) (x := x7) encS (by decide) (by kernel_rfl) hx)) fun fr t H => ?_
     refine Am 24 (.str x7) h2 H (fun fr => .of (Jt (by kernel_rfl))) fun fr t H => ?_
     obtain ⟨hb, hm⟩ := Ac hm
     refine Am 25 (.str (x6 ++ x7)) h2 H (fun fr => .of (Ii (by kernel_rfl) hb)) fun fr t H => ?_
     refine Bf 1 [(0, vs eS p0), (3, .str (x6 ++ x7)), (4, Ai x2)] H fun fr H => at_nil ?_
     exact .inl ⟨_, rfl, Ao hm, H.ls, A⟩
    exact hF.elim
   clear ho
   clear A
   intro e fr h3 hQ
   rcases hQ with ⟨x4, rfl, rfl, H, A⟩ | hF
   ·show AW _ _ _ _ _ _ _
    refine B7 3 (Bf 3 [(0, vs eS p0), (3, .str x4), (4, Ai (IntKind.i64.wrap (x2 + 1)))] H fun fr H => at_nil ?_)
    exact nx hm ⟨_, _, rfl, H.ls, A⟩
   exact hF.elim
  refine Bi (i := 0) (by kernel_rfl) ?_
  exact nr hm fun e => .inl ⟨_, rfl, e, H.ls, A⟩
 clear ho
 clear A
 intro e fr h4 hQ
 rcases hQ with ⟨x3, rfl, rfl, H, A⟩ | hF
 ·show AW _ _ _ _ _ _ _
  refine AH 2 (AN 2 [(2, .str x3)] H fun fr H => BB ?_)
  obtain rfl := Ao hm
  exact ⟨.inl rfl, _, rH H, rfl, A⟩
 exact hF.elim
def Aa (p0 : List AD) (p1 : List (List UInt8)) (s : (List (List UInt8)) × Int) : Option (((List (List UInt8)) × Int) ⊕ (((List (List UInt8))))) :=
 match s with
 | (x1, x2) => Ax (decide (x2 < (p0.length : Int))) (((Em p0 x2).bind fun x5 => (Ax ((x5.L.length : Int) == (IntKind.i64.wrap ((p1.length : Int) + 1))) ((Em p0 x2).bind fun x7 => (BW x7.L p1).bind fun x8 => some x8) (some false) : Option (Bool)).bind fun x6 => Ax x6 ((Em p0 x2).bind fun x9 => (Cs x9.L).bind fun x10 => DW (QX 16 (x1.length + ([x10] : List (List UInt8)).length)) <| some (x1 ++ ([x10] : List (List UInt8)))) (some x1) : Option (((List (List UInt8))))).bind fun x4 => some (.inl (x4, IntKind.i64.wrap (x2 + 1)))) (some (.inr x1))
def BN (p0 : List AD) (p1 : List (List UInt8)) : Option ((List (List UInt8))) :=
 (loop (Aa p0 p1) (([] : List (List UInt8)), (0 : Int))).bind fun x3 => some x3
theorem FU {p0 p1 rp0 q0} (hm : BN p0 p1 = some q0) (A : HH g h [.AL rp0 35 (AL AG p0)] F) (hc : Bp (cfg.still 19) av = [AJ rp0 p0.length, vs eS p1] := by kernel_rfl) : ∃ v h', Bz cfg g h 19 av v h' ∧ ∃ (rq0 : Option Nat), v = AJ rq0 q0.length ∧ HH g h' [.AL rq0 9 (AL eS q0), .AL rp0 35 (AL AG p0)] F := by
 refine G7 43 [.tmp 4] hc ?_
 clear hc
 unfold BN at hm
 refine bg 43 [(0, AJ rp0 p0.length), (1, vs eS p1)] fun fr H => ?_
 refine AH 1 (DC 1 [] 2 H fun fr H => ?_)
 obtain ⟨h1, e1, A⟩ := A.pL 9 []
 refine DE 7 (AJ (some h.size) (([] : List (List UInt8)).length)) e1 H fun fr t H => ?_
 refine AN 1 [(5, AJ (some h.size) (([] : List (List UInt8)).length))] H fun fr H => AR (AH 1 (AN 1 [(6, Ai 0)] H fun fr H => AO (id := 0) (by kernel_rfl) ?_))
 replace A : HH g h1 [.AL (some h.size) 9 (AL eS ([] : List (List UInt8))), _] F := A
 obtain ⟨o1, ho, hm⟩ := bind_some hm
 refine Af (Q' := fun e fr' h' => (∃ x3, e = .exit 0 ∧ x3 = o1 ∧ ∃ r2, Has fr' 43 [(5, AJ r2 x3.length)] ∧ HH g h' [.AL r2 9 (AL eS x3), .AL rp0 35 (AL AG p0)] F) ∨ False) ?_ ?_
 ·refine Bn (by kernel_rfl) (fun (s : (List (List UInt8)) × Int) fr' h' => ∃ x1 x2, (x1, x2) = s ∧ ∃ r1, Has fr' 43 [(0, AJ rp0 p0.length), (1, vs eS p1), (5, AJ r1 x1.length), (6, Ai x2)] ∧ HH g h' [.AL r1 9 (AL eS x1), .AL rp0 35 (AL AG p0)] F) ho ⟨_, _, rfl, some h.size, H.ls, A⟩ ?_
  clear ho hm H A
  intro s q fr h2 hI hm
  obtain ⟨x1, x2, rfl, r1, H, A⟩ := hI
  unfold Aa at hm
  refine AR (AH 4 (AN 4 [(11, .bool (decide (x2 < (p0.length : Int))))] H fun fr H => Aw 11 H hm (fun hb hm H => ?_) fun hb hm H => ?_))
  ·refine CZ id (AR ?_)
   obtain ⟨o2, ho, hm⟩ := bind_some hm
   refine Af (Q' := fun e fr' h' => (∃ x4, e = .normal ∧ x4 = o2 ∧ ∃ r3, Has fr' 43 [(0, AJ rp0 p0.length), (1, vs eS p1), (5, AJ r3 x4.length), (6, Ai x2)] ∧ HH g h' [.AL r3 9 (AL eS x4), .AL rp0 35 (AL AG p0)] F) ∨ False) ?_ ?_
   ·replace hm := ho
    clear ho
    refine AO (id := 1) (by kernel_rfl) ?_
    refine AH 19 ?_
    obtain ⟨x5, hx, hm⟩ := bind_some hm
    obtain ⟨i1, er1, _, hx, hq1⟩ := HH.Kr AM (by decide) A 1 (xs := p0) rfl hx
    refine Ad 2 [] 16 (.ptr (some (i1, x2.toNat * 2))) h2 H (fun fr => .of (Db (s := Cq rp0 p0.length) (by kernel_rfl) hx)) fun fr t H => ?_
    refine Ad 1 [] 18 _ _ H (fun fr => .of (DN (by kernel_rfl) (Cm AM (HH.row A 1 rfl er1) hq1 (o := 0) rfl))) fun fr t H => ?_
    refine Al 6 [(24, .bool ((x5.L.length : Int) == (IntKind.i64.wrap ((p1.length : Int) + 1))))] H fun fr H => ?_
    obtain ⟨x6, ho, hm⟩ := bind_some hm
    refine Gf 8 (fun fr' h' => Has fr' 43 [(0, AJ rp0 p0.length), (1, vs eS p1), (5, AJ r1 x1.length), (6, Ai x2), (32, .bool x6)] ∧ HH g h' [.AL r1 9 (AL eS x1), .AL rp0 35 (AL AG p0)] F) ?_ ?_
    ·rcases DU ho with ⟨hb, hm⟩ | ⟨hb, hm⟩
     ·replace H := H.kn 24 hb
      obtain ⟨x7, hx, hm⟩ := bind_some hm
      obtain ⟨i2, er2, _, hx, hq2⟩ := HH.Kr AM (by decide) A 1 (xs := p0) rfl hx
      refine Ad 2 [] 27 (.ptr (some (i2, x2.toNat * 2))) h2 H (fun fr => .of (Db (s := Cq rp0 p0.length) (by kernel_rfl) hx)) fun fr t H => ?_
      refine Ad 1 [] 29 _ _ H (fun fr => .of (DN (by kernel_rfl) (Cm AM (HH.row A 1 rfl er2) hq2 (o := 0) rfl))) fun fr t H => ?_
      obtain ⟨x8, hx, hm⟩ := bind_some hm
      obtain ⟨v1, h4, hr, rfl, A1⟩ := Es (av := [vs eS x7.L, vs eS p1]) hx (A.cut 0)
      replace A := A.Oi A1
      refine Bg 1 [] 31 hr H fun fr t H => ?_
      refine Al 1 [(32, .bool x8)] H fun fr H => ?_
      obtain rfl := Ao hm
      exact at_nil ⟨H.ls, A⟩
     replace H := H.kn 24 hb
     refine Al 8 [(32, .bool false)] H fun fr H => ?_
     obtain rfl := Ao hm
     exact at_nil ⟨H.ls, A⟩
    clear A
    intro t fr h3 hK
    obtain ⟨H, A⟩ := hK
    refine ET id (Aw 32 H hm (fun hb hm H => ?_) fun hb hm H => ?_)
    ·refine B7 10 ?_
     obtain ⟨x9, hx, hm⟩ := bind_some hm
     obtain ⟨i3, er3, _, hx, hq3⟩ := HH.Kr AM (by decide) A 1 (xs := p0) rfl hx
     refine Ad 3 [(33, AJ r1 x1.length)] 36 (.ptr (some (i3, x2.toNat * 2))) h3 H (fun fr => .of (Db (s := Cq rp0 p0.length) (by kernel_rfl) hx)) fun fr t H => ?_
     refine Ad 1 [] 38 _ _ H (fun fr => .of (DN (by kernel_rfl) (Cm AM (HH.row A 1 rfl er3) hq3 (o := 0) rfl))) fun fr t H => ?_
     obtain ⟨x10, hx, hm⟩ := bind_some hm
     obtain ⟨v1, h5, hr, rfl, A1⟩ := Hy (av := [vs eS x9.L]) hx (A.cut 0)
     replace A := A.Oi A1
     refine Co 39 hr H fun fr t H => ?_
     obtain ⟨h6, e2, A⟩ := A.pL 9 [.str x10]
     refine DE 40 (AJ (some h5.size) (([x10] : List (List UInt8)).length)) e2 H fun fr t H => ?_
     obtain ⟨hb, hm⟩ := Ac hm
     obtain ⟨r4, h7, hx, A1⟩ := HH.NR encS (by decide) A 1 (xs := x1) (ys := ([x10] : List (List UInt8))) rfl (Di A 0 rfl (n := ([x10] : List (List UInt8)).length) (z := 1) rfl (by decide)) rfl rfl hb
     replace A : HH g h7 [.AL (some h5.size) 9 ([.str x10]), .AL r4 9 (AL eS (x1 ++ ([x10] : List (List UInt8)))), _] F := A1
     replace A := A.k2 1 2
     refine Am 41 _ _ H (fun fr => .of (JS (s := Cq r1 x1.length) (by kernel_rfl) hx)) fun fr t H => ?_
     refine Bf 1 [(0, AJ rp0 p0.length), (1, vs eS p1), (5, AJ r4 ((x1 ++ ([x10] : List (List UInt8))).length)), (6, Ai x2)] H fun fr H => at_nil ?_
     exact .inl ⟨_, rfl, Ao hm, _, H.ls, A⟩
    exact Ej (.inl ⟨_, rfl, Ao hm, _, H.ls, A⟩)
   clear ho
   clear A
   intro e fr h8 hQ
   rcases hQ with ⟨x4, rfl, rfl, r3, H, A⟩ | hF
   ·show AW _ _ _ _ _ _ _
    refine B7 3 (Bf 3 [(0, AJ rp0 p0.length), (1, vs eS p1), (5, AJ r3 x4.length), (6, Ai (IntKind.i64.wrap (x2 + 1)))] H fun fr H => at_nil ?_)
    exact nx hm ⟨_, _, rfl, _, H.ls, A⟩
   exact hF.elim
  refine Bi (i := 0) (by kernel_rfl) ?_
  exact nr hm fun e => .inl ⟨_, rfl, e, _, H.ls, A⟩
 clear ho
 clear A
 intro e fr h9 hQ
 rcases hQ with ⟨x3, rfl, rfl, r2, H, A⟩ | hF
 ·show AW _ _ _ _ _ _ _
  refine AH 2 (AN 2 [(4, AJ r2 x3.length)] H fun fr H => BB ?_)
  obtain rfl := Ao hm
  exact ⟨.inl rfl, _, rH H, _, rfl, A⟩
 exact hF.elim
structure Bo where
 Ah : Nat → (List UInt8) → Int → (List AF) → Option (Bool × Int)
structure Df (S : Bo) : Prop where
 CF : ∀ {g : Gd} {h : AB} {F : List Ck} {I : IF} {p0 : Nat} {p1 : List UInt8} {p2_10 : Int} {ar : List AF} {bp2_10 : Nat} {q0 : Bool} {u0 : Int} {av : List AA} (hm : S.Ah p0 p1 p2_10 ar = some (q0, u0)) (hc : Bp (cfg.still 34) av = [.ptr (some (BA I p0, 0)), .str p1, .func (.func 35) [] [.ptr (some (bp2_10, 0))]]) (hF : EW BC I ar ∈ F) (A : HH g h [.obj bp2_10 (.cells none 2 [Ai p2_10])] F), ∃ v h', Bz cfg g h 34 av v h' ∧ v = .bool q0 ∧ HH g h' [.obj bp2_10 (.cells none 2 [Ai u0])] F
def BG (S : Bo) (p0 : Nat) (p1 : List UInt8) (ar : List AF) (x1 : AF) (s : Int × Int) : Option ((Int × Int) ⊕ ((Int) ⊕ (Int × Bool))) :=
 match s with
 | (x2, x3) => Ax (decide (x3 < ((Az (x1.AP.map Prod.fst)).length : Int))) ((Em (Az (x1.AP.map Prod.fst)) x3).bind fun x7 => DW (decide (p1.length + x7.length ≤ 9223372036854775807)) <| (ar[p0]?).bind fun x8 => Kq (Cb x8.AP x7) (fun x9 => (B6 (p1 ++ x7) x9 x2 ar).bind fun (x10, x11) => (Ax (!x10) (some (x11, true)) ((ar[p0]?).bind fun x14 => Kq (Cb x14.AP x7) (fun x15 => DW (decide ((p1 ++ x7).length + ([47] : List UInt8).length ≤ 9223372036854775807)) <| (S.Ah x15 ((p1 ++ x7) ++ ([47] : List UInt8)) x11 ar).bind fun (x16, x17) => some (x17, !x16)) (DW (decide ((p1 ++ x7).length + ([47] : List UInt8).length ≤ 9223372036854775807)) <| none)) : Option (Int × Bool)).bind fun (x12, x13) => Ax x13 (some (.inr (.inr (x12, false)))) (some (.inl (x12, IntKind.i64.wrap (x3 + 1))))) (none)) (some (.inr (.inl x2)))
def Bt (S : Bo) (p0 : Nat) (p1 : List UInt8) (p2_10 : Int) (ar : List AF) : Option (Bool × Int) :=
 (ar[p0]?).bind fun x1 => DW (HJ (x1.AP.map Prod.fst)) <| (loop (BG S p0 p1 ar x1) (p2_10, (0 : Int))).bind fun o1 => (match o1 with | .inl x4 => some (true, x4) | .inr (x5, x6) => some (x6, x5))
theorem Fc {S : Bo} (hS : Df S) {I p0 p1 p2_10 ar bp2_10 q0 u0} (hm : Bt S p0 p1 p2_10 ar = some (q0, u0)) (hc : Bp (cfg.still 34) av = [.ptr (some (BA I p0, 0)), .str p1, .func (.func 35) [] [.ptr (some (bp2_10, 0))]]) (hF : EW BC I ar ∈ F) (A : HH g h [.obj bp2_10 (.cells none 2 [Ai p2_10])] F) : ∃ v h', Bz cfg g h 34 av v h' ∧ v = .bool q0 ∧ HH g h' [.obj bp2_10 (.cells none 2 [Ai u0])] F := by
 refine G7 48 [.tmp 6] hc ?_
 clear hc
 unfold Bt at hm
 refine bg 48 [(0, .ptr (some (BA I p0, 0))), (1, .str p1), (2, .func (.func 35) [] [.ptr (some (bp2_10, 0))])] fun fr H => ?_
 refine AH 1 (AN 1 [] H fun fr H => AR (AH 8 ?_))
 obtain ⟨x1, hq1, hm⟩ := bind_some hm
 refine Ad 3 [] 13 _ _ H (fun fr => .of (DN (by kernel_rfl) (FZ (N := BC) (I := I) (A.okF hF) hq1 (o := 2) (v := .map (some (CO I p0))) rfl))) fun fr t H => ?_
 obtain ⟨h1, e1, A⟩ := A.pu (.cells none 2 [.map (some (CO I p0))])
 have hr : ∀ g, Bz cfg g h 30 [.map (some (CO I p0))] (.func (.func 44) [] [.ptr (some (h.size, 0))]) h1 := fun g => by rw [e1]; exact ⟨2, by kernel_rfl⟩
 refine Am 14 _ _ H (fun fr => Steps.call (by kernel_rfl) (hr _)) fun fr t H => ?_
 have A1 := A.cut 1
 obtain ⟨hb, hm⟩ := Ac hm
 obtain ⟨r1, h2, hr, A1⟩ := NK (C := cfg) (f := 29) (it := 44) (t := 9) (N := BC) (I := I) A1 (A.okF hF) hq1 (by kernel_rfl) (l := exts) rfl (by kernel_rfl) 0 rfl hb
 replace A := A.g12 A1
 refine Co 15 hr H fun fr t H => ?_
 refine AN 2 [(16, Ai ((Az (x1.AP.map Prod.fst)).length : Int)), (17, Ai 0)] H fun fr H => AO (id := 0) (by kernel_rfl) ?_
 obtain ⟨o1, ho, hm⟩ := bind_some hm
 refine Af (Q' := fun e fr' h' => (∃ x4, e = .exit 0 ∧ .inl x4 = o1 ∧ Has fr' 48 [] ∧ HH g h' [.obj h.size (.cells none 2 [.map (some (CO I p0))]), .obj bp2_10 (.cells none 2 [Ai x4])] F) ∨ (∃ x5 x6, e = .ret ∧ .inr (x5, x6) = o1 ∧ Has fr' 48 [(6, .bool x6)] ∧ HH g h' [.obj h.size (.cells none 2 [.map (some (CO I p0))]), .obj bp2_10 (.cells none 2 [Ai x5])] F) ∨ False) ?_ ?_
 ·refine Bn (by kernel_rfl) (fun (s : Int × Int) fr' h' => ∃ x2 x3, (x2, x3) = s ∧ Has fr' 48 [(0, .ptr (some (BA I p0, 0))), (1, .str p1), (2, .func (.func 35) [] [.ptr (some (bp2_10, 0))]), (15, AJ r1 ((Az (x1.AP.map Prod.fst)).length)), (16, Ai ((Az (x1.AP.map Prod.fst)).length : Int)), (17, Ai x3)] ∧ HH g h' [.AL r1 9 (AL eS (Az (x1.AP.map Prod.fst))), .obj h.size (.cells none 2 [.map (some (CO I p0))]), .obj bp2_10 (.cells none 2 [Ai x2])] F) ho ⟨_, _, rfl, H.ls, A⟩ ?_
  clear ho hm H A
  intro s q fr h3 hI hm
  obtain ⟨x2, x3, rfl, H, A⟩ := hI
  unfold BG at hm
  refine AH 1 (AN 1 [(18, .bool (decide (x3 < ((Az (x1.AP.map Prod.fst)).length : Int))))] H fun fr H => AR (Aw 18 H hm (fun hb hm H => ?_) fun hb hm H => ?_))
  ·refine CZ id (AR (AO (id := 1) (by kernel_rfl) ?_))
   refine AH 3 ?_
   obtain ⟨x7, hx, hm⟩ := bind_some hm
   obtain ⟨i1, er1, _, hx, hq2⟩ := HH.Kr encS (by decide) A 0 (xs := (Az (x1.AP.map Prod.fst))) rfl hx
   refine Am 19 (.ptr (some (i1, x3.toNat * 1))) h3 H (fun fr => .of (Db (s := Cq r1 ((Az (x1.AP.map Prod.fst)).length)) (by kernel_rfl) hx)) fun fr t H => ?_
   refine Am 20 _ _ H (fun fr => .of (DN (by kernel_rfl) (Cm encS (HH.row A 0 rfl er1) hq2 (o := 0) rfl))) fun fr t H => ?_
   refine DC 1 [(8, .str x7)] 4 H fun fr H => Al 2 [(21, .str p1), (22, .str x7)] H fun fr H => ?_
   obtain ⟨hb, hm⟩ := Ac hm
   refine Am 23 (.str (p1 ++ x7)) h3 H (fun fr => .of (Ii (by kernel_rfl) hb)) fun fr t H => ?_
   refine DC 1 [(9, .str (p1 ++ x7))] 23 H fun fr H => ?_
   obtain ⟨x8, hq3, hm⟩ := bind_some hm
   refine Ad 5 [(24, .func (.func 35) [] [.ptr (some (bp2_10, 0))]), (25, .str (p1 ++ x7))] 29 _ _ H (fun fr => .of (DN (by kernel_rfl) (FZ (N := BC) (I := I) (A.okF hF) hq3 (o := 2) (v := .map (some (CO I p0))) rfl))) fun fr t H => ?_
   rcases Et hm with ⟨x9, hq4, hm⟩ | ⟨hq4, hm⟩
   ·refine Ad 1 [] 31 (.ptr (some (BA I x9, 0))) h3 H (fun fr => .of (GY (by kernel_rfl) (Fz (N := BC) (I := I) (A.okF hF) hq3 (kt := 9) (et := 52) (by kernel_rfl) (t := 56) (by kernel_rfl) (zv := .ptr none) (by kernel_rfl) (s := x7) (v := x9) hq4))) fun fr t H => ?_
    replace A := A.k3 2 0 1
    have A1 := A.cut 1
    obtain ⟨⟨x10, x11⟩, hx, hm⟩ := bind_some hm
    obtain ⟨v1, h4, hr, rfl, A1⟩ := FJ (av := [.str (p1 ++ x7), .ptr (some (BA I x9, 0)), .ptr (some (bp2_10, 0))]) hx (by kernel_rfl) (List.mem_append_right _ hF) A1
    replace A := A.g11 A1
    refine Co 32 hr H fun fr t H => ?_
    refine Al 2 [(34, .bool (!x10))] H fun fr H => ?_
    obtain ⟨⟨x12, x13⟩, ho, hm⟩ := bind_some hm
    refine Gf 12 (fun fr' h' => Has fr' 48 [(0, .ptr (some (BA I p0, 0))), (1, .str p1), (2, .func (.func 35) [] [.ptr (some (bp2_10, 0))]), (15, AJ r1 ((Az (x1.AP.map Prod.fst)).length)), (16, Ai ((Az (x1.AP.map Prod.fst)).length : Int)), (17, Ai x3), (46, .bool x13)] ∧ HH g h' [.obj bp2_10 (.cells none 2 [Ai x12]), .AL r1 9 (AL eS (Az (x1.AP.map Prod.fst))), .obj h.size (.cells none 2 [.map (some (CO I p0))])] F) ?_ ?_
    ·rcases DU ho with ⟨hb, hm⟩ | ⟨hb, hm⟩
     ·replace H := H.kn 34 hb
      refine Al 12 [(46, .bool true)] H fun fr H => ?_
      obtain ⟨rfl, rfl⟩ := Ie hm
      exact at_nil ⟨H.ls, A⟩
     replace H := H.kn 34 hb
     obtain ⟨x14, hq5, hm⟩ := bind_some hm
     refine Ad 3 [] 38 _ _ H (fun fr => .of (DN (by kernel_rfl) (FZ (N := BC) (I := I) (A.okF hF) hq5 (o := 2) (v := .map (some (CO I p0))) rfl))) fun fr t H => ?_
     rcases Et hm with ⟨x15, hq6, hm⟩ | ⟨hq6, hm⟩
     ·refine Ad 1 [] 40 (.ptr (some (BA I x15, 0))) h4 H (fun fr => .of (GY (by kernel_rfl) (Fz (N := BC) (I := I) (A.okF hF) hq5 (kt := 9) (et := 52) (by kernel_rfl) (t := 56) (by kernel_rfl) (zv := .ptr none) (by kernel_rfl) (s := x7) (v := x15) hq6))) fun fr t H => ?_
      refine Al 1 [(41, .str (p1 ++ x7))] H fun fr H => ?_
      obtain ⟨hb, hm⟩ := Ac hm
      refine Am 42 (.str ((p1 ++ x7) ++ ([47] : List UInt8))) h4 H (fun fr => .of (Ii (by kernel_rfl) hb)) fun fr t H => ?_
      have A1 := A.cut 1
      obtain ⟨⟨x16, x17⟩, hx, hm⟩ := bind_some hm
      obtain ⟨v1, h6, hr, rfl, A1⟩ := hS.CF (av := [.ptr (some (BA I x15, 0)), .str ((p1 ++ x7) ++ ([47] : List UInt8)), .func (.func 35) [] [.ptr (some (bp2_10, 0))]]) hx (by kernel_rfl) (List.mem_append_right _ hF) A1
      replace A := A.g11 A1
      refine Bg 1 [] 44 hr H fun fr t H => ?_
      refine Al 2 [(46, .bool (!x16))] H fun fr H => ?_
      obtain ⟨rfl, rfl⟩ := Ie hm
      exact at_nil ⟨H.ls, A⟩
     refine Ad 1 [] 40 (.ptr none) h4 H (fun fr => .of (GY (by kernel_rfl) (GJ (N := BC) (I := I) (A.okF hF) hq5 (kt := 9) (et := 52) (by kernel_rfl) (t := 56) (by kernel_rfl) (zv := .ptr none) (by kernel_rfl) (s := x7) hq6))) fun fr t H => ?_
     refine Al 1 [(41, .str (p1 ++ x7))] H fun fr H => ?_
     obtain ⟨hb, hm⟩ := Ac hm
     refine Am 42 (.str ((p1 ++ x7) ++ ([47] : List UInt8))) h4 H (fun fr => .of (Ii (by kernel_rfl) hb)) fun fr t H => ?_
     cases hm
    clear A
    intro t fr h5 hK
    obtain ⟨H, A⟩ := hK
    refine ET id (Aw 46 H hm (fun hb hm H => ?_) fun hb hm H => ?_)
    ·refine AH 1 (AN 1 [(6, .bool false)] H fun fr H => BB ?_)
     replace A := A.k2 2 0
     exact nr hm fun e => Or.inr (.inl ⟨_, _, rfl, e, H.ls, A⟩)
    refine IK 2 id (Bf 2 [(0, .ptr (some (BA I p0, 0))), (1, .str p1), (2, .func (.func 35) [] [.ptr (some (bp2_10, 0))]), (15, AJ r1 ((Az (x1.AP.map Prod.fst)).length)), (16, Ai ((Az (x1.AP.map Prod.fst)).length : Int)), (17, Ai (IntKind.i64.wrap (x3 + 1)))] H fun fr H => at_nil ?_)
    replace A := A.k3 1 2 0
    exact nx hm ⟨_, _, rfl, H.ls, A⟩
   refine Ad 1 [] 31 (.ptr none) h3 H (fun fr => .of (GY (by kernel_rfl) (GJ (N := BC) (I := I) (A.okF hF) hq3 (kt := 9) (et := 52) (by kernel_rfl) (t := 56) (by kernel_rfl) (zv := .ptr none) (by kernel_rfl) (s := x7) hq4))) fun fr t H => ?_
   cases hm
  refine Bi (i := 0) (by kernel_rfl) ?_
  replace A := A.k2 1 2
  exact nr hm fun e => .inl ⟨_, rfl, e, H.ls, A⟩
 clear ho
 clear A
 intro e fr h7 hQ
 rcases hQ with ⟨x4, rfl, rfl, H, A⟩ | ⟨x5, x6, rfl, rfl, H, A⟩ | hF
 ·show AW _ _ _ _ _ _ _
  refine AH 1 (AN 1 [(6, .bool true)] H fun fr H => BB ?_)
  obtain ⟨rfl, rfl⟩ := Ie hm
  refine ⟨.inl rfl, .bool true, rH H, ?_⟩
  replace A := A.k1 1
  exact ⟨rfl, A⟩
 ·obtain ⟨rfl, rfl⟩ := Ie hm
  refine ⟨.inl rfl, .bool x6, rH H, ?_⟩
  replace A := A.k1 1
  exact ⟨rfl, A⟩
 exact hF.elim
def Ar : Nat → Bo
 | 0 => ⟨fun _ _ _ _ => none⟩
 | n + 1 => ⟨Bt (Ar n)⟩
theorem DY  : ∀ n, Df (Ar n)
 | 0 => ⟨fun hm => (by cases hm)⟩
 | n + 1 => ⟨fun hm hc hF A => Fc (DY n) hm hc hF A⟩
def Ah : Nat → (List UInt8) → Int → (List AF) → Option (Bool × Int) := (Ar Fb).Ah
theorem CF {I p0 p1 p2_10 ar bp2_10 q0 u0} (hm : Ah p0 p1 p2_10 ar = some (q0, u0)) (hc : Bp (cfg.still 34) av = [.ptr (some (BA I p0, 0)), .str p1, .func (.func 35) [] [.ptr (some (bp2_10, 0))]]) (hF : EW BC I ar ∈ F) (A : HH g h [.obj bp2_10 (.cells none 2 [Ai p2_10])] F) : ∃ v h', Bz cfg g h 34 av v h' ∧ v = .bool q0 ∧ HH g h' [.obj bp2_10 (.cells none 2 [Ai u0])] F := (DY Fb).CF hm hc hF A
def Ci (p0 : Aj) (p1 : List UInt8) (ar : List AF) : Option (Int) :=
 (BX p0 p1 ar).bind fun w2 => (match w2 with | some x1 => (ar[x1]?).bind fun x2 => (Ah x1 ([] : List UInt8) x2.CW ar).bind fun (x3, x4) => some x4 | none => some (0 : Int))
theorem Hg {I p0 p1 ar bp0 q0} (hm : Ci p0 p1 ar = some q0) (hc : Bp (cfg.still 20) av = [.ptr (some (bp0, 0)), .str p1]) (hF : EW BC I ar ∈ F) (A : HH g h [.obj bp0 (.cells none 2 [.ptr (some (BA I p0.Bb, 0)), Ai p0.n_])] F) : ∃ v h', Bz cfg g h 20 av v h' ∧ v = Ai q0 ∧ HH g h' [.obj bp0 (.cells none 2 [.ptr (some (BA I p0.Bb, 0)), Ai p0.n_])] F := by
 refine G7 20 [.tmp 4] hc ?_
 clear hc
 unfold Ci at hm
 refine bg 20 [(0, .ptr (some (bp0, 0))), (1, .str p1)] fun fr H => ?_
 refine AH 1 (DC 1 [] 4 H fun fr H => ?_)
 have A1 := A.cut 1
 obtain ⟨w2, hx, hm⟩ := bind_some hm
 obtain ⟨v1, h1, hr, hc⟩ := Dn (av := [.ptr (some (bp0, 0)), .str p1]) hx (by kernel_rfl) (List.mem_append_right _ hF) A1
 rcases hc with ⟨x1, rfl, rfl, A1⟩ | ⟨rfl, rfl, A1⟩
 ·replace A := A.g11 A1
  refine Bg 2 [] 9 hr H fun fr t H => ?_
  refine AN 1 [(5, .ptr (some (BA I x1, 0)))] H fun fr H => AR (AH 2 (AN 2 [(11, .bool false)] H fun fr H => F4 (x := .tmp 11) (by kernel_rfl) H (fun fr => by kernel_rfl) ?_))
  refine Mi 6 id ?_
  obtain ⟨x2, hq1, hm⟩ := bind_some hm
  refine Ad 3 [] 15 _ _ H (fun fr => .of (DN (by kernel_rfl) (FZ (N := BC) (I := I) (A.okF hF) hq1 (o := 1) (v := Ai x2.CW) rfl))) fun fr t H => ?_
  obtain ⟨h2, e1, A⟩ := A.pu (.cells none 2 [Ai 0])
  refine DE 6 (.ptr (some (h1.size, 0))) e1 H fun fr t H => ?_
  obtain ⟨h3, hx, A⟩ := A.s0 0 [Ai x2.CW] [_]
  refine MM hx H fun fr t H => ?_
  refine G5 3 id ?_
  have A1 := A.cut 1
  obtain ⟨⟨x3, x4⟩, hx, hm⟩ := bind_some hm
  obtain ⟨v1, h4, hr, rfl, A1⟩ := CF (av := [.ptr (some (BA I x1, 0)), .str ([] : List UInt8), .func (.func 35) [] [.ptr (some (h1.size, 0))]]) hx (by kernel_rfl) (List.mem_append_right _ hF) A1
  replace A := A.g11 A1
  refine SJ 2 [] hr H fun fr t H => ?_
  refine G5 2 id (Ip 19 0 0 A H fun fr t H => ?_)
  refine AN 1 [(4, Ai x4)] H fun fr H => BB ?_
  obtain rfl := Ao hm
  refine ⟨.inl rfl, Ai x4, rH H, ?_⟩
  replace A := A.k1 1
  exact ⟨rfl, A⟩
 replace A := A.g11 A1
 refine Bg 2 [] 9 hr H fun fr t H => ?_
 refine AN 1 [(5, .ptr none)] H fun fr H => AR (AH 2 (AN 2 [(11, .bool true)] H fun fr H => Ia (x := .tmp 11) (by kernel_rfl) H (fun fr => by kernel_rfl) ?_))
 refine AH 1 (AN 1 [(4, Ai 0)] H fun fr H => BB ?_)
 obtain rfl := Ao hm
 exact ⟨.inl rfl, _, rH H, rfl, A⟩
def BM (p0 : List AD) (p1 : List AS) (p2 : List (List UInt8)) (s : Int × Int) : Option ((Int × Int) ⊕ ((Int))) :=
 match s with
 | (x1, x2) => Ax (decide (x2 < (p0.length : Int))) (((Em p0 x2).bind fun x5 => (Ax (decide (x5.At ≥ 0)) ((Em p0 x2).bind fun x7 => (BW x7.L p2).bind fun x8 => some x8) (some false) : Option (Bool)).bind fun x6 => Ax x6 ((Em p0 x2).bind fun x9 => (Em p1 x9.At).bind fun x10 => some (IntKind.i64.wrap (x1 + (x10.Data.length : Int)))) (some x1) : Option ((Int))).bind fun x4 => some (.inl (x4, IntKind.i64.wrap (x2 + 1)))) (some (.inr x1))
def Bd (p0 : List AD) (p1 : List AS) (p2 : List (List UInt8)) : Option (Int) :=
 (loop (BM p0 p1 p2) ((0 : Int), (0 : Int))).bind fun x3 => some x3
theorem GP {p0 p1 p2 rp0 q0} (hm : Bd p0 p1 p2 = some q0) (A : HH g h [.AL rp0 35 (AL AG p0)] F) (hc : Bp (cfg.still 21) av = [AJ rp0 p0.length, vs AE p1, vs eS p2] := by kernel_rfl) : ∃ v h', Bz cfg g h 21 av v h' ∧ v = Ai q0 ∧ HH g h' [.AL rp0 35 (AL AG p0)] F := by
 refine G7 43 [.tmp 6] hc ?_
 clear hc
 unfold Bd at hm
 refine bg 43 [(0, AJ rp0 p0.length), (1, vs AE p1), (2, vs eS p2)] fun fr H => ?_
 refine AH 1 (DC 1 [] 1 H fun fr H => AN 1 [(7, Ai 0)] H fun fr H => AR (AH 1 (AN 1 [(8, Ai 0)] H fun fr H => AO (id := 0) (by kernel_rfl) ?_)))
 obtain ⟨o1, ho, hm⟩ := bind_some hm
 refine Af (Q' := fun e fr' h' => (∃ x3, e = .exit 0 ∧ x3 = o1 ∧ Has fr' 43 [(7, Ai x3)] ∧ HH g h' [.AL rp0 35 (AL AG p0)] F) ∨ False) ?_ ?_
 ·refine Bn (by kernel_rfl) (fun (s : Int × Int) fr' h' => ∃ x1 x2, (x1, x2) = s ∧ Has fr' 43 [(0, AJ rp0 p0.length), (1, vs AE p1), (2, vs eS p2), (7, Ai x1), (8, Ai x2)] ∧ HH g h' [.AL rp0 35 (AL AG p0)] F) ho ⟨_, _, rfl, H.ls, A⟩ ?_
  clear ho hm H A
  intro s q fr h1 hI hm
  obtain ⟨x1, x2, rfl, H, A⟩ := hI
  unfold BM at hm
  refine AR (AH 4 (AN 4 [(12, .bool (decide (x2 < (p0.length : Int))))] H fun fr H => Aw 12 H hm (fun hb hm H => ?_) fun hb hm H => ?_))
  ·refine CZ id (AR ?_)
   obtain ⟨o2, ho, hm⟩ := bind_some hm
   refine Af (Q' := fun e fr' h' => (∃ x4, e = .normal ∧ x4 = o2 ∧ Has fr' 43 [(0, AJ rp0 p0.length), (1, vs AE p1), (2, vs eS p2), (7, Ai x4), (8, Ai x2)] ∧ HH g h' [.AL rp0 35 (AL AG p0)] F) ∨ False) ?_ ?_
   ·replace hm := ho
    clear ho
    refine AO (id := 1) (by kernel_rfl) ?_
    refine AH 15 ?_
    obtain ⟨x5, hx, hm⟩ := bind_some hm
    obtain ⟨i1, er1, _, hx, hq1⟩ := HH.Kr AM (by decide) A 0 (xs := p0) rfl hx
    refine Ad 2 [] 17 (.ptr (some (i1, x2.toNat * 2))) h1 H (fun fr => .of (Db (s := Cq rp0 p0.length) (by kernel_rfl) hx)) fun fr t H => ?_
    refine Ad 1 [] 19 _ _ H (fun fr => .of (DN (by kernel_rfl) (Cm AM (HH.row A 0 rfl er1) hq1 (o := 1) rfl))) fun fr t H => ?_
    refine Al 2 [(21, .bool (decide (x5.At ≥ 0)))] H fun fr H => ?_
    obtain ⟨x6, ho, hm⟩ := bind_some hm
    refine Gf 8 (fun fr' h' => Has fr' 43 [(0, AJ rp0 p0.length), (1, vs AE p1), (2, vs eS p2), (7, Ai x1), (8, Ai x2), (29, .bool x6)] ∧ HH g h' [.AL rp0 35 (AL AG p0)] F) ?_ ?_
    ·rcases DU ho with ⟨hb, hm⟩ | ⟨hb, hm⟩
     ·replace H := H.kn 21 hb
      obtain ⟨x7, hx, hm⟩ := bind_some hm
      obtain ⟨i2, er2, _, hx, hq2⟩ := HH.Kr AM (by decide) A 0 (xs := p0) rfl hx
      refine Ad 2 [] 24 (.ptr (some (i2, x2.toNat * 2))) h1 H (fun fr => .of (Db (s := Cq rp0 p0.length) (by kernel_rfl) hx)) fun fr t H => ?_
      refine Ad 1 [] 26 _ _ H (fun fr => .of (DN (by kernel_rfl) (Cm AM (HH.row A 0 rfl er2) hq2 (o := 0) rfl))) fun fr t H => ?_
      obtain ⟨x8, hx, hm⟩ := bind_some hm
      obtain ⟨v1, h3, hr, rfl, A1⟩ := Es (av := [vs eS x7.L, vs eS p2]) hx (A.cut 0)
      replace A := A.Oi A1
      refine Bg 1 [] 28 hr H fun fr t H => ?_
      refine Al 1 [(29, .bool x8)] H fun fr H => ?_
      obtain rfl := Ao hm
      exact at_nil ⟨H.ls, A⟩
     replace H := H.kn 21 hb
     refine Al 8 [(29, .bool false)] H fun fr H => ?_
     obtain rfl := Ao hm
     exact at_nil ⟨H.ls, A⟩
    clear A
    intro t fr h2 hK
    obtain ⟨H, A⟩ := hK
    refine ET id (Aw 29 H hm (fun hb hm H => ?_) fun hb hm H => ?_)
    ·refine B7 13 ?_
     obtain ⟨x9, hx, hm⟩ := bind_some hm
     obtain ⟨i3, er3, _, hx, hq3⟩ := HH.Kr AM (by decide) A 0 (xs := p0) rfl hx
     refine Ad 4 [(30, Ai x1), (31, vs AE p1)] 34 (.ptr (some (i3, x2.toNat * 2))) h2 H (fun fr => .of (Db (s := Cq rp0 p0.length) (by kernel_rfl) hx)) fun fr t H => ?_
     refine Ad 1 [] 36 _ _ H (fun fr => .of (DN (by kernel_rfl) (Cm AM (HH.row A 0 rfl er3) hq3 (o := 1) rfl))) fun fr t H => ?_
     obtain ⟨x10, hx, hm⟩ := bind_some hm
     refine Am 37 (.C3 (AE x10)) h2 H (fun fr => .of (GZ (e := AE) (x := x10) CU (by decide) (by kernel_rfl) hx)) fun fr t H => ?_
     refine Ad 1 [] 39 (.str x10.Data) h2 H (fun fr => .of (Jt (by kernel_rfl))) fun fr t H => ?_
     refine Bf 3 [(0, AJ rp0 p0.length), (1, vs AE p1), (2, vs eS p2), (7, Ai (IntKind.i64.wrap (x1 + (x10.Data.length : Int)))), (8, Ai x2)] H fun fr H => at_nil ?_
     exact .inl ⟨_, rfl, Ao hm, H.ls, A⟩
    exact Ej (.inl ⟨_, rfl, Ao hm, H.ls, A⟩)
   clear ho
   clear A
   intro e fr h4 hQ
   rcases hQ with ⟨x4, rfl, rfl, H, A⟩ | hF
   ·show AW _ _ _ _ _ _ _
    refine B7 3 (Bf 3 [(0, AJ rp0 p0.length), (1, vs AE p1), (2, vs eS p2), (7, Ai x4), (8, Ai (IntKind.i64.wrap (x2 + 1)))] H fun fr H => at_nil ?_)
    exact nx hm ⟨_, _, rfl, H.ls, A⟩
   exact hF.elim
  refine Bi (i := 0) (by kernel_rfl) ?_
  exact nr hm fun e => .inl ⟨_, rfl, e, H.ls, A⟩
 clear ho
 clear A
 intro e fr h5 hQ
 rcases hQ with ⟨x3, rfl, rfl, H, A⟩ | hF
 ·show AW _ _ _ _ _ _ _
  refine AH 2 (AN 2 [(6, Ai x3)] H fun fr H => BB ?_)
  obtain rfl := Ao hm
  exact ⟨.inl rfl, _, rH H, rfl, A⟩
 exact hF.elim
def A8 (x4 : List AD) (x5 : List (List UInt8)) (s : Int × Bool × Int) : Option ((Int × Bool × Int) ⊕ ((Int × Bool))) :=
 match s with
 | (x8, x9, x10) => Ax (decide (x10 < (x4.length : Int))) (((Em x4 x10).bind fun x15 => (CL x15.L x5).bind fun x16 => Ax x16 (some (x15.At, true)) (some (x8, x9)) : Option ((Int × Bool))).bind fun (x13, x14) => some (.inl (x13, x14, IntKind.i64.wrap (x10 + 1)))) (some (.inr (x8, x9)))
def CI (p0 : List AS) (p1 : List UInt8) : Option (Bool) :=
 (CM p0).bind fun x1 => Ax (x1 || (decide ((p1.length : Int) > 100))) ((Cg).bind fun x2 => some x2) ((D2 p0).bind fun (x3w3, ar) => (Cd p0).bind fun x4 => (CK p1).bind fun x5 => (Ch x3w3 p1 ar).bind fun (x6, x7) => (loop (A8 x4 x5) ((0 : Int), false, (0 : Int))).bind fun (x11, x12) => (Ax ((x6 == x11) && (x7 == x12)) ((B3 x3w3 p1 ar).bind fun x18 => (BN x4 x5).bind fun x19 => (CA x18 x19).bind fun x20 => some x20) (some false) : Option (Bool)).bind fun x17 => (Ax x17 ((Ci x3w3 p1 ar).bind fun x22 => (Bd x4 p0 x5).bind fun x23 => some (x22 == x23)) (some false) : Option (Bool)).bind fun x21 => (Ax x21 ((Cg).bind fun x25 => some x25) (some false) : Option (Bool)).bind fun x24 => some x24)
theorem Fk {p0 p1 q0} (hm : CI p0 p1 = some q0) (A : HH g h [] F) (hc : Bp (cfg.still 5) av = [vs AE p0, .str p1] := by kernel_rfl) : ∃ v h', Bz cfg g h 5 av v h' ∧ v = .bool q0 ∧ HH g h' [] F := by
 refine G7 79 [.tmp 4] hc ?_
 clear hc
 unfold CI at hm
 refine bg 79 [(0, vs AE p0), (1, .str p1)] fun fr H => ?_
 have hback : ∀ {h' : AB} {L : List Ck}, HH g h' L F → HH g h' L F := fun a => a
 refine AH 1 (AN 1 [] H fun fr H => AR (AH 7 ?_))
 obtain ⟨x1, hx, hm⟩ := bind_some hm
 obtain ⟨v1, h1, hr, rfl, A1⟩ := H4 (av := [vs AE p0]) hx (A.cut 0)
 replace A := A.Oi A1
 refine Bg 1 [] 15 hr H fun fr t H => ?_
 refine Al 1 [(16, .bool x1)] H fun fr H => Gf 4 (fun fr' h' => h1 = h' ∧ Has fr' 79 [(0, vs AE p0), (1, .str p1), (20, .bool (x1 || (decide ((p1.length : Int) > 100))))]) ?_ ?_
 ·cases hb : (x1 : Bool) with
  | true =>
   replace H := H.kn 16 hb
   exact Al 4 [(20, .bool true)] H fun fr H => Ki H hb
  | false =>
   replace H := H.kn 16 hb
   exact Al 4 [(20, .bool (decide ((p1.length : Int) > 100)))] H fun fr H => Ki H hb
 intro t fr h' hK
 obtain ⟨e, H⟩ := hK
 subst e
 refine ET id (Aw 20 H hm (fun hb hm H => ?_) fun hb hm H => ?_)
 ·refine AH 2 ?_
  obtain ⟨x2, hx, hm⟩ := bind_some hm
  obtain ⟨v1, h2, hr, rfl, A1⟩ := Eo (av := []) hx (A.cut 0)
  replace A := A.Oi A1
  refine Co 21 hr H fun fr t H => ?_
  refine AN 1 [(4, .bool x2)] H fun fr H => BB ?_
  obtain rfl := Ao hm
  exact ⟨.inl rfl, _, rH H, rfl, (hback A)⟩
 refine Mi 3 id ?_
 obtain ⟨⟨x3w3, ar⟩, hx, hm⟩ := bind_some hm
 obtain ⟨v1, h3, hr, bx3w3, I, rfl, A1⟩ := Kp (av := [vs AE p0]) hx (A.cut 0)
 replace A := A.Vf A1
 obtain ⟨F, A, hF, hback⟩ := A.Wt 1 hback rfl
 replace A : HH g h3 [.obj bx3w3 (.cells none 2 [.ptr (some (BA I x3w3.Bb, 0)), Ai x3w3.n_])] F := A
 refine Bg 1 [] 23 hr H fun fr t H => ?_
 refine AN 1 [(5, .ptr (some (bx3w3, 0)))] H fun fr H => AR (AH 2 (AN 2 [(25, .bool false)] H fun fr H => F4 (x := .tmp 25) (by kernel_rfl) H (fun fr => by kernel_rfl) ?_))
 refine Mi 6 id ?_
 obtain ⟨x4, hx, hm⟩ := bind_some hm
 obtain ⟨v1, h4, hr, rqw4, rfl, A1⟩ := Hi (av := [vs AE p0]) hx (A.cut 0)
 replace A := A.VF A1
 refine Bg 1 [] 27 hr H fun fr t H => ?_
 obtain ⟨x5, hx, hm⟩ := bind_some hm
 obtain ⟨v1, h5, hr, rfl, A1⟩ := E8 (av := [.str p1]) hx (A.cut 0)
 replace A := A.Oi A1
 refine Bg 1 [] 29 hr H fun fr t H => ?_
 refine DC 2 [(6, AJ rqw4 x4.length), (7, vs eS x5)] 8 H fun fr H => ?_
 replace A := A.k2 1 0
 have A1 := A.cut 1
 obtain ⟨⟨x6, x7⟩, hx, hm⟩ := bind_some hm
 obtain ⟨v1, h6, hr, rfl, A1⟩ := Hf (av := [.ptr (some (bx3w3, 0)), .str p1]) hx (by kernel_rfl) (List.mem_append_right _ hF) A1
 replace A := A.g11 A1
 refine Bg 2 [] 33 hr H fun fr t H => ?_
 refine DC 5 [(8, Ai x6), (9, .bool x7)] 2 H fun fr H => AN 2 [(10, Ai 0), (11, .bool false)] H fun fr H => AR (AH 3 (AN 3 [(36, AJ rqw4 x4.length), (37, Ai (x4.length : Int)), (38, Ai 0)] H fun fr H => AO (id := 0) (by kernel_rfl) ?_))
 obtain ⟨o1, ho, hm⟩ := bind_some hm
 refine Af (Q' := fun e fr' h' => (∃ x11 x12, e = .exit 0 ∧ (x11, x12) = o1 ∧ Has fr' 79 [(0, vs AE p0), (1, .str p1), (5, .ptr (some (bx3w3, 0))), (6, AJ rqw4 x4.length), (7, vs eS x5), (8, Ai x6), (9, .bool x7), (10, Ai x11), (11, .bool x12)] ∧ HH g h' [.obj bx3w3 (.cells none 2 [.ptr (some (BA I x3w3.Bb, 0)), Ai x3w3.n_]), .AL rqw4 35 (AL AG x4)] F) ∨ False) ?_ ?_
 ·refine Bn (by kernel_rfl) (fun (s : Int × Bool × Int) fr' h' => ∃ x8 x9 x10, (x8, x9, x10) = s ∧ Has fr' 79 [(0, vs AE p0), (1, .str p1), (5, .ptr (some (bx3w3, 0))), (6, AJ rqw4 x4.length), (7, vs eS x5), (8, Ai x6), (9, .bool x7), (10, Ai x8), (11, .bool x9), (36, AJ rqw4 x4.length), (37, Ai (x4.length : Int)), (38, Ai x10)] ∧ HH g h' [.obj bx3w3 (.cells none 2 [.ptr (some (BA I x3w3.Bb, 0)), Ai x3w3.n_]), .AL rqw4 35 (AL AG x4)] F) ho ⟨_, _, _, rfl, H.ls, A⟩ ?_
  clear ho hm H A
  intro s q fr h7 hI hm
  obtain ⟨x8, x9, x10, rfl, H, A⟩ := hI
  unfold A8 at hm
  refine AH 1 (AN 1 [(39, .bool (decide (x10 < (x4.length : Int))))] H fun fr H => AR (Aw 39 H hm (fun hb hm H => ?_) fun hb hm H => ?_))
  ·refine CZ id (AR ?_)
   obtain ⟨o2, ho, hm⟩ := bind_some hm
   refine Af (Q' := fun e fr' h' => (∃ x13 x14, e = .normal ∧ (x13, x14) = o2 ∧ Has fr' 79 [(0, vs AE p0), (1, .str p1), (5, .ptr (some (bx3w3, 0))), (6, AJ rqw4 x4.length), (7, vs eS x5), (8, Ai x6), (9, .bool x7), (10, Ai x13), (11, .bool x14), (36, AJ rqw4 x4.length), (37, Ai (x4.length : Int)), (38, Ai x10)] ∧ HH g h' [.obj bx3w3 (.cells none 2 [.ptr (some (BA I x3w3.Bb, 0)), Ai x3w3.n_]), .AL rqw4 35 (AL AG x4)] F) ∨ False) ?_ ?_
   ·replace hm := ho
    clear ho
    refine AO (id := 1) (by kernel_rfl) ?_
    refine AH 4 ?_
    obtain ⟨x15, hx, hm⟩ := bind_some hm
    obtain ⟨i1, er1, _, hx, hq1⟩ := HH.Kr AM (by decide) A 1 (xs := x4) rfl hx
    refine Am 40 (.ptr (some (i1, x10.toNat * 2))) h7 H (fun fr => .of (Db (s := Cq rqw4 x4.length) (by kernel_rfl) hx)) fun fr t H => ?_
    refine Am 41 _ _ H (fun fr => .of (Qf (by kernel_rfl) (Ky AM (HH.row A 1 rfl er1) hq1 0 2 (Nat.le_of_ble_eq_true rfl)))) fun fr t H => ?_
    obtain ⟨h8, e1, A⟩ := A.pu (.cells none 2 [.slice none 0, Ai 0])
    refine DE 13 (.ptr (some (h7.size, 0))) e1 H fun fr t H => ?_
    obtain ⟨h9, hx, A⟩ := A.s0 0 [vs eS x15.L, Ai x15.At] [_, _]
    refine SF hx H fun fr t H => ?_
    refine G5 4 id (EA 1 [] 43 0 0 A H fun fr t H => ?_)
    obtain ⟨x16, hx, hm⟩ := bind_some hm
    obtain ⟨v1, h10, hr, rfl, A1⟩ := FE (av := [vs eS x15.L, vs eS x5]) hx (A.cut 0)
    replace A := A.Oi A1
    refine Bg 1 [] 45 hr H fun fr t H => ?_
    refine ET id (Aw 45 H hm (fun hb hm H => ?_) fun hb hm H => ?_)
    ·refine B7 4 (EA 1 [] 47 0 1 A H fun fr t H => ?_)
     refine Bf 2 [(0, vs AE p0), (1, .str p1), (5, .ptr (some (bx3w3, 0))), (6, AJ rqw4 x4.length), (7, vs eS x5), (8, Ai x6), (9, .bool x7), (10, Ai x15.At), (11, .bool true), (36, AJ rqw4 x4.length), (37, Ai (x4.length : Int)), (38, Ai x10)] H fun fr H => at_nil ?_
     replace A := A.k2 1 2
     exact .inl ⟨_, _, rfl, Ao hm, H.ls, A⟩
    refine Ej ?_
    replace A := A.k2 1 2
    exact .inl ⟨_, _, rfl, Ao hm, H.ls, A⟩
   clear ho
   clear A
   intro e fr h11 hQ
   rcases hQ with ⟨x13, x14, rfl, rfl, H, A⟩ | hF
   ·show AW _ _ _ _ _ _ _
    refine B7 2 (Bf 2 [(0, vs AE p0), (1, .str p1), (5, .ptr (some (bx3w3, 0))), (6, AJ rqw4 x4.length), (7, vs eS x5), (8, Ai x6), (9, .bool x7), (10, Ai x13), (11, .bool x14), (36, AJ rqw4 x4.length), (37, Ai (x4.length : Int)), (38, Ai (IntKind.i64.wrap (x10 + 1)))] H fun fr H => at_nil ?_)
    exact nx hm ⟨_, _, _, rfl, H.ls, A⟩
   exact hF.elim
  refine Bi (i := 0) (by kernel_rfl) ?_
  exact nr hm fun e => .inl ⟨_, _, rfl, e, H.ls, A⟩
 clear ho
 clear A
 intro e fr h12 hQ
 rcases hQ with ⟨x11, x12, rfl, rfl, H, A⟩ | hF
 ·show AW _ _ _ _ _ _ _
  refine AH 31 (Al 4 [(52, .bool (x6 == x11))] H fun fr H => Gf 4 (fun fr' h' => h12 = h' ∧ Has fr' 79 [(0, vs AE p0), (1, .str p1), (5, .ptr (some (bx3w3, 0))), (6, AJ rqw4 x4.length), (7, vs eS x5), (56, .bool ((x6 == x11) && (x7 == x12)))]) ?_ ?_)
  ·cases hb : (x6 == x11 : Bool) with
   | true =>
    replace H := H.kn 52 hb
    exact Al 4 [(56, .bool (x7 == x12))] H fun fr H => Ki H hb
   | false =>
    replace H := H.kn 52 hb
    exact Al 4 [(56, .bool false)] H fun fr H => Ki H hb
  intro t fr h' hK
  obtain ⟨e, H⟩ := hK
  subst e
  refine Al 1 [(57, .bool ((x6 == x11) && (x7 == x12)))] H fun fr H => ?_
  obtain ⟨x17, ho, hm⟩ := bind_some hm
  refine Gf 8 (fun fr' h' => Has fr' 79 [(0, vs AE p0), (1, .str p1), (5, .ptr (some (bx3w3, 0))), (6, AJ rqw4 x4.length), (7, vs eS x5), (65, .bool x17)] ∧ HH g h' [.obj bx3w3 (.cells none 2 [.ptr (some (BA I x3w3.Bb, 0)), Ai x3w3.n_]), .AL rqw4 35 (AL AG x4)] F) ?_ ?_
  ·rcases DU ho with ⟨hb, hm⟩ | ⟨hb, hm⟩
   ·replace H := H.kn 57 hb
    have A1 := A.cut 1
    obtain ⟨x18, hx, hm⟩ := bind_some hm
    obtain ⟨v1, h14, hr, rqw9, rfl, A1⟩ := GN (av := [.ptr (some (bx3w3, 0)), .str p1]) hx (by kernel_rfl) (List.mem_append_right _ hF) A1
    replace A := A.g12 A1
    refine Bg 2 [] 60 hr H fun fr t H => ?_
    replace A := A.k3 2 0 1
    obtain ⟨x19, hx, hm⟩ := bind_some hm
    obtain ⟨v1, h15, hr, rqw10, rfl, A1⟩ := FU (av := [AJ rqw4 x4.length, vs eS x5]) hx (A.cut 1)
    replace A := A.g12 A1
    refine Bg 2 [] 63 hr H fun fr t H => ?_
    replace A := A.k4 2 0 1 3
    obtain ⟨x20, hx, hm⟩ := bind_some hm
    obtain ⟨v1, h16, hr, rfl, A1⟩ := ED (av := [AJ rqw9 x18.length, AJ rqw10 x19.length]) hx (A.cut 2)
    replace A := A.g22 A1
    refine Co 64 hr H fun fr t H => ?_
    refine Al 1 [(65, .bool x20)] H fun fr H => ?_
    obtain rfl := Ao hm
    replace A := A.k2 3 2
    exact at_nil ⟨H.ls, A⟩
   replace H := H.kn 57 hb
   refine Al 8 [(65, .bool false)] H fun fr H => ?_
   obtain rfl := Ao hm
   exact at_nil ⟨H.ls, A⟩
  clear A
  intro t fr h13 hK
  obtain ⟨H, A⟩ := hK
  refine Al 1 [(66, .bool x17)] H fun fr H => ?_
  obtain ⟨x21, ho, hm⟩ := bind_some hm
  refine Gf 9 (fun fr' h' => Has fr' 79 [(75, .bool x21)] ∧ HH g h' [.obj bx3w3 (.cells none 2 [.ptr (some (BA I x3w3.Bb, 0)), Ai x3w3.n_])] F) ?_ ?_
  ·rcases DU ho with ⟨hb, hm⟩ | ⟨hb, hm⟩
   ·replace H := H.kn 66 hb
    have A1 := A.cut 1
    obtain ⟨x22, hx, hm⟩ := bind_some hm
    obtain ⟨v1, h18, hr, rfl, A1⟩ := Hg (av := [.ptr (some (bx3w3, 0)), .str p1]) hx (by kernel_rfl) (List.mem_append_right _ hF) A1
    replace A := A.g11 A1
    refine Bg 2 [] 69 hr H fun fr t H => ?_
    replace A := A.k2 1 0
    obtain ⟨x23, hx, hm⟩ := bind_some hm
    obtain ⟨v1, h19, hr, rfl, A1⟩ := GP (av := [AJ rqw4 x4.length, vs AE p0, vs eS x5]) hx (A.cut 1)
    replace A := A.g11 A1
    refine Bg 3 [] 73 hr H fun fr t H => ?_
    refine Al 2 [(75, .bool (x22 == x23))] H fun fr H => ?_
    obtain rfl := Ao hm
    replace A := A.k1 1
    exact at_nil ⟨H.ls, A⟩
   replace H := H.kn 66 hb
   refine Al 9 [(75, .bool false)] H fun fr H => ?_
   obtain rfl := Ao hm
   replace A := A.d1
   exact at_nil ⟨H.ls, A⟩
  clear A
  intro t fr h17 hK
  obtain ⟨H, A⟩ := hK
  refine Al 1 [(76, .bool x21)] H fun fr H => ?_
  obtain ⟨x24, ho, hm⟩ := bind_some hm
  refine Gf 2 (fun fr' h' => Has fr' 79 [(78, .bool x24)] ∧ HH g h' [.obj bx3w3 (.cells none 2 [.ptr (some (BA I x3w3.Bb, 0)), Ai x3w3.n_])] F) ?_ ?_
  ·rcases DU ho with ⟨hb, hm⟩ | ⟨hb, hm⟩
   ·replace H := H.kn 76 hb
    obtain ⟨x25, hx, hm⟩ := bind_some hm
    obtain ⟨v1, h21, hr, rfl, A1⟩ := Eo (av := []) hx (A.cut 0)
    replace A := A.Oi A1
    refine Co 77 hr H fun fr t H => ?_
    refine Al 1 [(78, .bool x25)] H fun fr H => ?_
    obtain rfl := Ao hm
    exact at_nil ⟨H.ls, A⟩
   replace H := H.kn 76 hb
   refine Al 2 [(78, .bool false)] H fun fr H => ?_
   obtain rfl := Ao hm
   exact at_nil ⟨H.ls, A⟩
  clear A
  intro t fr h20 hK
  obtain ⟨H, A⟩ := hK
  refine AN 1 [(4, .bool x24)] H fun fr H => BB ?_
  obtain rfl := Ao hm
  refine ⟨.inl rfl, .bool x24, rH H, ?_⟩
  replace A := A.d0
  exact ⟨rfl, (hback A)⟩
 exact hF.elim
end
end Go.Av.L
