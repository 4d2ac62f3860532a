/-
 A part.
-/
import Derived.Test.YtlljeoogceblmaaGreatDoorKCfg
namespace Go.Av.L
open Go.Av Go.Lib
open IntKind (i64 u8)
set_option maxRecDepth 10000
set_option linter.unusedVariables false
set_option linter.unusedSimpArgs false
variable {g : Gd} {h : AF} {F : List Ck} {av : List AB}
noncomputable section
def Fw : Option (BS) :=
 some (⟨false, false, (0 : Int), (0 : Int)⟩ : BS)
theorem K0 {q00} (M : Fw = some q00) (A : HH g h [] F) (hc : BP (cfg.still 16) av = [] := by kernel_rfl) : ∃ v Q, BZ cfg g h 16 av v Q ∧ ∃ (bq00 : Nat), v = .ptr (some (bq00, 0)) ∧ HH g Q [.obj bq00 (.cells none 2 (CO q00))] F := by
 refine EE 3 [.tmp 0] hc ?_
 clear hc
 unfold Fw at M
 refine bg 3 [] fun D H => ?_
 refine AH 1 (B5 1 [] 3 H fun D H => ?_)
 obtain ⟨h1, e1, A⟩ := A.pu (.cells none 2 [.bool false, .bool false, Ai 0, Ai 0])
 refine K2 1 [] 2 (.ptr (some (h.size, 0))) e1 H fun D t H => ?_
 refine AN 1 [(0, .ptr (some (h.size, 0)))] H fun D H => AZ ?_
 obtain rfl := BB M
 exact ⟨.inl rfl, _, rH H, _, rfl, A⟩
def DZ (p0 : List UInt8) (p1 : Int) : Option (Int) :=
 (IK p0 p1).bind fun x1 => some x1
theorem IL {p0 p1 q0} (M : DZ p0 p1 = some q0) (A : HH g h [] F) (hc : BP (cfg.still 189) av = [.str p0, Ab p1] := by kernel_rfl) : ∃ v Q, BZ cfg g h 189 av v Q ∧ v = Ai q0 ∧ HH g Q [] F := by
 refine EE 8 [.tmp 4] hc ?_
 clear hc
 unfold DZ at M
 refine bg 8 [(0, .str p0), (1, Ab p1)] fun D H => ?_
 refine AH 1 (B5 1 [] 4 H fun D H => ?_)
 obtain ⟨x1, X, M⟩ := bind_some M
 refine B0 2 [] 7 (Ai x1) h H (fun D => Steps.call (by kernel_rfl) (Vt (C := cfg) (f := 224) (by kernel_rfl) (l := exts) rfl (by kernel_rfl) X)) fun D t H => ?_
 refine AN 1 [(4, Ai x1)] H fun D H => AZ ?_
 obtain rfl := BB M
 exact ⟨.inl rfl, _, rH H, rfl, A⟩
def Ch (p0 : List UInt8) (p1 : Int) : Option (Int) :=
 (DZ p0 p1).bind fun x1 => some x1
theorem Er {p0 p1 q0} (M : Ch p0 p1 = some q0) (A : HH g h [] F) (hc : BP (cfg.still 134) av = [.str p0, Ab p1] := by kernel_rfl) : ∃ v Q, BZ cfg g h 134 av v Q ∧ v = Ai q0 ∧ HH g Q [] F := by
 refine EE 8 [.tmp 4] hc ?_
 clear hc
 unfold Ch at M
 refine bg 8 [(0, .str p0), (1, Ab p1)] fun D H => ?_
 refine AH 1 (B5 1 [] 4 H fun D H => ?_)
 obtain ⟨x1, X, M⟩ := bind_some M
 obtain ⟨v1, h1, R, rfl, E⟩ := IL (av := [.str p0, Ab p1]) X (A.cut 0)
 replace A := A.Dx E
 refine BC 2 [] 7 R H fun D t H => ?_
 refine AN 1 [(4, Ai x1)] H fun D H => AZ ?_
 obtain rfl := BB M
 exact ⟨.inl rfl, _, rH H, rfl, A⟩
def It (p0 : List AA) (s : Int) : Option ((Int) ⊕ ((Unit) ⊕ (Bool))) :=
 match s with
 | x1 => Ao (decide (x1 < (p0.length : Int))) ((Ii p0 x1).bind fun x3 => Ao (x3.Key == ([103, 105, 100] : UV)) (some (.inr (.inr false))) (Ao (x3.Key == ([117, 105, 100] : UV)) (some (.inr (.inr false))) (Ao (x3.Key == ([115, 105, 122, 101] : UV)) (some (.inr (.inr false))) (Ao (x3.Key == ([103, 110, 97, 109, 101] : UV)) (some (.inr (.inr false))) (Ao (x3.Key == ([117, 110, 97, 109, 101] : UV)) (some (.inr (.inr false))) (Ao (x3.Key == ([112, 97, 116, 104] : UV)) (some (.inr (.inr false))) (Ao (x3.Key == ([108, 105, 110, 107, 112, 97, 116, 104] : UV)) (some (.inr (.inr false))) (Ao (x3.Key == ([109, 116, 105, 109, 101] : UV)) (some (.inr (.inr false))) ((Ao ((x3.Key == ([] : UV)) || (x3.Value == ([] : UV))) (some true) ((Ch x3.Key (61 : Int)).bind fun x5 => some (decide (x5 ≥ 0))) : Option (Bool)).bind fun x4 => (Ao x4 (some true) ((Ao (decide (x1 > 0)) ((Ii p0 (i64.wrap (x1 - 1))).bind fun x8 => some (!(Op.bytesLess x8.Key x3.Key))) (some false) : Option (Bool)).bind fun x7 => some x7) : Option (Bool)).bind fun x6 => Ao x6 (some (.inr (.inr false))) (some (.inl (i64.wrap (x1 + 1))))))))))))) (some (.inr (.inl ())))
def IN (p0 : List AA) : Option (Bool) :=
 (loop (It p0) (0 : Int)).bind fun o1 => (match o1 with | .inl _ => some true | .inr x2 => some x2)
theorem Ns {p0 q0} (M : IN p0 = some q0) (A : HH g h [] F) (hc : BP (cfg.still 159) av = [vs AJ p0] := by kernel_rfl) : ∃ v Q, BZ cfg g h 159 av v Q ∧ v = .bool q0 ∧ HH g Q [] F := by
 refine EE 59 [.tmp 2] hc ?_
 clear hc
 unfold IN at M
 refine bg 59 [(0, vs AJ p0)] fun D H => ?_
 refine AH 1 (B5 1 [] 5 H fun D H => ?_)
 obtain ⟨h1, e1, A⟩ := A.pu (.cells none 2 [.str ([] : UV), .str ([] : UV), Ab 0, Ai 0, Ai 0, Ai 0, .str ([] : UV), .str ([] : UV), Ai 0, Ai 0, Ai 0, Ai 0, .slice none 0, .str ([] : UV)])
 refine K2 1 [] 9 (.ptr (some (h.size, 0))) e1 H fun D t H => ?_
 obtain ⟨h2, e2, A⟩ := A.pu (.cells none 2 [Ai 0])
 refine BU 10 (.ptr (some (h1.size, 0))) e2 H fun D t H => ?_
 obtain ⟨T, e3⟩ : ∃ x, x = h2.push (.map 3 [(.str ([103, 105, 100] : UV), .func (.func 194) [] [.An [.ptr (some (h.size, 5))]]), (.str ([117, 105, 100] : UV), .func (.func 194) [] [.An [.ptr (some (h.size, 4))]]), (.str ([115, 105, 122, 101] : UV), .func (.func 194) [] [.An [.ptr (some (h1.size, 0))]]), (.str ([103, 110, 97, 109, 101] : UV), .func (.func 195) [] [.An [.ptr (some (h.size, 7))]]), (.str ([117, 110, 97, 109, 101] : UV), .func (.func 195) [] [.An [.ptr (some (h.size, 6))]]), (.str ([112, 97, 116, 104] : UV), .func (.func 195) [] [.An [.ptr (some (h.size, 0))]]), (.str ([108, 105, 110, 107, 112, 97, 116, 104] : UV), .func (.func 195) [] [.An [.ptr (some (h.size, 1))]]), (.str ([109, 116, 105, 109, 101] : UV), .func (.func 142) [] [.An [.ptr (some (h.size, 0))]])]) := ⟨_, rfl⟩
 replace A : HH g T [.obj h2.size (.map 3 [(.str ([103, 105, 100] : UV), .func (.func 194) [] [.An [.ptr (some (h.size, 5))]]), (.str ([117, 105, 100] : UV), .func (.func 194) [] [.An [.ptr (some (h.size, 4))]]), (.str ([115, 105, 122, 101] : UV), .func (.func 194) [] [.An [.ptr (some (h1.size, 0))]]), (.str ([103, 110, 97, 109, 101] : UV), .func (.func 195) [] [.An [.ptr (some (h.size, 7))]]), (.str ([117, 110, 97, 109, 101] : UV), .func (.func 195) [] [.An [.ptr (some (h.size, 6))]]), (.str ([112, 97, 116, 104] : UV), .func (.func 195) [] [.An [.ptr (some (h.size, 0))]]), (.str ([108, 105, 110, 107, 112, 97, 116, 104] : UV), .func (.func 195) [] [.An [.ptr (some (h.size, 1))]]), (.str ([109, 116, 105, 109, 101] : UV), .func (.func 142) [] [.An [.ptr (some (h.size, 0))]])]), .obj h1.size (.cells none 2 [Ai 0]), .obj h.size (.cells none 2 [.str ([] : UV), .str ([] : UV), Ab 0, Ai 0, Ai 0, Ai 0, .str ([] : UV), .str ([] : UV), Ai 0, Ai 0, Ai 0, Ai 0, .slice none 0, .str ([] : UV)])] F := (A.push _).to e3
 have R : ∀ g, BZ cfg g h2 82 [.ptr (some (h.size, 0)), .ptr (some (h1.size, 0))] (.map (some h2.size)) T := fun g => by rw [e3]; exact Tb (C := cfg) (f := 82) (j := 0) (n := 2) (es := [(.str ([103, 105, 100] : UV), .func (.func 194) [] [.An [.ptr (some (h.size, 5))]]), (.str ([117, 105, 100] : UV), .func (.func 194) [] [.An [.ptr (some (h.size, 4))]]), (.str ([115, 105, 122, 101] : UV), .func (.func 194) [] [.An [.ptr (some (h1.size, 0))]]), (.str ([103, 110, 97, 109, 101] : UV), .func (.func 195) [] [.An [.ptr (some (h.size, 7))]]), (.str ([117, 110, 97, 109, 101] : UV), .func (.func 195) [] [.An [.ptr (some (h.size, 6))]]), (.str ([112, 97, 116, 104] : UV), .func (.func 195) [] [.An [.ptr (some (h.size, 0))]]), (.str ([108, 105, 110, 107, 112, 97, 116, 104] : UV), .func (.func 195) [] [.An [.ptr (some (h.size, 1))]]), (.str ([109, 116, 105, 109, 101] : UV), .func (.func 142) [] [.An [.ptr (some (h.size, 0))]])]) (by kernel_rfl) (l := exts) rfl (by kernel_rfl) (by kernel_rfl) (by kernel_rfl)
 refine Ae 11 _ _ H (fun D => Steps.call (by kernel_rfl) (R _)) fun D t H => ?_
 refine AN 1 [(3, .map (some h2.size))] H fun D H => AS (AH 3 (AN 3 [(12, vs AJ p0), (13, Ai (p0.length : Int)), (14, Ai 0)] H fun D H => Aa (id := 0) (by kernel_rfl) ?_))
 obtain ⟨o1, O, M⟩ := bind_some M
 refine Bb (Q' := fun e N Q => (e = .exit 0 ∧ .inl () = o1 ∧ Has N 59 [] ∧ HH g Q [.obj h2.size (.map 3 [(.str ([103, 105, 100] : UV), .func (.func 194) [] [.An [.ptr (some (h.size, 5))]]), (.str ([117, 105, 100] : UV), .func (.func 194) [] [.An [.ptr (some (h.size, 4))]]), (.str ([115, 105, 122, 101] : UV), .func (.func 194) [] [.An [.ptr (some (h1.size, 0))]]), (.str ([103, 110, 97, 109, 101] : UV), .func (.func 195) [] [.An [.ptr (some (h.size, 7))]]), (.str ([117, 110, 97, 109, 101] : UV), .func (.func 195) [] [.An [.ptr (some (h.size, 6))]]), (.str ([112, 97, 116, 104] : UV), .func (.func 195) [] [.An [.ptr (some (h.size, 0))]]), (.str ([108, 105, 110, 107, 112, 97, 116, 104] : UV), .func (.func 195) [] [.An [.ptr (some (h.size, 1))]]), (.str ([109, 116, 105, 109, 101] : UV), .func (.func 142) [] [.An [.ptr (some (h.size, 0))]])]), .obj h1.size (.cells none 2 [Ai 0]), .obj h.size (.cells none 2 [.str ([] : UV), .str ([] : UV), Ab 0, Ai 0, Ai 0, Ai 0, .str ([] : UV), .str ([] : UV), Ai 0, Ai 0, Ai 0, Ai 0, .slice none 0, .str ([] : UV)])] F) ∨ (∃ x2, e = .ret ∧ .inr x2 = o1 ∧ Has N 59 [(2, .bool x2)] ∧ HH g Q [.obj h2.size (.map 3 [(.str ([103, 105, 100] : UV), .func (.func 194) [] [.An [.ptr (some (h.size, 5))]]), (.str ([117, 105, 100] : UV), .func (.func 194) [] [.An [.ptr (some (h.size, 4))]]), (.str ([115, 105, 122, 101] : UV), .func (.func 194) [] [.An [.ptr (some (h1.size, 0))]]), (.str ([103, 110, 97, 109, 101] : UV), .func (.func 195) [] [.An [.ptr (some (h.size, 7))]]), (.str ([117, 110, 97, 109, 101] : UV), .func (.func 195) [] [.An [.ptr (some (h.size, 6))]]), (.str ([112, 97, 116, 104] : UV), .func (.func 195) [] [.An [.ptr (some (h.size, 0))]]), (.str ([108, 105, 110, 107, 112, 97, 116, 104] : UV), .func (.func 195) [] [.An [.ptr (some (h.size, 1))]]), (.str ([109, 116, 105, 109, 101] : UV), .func (.func 142) [] [.An [.ptr (some (h.size, 0))]])]), .obj h1.size (.cells none 2 [Ai 0]), .obj h.size (.cells none 2 [.str ([] : UV), .str ([] : UV), Ab 0, Ai 0, Ai 0, Ai 0, .str ([] : UV), .str ([] : UV), Ai 0, Ai 0, Ai 0, Ai 0, .slice none 0, .str ([] : UV)])] F) ∨ False) ?_ ?_
 ·refine C2 (by kernel_rfl) (fun (s : Int) N Q => ∃ x1, x1 = s ∧ Has N 59 [(0, vs AJ p0), (3, .map (some h2.size)), (12, vs AJ p0), (13, Ai (p0.length : Int)), (14, Ai x1)] ∧ HH g Q [.obj h2.size (.map 3 [(.str ([103, 105, 100] : UV), .func (.func 194) [] [.An [.ptr (some (h.size, 5))]]), (.str ([117, 105, 100] : UV), .func (.func 194) [] [.An [.ptr (some (h.size, 4))]]), (.str ([115, 105, 122, 101] : UV), .func (.func 194) [] [.An [.ptr (some (h1.size, 0))]]), (.str ([103, 110, 97, 109, 101] : UV), .func (.func 195) [] [.An [.ptr (some (h.size, 7))]]), (.str ([117, 110, 97, 109, 101] : UV), .func (.func 195) [] [.An [.ptr (some (h.size, 6))]]), (.str ([112, 97, 116, 104] : UV), .func (.func 195) [] [.An [.ptr (some (h.size, 0))]]), (.str ([108, 105, 110, 107, 112, 97, 116, 104] : UV), .func (.func 195) [] [.An [.ptr (some (h.size, 1))]]), (.str ([109, 116, 105, 109, 101] : UV), .func (.func 142) [] [.An [.ptr (some (h.size, 0))]])]), .obj h1.size (.cells none 2 [Ai 0]), .obj h.size (.cells none 2 [.str ([] : UV), .str ([] : UV), Ab 0, Ai 0, Ai 0, Ai 0, .str ([] : UV), .str ([] : UV), Ai 0, Ai 0, Ai 0, Ai 0, .slice none 0, .str ([] : UV)])] F) O ⟨_, rfl, H.ls, A⟩ ?_
  clear O M H A
  intro s q D J hI M
  obtain ⟨x1, rfl, H, A⟩ := hI
  unfold It at M
  refine AH 1 (AN 1 [(15, .bool (decide (x1 < (p0.length : Int))))] H fun D H => AS (Ac 15 H M (fun B M H => ?_) fun B M H => ?_))
  ·refine CT id (AS (Aa (id := 1) (by kernel_rfl) ?_))
   refine AH 6 ?_
   obtain ⟨x3, X, M⟩ := bind_some M
   refine B0 1 [(16, Ai x1)] 17 (.An [.str x3.Key, .str x3.Value]) J H (fun D => .of (Ul (e := AJ) (x := x3) BJ (by decide) (by kernel_rfl) X)) fun D t H => ?_
   refine Ae 18 (.agg [.str x3.Key, .str x3.Value]) J H (fun D => .of (XN (by kernel_rfl))) fun D t H => ?_
   obtain ⟨Y, e4, A⟩ := A.pu (.cells none 2 [.str ([] : UV), .str ([] : UV)])
   refine BU 5 (.ptr (some (J.size, 0))) e4 H fun D t H => ?_
   obtain ⟨I, X, A⟩ := A.s0 0 [.str x3.Key, .str x3.Value] [_, _]
   refine Jp 1 [(4, Ai x1)] X H fun D t H => ?_
   refine Bs 9 id (AX 2 [(20, .map (some h2.size))] 22 0 0 A H fun D t H => ?_)
   rcases BT M with ⟨B, M⟩ | ⟨K, M⟩
   ·refine Ae 23 (.tuple [.func (.func 194) [] [.An [.ptr (some (h.size, 5))]], .bool true]) I H (fun D => .of (GG (by kernel_rfl) (HH.FC (P := cfg.P) A 1 rfl (t := 140) (kt := 9) (et := 144) (by kernel_rfl) (by kernel_rfl) (s := x3.Key) (.hit B)))) fun D t H => ?_
    refine AN 5 [(7, .bool true)] H fun D H => AS (Ga 6 32 ?_)
    refine AN 32 [(57, .bool true)] H fun D H => C8 (x := .tmp 57) (by kernel_rfl) H (fun D => by kernel_rfl) ?_
    refine AH 1 (AN 1 [(2, .bool false)] H fun D H => AZ ?_)
    replace A := A.k3 1 2 3
    exact nr M fun e => Or.inr (.inl ⟨_, rfl, e, H.ls, A⟩)
   rcases BT M with ⟨B, M⟩ | ⟨S, M⟩
   ·refine Ae 23 (.tuple [.func (.func 194) [] [.An [.ptr (some (h.size, 4))]], .bool true]) I H (fun D => .of (GG (by kernel_rfl) (HH.FC (P := cfg.P) A 1 rfl (t := 140) (kt := 9) (et := 144) (by kernel_rfl) (by kernel_rfl) (s := x3.Key) (.CN K (.hit B))))) fun D t H => ?_
    refine AN 5 [(7, .bool true)] H fun D H => AS (Ga 6 32 ?_)
    refine AN 32 [(57, .bool true)] H fun D H => C8 (x := .tmp 57) (by kernel_rfl) H (fun D => by kernel_rfl) ?_
    refine AH 1 (AN 1 [(2, .bool false)] H fun D H => AZ ?_)
    replace A := A.k3 1 2 3
    exact nr M fun e => Or.inr (.inl ⟨_, rfl, e, H.ls, A⟩)
   rcases BT M with ⟨B, M⟩ | ⟨U, M⟩
   ·refine Ae 23 (.tuple [.func (.func 194) [] [.An [.ptr (some (h1.size, 0))]], .bool true]) I H (fun D => .of (GG (by kernel_rfl) (HH.FC (P := cfg.P) A 1 rfl (t := 140) (kt := 9) (et := 144) (by kernel_rfl) (by kernel_rfl) (s := x3.Key) (.CN K (.CN S (.hit B)))))) fun D t H => ?_
    refine AN 5 [(7, .bool true)] H fun D H => AS (Ga 6 32 ?_)
    refine AN 32 [(57, .bool true)] H fun D H => C8 (x := .tmp 57) (by kernel_rfl) H (fun D => by kernel_rfl) ?_
    refine AH 1 (AN 1 [(2, .bool false)] H fun D H => AZ ?_)
    replace A := A.k3 1 2 3
    exact nr M fun e => Or.inr (.inl ⟨_, rfl, e, H.ls, A⟩)
   rcases BT M with ⟨B, M⟩ | ⟨W, M⟩
   ·refine Ae 23 (.tuple [.func (.func 195) [] [.An [.ptr (some (h.size, 7))]], .bool true]) I H (fun D => .of (GG (by kernel_rfl) (HH.FC (P := cfg.P) A 1 rfl (t := 140) (kt := 9) (et := 144) (by kernel_rfl) (by kernel_rfl) (s := x3.Key) (.CN K (.CN S (.CN U (.hit B))))))) fun D t H => ?_
    refine AN 5 [(7, .bool true)] H fun D H => AS (Ga 6 32 ?_)
    refine AN 32 [(57, .bool true)] H fun D H => C8 (x := .tmp 57) (by kernel_rfl) H (fun D => by kernel_rfl) ?_
    refine AH 1 (AN 1 [(2, .bool false)] H fun D H => AZ ?_)
    replace A := A.k3 1 2 3
    exact nr M fun e => Or.inr (.inl ⟨_, rfl, e, H.ls, A⟩)
   rcases BT M with ⟨B, M⟩ | ⟨Z, M⟩
   ·refine Ae 23 (.tuple [.func (.func 195) [] [.An [.ptr (some (h.size, 6))]], .bool true]) I H (fun D => .of (GG (by kernel_rfl) (HH.FC (P := cfg.P) A 1 rfl (t := 140) (kt := 9) (et := 144) (by kernel_rfl) (by kernel_rfl) (s := x3.Key) (.CN K (.CN S (.CN U (.CN W (.hit B)))))))) fun D t H => ?_
    refine AN 5 [(7, .bool true)] H fun D H => AS (Ga 6 32 ?_)
    refine AN 32 [(57, .bool true)] H fun D H => C8 (x := .tmp 57) (by kernel_rfl) H (fun D => by kernel_rfl) ?_
    refine AH 1 (AN 1 [(2, .bool false)] H fun D H => AZ ?_)
    replace A := A.k3 1 2 3
    exact nr M fun e => Or.inr (.inl ⟨_, rfl, e, H.ls, A⟩)
   rcases BT M with ⟨B, M⟩ | ⟨hk6, M⟩
   ·refine Ae 23 (.tuple [.func (.func 195) [] [.An [.ptr (some (h.size, 0))]], .bool true]) I H (fun D => .of (GG (by kernel_rfl) (HH.FC (P := cfg.P) A 1 rfl (t := 140) (kt := 9) (et := 144) (by kernel_rfl) (by kernel_rfl) (s := x3.Key) (.CN K (.CN S (.CN U (.CN W (.CN Z (.hit B))))))))) fun D t H => ?_
    refine AN 5 [(7, .bool true)] H fun D H => AS (Ga 6 32 ?_)
    refine AN 32 [(57, .bool true)] H fun D H => C8 (x := .tmp 57) (by kernel_rfl) H (fun D => by kernel_rfl) ?_
    refine AH 1 (AN 1 [(2, .bool false)] H fun D H => AZ ?_)
    replace A := A.k3 1 2 3
    exact nr M fun e => Or.inr (.inl ⟨_, rfl, e, H.ls, A⟩)
   rcases BT M with ⟨B, M⟩ | ⟨hk7, M⟩
   ·refine Ae 23 (.tuple [.func (.func 195) [] [.An [.ptr (some (h.size, 1))]], .bool true]) I H (fun D => .of (GG (by kernel_rfl) (HH.FC (P := cfg.P) A 1 rfl (t := 140) (kt := 9) (et := 144) (by kernel_rfl) (by kernel_rfl) (s := x3.Key) (.CN K (.CN S (.CN U (.CN W (.CN Z (.CN hk6 (.hit B)))))))))) fun D t H => ?_
    refine AN 5 [(7, .bool true)] H fun D H => AS (Ga 6 32 ?_)
    refine AN 32 [(57, .bool true)] H fun D H => C8 (x := .tmp 57) (by kernel_rfl) H (fun D => by kernel_rfl) ?_
    refine AH 1 (AN 1 [(2, .bool false)] H fun D H => AZ ?_)
    replace A := A.k3 1 2 3
    exact nr M fun e => Or.inr (.inl ⟨_, rfl, e, H.ls, A⟩)
   rcases BT M with ⟨B, M⟩ | ⟨hk8, M⟩
   ·refine Ae 23 (.tuple [.func (.func 142) [] [.An [.ptr (some (h.size, 0))]], .bool true]) I H (fun D => .of (GG (by kernel_rfl) (HH.FC (P := cfg.P) A 1 rfl (t := 140) (kt := 9) (et := 144) (by kernel_rfl) (by kernel_rfl) (s := x3.Key) (.CN K (.CN S (.CN U (.CN W (.CN Z (.CN hk6 (.CN hk7 (.hit B))))))))))) fun D t H => ?_
    refine AN 5 [(7, .bool true)] H fun D H => AS (Ga 6 32 ?_)
    refine AN 32 [(57, .bool true)] H fun D H => C8 (x := .tmp 57) (by kernel_rfl) H (fun D => by kernel_rfl) ?_
    refine AH 1 (AN 1 [(2, .bool false)] H fun D H => AZ ?_)
    replace A := A.k3 1 2 3
    exact nr M fun e => Or.inr (.inl ⟨_, rfl, e, H.ls, A⟩)
   refine Ae 23 (.tuple [.nilFunc, .bool false]) I H (fun D => .of (GG (by kernel_rfl) (HH.Sg (P := cfg.P) A 1 rfl (t := 140) (kt := 9) (et := 144) (by kernel_rfl) (by kernel_rfl) (z := .nilFunc) (by kernel_rfl) (s := x3.Key) (.CN K (.CN S (.CN U (.CN W (.CN Z (.CN hk6 (.CN hk7 (.CN hk8 (.nil)))))))))))) fun D t H => ?_
   refine AN 5 [(7, .bool false)] H fun D H => AS (Ga 6 32 ?_)
   refine AX 3 [(27, .bool false)] 29 0 0 A H fun D t H => ?_
   refine AO 3 [(32, .bool (x3.Key == ([] : UV)))] H fun D H => Bi 4 (fun N Q => I = Q ∧ Has N 59 [(0, vs AJ p0), (3, .map (some h2.size)), (4, Ai x1), (5, .ptr (some (J.size, 0))), (12, vs AJ p0), (13, Ai (p0.length : Int)), (14, Ai x1), (36, .bool ((x3.Key == ([] : UV)) || (x3.Value == ([] : UV))))]) ?_ ?_
   ·cases B : (x3.Key == ([] : UV) : Bool) with
    | true =>
     replace H := H.kn 32 B
     exact AO 4 [(36, .bool true)] H fun D H => A8 H B
    | false =>
     replace H := H.kn 32 B
     refine AX 1 [] 34 0 1 A H fun D t H => ?_
     exact AO 2 [(36, .bool (x3.Value == ([] : UV)))] H fun D H => A8 H B
   intro t D Q G
   obtain ⟨e, H⟩ := G
   subst e
   refine AO 1 [(37, .bool ((x3.Key == ([] : UV)) || (x3.Value == ([] : UV))))] H fun D H => ?_
   obtain ⟨x4, O, M⟩ := bind_some M
   refine Bi 5 (fun N Q => Has N 59 [(0, vs AJ p0), (3, .map (some h2.size)), (4, Ai x1), (5, .ptr (some (J.size, 0))), (12, vs AJ p0), (13, Ai (p0.length : Int)), (14, Ai x1), (42, .bool x4)] ∧ HH g Q [.obj J.size (.cells none 2 [.str x3.Key, .str x3.Value]), .obj h2.size (.map 3 [(.str ([103, 105, 100] : UV), .func (.func 194) [] [.An [.ptr (some (h.size, 5))]]), (.str ([117, 105, 100] : UV), .func (.func 194) [] [.An [.ptr (some (h.size, 4))]]), (.str ([115, 105, 122, 101] : UV), .func (.func 194) [] [.An [.ptr (some (h1.size, 0))]]), (.str ([103, 110, 97, 109, 101] : UV), .func (.func 195) [] [.An [.ptr (some (h.size, 7))]]), (.str ([117, 110, 97, 109, 101] : UV), .func (.func 195) [] [.An [.ptr (some (h.size, 6))]]), (.str ([112, 97, 116, 104] : UV), .func (.func 195) [] [.An [.ptr (some (h.size, 0))]]), (.str ([108, 105, 110, 107, 112, 97, 116, 104] : UV), .func (.func 195) [] [.An [.ptr (some (h.size, 1))]]), (.str ([109, 116, 105, 109, 101] : UV), .func (.func 142) [] [.An [.ptr (some (h.size, 0))]])]), .obj h1.size (.cells none 2 [Ai 0]), .obj h.size (.cells none 2 [.str ([] : UV), .str ([] : UV), Ab 0, Ai 0, Ai 0, Ai 0, .str ([] : UV), .str ([] : UV), Ai 0, Ai 0, Ai 0, Ai 0, .slice none 0, .str ([] : UV)])] F) ?_ ?_
   ·rcases BT O with ⟨B, M⟩ | ⟨B, M⟩
    ·replace H := H.kn 37 B
     refine AO 5 [(42, .bool true)] H fun D H => ?_
     obtain rfl := BB M
     exact at_nil ⟨H.ls, A⟩
    replace H := H.kn 37 B
    refine AX 1 [] 39 0 0 A H fun D t H => ?_
    obtain ⟨x5, X, M⟩ := bind_some M
    obtain ⟨v1, h8, R, rfl, E⟩ := Er (av := [.str x3.Key, Ab 61]) X (A.cut 0)
    replace A := A.Dx E
    refine BM 40 R H fun D t H => ?_
    refine AO 2 [(42, .bool (decide (x5 ≥ 0)))] H fun D H => ?_
    obtain rfl := BB M
    exact at_nil ⟨H.ls, A⟩
   clear A
   intro t D h7 G
   obtain ⟨H, A⟩ := G
   refine AO 1 [(43, .bool x4)] H fun D H => ?_
   obtain ⟨x6, O, M⟩ := bind_some M
   refine Bi 14 (fun N Q => Has N 59 [(0, vs AJ p0), (3, .map (some h2.size)), (12, vs AJ p0), (13, Ai (p0.length : Int)), (14, Ai x1), (57, .bool x6)] ∧ HH g Q [.obj J.size (.cells none 2 [.str x3.Key, .str x3.Value]), .obj h2.size (.map 3 [(.str ([103, 105, 100] : UV), .func (.func 194) [] [.An [.ptr (some (h.size, 5))]]), (.str ([117, 105, 100] : UV), .func (.func 194) [] [.An [.ptr (some (h.size, 4))]]), (.str ([115, 105, 122, 101] : UV), .func (.func 194) [] [.An [.ptr (some (h1.size, 0))]]), (.str ([103, 110, 97, 109, 101] : UV), .func (.func 195) [] [.An [.ptr (some (h.size, 7))]]), (.str ([117, 110, 97, 109, 101] : UV), .func (.func 195) [] [.An [.ptr (some (h.size, 6))]]), (.str ([112, 97, 116, 104] : UV), .func (.func 195) [] [.An [.ptr (some (h.size, 0))]]), (.str ([108, 105, 110, 107, 112, 97, 116, 104] : UV), .func (.func 195) [] [.An [.ptr (some (h.size, 1))]]), (.str ([109, 116, 105, 109, 101] : UV), .func (.func 142) [] [.An [.ptr (some (h.size, 0))]])]), .obj h1.size (.cells none 2 [Ai 0]), .obj h.size (.cells none 2 [.str ([] : UV), .str ([] : UV), Ab 0, Ai 0, Ai 0, Ai 0, .str ([] : UV), .str ([] : UV), Ai 0, Ai 0, Ai 0, Ai 0, .slice none 0, .str ([] : UV)])] F) ?_ ?_
   ·rcases BT O with ⟨B, M⟩ | ⟨B, M⟩
    ·replace H := H.kn 43 B
     refine AO 14 [(57, .bool true)] H fun D H => ?_
     obtain rfl := BB M
     exact at_nil ⟨H.ls, A⟩
    replace H := H.kn 43 B
    refine AO 3 [(46, .bool (decide (x1 > 0)))] H fun D H => ?_
    obtain ⟨x7, O, M⟩ := bind_some M
    refine Bi 10 (fun N Q => Has N 59 [(0, vs AJ p0), (3, .map (some h2.size)), (12, vs AJ p0), (13, Ai (p0.length : Int)), (14, Ai x1), (43, .bool false), (56, .bool x7)] ∧ HH g Q [.obj J.size (.cells none 2 [.str x3.Key, .str x3.Value]), .obj h2.size (.map 3 [(.str ([103, 105, 100] : UV), .func (.func 194) [] [.An [.ptr (some (h.size, 5))]]), (.str ([117, 105, 100] : UV), .func (.func 194) [] [.An [.ptr (some (h.size, 4))]]), (.str ([115, 105, 122, 101] : UV), .func (.func 194) [] [.An [.ptr (some (h1.size, 0))]]), (.str ([103, 110, 97, 109, 101] : UV), .func (.func 195) [] [.An [.ptr (some (h.size, 7))]]), (.str ([117, 110, 97, 109, 101] : UV), .func (.func 195) [] [.An [.ptr (some (h.size, 6))]]), (.str ([112, 97, 116, 104] : UV), .func (.func 195) [] [.An [.ptr (some (h.size, 0))]]), (.str ([108, 105, 110, 107, 112, 97, 116, 104] : UV), .func (.func 195) [] [.An [.ptr (some (h.size, 1))]]), (.str ([109, 116, 105, 109, 101] : UV), .func (.func 142) [] [.An [.ptr (some (h.size, 0))]])]), .obj h1.size (.cells none 2 [Ai 0]), .obj h.size (.cells none 2 [.str ([] : UV), .str ([] : UV), Ab 0, Ai 0, Ai 0, Ai 0, .str ([] : UV), .str ([] : UV), Ai 0, Ai 0, Ai 0, Ai 0, .slice none 0, .str ([] : UV)])] F) ?_ ?_
    ·rcases BT O with ⟨B, M⟩ | ⟨B, M⟩
     ·replace H := H.kn 46 B
      obtain ⟨x8, X, M⟩ := bind_some M
      refine B0 3 [] 50 (.An [.str x8.Key, .str x8.Value]) h7 H (fun D => .of (Ul (e := AJ) (x := x8) BJ (by decide) (by kernel_rfl) X)) fun D t H => ?_
      refine B0 1 [] 52 (.str x8.Key) h7 H (fun D => .of (XN (by kernel_rfl))) fun D t H => ?_
      refine AX 1 [] 54 0 0 A H fun D t H => ?_
      refine AO 2 [(56, .bool (!(Op.bytesLess x8.Key x3.Key)))] H fun D H => ?_
      obtain rfl := BB M
      exact at_nil ⟨H.ls, A⟩
     replace H := H.kn 46 B
     refine AO 10 [(56, .bool false)] H fun D H => ?_
     obtain rfl := BB M
     exact at_nil ⟨H.ls, A⟩
    clear A
    intro t D h10 G
    obtain ⟨H, A⟩ := G
    refine AO 1 [(57, .bool x7)] H fun D H => ?_
    obtain rfl := BB M
    exact at_nil ⟨H.ls, A⟩
   clear A
   intro t D h9 G
   obtain ⟨H, A⟩ := G
   refine Bq id (Ac 57 H M (fun B M H => ?_) fun B M H => ?_)
   ·refine AH 1 (AN 1 [(2, .bool false)] H fun D H => AZ ?_)
    replace A := A.k3 1 2 3
    exact nr M fun e => Or.inr (.inl ⟨_, rfl, e, H.ls, A⟩)
   refine EX 2 id (Bv 2 [(0, vs AJ p0), (3, .map (some h2.size)), (12, vs AJ p0), (13, Ai (p0.length : Int)), (14, Ai (i64.wrap (x1 + 1)))] H fun D H => at_nil ?_)
   replace A := A.k3 1 2 3
   exact nx M ⟨_, rfl, H.ls, A⟩
  refine Bp (i := 0) (by kernel_rfl) ?_
  exact nr M fun e => .inl ⟨rfl, e, H.ls, A⟩
 clear O
 clear A
 intro e D h11 hQ
 rcases hQ with ⟨rfl, rfl, H, A⟩ | ⟨x2, rfl, rfl, H, A⟩ | hF
 ·show AW _ _ _ _ _ _ _
  refine AH 1 (AN 1 [(2, .bool true)] H fun D H => AZ ?_)
  obtain rfl := BB M
  refine ⟨.inl rfl, .bool true, rH H, ?_⟩
  replace A := A.d0
  exact ⟨rfl, A⟩
 ·obtain rfl := BB M
  refine ⟨.inl rfl, .bool x2, rH H, ?_⟩
  replace A := A.d0
  exact ⟨rfl, A⟩
 exact hF.elim
def GB (p0 : Int) (p1 : List Int) (s : Int) : Option ((Int) ⊕ ((Unit) ⊕ (Bool))) :=
 match s with
 | x1 => Ao (decide (x1 < (p1.length : Int))) ((Ii p1 x1).bind fun x3 => Ao ((decide (x3 < 0)) || (decide (x3 ≥ p0))) (some (.inr (.inr false))) (some (.inl (i64.wrap (x1 + 1))))) (some (.inr (.inl ())))
def Dp (p0 : Int) (p1 : List Int) : Option (Bool) :=
 (loop (GB p0 p1) (0 : Int)).bind fun o1 => (match o1 with | .inl _ => some true | .inr x2 => some x2)
theorem FE {p0 p1 rp1 q0} (M : Dp p0 p1 = some q0) (A : HH g h [.AQ rp1 3 (AQ (eI .i64) p1)] F) (hc : BP (cfg.still 119) av = [Ai p0, AP rp1 p1.length] := by kernel_rfl) : ∃ v Q, BZ cfg g h 119 av v Q ∧ v = .bool q0 ∧ HH g Q [.AQ rp1 3 (AQ (eI .i64) p1)] F := by
 refine EE 21 [.tmp 4] hc ?_
 clear hc
 unfold Dp at M
 refine bg 21 [(0, Ai p0), (1, AP rp1 p1.length)] fun D H => ?_
 refine AH 1 (AN 1 [] H fun D H => AS (AH 3 (AN 3 [(7, AP rp1 p1.length), (8, Ai (p1.length : Int)), (9, Ai 0)] H fun D H => Aa (id := 0) (by kernel_rfl) ?_)))
 obtain ⟨o1, O, M⟩ := bind_some M
 refine Bb (Q' := fun e N Q => (e = .exit 0 ∧ .inl () = o1 ∧ Has N 21 [] ∧ HH g Q [.AQ rp1 3 (AQ (eI .i64) p1)] F) ∨ (∃ x2, e = .ret ∧ .inr x2 = o1 ∧ Has N 21 [(4, .bool x2)] ∧ HH g Q [.AQ rp1 3 (AQ (eI .i64) p1)] F) ∨ False) ?_ ?_
 ·refine C2 (by kernel_rfl) (fun (s : Int) N Q => ∃ x1, x1 = s ∧ Has N 21 [(0, Ai p0), (7, AP rp1 p1.length), (8, Ai (p1.length : Int)), (9, Ai x1)] ∧ HH g Q [.AQ rp1 3 (AQ (eI .i64) p1)] F) O ⟨_, rfl, H.ls, A⟩ ?_
  clear O M H A
  intro s q D h1 hI M
  obtain ⟨x1, rfl, H, A⟩ := hI
  unfold GB at M
  refine AH 1 (AN 1 [(10, .bool (decide (x1 < (p1.length : Int))))] H fun D H => AS (Ac 10 H M (fun B M H => ?_) fun B M H => ?_))
  ·refine CT id (AS (Aa (id := 1) (by kernel_rfl) ?_))
   refine AH 3 ?_
   obtain ⟨x3, X, M⟩ := bind_some M
   obtain ⟨i1, er1, _, X, V⟩ := HH.Ra (encI .i64) (by decide) A 0 (xs := p1) rfl X
   refine Ae 11 (.ptr (some (i1, x1.toNat * 1))) h1 H (fun D => .of (G1 (s := CF rp1 p1.length) (by kernel_rfl) X)) fun D t H => ?_
   refine Ae 12 _ _ H (fun D => .of (Ib (by kernel_rfl) (Lb (encI .i64) (HH.row A 0 rfl er1) V (o := 0) rfl))) fun D t H => ?_
   refine B5 1 [(6, Ai x3)] 7 H fun D H => AO 3 [(15, .bool (decide (x3 < 0)))] H fun D H => Bi 4 (fun N Q => h1 = Q ∧ Has N 21 [(0, Ai p0), (7, AP rp1 p1.length), (8, Ai (p1.length : Int)), (9, Ai x1), (19, .bool ((decide (x3 < 0)) || (decide (x3 ≥ p0))))]) ?_ ?_
   ·cases B : (decide (x3 < 0) : Bool) with
    | true =>
     replace H := H.kn 15 B
     exact AO 4 [(19, .bool true)] H fun D H => A8 H B
    | false =>
     replace H := H.kn 15 B
     exact AO 4 [(19, .bool (decide (x3 ≥ p0)))] H fun D H => A8 H B
   intro t D Q G
   obtain ⟨e, H⟩ := G
   subst e
   refine Bq id (Ac 19 H M (fun B M H => ?_) fun B M H => ?_)
   ·refine AH 1 (AN 1 [(4, .bool false)] H fun D H => AZ ?_)
    exact nr M fun e => Or.inr (.inl ⟨_, rfl, e, H.ls, A⟩)
   refine EX 2 id (Bv 2 [(0, Ai p0), (7, AP rp1 p1.length), (8, Ai (p1.length : Int)), (9, Ai (i64.wrap (x1 + 1)))] H fun D H => at_nil ?_)
   exact nx M ⟨_, rfl, H.ls, A⟩
  refine Bp (i := 0) (by kernel_rfl) ?_
  exact nr M fun e => .inl ⟨rfl, e, H.ls, A⟩
 clear O
 clear A
 intro e D h2 hQ
 rcases hQ with ⟨rfl, rfl, H, A⟩ | ⟨x2, rfl, rfl, H, A⟩ | hF
 ·show AW _ _ _ _ _ _ _
  refine AH 1 (AN 1 [(4, .bool true)] H fun D H => AZ ?_)
  obtain rfl := BB M
  exact ⟨.inl rfl, _, rH H, rfl, A⟩
 ·obtain rfl := BB M
  exact ⟨.inl rfl, _, rH H, rfl, A⟩
 exact hF.elim
def GO (p0 : Ad) : Option (Bool) :=
 some ((((decide (p0.F8 ≥ (-9007199254740991))) && (decide (p0.F8 ≤ 9007199254740991))) && (decide (p0.EY ≥ 0))) && (decide (p0.EY < 1000000000)))
theorem KA {p0 q0} (M : GO p0 = some q0) (A : HH g h [] F) (hc : BP (cfg.still 160) av = [.agg [Ai p0.F8, Ai p0.EY]] := by kernel_rfl) : ∃ v Q, BZ cfg g h 160 av v Q ∧ v = .bool q0 ∧ HH g Q [] F := by
 refine EE 21 [.tmp 2] hc ?_
 clear hc
 unfold GO at M
 refine bg 21 [(0, .agg [Ai p0.F8, Ai p0.EY])] fun D H => ?_
 refine AH 2 ?_
 obtain ⟨h1, e1, A⟩ := A.pu (.cells none 2 [Ai p0.F8, Ai p0.EY])
 refine BU 1 (.ptr (some (h.size, 0))) e1 H fun D t H => ?_
 refine B5 1 [] 19 H fun D H => AX 1 [] 4 0 0 A H fun D t H => ?_
 refine AO 2 [(6, .bool (decide (p0.F8 ≥ (-9007199254740991))))] H fun D H => Bi 4 (fun N Q => h1 = Q ∧ Has N 21 [(1, .ptr (some (h.size, 0))), (10, .bool ((decide (p0.F8 ≥ (-9007199254740991))) && (decide (p0.F8 ≤ 9007199254740991))))]) ?_ ?_
 ·cases B : (decide (p0.F8 ≥ (-9007199254740991)) : Bool) with
  | true =>
   replace H := H.kn 6 B
   refine AX 1 [] 8 0 0 A H fun D t H => ?_
   exact AO 2 [(10, .bool (decide (p0.F8 ≤ 9007199254740991)))] H fun D H => A8 H B
  | false =>
   replace H := H.kn 6 B
   exact AO 4 [(10, .bool false)] H fun D H => A8 H B
 intro t D Q G
 obtain ⟨e, H⟩ := G
 subst e
 refine AO 1 [(11, .bool ((decide (p0.F8 ≥ (-9007199254740991))) && (decide (p0.F8 ≤ 9007199254740991))))] H fun D H => Bi 4 (fun N Q => h1 = Q ∧ Has N 21 [(1, .ptr (some (h.size, 0))), (15, .bool (((decide (p0.F8 ≥ (-9007199254740991))) && (decide (p0.F8 ≤ 9007199254740991))) && (decide (p0.EY ≥ 0))))]) ?_ ?_
 ·cases B : ((decide (p0.F8 ≥ (-9007199254740991))) && (decide (p0.F8 ≤ 9007199254740991)) : Bool) with
  | true =>
   replace H := H.kn 11 B
   refine AX 1 [] 13 0 1 A H fun D t H => ?_
   exact AO 2 [(15, .bool (decide (p0.EY ≥ 0)))] H fun D H => A8 H B
  | false =>
   replace H := H.kn 11 B
   exact AO 4 [(15, .bool false)] H fun D H => A8 H B
 intro t D Q G
 obtain ⟨e, H⟩ := G
 subst e
 refine AO 1 [(16, .bool (((decide (p0.F8 ≥ (-9007199254740991))) && (decide (p0.F8 ≤ 9007199254740991))) && (decide (p0.EY ≥ 0))))] H fun D H => Bi 4 (fun N Q => h1 = Q ∧ Has N 21 [(20, .bool ((((decide (p0.F8 ≥ (-9007199254740991))) && (decide (p0.F8 ≤ 9007199254740991))) && (decide (p0.EY ≥ 0))) && (decide (p0.EY < 1000000000))))]) ?_ ?_
 ·cases B : (((decide (p0.F8 ≥ (-9007199254740991))) && (decide (p0.F8 ≤ 9007199254740991))) && (decide (p0.EY ≥ 0)) : Bool) with
  | true =>
   replace H := H.kn 16 B
   refine AX 1 [] 18 0 1 A H fun D t H => ?_
   exact AO 2 [(20, .bool (decide (p0.EY < 1000000000)))] H fun D H => A8 H B
  | false =>
   replace H := H.kn 16 B
   exact AO 4 [(20, .bool false)] H fun D H => A8 H B
 intro t D Q G
 obtain ⟨e, H⟩ := G
 subst e
 refine AN 1 [(2, .bool ((((decide (p0.F8 ≥ (-9007199254740991))) && (decide (p0.F8 ≤ 9007199254740991))) && (decide (p0.EY ≥ 0))) && (decide (p0.EY < 1000000000))))] H fun D H => AZ ?_
 obtain rfl := BB M
 refine ⟨.inl rfl, .bool ((((decide (p0.F8 ≥ (-9007199254740991))) && (decide (p0.F8 ≤ 9007199254740991))) && (decide (p0.EY ≥ 0))) && (decide (p0.EY < 1000000000))), rH H, ?_⟩
 replace A := A.d0
 exact ⟨rfl, A⟩
def Ip (p0 : AG) (s : Int) : Option ((Int) ⊕ ((Unit) ⊕ (Int))) :=
 match s with
 | x1 => Ao (decide (x1 < (([p0.Name, p0.A9, p0.Ah, p0.Aj] : List (List UInt8)).length : Int))) ((Ii ([p0.Name, p0.A9, p0.Ah, p0.Aj] : List (List UInt8)) x1).bind fun x3 => (Ch x3 (0 : Int)).bind fun x4 => Ao (decide (x4 ≥ 0)) (some (.inr (.inr (2 : Int)))) (some (.inl (i64.wrap (x1 + 1))))) (some (.inr (.inl ())))
def FH (p0 : AG) : Option (Int) :=
 (loop (Ip p0) (0 : Int)).bind fun o1 => (match o1 with | .inl _ => (Ao (p0.Name == ([] : UV)) (some true) ((IN p0.Extra).bind fun x6 => some (!x6)) : Option (Bool)).bind fun x5 => Ao x5 (some (2 : Int)) ((Dp (9007199254740992 : Int) ([p0.Cz, p0.Ct] : List Int)).bind fun x7 => (Ao (!x7) (some true) ((Dp (2097152 : Int) ([p0.Mode, p0.Au, p0.As] : List Int)).bind fun x9 => some (!x9)) : Option (Bool)).bind fun x8 => (Ao x8 (some true) ((GO p0.Time).bind fun x11 => some (!x11)) : Option (Bool)).bind fun x10 => Ao x10 (some (6 : Int)) (some (0 : Int))) | .inr x2 => some x2)
theorem HR {p0 q0} (M : FH p0 = some q0) (A : HH g h [] F) (hc : BP (cfg.still 96) av = [.agg (AE p0)] := by kernel_rfl) : ∃ v Q, BZ cfg g h 96 av v Q ∧ v = Ai q0 ∧ HH g Q [] F := by
 refine EE 58 [.tmp 2] hc ?_
 clear hc
 unfold FH at M
 refine bg 58 [(0, .agg (AE p0))] fun D H => ?_
 refine AH 2 ?_
 obtain ⟨h1, e1, A⟩ := A.pu (.cells none 2 (AE p0))
 refine BU 1 (.ptr (some (h.size, 0))) e1 H fun D t H => ?_
 refine AN 1 [] H fun D H => AS (AH 11 (AX 1 [] 6 0 0 A H fun D t H => ?_))
 refine AX 1 [] 8 0 1 A H fun D t H => ?_
 refine AX 1 [] 10 0 6 A H fun D t H => ?_
 refine AX 1 [] 12 0 7 A H fun D t H => ?_
 obtain ⟨h2, e2, A⟩ := A.pL 9 [.str p0.Name, .str p0.A9, .str p0.Ah, .str p0.Aj]
 refine BU 13 (AP (some h1.size) (([p0.Name, p0.A9, p0.Ah, p0.Aj] : List (List UInt8)).length)) e2 H fun D t H => ?_
 refine AN 2 [(14, Ai (([p0.Name, p0.A9, p0.Ah, p0.Aj] : List (List UInt8)).length : Int)), (15, Ai 0)] H fun D H => Aa (id := 0) (by kernel_rfl) ?_
 replace A : HH g h2 [.AQ (some h1.size) 9 (AQ eS ([p0.Name, p0.A9, p0.Ah, p0.Aj] : List (List UInt8))), .obj h.size (.cells none 2 (AE p0))] F := A
 obtain ⟨o1, O, M⟩ := bind_some M
 refine Bb (Q' := fun e N Q => (e = .exit 0 ∧ .inl () = o1 ∧ Has N 58 [(1, .ptr (some (h.size, 0)))] ∧ HH g Q [.obj h.size (.cells none 2 (AE p0))] F) ∨ (∃ x2, e = .ret ∧ .inr x2 = o1 ∧ Has N 58 [(2, Ai x2)] ∧ HH g Q [.obj h.size (.cells none 2 (AE p0))] F) ∨ False) ?_ ?_
 ·refine C2 (by kernel_rfl) (fun (s : Int) N Q => ∃ x1, x1 = s ∧ Has N 58 [(1, .ptr (some (h.size, 0))), (13, AP (some h1.size) (([p0.Name, p0.A9, p0.Ah, p0.Aj] : List (List UInt8)).length)), (14, Ai (([p0.Name, p0.A9, p0.Ah, p0.Aj] : List (List UInt8)).length : Int)), (15, Ai x1)] ∧ HH g Q [.AQ (some h1.size) 9 (AQ eS ([p0.Name, p0.A9, p0.Ah, p0.Aj] : List (List UInt8))), .obj h.size (.cells none 2 (AE p0))] F) O ⟨_, rfl, H.ls, A⟩ ?_
  clear O M H A
  intro s q D T hI M
  obtain ⟨x1, rfl, H, A⟩ := hI
  unfold Ip at M
  refine AH 1 (AN 1 [(16, .bool (decide (x1 < (([p0.Name, p0.A9, p0.Ah, p0.Aj] : List (List UInt8)).length : Int))))] H fun D H => AS (Ac 16 H M (fun B M H => ?_) fun B M H => ?_))
  ·refine CT id (AS (Aa (id := 1) (by kernel_rfl) ?_))
   refine AH 3 ?_
   obtain ⟨x3, X, M⟩ := bind_some M
   obtain ⟨i1, er1, _, X, V⟩ := HH.Ra encS (by decide) A 0 (xs := ([p0.Name, p0.A9, p0.Ah, p0.Aj] : List (List UInt8))) rfl X
   refine Ae 17 (.ptr (some (i1, x1.toNat * 1))) T H (fun D => .of (G1 (s := CF (some h1.size) (([p0.Name, p0.A9, p0.Ah, p0.Aj] : List (List UInt8)).length)) (by kernel_rfl) X)) fun D t H => ?_
   refine Ae 18 _ _ H (fun D => .of (Ib (by kernel_rfl) (Lb encS (HH.row A 0 rfl er1) V (o := 0) rfl))) fun D t H => ?_
   refine B5 1 [(4, .str x3)] 3 H fun D H => ?_
   obtain ⟨x4, X, M⟩ := bind_some M
   obtain ⟨v1, J, R, rfl, E⟩ := Er (av := [.str x3, Ab 0]) X (A.cut 0)
   replace A := A.Dx E
   refine BC 1 [] 20 R H fun D t H => ?_
   refine AN 1 [(21, .bool (decide (x4 ≥ 0)))] H fun D H => Ac 21 H M (fun B M H => ?_) fun B M H => ?_
   ·refine AH 1 (AN 1 [(2, Ai 2)] H fun D H => AZ ?_)
    replace A := A.k1 1
    exact nr M fun e => Or.inr (.inl ⟨_, rfl, e, H.ls, A⟩)
   refine EX 2 id (Bv 2 [(1, .ptr (some (h.size, 0))), (13, AP (some h1.size) (([p0.Name, p0.A9, p0.Ah, p0.Aj] : List (List UInt8)).length)), (14, Ai (([p0.Name, p0.A9, p0.Ah, p0.Aj] : List (List UInt8)).length : Int)), (15, Ai (i64.wrap (x1 + 1)))] H fun D H => at_nil ?_)
   exact nx M ⟨_, rfl, H.ls, A⟩
  refine Bp (i := 0) (by kernel_rfl) ?_
  replace A := A.k1 1
  exact nr M fun e => .inl ⟨rfl, e, H.ls, A⟩
 clear O
 clear A
 intro e D Y hQ
 rcases hQ with ⟨rfl, rfl, H, A⟩ | ⟨x2, rfl, rfl, H, A⟩ | hF
 ·show AW _ _ _ _ _ _ _
  refine AS (Aa (id := 2) (by kernel_rfl) ?_)
  refine AH 10 (AX 1 [] 25 0 0 A H fun D t H => ?_)
  refine AO 2 [(27, .bool (p0.Name == ([] : UV)))] H fun D H => ?_
  obtain ⟨x5, O, M⟩ := bind_some M
  refine Bi 5 (fun N Q => Has N 58 [(1, .ptr (some (h.size, 0))), (32, .bool x5)] ∧ HH g Q [.obj h.size (.cells none 2 (AE p0))] F) ?_ ?_
  ·rcases BT O with ⟨B, M⟩ | ⟨B, M⟩
   ·replace H := H.kn 27 B
    refine AO 5 [(32, .bool true)] H fun D H => ?_
    obtain rfl := BB M
    exact at_nil ⟨H.ls, A⟩
   replace H := H.kn 27 B
   refine AX 1 [] 29 0 12 A H fun D t H => ?_
   obtain ⟨x6, X, M⟩ := bind_some M
   obtain ⟨v1, h7, R, rfl, E⟩ := Ns (av := [vs AJ p0.Extra]) X (A.cut 0)
   replace A := A.Dx E
   refine BM 30 R H fun D t H => ?_
   refine AO 2 [(32, .bool (!x6))] H fun D H => ?_
   obtain rfl := BB M
   exact at_nil ⟨H.ls, A⟩
  clear A
  intro t D I G
  obtain ⟨H, A⟩ := G
  refine AN 1 [(23, .bool x5)] H fun D H => Ac 23 H M (fun B M H => ?_) fun B M H => ?_
  ·refine AH 1 (AN 1 [(2, Ai 2)] H fun D H => AZ ?_)
   obtain rfl := BB M
   refine ⟨.inl rfl, Ai 2, rH H, ?_⟩
   replace A := A.d0
   exact ⟨rfl, A⟩
  refine AH 25 (AX 1 [] 35 0 4 A H fun D t H => ?_)
  refine AX 1 [] 37 0 5 A H fun D t H => ?_
  obtain ⟨h8, e3, A⟩ := A.pL 3 [Ai p0.Cz, Ai p0.Ct]
  refine BU 38 (AP (some I.size) (([p0.Cz, p0.Ct] : List Int).length)) e3 H fun D t H => ?_
  replace A : HH g h8 [.AQ (some I.size) 3 (AQ (eI .i64) ([p0.Cz, p0.Ct] : List Int)), _] F := A
  obtain ⟨x7, X, M⟩ := bind_some M
  obtain ⟨v1, h9, R, rfl, E⟩ := FE (av := [Ai 9007199254740992, AP (some I.size) (([p0.Cz, p0.Ct] : List Int).length)]) X (A.cut 1)
  replace A := A.g11 E
  refine BM 39 R H fun D t H => ?_
  refine AO 2 [(41, .bool (!x7))] H fun D H => ?_
  obtain ⟨x8, O, M⟩ := bind_some M
  refine Bi 10 (fun N Q => Has N 58 [(1, .ptr (some (h.size, 0))), (51, .bool x8)] ∧ HH g Q [.obj h.size (.cells none 2 (AE p0))] F) ?_ ?_
  ·rcases BT O with ⟨B, M⟩ | ⟨B, M⟩
   ·replace H := H.kn 41 B
    refine AO 10 [(51, .bool true)] H fun D H => ?_
    obtain rfl := BB M
    replace A := A.k1 1
    exact at_nil ⟨H.ls, A⟩
   replace H := H.kn 41 B
   refine AX 1 [] 43 1 3 A H fun D t H => ?_
   refine AX 1 [] 45 1 8 A H fun D t H => ?_
   refine AX 1 [] 47 1 9 A H fun D t H => ?_
   obtain ⟨h11, e4, A⟩ := A.pL 3 [Ai p0.Mode, Ai p0.Au, Ai p0.As]
   refine BU 48 (AP (some h9.size) (([p0.Mode, p0.Au, p0.As] : List Int).length)) e4 H fun D t H => ?_
   replace A : HH g h11 [.AQ (some h9.size) 3 (AQ (eI .i64) ([p0.Mode, p0.Au, p0.As] : List Int)), _, _] F := A
   obtain ⟨x9, X, M⟩ := bind_some M
   obtain ⟨v1, h12, R, rfl, E⟩ := FE (av := [Ai 2097152, AP (some h9.size) (([p0.Mode, p0.Au, p0.As] : List Int).length)]) X (A.cut 1)
   replace A := A.g11 E
   refine BM 49 R H fun D t H => ?_
   refine AO 2 [(51, .bool (!x9))] H fun D H => ?_
   obtain rfl := BB M
   replace A := A.k1 2
   exact at_nil ⟨H.ls, A⟩
  clear A
  intro t D h10 G
  obtain ⟨H, A⟩ := G
  refine AO 1 [(52, .bool x8)] H fun D H => ?_
  obtain ⟨x10, O, M⟩ := bind_some M
  refine Bi 5 (fun N Q => Has N 58 [(57, .bool x10)] ∧ HH g Q [.obj h.size (.cells none 2 (AE p0))] F) ?_ ?_
  ·rcases BT O with ⟨B, M⟩ | ⟨B, M⟩
   ·replace H := H.kn 52 B
    refine AO 5 [(57, .bool true)] H fun D H => ?_
    obtain rfl := BB M
    exact at_nil ⟨H.ls, A⟩
   replace H := H.kn 52 B
   refine B0 1 [] 54 _ _ H (fun D => .of (BX (by kernel_rfl) (A.Ef 0 rfl (o := 10) (n := 2) ⟨Nat.le_of_ble_eq_true rfl, rfl⟩))) fun D t H => ?_
   obtain ⟨x11, X, M⟩ := bind_some M
   obtain ⟨v1, h14, R, rfl, E⟩ := KA (av := [.agg [Ai p0.Time.F8, Ai p0.Time.EY]]) X (A.cut 0)
   replace A := A.Dx E
   refine BM 55 R H fun D t H => ?_
   refine AO 2 [(57, .bool (!x11))] H fun D H => ?_
   obtain rfl := BB M
   exact at_nil ⟨H.ls, A⟩
  clear A
  intro t D h13 G
  obtain ⟨H, A⟩ := G
  refine AN 1 [(33, .bool x10)] H fun D H => Ac 33 H M (fun B M H => ?_) fun B M H => ?_
  ·refine AH 1 (AN 1 [(2, Ai 6)] H fun D H => AZ ?_)
   obtain rfl := BB M
   refine ⟨.inl rfl, Ai 6, rH H, ?_⟩
   replace A := A.d0
   exact ⟨rfl, A⟩
  refine B3 1 id (AN 1 [(2, Ai 0)] H fun D H => AZ ?_)
  obtain rfl := BB M
  refine ⟨.inl rfl, Ai 0, rH H, ?_⟩
  replace A := A.d0
  exact ⟨rfl, A⟩
 ·obtain rfl := BB M
  refine ⟨.inl rfl, Ai x2, rH H, ?_⟩
  replace A := A.d0
  exact ⟨rfl, A⟩
 exact hF.elim
def HL (p0 : Int) : Option (Bool) :=
 some ((p0 == 48) || (p0 == 55))
theorem My {p0 q0} (M : HL p0 = some q0) (A : HH g h [] F) (hc : BP (cfg.still 97) av = [Ab p0] := by kernel_rfl) : ∃ v Q, BZ cfg g h 97 av v Q ∧ v = .bool q0 ∧ HH g Q [] F := by
 refine EE 9 [.tmp 2] hc ?_
 clear hc
 unfold HL at M
 refine bg 9 [(0, Ab p0)] fun D H => ?_
 refine AH 1 (B5 1 [] 7 H fun D H => AO 3 [(5, .bool (p0 == 48))] H fun D H => Bi 3 (fun N Q => h = Q ∧ Has N 9 [(8, .bool ((p0 == 48) || (p0 == 55)))]) ?_ ?_)
 ·cases B : (p0 == 48 : Bool) with
  | true =>
   replace H := H.kn 5 B
   exact AO 3 [(8, .bool true)] H fun D H => A8 H B
  | false =>
   replace H := H.kn 5 B
   exact AO 3 [(8, .bool (p0 == 55))] H fun D H => A8 H B
 intro t D Q G
 obtain ⟨e, H⟩ := G
 subst e
 refine AN 1 [(2, .bool ((p0 == 48) || (p0 == 55)))] H fun D H => AZ ?_
 obtain rfl := BB M
 exact ⟨.inl rfl, _, rH H, rfl, A⟩
def Hk (p0 : AG) (p1 : Int) : Option (Int) :=
 (FH p0).bind fun x1 => Ao (x1 != 0) (some x1) (Ao ((decide (p0.Kind < 48)) || (decide (p0.Kind > 55))) (some (5 : Int)) ((Ao ((decide (p1 < 0)) || (decide (p1 > 1099511627776))) (some true) ((Ao (p1 != 0) ((HL p0.Kind).bind fun x4 => some (!x4)) (some false) : Option (Bool)).bind fun x3 => some x3) : Option (Bool)).bind fun x2 => Ao x2 (some (6 : Int)) (some (0 : Int))))
theorem Mw {p0 p1 q0} (M : Hk p0 p1 = some q0) (A : HH g h [] F) (hc : BP (cfg.still 45) av = [.agg (AE p0), Ai p1] := by kernel_rfl) : ∃ v Q, BZ cfg g h 45 av v Q ∧ v = Ai q0 ∧ HH g Q [] F := by
 refine EE 37 [.tmp 4] hc ?_
 clear hc
 unfold Hk at M
 refine bg 37 [(0, .agg (AE p0)), (1, Ai p1)] fun D H => ?_
 refine AH 2 ?_
 obtain ⟨h1, e1, A⟩ := A.pu (.cells none 2 (AE p0))
 refine BU 2 (.ptr (some (h.size, 0))) e1 H fun D t H => ?_
 refine AN 1 [] H fun D H => AS (AH 3 (Ae 6 _ _ H (fun D => .of (BX (by kernel_rfl) (A.Ef 0 rfl (o := 0) (n := 14) ⟨Nat.le_of_ble_eq_true rfl, rfl⟩))) fun D t H => ?_))
 obtain ⟨x1, X, M⟩ := bind_some M
 obtain ⟨v1, h2, R, rfl, E⟩ := HR (av := [.agg (AE p0)]) X (A.cut 0)
 replace A : HH g h2 [.obj h.size (.cells none 2 (AE p0))] F := A.Eg (n := 0) E
 refine BM 7 R H fun D t H => ?_
 refine B5 1 [(5, Ai x1)] 2 H fun D H => AN 2 [(9, .bool (x1 != 0))] H fun D H => Ac 9 H M (fun B M H => ?_) fun B M H => ?_
 ·refine AH 2 (AN 2 [(4, Ai x1)] H fun D H => AZ ?_)
  obtain rfl := BB M
  refine ⟨.inl rfl, Ai x1, rH H, ?_⟩
  replace A := A.d0
  exact ⟨rfl, A⟩
 refine CT id (AS (Aa (id := 0) (by kernel_rfl) ?_))
 refine AH 9 (AX 1 [] 13 0 2 A H fun D t H => ?_)
 refine AO 2 [(15, .bool (decide (p0.Kind < 48)))] H fun D H => Bi 4 (fun N Q => h2 = Q ∧ Has N 37 [(1, Ai p1), (2, .ptr (some (h.size, 0))), (19, .bool ((decide (p0.Kind < 48)) || (decide (p0.Kind > 55))))]) ?_ ?_
 ·cases B : (decide (p0.Kind < 48) : Bool) with
  | true =>
   replace H := H.kn 15 B
   exact AO 4 [(19, .bool true)] H fun D H => A8 H B
  | false =>
   replace H := H.kn 15 B
   refine AX 1 [] 17 0 2 A H fun D t H => ?_
   exact AO 2 [(19, .bool (decide (p0.Kind > 55)))] H fun D H => A8 H B
 intro t D Q G
 obtain ⟨e, H⟩ := G
 subst e
 refine AN 1 [(11, .bool ((decide (p0.Kind < 48)) || (decide (p0.Kind > 55))))] H fun D H => Ac 11 H M (fun B M H => ?_) fun B M H => ?_
 ·refine AH 1 (AN 1 [(4, Ai 5)] H fun D H => AZ ?_)
  obtain rfl := BB M
  refine ⟨.inl rfl, Ai 5, rH H, ?_⟩
  replace A := A.d0
  exact ⟨rfl, A⟩
 refine AH 17 (AO 3 [(23, .bool (decide (p1 < 0)))] H fun D H => Bi 3 (fun N Q => h2 = Q ∧ Has N 37 [(1, Ai p1), (2, .ptr (some (h.size, 0))), (26, .bool ((decide (p1 < 0)) || (decide (p1 > 1099511627776))))]) ?_ ?_)
 ·cases B : (decide (p1 < 0) : Bool) with
  | true =>
   replace H := H.kn 23 B
   exact AO 3 [(26, .bool true)] H fun D H => A8 H B
  | false =>
   replace H := H.kn 23 B
   exact AO 3 [(26, .bool (decide (p1 > 1099511627776)))] H fun D H => A8 H B
 intro t D Q G
 obtain ⟨e, H⟩ := G
 subst e
 refine AO 1 [(27, .bool ((decide (p1 < 0)) || (decide (p1 > 1099511627776))))] H fun D H => ?_
 obtain ⟨x2, O, M⟩ := bind_some M
 refine Bi 9 (fun N Q => Has N 37 [(36, .bool x2)] ∧ HH g Q [.obj h.size (.cells none 2 (AE p0))] F) ?_ ?_
 ·rcases BT O with ⟨B, M⟩ | ⟨B, M⟩
  ·replace H := H.kn 27 B
   refine AO 9 [(36, .bool true)] H fun D H => ?_
   obtain rfl := BB M
   exact at_nil ⟨H.ls, A⟩
  replace H := H.kn 27 B
  refine AO 3 [(30, .bool (p1 != 0))] H fun D H => ?_
  obtain ⟨x3, O, M⟩ := bind_some M
  refine Bi 5 (fun N Q => Has N 37 [(27, .bool false), (35, .bool x3)] ∧ HH g Q [.obj h.size (.cells none 2 (AE p0))] F) ?_ ?_
  ·rcases BT O with ⟨B, M⟩ | ⟨B, M⟩
   ·replace H := H.kn 30 B
    refine AX 1 [] 32 0 2 A H fun D t H => ?_
    obtain ⟨x4, X, M⟩ := bind_some M
    obtain ⟨v1, Y, R, rfl, E⟩ := My (av := [Ab p0.Kind]) X (A.cut 0)
    replace A := A.Dx E
    refine BM 33 R H fun D t H => ?_
    refine AO 2 [(35, .bool (!x4))] H fun D H => ?_
    obtain rfl := BB M
    exact at_nil ⟨H.ls, A⟩
   replace H := H.kn 30 B
   refine AO 5 [(35, .bool false)] H fun D H => ?_
   obtain rfl := BB M
   exact at_nil ⟨H.ls, A⟩
  clear A
  intro t D J G
  obtain ⟨H, A⟩ := G
  refine AO 1 [(36, .bool x3)] H fun D H => ?_
  obtain rfl := BB M
  exact at_nil ⟨H.ls, A⟩
 clear A
 intro t D T G
 obtain ⟨H, A⟩ := G
 refine AN 1 [(20, .bool x2)] H fun D H => Ac 20 H M (fun B M H => ?_) fun B M H => ?_
 ·refine AH 1 (AN 1 [(4, Ai 6)] H fun D H => AZ ?_)
  obtain rfl := BB M
  refine ⟨.inl rfl, Ai 6, rH H, ?_⟩
  replace A := A.d0
  exact ⟨rfl, A⟩
 refine B3 1 id (AN 1 [(4, Ai 0)] H fun D H => AZ ?_)
 obtain rfl := BB M
 refine ⟨.inl rfl, Ai 0, rH H, ?_⟩
 replace A := A.d0
 exact ⟨rfl, A⟩
def GW (p0 : AG) (p1 : Int) : Option (Int) :=
 (FH p0).bind fun x1 => Ao (x1 != 0) (some x1) ((Dp (9007199254740992 : Int) ([p1] : List Int)).bind fun x2 => Ao (!x2) (some (6 : Int)) (some (0 : Int)))
theorem Jv {p0 p1 q0} (M : GW p0 p1 = some q0) (A : HH g h [] F) (hc : BP (cfg.still 65) av = [.agg (AE p0), Ai p1] := by kernel_rfl) : ∃ v Q, BZ cfg g h 65 av v Q ∧ v = Ai q0 ∧ HH g Q [] F := by
 refine EE 15 [.tmp 4] hc ?_
 clear hc
 unfold GW at M
 refine bg 15 [(0, .agg (AE p0)), (1, Ai p1)] fun D H => ?_
 refine AH 2 ?_
 obtain ⟨h1, e1, A⟩ := A.pu (.cells none 2 (AE p0))
 refine BU 2 (.ptr (some (h.size, 0))) e1 H fun D t H => ?_
 refine AN 1 [] H fun D H => AS (AH 3 (Ae 6 _ _ H (fun D => .of (BX (by kernel_rfl) (A.Ef 0 rfl (o := 0) (n := 14) ⟨Nat.le_of_ble_eq_true rfl, rfl⟩))) fun D t H => ?_))
 obtain ⟨x1, X, M⟩ := bind_some M
 obtain ⟨v1, h2, R, rfl, E⟩ := HR (av := [.agg (AE p0)]) X (A.cut 0)
 replace A : HH g h2 [.obj h.size (.cells none 2 (AE p0))] F := A.Eg (n := 0) E
 refine BM 7 R H fun D t H => ?_
 refine B5 1 [(5, Ai x1)] 2 H fun D H => AN 2 [(9, .bool (x1 != 0))] H fun D H => Ac 9 H M (fun B M H => ?_) fun B M H => ?_
 ·refine AH 2 (AN 2 [(4, Ai x1)] H fun D H => AZ ?_)
  obtain rfl := BB M
  refine ⟨.inl rfl, Ai x1, rH H, ?_⟩
  replace A := A.d0
  exact ⟨rfl, A⟩
 refine CT id (AS (AH 4 (AO 1 [(11, Ai p1)] H fun D H => ?_)))
 obtain ⟨T, e2, A⟩ := A.pL 3 [Ai p1]
 refine BU 12 (AP (some h2.size) (([p1] : List Int).length)) e2 H fun D t H => ?_
 replace A : HH g T [.AQ (some h2.size) 3 (AQ (eI .i64) ([p1] : List Int)), _] F := A
 obtain ⟨x2, X, M⟩ := bind_some M
 obtain ⟨v1, J, R, rfl, E⟩ := FE (av := [Ai 9007199254740992, AP (some h2.size) (([p1] : List Int).length)]) X (A.cut 1)
 replace A := A.g11 E
 refine BM 13 R H fun D t H => ?_
 refine AN 1 [(14, .bool (!x2))] H fun D H => Ac 14 H M (fun B M H => ?_) fun B M H => ?_
 ·refine AH 1 (AN 1 [(4, Ai 6)] H fun D H => AZ ?_)
  obtain rfl := BB M
  refine ⟨.inl rfl, Ai 6, rH H, ?_⟩
  replace A := A.d0
  exact ⟨rfl, A⟩
 refine B3 1 id (AN 1 [(4, Ai 0)] H fun D H => AZ ?_)
 obtain rfl := BB M
 refine ⟨.inl rfl, Ai 0, rH H, ?_⟩
 replace A := A.d0
 exact ⟨rfl, A⟩
def FY (p0 : AL) (p1 : AG) : Option (AL) :=
 some (⟨p0.Name, p0.A9, p0.Kind, p0.Mode, p0.Cz, p1.Ct, p0.Bg, p0.Time, p0.Ah, p0.Aj, p0.Au, p0.As, p0.Form⟩ : AL)
theorem Kg {p0 p1 bp0 bp1 u0} (M : FY p0 p1 = some u0) (A : HH g h [.obj bp0 (.cells none 2 (AK p0)), .obj bp1 (.cells none 2 (AE p1))] F) (hc : BP (cfg.still 122) av = [.ptr (some (bp0, 0)), .ptr (some (bp1, 0))] := by kernel_rfl) : ∃ v Q, BZ cfg g h 122 av v Q ∧ v = .tuple [] ∧ HH g Q [.obj bp0 (.cells none 2 (AK u0)), .obj bp1 (.cells none 2 (AE p1))] F := by
 refine EE 8 [] hc ?_
 clear hc
 unfold FY at M
 refine bg 8 [(0, .ptr (some (bp0, 0))), (1, .ptr (some (bp1, 0)))] fun D H => ?_
 refine CE 6 (AX 2 [(3, .ptr (some (bp0, 0)))] 5 1 5 A H fun D t H => ?_)
 obtain ⟨h1, X, A⟩ := A.s0 5 [Ai p1.Ct] [_, _, _, _, _, _, _, _, _, _, _, _, _]
 refine Bu 2 [] X H fun D t H => ?_
 refine at_nil ?_
 obtain rfl := BB M
 refine ⟨.inr rfl, .tuple [], rH H, ?_⟩
 exact ⟨rfl, A⟩
def H6 (p0 : List UInt8) : Option ((List UInt8) × (List UInt8) × Bool) :=
 Ao (decide ((p0.length : Int) ≤ 100)) (some (([] : UV), p0, true)) ((IX p0 none (some (mn (p0.length : Int) (156 : Int)))).bind fun x1 => none)
theorem Py {p0 q0 q1 q2} (M : H6 p0 = some (q0, q1, q2)) (A : HH g h [] F) (hc : BP (cfg.still 135) av = [.str p0] := by kernel_rfl) : ∃ v Q, BZ cfg g h 135 av v Q ∧ v = .tuple [.str q0, .str q1, .bool q2] ∧ HH g Q [] F := by
 refine EE 46 [.tmp 2, .tmp 3, .tmp 4] hc ?_
 clear hc
 unfold H6 at M
 refine bg 46 [(0, .str p0)] fun D H => ?_
 refine AH 3 (AN 3 [] H fun D H => AS (AH 3 (AN 3 [(8, .bool (decide ((p0.length : Int) ≤ 100)))] H fun D H => Ac 8 H M (fun B M H => ?_) fun B M H => ?_)))
 ·refine AH 4 (AN 4 [(2, .str ([] : UV)), (3, .str p0), (4, .bool true)] H fun D H => AZ ?_)
  obtain ⟨rfl, rfl, rfl⟩ := EG M
  exact ⟨.inl rfl, _, rH H, rfl, A⟩
 refine B3 7 id ?_
 obtain ⟨x1, X, M⟩ := bind_some M
 refine B0 4 [] 14 (.str x1) h H (fun D => .of (HW (k := .i64) (k' := .i64) (lo := none) (hi := (some (mn (p0.length : Int) (156 : Int)))) (by kernel_rfl) X)) fun D t H => ?_
 cases M
def CV (p0 : AL) : Option ((List (Int × (List UInt8))) × Bool) :=
 (H6 p0.Name).bind fun (x1, x2, x3) => some ((Cf (Cf (Cf (Cf (Cf ([] : List (Int × (List UInt8))) (0 : Int) x2) (11 : Int) x1) (6 : Int) p0.A9) (7 : Int) p0.Ah) (8 : Int) p0.Aj), x3)
theorem Ja {p0 q0 q1} (M : CV p0 = some (q0, q1)) (A : HH g h [] F) (hc : BP (cfg.still 71) av = [.agg (AK p0)] := by kernel_rfl) : ∃ v Q, BZ cfg g h 71 av v Q ∧ ∃ (bq0 : Nat), v = .tuple [.map (some bq0), .bool q1] ∧ HH g Q [.obj bq0 (.map 2 (Di (fun k : Int => Ai k) (fun v : List UInt8 => .str v) q0))] F := by
 refine EE 25 [.tmp 2, .tmp 3] hc ?_
 clear hc
 unfold CV at M
 refine bg 25 [(0, .agg (AK p0))] fun D H => ?_
 refine AH 3 ?_
 obtain ⟨h1, e1, A⟩ := A.pu (.cells none 2 (AK p0))
 refine BU 1 (.ptr (some (h.size, 0))) e1 H fun D t H => ?_
 refine B5 2 [] 10 H fun D H => AX 1 [] 9 0 0 A H fun D t H => ?_
 obtain ⟨⟨x1, x2, x3⟩, X, M⟩ := bind_some M
 obtain ⟨v1, h2, R, rfl, E⟩ := Py (av := [.str p0.Name]) X (A.cut 0)
 replace A : HH g h2 [.obj h.size (.cells none 2 (AK p0))] F := A.Eg (n := 0) E
 refine BM 10 R H fun D t H => ?_
 refine B5 7 [(4, .str x1), (5, .str x2), (6, .bool x3)] 18 H fun D H => ?_
 obtain ⟨T, e2⟩ : ∃ x, x = h2.push (.map 2 []) := ⟨_, rfl⟩
 replace A : HH g T [.obj h2.size (.map 2 (Di (fun k : Int => Ai k) (fun v : List UInt8 => .str v) ([] : List (Int × (List UInt8))))), _] F := (A.push _).to e2
 refine BU 14 (.map (some h2.size)) e2 H fun D t H => ?_
 refine AO 1 [(15, .str x2)] H fun D H => ?_
 obtain ⟨J, X, E⟩ := HH.MF (kt := 3) (et := 9) (ek := fun k : Int => Ai k) (ev := fun v : List UInt8 => .str v) (M4 (by kernel_rfl)) A 0 rfl (t := 122) (by kernel_rfl) (0 : Int) x2
 replace A : HH g J [.obj h2.size (.map 2 (Di (fun k : Int => Ai k) (fun v : List UInt8 => .str v) (Cf ([] : List (Int × (List UInt8))) (0 : Int) x2))), _] F := E
 refine Fu (.tuple []) J H (fun D => .of (MR (by kernel_rfl) X)) fun D t H => ?_
 refine AO 1 [(16, .str x1)] H fun D H => ?_
 obtain ⟨Y, X, E⟩ := HH.MF (kt := 3) (et := 9) (ek := fun k : Int => Ai k) (ev := fun v : List UInt8 => .str v) (M4 (by kernel_rfl)) A 0 rfl (t := 122) (by kernel_rfl) (11 : Int) x1
 replace A : HH g Y [.obj h2.size (.map 2 (Di (fun k : Int => Ai k) (fun v : List UInt8 => .str v) (Cf (Cf ([] : List (Int × (List UInt8))) (0 : Int) x2) (11 : Int) x1))), _] F := E
 refine Fu (.tuple []) Y H (fun D => .of (MR (by kernel_rfl) X)) fun D t H => ?_
 refine AX 1 [] 18 1 1 A H fun D t H => ?_
 obtain ⟨I, X, E⟩ := HH.MF (kt := 3) (et := 9) (ek := fun k : Int => Ai k) (ev := fun v : List UInt8 => .str v) (M4 (by kernel_rfl)) A 0 rfl (t := 122) (by kernel_rfl) (6 : Int) p0.A9
 replace A : HH g I [.obj h2.size (.map 2 (Di (fun k : Int => Ai k) (fun v : List UInt8 => .str v) (Cf (Cf (Cf ([] : List (Int × (List UInt8))) (0 : Int) x2) (11 : Int) x1) (6 : Int) p0.A9))), _] F := E
 refine Fu (.tuple []) I H (fun D => .of (MR (by kernel_rfl) X)) fun D t H => ?_
 refine AX 1 [] 20 1 8 A H fun D t H => ?_
 obtain ⟨h7, X, E⟩ := HH.MF (kt := 3) (et := 9) (ek := fun k : Int => Ai k) (ev := fun v : List UInt8 => .str v) (M4 (by kernel_rfl)) A 0 rfl (t := 122) (by kernel_rfl) (7 : Int) p0.Ah
 replace A : HH g h7 [.obj h2.size (.map 2 (Di (fun k : Int => Ai k) (fun v : List UInt8 => .str v) (Cf (Cf (Cf (Cf ([] : List (Int × (List UInt8))) (0 : Int) x2) (11 : Int) x1) (6 : Int) p0.A9) (7 : Int) p0.Ah))), _] F := E
 refine Fu (.tuple []) h7 H (fun D => .of (MR (by kernel_rfl) X)) fun D t H => ?_
 refine AX 1 [] 22 1 9 A H fun D t H => ?_
 obtain ⟨h8, X, E⟩ := HH.MF (kt := 3) (et := 9) (ek := fun k : Int => Ai k) (ev := fun v : List UInt8 => .str v) (M4 (by kernel_rfl)) A 0 rfl (t := 122) (by kernel_rfl) (8 : Int) p0.Aj
 replace A : HH g h8 [.obj h2.size (.map 2 (Di (fun k : Int => Ai k) (fun v : List UInt8 => .str v) (Cf (Cf (Cf (Cf (Cf ([] : List (Int × (List UInt8))) (0 : Int) x2) (11 : Int) x1) (6 : Int) p0.A9) (7 : Int) p0.Ah) (8 : Int) p0.Aj))), _] F := E
 refine Fu (.tuple []) h8 H (fun D => .of (MR (by kernel_rfl) X)) fun D t H => ?_
 refine AN 4 [(2, .map (some h2.size)), (3, .bool x3)] H fun D H => AZ ?_
 obtain ⟨rfl, rfl⟩ := B4 M
 refine ⟨.inl rfl, .tuple [.map (some h2.size), .bool x3], rH H, ?_⟩
 replace A := A.d1
 exact ⟨h2.size, rfl, A⟩
def DF : Option (GM) :=
 some (⟨(⟨(0 : Int), (100 : Int)⟩ : Ay), (⟨(100 : Int), (8 : Int)⟩ : Ay), (⟨(108 : Int), (8 : Int)⟩ : Ay), (⟨(116 : Int), (8 : Int)⟩ : Ay), (⟨(124 : Int), (12 : Int)⟩ : Ay), (⟨(136 : Int), (12 : Int)⟩ : Ay), (⟨(157 : Int), (100 : Int)⟩ : Ay), (⟨(265 : Int), (32 : Int)⟩ : Ay), (⟨(297 : Int), (32 : Int)⟩ : Ay), (⟨(329 : Int), (8 : Int)⟩ : Ay), (⟨(337 : Int), (8 : Int)⟩ : Ay), (⟨(345 : Int), (155 : Int)⟩ : Ay)⟩ : GM)
theorem Dk {q0} (M : DF = some q0) (A : HH g h [] F) (hc : BP (cfg.still 72) av = [] := by kernel_rfl) : ∃ v Q, BZ cfg g h 72 av v Q ∧ v = .agg (LD q0) ∧ HH g Q [] F := by
 refine EE 14 [.cell 0 127] hc ?_
 clear hc
 unfold DF at M
 refine bg 14 [] fun D H => ?_
 refine AH 1 ?_
 obtain ⟨h1, e1, A⟩ := A.pu (.cells none 2 [Ai 0, Ai 0, Ai 0, Ai 0, Ai 0, Ai 0, Ai 0, Ai 0, Ai 0, Ai 0, Ai 0, Ai 0, Ai 0, Ai 0, Ai 0, Ai 0, Ai 0, Ai 0, Ai 0, Ai 0, Ai 0, Ai 0, Ai 0, Ai 0])
 refine BU 0 (.ptr (some (h.size, 0))) e1 H fun D t H => ?_
 refine Bs 14 id ?_
 obtain ⟨h2, X, A⟩ := A.s0 0 [Ai 0, Ai 100, Ai 100, Ai 8, Ai 108, Ai 8, Ai 116, Ai 8, Ai 124, Ai 12, Ai 136, Ai 12, Ai 157, Ai 100, Ai 265, Ai 32, Ai 297, Ai 32, Ai 329, Ai 8, Ai 337, Ai 8, Ai 345, Ai 155] [_, _, _, _, _, _, _, _, _, _, _, _, _, _, _, _, _, _, _, _, _, _, _, _]
 refine Jp 13 [] X H fun D t H => ?_
 refine Bq id (AZ ?_)
 obtain rfl := BB M
 refine ⟨.inl rfl, .agg [Ai 0, Ai 100, Ai 100, Ai 8, Ai 108, Ai 8, Ai 116, Ai 8, Ai 124, Ai 12, Ai 136, Ai 12, Ai 157, Ai 100, Ai 265, Ai 32, Ai 297, Ai 32, Ai 329, Ai 8, Ai 337, Ai 8, Ai 345, Ai 155], P9 (.cell (rT H) (Dn (by kernel_rfl) (by kernel_rfl) (A.la 0 0 24)) .nil), ?_⟩
 replace A := A.d0
 exact ⟨rfl, A⟩
def DD (p0 : AL) : Option ((List (Int × Int))) :=
 some (Cf (Cf (Cf (Cf (Cf (Cf (Cf ([] : List (Int × Int)) (1 : Int) p0.Mode) (2 : Int) p0.Cz) (3 : Int) p0.Ct) (4 : Int) p0.Bg) (5 : Int) p0.Time) (9 : Int) p0.Au) (10 : Int) p0.As)
theorem Is {p0 q0} (M : DD p0 = some q0) (A : HH g h [] F) (hc : BP (cfg.still 73) av = [.agg (AK p0)] := by kernel_rfl) : ∃ v Q, BZ cfg g h 73 av v Q ∧ ∃ (bq0 : Nat), v = .map (some bq0) ∧ HH g Q [.obj bq0 (.map 2 (Di (fun k : Int => Ai k) (fun v : Int => Ai v) q0))] F := by
 refine EE 19 [.tmp 2] hc ?_
 clear hc
 unfold DD at M
 refine bg 19 [(0, .agg (AK p0))] fun D H => ?_
 refine AH 2 ?_
 obtain ⟨h1, e1, A⟩ := A.pu (.cells none 2 (AK p0))
 refine BU 1 (.ptr (some (h.size, 0))) e1 H fun D t H => ?_
 refine B5 1 [] 24 H fun D H => ?_
 obtain ⟨h2, e2⟩ : ∃ x, x = h1.push (.map 2 []) := ⟨_, rfl⟩
 replace A : HH g h2 [.obj h1.size (.map 2 (Di (fun k : Int => Ai k) (fun v : Int => Ai v) ([] : List (Int × Int)))), .obj h.size (.cells none 2 (AK p0))] F := (A.push _).to e2
 refine BU 3 (.map (some h1.size)) e2 H fun D t H => ?_
 refine AX 1 [] 5 1 3 A H fun D t H => ?_
 obtain ⟨T, X, E⟩ := HH.MF (kt := 3) (et := 3) (ek := fun k : Int => Ai k) (ev := fun v : Int => Ai v) (M4 (by kernel_rfl)) A 0 rfl (t := 129) (by kernel_rfl) (1 : Int) p0.Mode
 replace A : HH g T [.obj h1.size (.map 2 (Di (fun k : Int => Ai k) (fun v : Int => Ai v) (Cf ([] : List (Int × Int)) (1 : Int) p0.Mode))), _] F := E
 refine Fu (.tuple []) T H (fun D => .of (MR (by kernel_rfl) X)) fun D t H => ?_
 refine AX 1 [] 7 1 4 A H fun D t H => ?_
 obtain ⟨J, X, E⟩ := HH.MF (kt := 3) (et := 3) (ek := fun k : Int => Ai k) (ev := fun v : Int => Ai v) (M4 (by kernel_rfl)) A 0 rfl (t := 129) (by kernel_rfl) (2 : Int) p0.Cz
 replace A : HH g J [.obj h1.size (.map 2 (Di (fun k : Int => Ai k) (fun v : Int => Ai v) (Cf (Cf ([] : List (Int × Int)) (1 : Int) p0.Mode) (2 : Int) p0.Cz))), _] F := E
 refine Fu (.tuple []) J H (fun D => .of (MR (by kernel_rfl) X)) fun D t H => ?_
 refine AX 1 [] 9 1 5 A H fun D t H => ?_
 obtain ⟨Y, X, E⟩ := HH.MF (kt := 3) (et := 3) (ek := fun k : Int => Ai k) (ev := fun v : Int => Ai v) (M4 (by kernel_rfl)) A 0 rfl (t := 129) (by kernel_rfl) (3 : Int) p0.Ct
 replace A : HH g Y [.obj h1.size (.map 2 (Di (fun k : Int => Ai k) (fun v : Int => Ai v) (Cf (Cf (Cf ([] : List (Int × Int)) (1 : Int) p0.Mode) (2 : Int) p0.Cz) (3 : Int) p0.Ct))), _] F := E
 refine Fu (.tuple []) Y H (fun D => .of (MR (by kernel_rfl) X)) fun D t H => ?_
 refine AX 1 [] 11 1 6 A H fun D t H => ?_
 obtain ⟨I, X, E⟩ := HH.MF (kt := 3) (et := 3) (ek := fun k : Int => Ai k) (ev := fun v : Int => Ai v) (M4 (by kernel_rfl)) A 0 rfl (t := 129) (by kernel_rfl) (4 : Int) p0.Bg
 replace A : HH g I [.obj h1.size (.map 2 (Di (fun k : Int => Ai k) (fun v : Int => Ai v) (Cf (Cf (Cf (Cf ([] : List (Int × Int)) (1 : Int) p0.Mode) (2 : Int) p0.Cz) (3 : Int) p0.Ct) (4 : Int) p0.Bg))), _] F := E
 refine Fu (.tuple []) I H (fun D => .of (MR (by kernel_rfl) X)) fun D t H => ?_
 refine AX 1 [] 13 1 7 A H fun D t H => ?_
 obtain ⟨h7, X, E⟩ := HH.MF (kt := 3) (et := 3) (ek := fun k : Int => Ai k) (ev := fun v : Int => Ai v) (M4 (by kernel_rfl)) A 0 rfl (t := 129) (by kernel_rfl) (5 : Int) p0.Time
 replace A : HH g h7 [.obj h1.size (.map 2 (Di (fun k : Int => Ai k) (fun v : Int => Ai v) (Cf (Cf (Cf (Cf (Cf ([] : List (Int × Int)) (1 : Int) p0.Mode) (2 : Int) p0.Cz) (3 : Int) p0.Ct) (4 : Int) p0.Bg) (5 : Int) p0.Time))), _] F := E
 refine Fu (.tuple []) h7 H (fun D => .of (MR (by kernel_rfl) X)) fun D t H => ?_
 refine AX 1 [] 15 1 10 A H fun D t H => ?_
 obtain ⟨h8, X, E⟩ := HH.MF (kt := 3) (et := 3) (ek := fun k : Int => Ai k) (ev := fun v : Int => Ai v) (M4 (by kernel_rfl)) A 0 rfl (t := 129) (by kernel_rfl) (9 : Int) p0.Au
 replace A : HH g h8 [.obj h1.size (.map 2 (Di (fun k : Int => Ai k) (fun v : Int => Ai v) (Cf (Cf (Cf (Cf (Cf (Cf ([] : List (Int × Int)) (1 : Int) p0.Mode) (2 : Int) p0.Cz) (3 : Int) p0.Ct) (4 : Int) p0.Bg) (5 : Int) p0.Time) (9 : Int) p0.Au))), _] F := E
 refine Fu (.tuple []) h8 H (fun D => .of (MR (by kernel_rfl) X)) fun D t H => ?_
 refine AX 1 [] 17 1 11 A H fun D t H => ?_
 obtain ⟨h9, X, E⟩ := HH.MF (kt := 3) (et := 3) (ek := fun k : Int => Ai k) (ev := fun v : Int => Ai v) (M4 (by kernel_rfl)) A 0 rfl (t := 129) (by kernel_rfl) (10 : Int) p0.As
 replace A : HH g h9 [.obj h1.size (.map 2 (Di (fun k : Int => Ai k) (fun v : Int => Ai v) (Cf (Cf (Cf (Cf (Cf (Cf (Cf ([] : List (Int × Int)) (1 : Int) p0.Mode) (2 : Int) p0.Cz) (3 : Int) p0.Ct) (4 : Int) p0.Bg) (5 : Int) p0.Time) (9 : Int) p0.Au) (10 : Int) p0.As))), _] F := E
 refine Fu (.tuple []) h9 H (fun D => .of (MR (by kernel_rfl) X)) fun D t H => ?_
 refine AN 2 [(2, .map (some h1.size))] H fun D H => AZ ?_
 obtain rfl := BB M
 refine ⟨.inl rfl, .map (some h1.size), rH H, ?_⟩
 replace A := A.d1
 exact ⟨h1.size, rfl, A⟩
def Gk (p0 : Int) : Option (Bool) :=
 some ((decide (p0 ≥ 2)) && (decide (p0 ≤ 12)))
theorem Lm {p0 q0} (M : Gk p0 = some q0) (A : HH g h [] F) (hc : BP (cfg.still 136) av = [Ai p0] := by kernel_rfl) : ∃ v Q, BZ cfg g h 136 av v Q ∧ v = .bool q0 ∧ HH g Q [] F := by
 refine EE 9 [.tmp 2] hc ?_
 clear hc
 unfold Gk at M
 refine bg 9 [(0, Ai p0)] fun D H => ?_
 refine AH 1 (B5 1 [] 7 H fun D H => AO 3 [(5, .bool (decide (p0 ≥ 2)))] H fun D H => Bi 3 (fun N Q => h = Q ∧ Has N 9 [(8, .bool ((decide (p0 ≥ 2)) && (decide (p0 ≤ 12))))]) ?_ ?_)
 ·cases B : (decide (p0 ≥ 2) : Bool) with
  | true =>
   replace H := H.kn 5 B
   exact AO 3 [(8, .bool (decide (p0 ≤ 12)))] H fun D H => A8 H B
  | false =>
   replace H := H.kn 5 B
   exact AO 3 [(8, .bool false)] H fun D H => A8 H B
 intro t D Q G
 obtain ⟨e, H⟩ := G
 subst e
 refine AN 1 [(2, .bool ((decide (p0 ≥ 2)) && (decide (p0 ≤ 12))))] H fun D H => AZ ?_
 obtain rfl := BB M
 exact ⟨.inl rfl, _, rH H, rfl, A⟩
def EM (s : (List UInt8) × Int × Int) : Option (((List UInt8) × Int × Int) ⊕ (((List UInt8)))) :=
 match s with
 | (x3, x4, x5) => Ao (decide (x5 ≥ 0)) ((Ii x3 x5).bind fun x7 => (XX (u8.wrap (i64.wrap ((48 : Int) + (VT .i64 x4 (7 : Int)))))).bind fun x8 => some (.inl ((x3.set x5.toNat x8), UC .i64 x4 (3 : Int), i64.wrap (x5 - 1)))) (some (.inr x3))
def Cp (p0 : Int) (p1 : Int) : Option ((List UInt8) × Bool) :=
 (Gk p1).bind fun x1 => (Ao ((!x1) || (decide (p0 < 0))) (some true) (Cl (decide (0 ≤ (i64.wrap ((3 : Int) * (i64.wrap (p1 - 1)))))) <| some (decide (p0 ≥ (OI .i64 (1 : Int) (i64.wrap ((3 : Int) * (i64.wrap (p1 - 1)))))))) : Option (Bool)).bind fun x2 => Ao x2 (some (([] : UV), false)) (Cl (TH 1 p1) <| (loop (EM) ((List.replicate p1.toNat (0 : UInt8)), p0, i64.wrap (p1 - 2))).bind fun x6 => some (x6, true))
theorem HK {p0 p1 q0 q1} (M : Cp p0 p1 = some (q0, q1)) (A : HH g h [] F) (hc : BP (cfg.still 74) av = [Ai p0, Ai p1] := by kernel_rfl) : ∃ v Q, BZ cfg g h 74 av v Q ∧ v = .tuple [.str q0, .bool q1] ∧ HH g Q [] F := by
 refine EE 42 [.tmp 4, .tmp 5] hc ?_
 clear hc
 unfold Cp at M
 refine bg 42 [(0, Ai p0), (1, Ai p1)] fun D H => ?_
 refine AH 2 (AN 2 [] H fun D H => AS (AH 15 ?_))
 obtain ⟨x1, X, M⟩ := bind_some M
 obtain ⟨v1, h1, R, rfl, E⟩ := Lm (av := [Ai p1]) X (A.cut 0)
 replace A := A.Dx E
 refine BC 1 [] 9 R H fun D t H => ?_
 refine AO 2 [(11, .bool (!x1))] H fun D H => Bi 3 (fun N Q => h1 = Q ∧ Has N 42 [(0, Ai p0), (1, Ai p1), (14, .bool ((!x1) || (decide (p0 < 0))))]) ?_ ?_
 ·cases B : (!x1 : Bool) with
  | true =>
   replace H := H.kn 11 B
   exact AO 3 [(14, .bool true)] H fun D H => A8 H B
  | false =>
   replace H := H.kn 11 B
   exact AO 3 [(14, .bool (decide (p0 < 0)))] H fun D H => A8 H B
 intro t D Q G
 obtain ⟨e, H⟩ := G
 subst e
 refine AO 1 [(15, .bool ((!x1) || (decide (p0 < 0))))] H fun D H => ?_
 obtain ⟨x2, O, M⟩ := bind_some M
 refine Bi 7 (fun N Q => Has N 42 [(0, Ai p0), (1, Ai p1), (22, .bool x2)] ∧ HH g Q [] F) ?_ ?_
 ·rcases BT O with ⟨B, M⟩ | ⟨B, M⟩
  ·replace H := H.kn 15 B
   refine AO 7 [(22, .bool true)] H fun D H => ?_
   obtain rfl := BB M
   exact at_nil ⟨H.ls, A⟩
  replace H := H.kn 15 B
  refine AO 4 [(16, Ai p0), (19, Ai (i64.wrap ((3 : Int) * (i64.wrap (p1 - 1)))))] H fun D H => ?_
  obtain ⟨B, M⟩ := Aq M
  refine Ae 20 (Ai (OI .i64 (1 : Int) (i64.wrap ((3 : Int) * (i64.wrap (p1 - 1)))))) h1 H (fun D => .of (Xl (by kernel_rfl) B)) fun D t H => ?_
  refine AO 2 [(22, .bool (decide (p0 ≥ (OI .i64 (1 : Int) (i64.wrap ((3 : Int) * (i64.wrap (p1 - 1))))))))] H fun D H => ?_
  obtain rfl := BB M
  exact at_nil ⟨H.ls, A⟩
 clear A
 intro t D h2 G
 obtain ⟨H, A⟩ := G
 refine Bq id (Ac 22 H M (fun B M H => ?_) fun B M H => ?_)
 ·refine AH 2 (AN 2 [(4, .str ([] : UV)), (5, .bool false)] H fun D H => AZ ?_)
  obtain ⟨rfl, rfl⟩ := B4 M
  exact ⟨.inl rfl, _, rH H, rfl, A⟩
 refine B3 3 id ?_
 obtain ⟨B, M⟩ := Aq M
 obtain ⟨T, e1, A⟩ := A.pL 5 (AQ eY (List.replicate p1.toNat (0 : UInt8)))
 refine B0 1 [] 24 (AP (some h2.size) (List.replicate p1.toNat (0 : UInt8)).length) T H (fun D => .of (SM (e := eY) Df (x := (0 : UInt8)) (by kernel_rfl) B (congrArg some e1.symm))) fun D t H => ?_
 refine AN 1 [(6, AP (some h2.size) ((List.replicate p1.toNat (0 : UInt8)).length))] H fun D H => AS (AH 3 (AN 3 [(7, Ai (i64.wrap (p1 - 2)))] H fun D H => Aa (id := 0) (by kernel_rfl) ?_))
 obtain ⟨o1, O, M⟩ := bind_some M
 refine Bb (Q' := fun e N Q => (∃ x6, e = .exit 0 ∧ x6 = o1 ∧ ∃ (hl2 : x6.length = (List.replicate p1.toNat (0 : UInt8)).length), Has N 42 [(6, AP (some h2.size) x6.length)] ∧ HH g Q [.AQ (some h2.size) 5 (AQ eY x6)] F) ∨ False) ?_ ?_
 ·refine C2 (by kernel_rfl) (fun (s : (List UInt8) × Int × Int) N Q => ∃ x3 x4 x5, (x3, x4, x5) = s ∧ ∃ (hl1 : x3.length = (List.replicate p1.toNat (0 : UInt8)).length), Has N 42 [(0, Ai x4), (6, AP (some h2.size) x3.length), (7, Ai x5)] ∧ HH g Q [.AQ (some h2.size) 5 (AQ eY x3)] F) O ⟨_, _, _, rfl, rfl, H.ls, A⟩ ?_
  clear O M H A
  intro s q D J hI M
  obtain ⟨x3, x4, x5, rfl, hl1, H, A⟩ := hI
  unfold EM at M
  refine AS (AH 2 (AN 2 [(28, .bool (decide (x5 ≥ 0)))] H fun D H => Ac 28 H M (fun B M H => ?_) fun B M H => ?_))
  ·refine CT id (AS (Aa (id := 1) (by kernel_rfl) ?_))
   refine AH 8 ?_
   obtain ⟨x7, X, M⟩ := bind_some M
   obtain ⟨i1, er1, _, X, V⟩ := HH.Ra Df (by decide) A 0 (xs := x3) rfl X
   refine B0 6 [(36, Ab (u8.wrap (i64.wrap ((48 : Int) + (VT .i64 x4 (7 : Int))))))] 37 (.ptr (some (i1, x5.toNat * 1))) J H (fun D => .of (G1 (s := CF (some h2.size) x3.length) (by kernel_rfl) X)) fun D t H => ?_
   obtain ⟨x8, X, M⟩ := bind_some M
   have X := U2 X
   rw [X] at H
   obtain ⟨Y, X, E⟩ := HH.Yh Df A 0 rfl er1 V (y := x8) (o := 0) (new := [Ab (x8.toNat : Int)]) rfl rfl (Nat.le_of_ble_eq_true rfl)
   have hl3 : (x3.set x5.toNat x8).length = (List.replicate p1.toNat (0 : UInt8)).length := List.length_set.trans hl1
   have el : AP (some h2.size) x3.length = AP (some h2.size) (x3.set x5.toNat x8).length := congrArg _ List.length_set.symm
   try rw [el] at H
   try rw [el] at E
   replace A : HH g Y [.AQ (some h2.size) 5 (AQ eY (x3.set x5.toNat x8))] F := E
   refine JX X H fun D t H => ?_
   refine ED 3 id (Bv 3 [(0, Ai (UC .i64 x4 (3 : Int))), (6, AP (some h2.size) ((x3.set x5.toNat x8).length)), (7, Ai x5)] H fun D H => ED 3 id (Bv 3 [(0, Ai (UC .i64 x4 (3 : Int))), (6, AP (some h2.size) ((x3.set x5.toNat x8).length)), (7, Ai (i64.wrap (x5 - 1)))] H fun D H => at_nil ?_))
   exact nx M ⟨_, _, _, rfl, hl3, H.ls, A⟩
  refine Bp (i := 0) (by kernel_rfl) ?_
  exact nr M fun e => .inl ⟨_, rfl, e, hl1, H.ls, A⟩
 clear O
 clear A
 intro e D I hQ
 rcases hQ with ⟨x6, rfl, rfl, hl2, H, A⟩ | hF
 ·show AW _ _ _ _ _ _ _
  refine AH 4 (AO 1 [(40, AP (some h2.size) x6.length)] H fun D H => Ae 41 (.str x6) I H (fun D => .of (Kt (xs := x6) A 0 rfl (by kernel_rfl))) fun D t H => ?_)
  refine AN 2 [(4, .str x6), (5, .bool true)] H fun D H => AZ ?_
  obtain ⟨rfl, rfl⟩ := B4 M
  refine ⟨.inl rfl, .tuple [.str x6, .bool true], rH H, ?_⟩
  replace A := A.d0
  exact ⟨rfl, A⟩
 exact hF.elim
def Fa (p0 : AL) (p1 : AG) : Option (AL) :=
 some (⟨p0.Name, p0.A9, p0.Kind, p0.Mode, p0.Cz, p0.Ct, p0.Bg, p0.Time, p0.Ah, p1.Aj, p0.Au, p0.As, p0.Form⟩ : AL)
theorem Kh {p0 p1 bp0 bp1 u0} (M : Fa p0 p1 = some u0) (A : HH g h [.obj bp0 (.cells none 2 (AK p0)), .obj bp1 (.cells none 2 (AE p1))] F) (hc : BP (cfg.still 123) av = [.ptr (some (bp0, 0)), .ptr (some (bp1, 0))] := by kernel_rfl) : ∃ v Q, BZ cfg g h 123 av v Q ∧ v = .tuple [] ∧ HH g Q [.obj bp0 (.cells none 2 (AK u0)), .obj bp1 (.cells none 2 (AE p1))] F := by
 refine EE 8 [] hc ?_
 clear hc
 unfold Fa at M
 refine bg 8 [(0, .ptr (some (bp0, 0))), (1, .ptr (some (bp1, 0)))] fun D H => ?_
 refine CE 6 (AX 2 [(3, .ptr (some (bp0, 0)))] 5 1 7 A H fun D t H => ?_)
 obtain ⟨h1, X, A⟩ := A.s0 9 [.str p1.Aj] [_, _, _, _, _, _, _, _, _, _, _, _, _]
 refine Bu 2 [] X H fun D t H => ?_
 refine at_nil ?_
 obtain rfl := BB M
 refine ⟨.inr rfl, .tuple [], rH H, ?_⟩
 exact ⟨rfl, A⟩
end
end Go.Av.L
