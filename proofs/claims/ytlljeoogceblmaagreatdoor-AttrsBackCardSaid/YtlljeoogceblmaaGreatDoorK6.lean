/-
 A part.
-/
import Derived.Test.YtlljeoogceblmaaGreatDoorKCfg
import Derived.Test.YtlljeoogceblmaaGreatDoorK0
import Derived.Test.YtlljeoogceblmaaGreatDoorK2
import Derived.Test.YtlljeoogceblmaaGreatDoorK3
import Derived.Test.YtlljeoogceblmaaGreatDoorK4
import Derived.Test.YtlljeoogceblmaaGreatDoorK5
namespace Go.Av.L
open Go.Av Go.Lib
set_option maxRecDepth 10000
set_option linter.unusedVariables false
set_option linter.unusedSimpArgs false
variable {g : Gd} {h : AD} {F : List Ck} {av : List AA}
noncomputable section
def Bn (p1 : List AB) (s : (List AB) × Int × (List UInt8) × (List UInt8) × Int × Int × Int × Int × (List UInt8) × (List UInt8) × Int × Int × Int × Int × (List UInt8) × Int) : Option (((List AB) × Int × (List UInt8) × (List UInt8) × Int × Int × Int × Int × (List UInt8) × (List UInt8) × Int × Int × Int × Int × (List UInt8) × Int) ⊕ (((List AB) × Int × (List UInt8) × (List UInt8) × Int × Int × Int × Int × (List UInt8) × (List UInt8) × Int × Int × Int × Int × (List UInt8)) ⊕ ((List AB) × Int × (List UInt8) × (List UInt8) × Int × Int × Int × Int × (List UInt8) × (List UInt8) × Int × Int × Int × Int × (List UInt8) × Int × Int))) :=
 match s with
 | (x1, x2, x3, x4, x5, x6, x7, x8, x9, x10, x11, x12, x13, x14, x15, x16) => Ad (decide (x16 < (p1.length : Int))) (((IG p1 x16).bind fun x80 => Ad (x80.Key == ([103, 105, 100] : List UInt8)) ((C8 x80.Value (⟨x3, x4, x5, x6, x7, x8, x9, x10, x11, x12, (⟨x13, x14⟩ : Ac), x1, x15⟩ : AL)).bind fun (x81, x82) => Ad (x81 != 0) (some (.inr (x2, x82.Name, x82.AU, x82.Kind, x82.Mode, x82.BP, x82.BQ, x82.AN, x82.AO, x82.Aa, x82.Ag, x82.Time.B6, x82.Time.BA, x82.Data, (0 : Int), x81))) (some (.inl (x1, x2, x82.Name, x82.AU, x82.Kind, x82.Mode, x82.BP, x82.BQ, x82.AN, x82.AO, x82.Aa, x82.Ag, x82.Time.B6, x82.Time.BA, x82.Data)))) (Ad (x80.Key == ([117, 105, 100] : List UInt8)) ((C7 x80.Value (⟨x3, x4, x5, x6, x7, x8, x9, x10, x11, x12, (⟨x13, x14⟩ : Ac), x1, x15⟩ : AL)).bind fun (x83, x84) => Ad (x83 != 0) (some (.inr (x2, x84.Name, x84.AU, x84.Kind, x84.Mode, x84.BP, x84.BQ, x84.AN, x84.AO, x84.Aa, x84.Ag, x84.Time.B6, x84.Time.BA, x84.Data, (0 : Int), x83))) (some (.inl (x1, x2, x84.Name, x84.AU, x84.Kind, x84.Mode, x84.BP, x84.BQ, x84.AN, x84.AO, x84.Aa, x84.Ag, x84.Time.B6, x84.Time.BA, x84.Data)))) (Ad (x80.Key == ([115, 105, 122, 101] : List UInt8)) ((Dc x80.Value x2).bind fun (x85, x86) => Ad (x85 != 0) (some (.inr (x86, x3, x4, x5, x6, x7, x8, x9, x10, x11, x12, x13, x14, x15, (0 : Int), x85))) (some (.inl (x1, x86, x3, x4, x5, x6, x7, x8, x9, x10, x11, x12, x13, x14, x15)))) (Ad (x80.Key == ([103, 110, 97, 109, 101] : List UInt8)) ((DK x80.Value (⟨x3, x4, x5, x6, x7, x8, x9, x10, x11, x12, (⟨x13, x14⟩ : Ac), x1, x15⟩ : AL)).bind fun (x87, x88) => Ad (x87 != 0) (some (.inr (x2, x88.Name, x88.AU, x88.Kind, x88.Mode, x88.BP, x88.BQ, x88.AN, x88.AO, x88.Aa, x88.Ag, x88.Time.B6, x88.Time.BA, x88.Data, (0 : Int), x87))) (some (.inl (x1, x2, x88.Name, x88.AU, x88.Kind, x88.Mode, x88.BP, x88.BQ, x88.AN, x88.AO, x88.Aa, x88.Ag, x88.Time.B6, x88.Time.BA, x88.Data)))) (Ad (x80.Key == ([117, 110, 97, 109, 101] : List UInt8)) ((DL x80.Value (⟨x3, x4, x5, x6, x7, x8, x9, x10, x11, x12, (⟨x13, x14⟩ : Ac), x1, x15⟩ : AL)).bind fun (x89, x90) => Ad (x89 != 0) (some (.inr (x2, x90.Name, x90.AU, x90.Kind, x90.Mode, x90.BP, x90.BQ, x90.AN, x90.AO, x90.Aa, x90.Ag, x90.Time.B6, x90.Time.BA, x90.Data, (0 : Int), x89))) (some (.inl (x1, x2, x90.Name, x90.AU, x90.Kind, x90.Mode, x90.BP, x90.BQ, x90.AN, x90.AO, x90.Aa, x90.Ag, x90.Time.B6, x90.Time.BA, x90.Data)))) (Ad (x80.Key == ([112, 97, 116, 104] : List UInt8)) ((Dd x80.Value (⟨x3, x4, x5, x6, x7, x8, x9, x10, x11, x12, (⟨x13, x14⟩ : Ac), x1, x15⟩ : AL)).bind fun (x91, x92) => Ad (x91 != 0) (some (.inr (x2, x92.Name, x92.AU, x92.Kind, x92.Mode, x92.BP, x92.BQ, x92.AN, x92.AO, x92.Aa, x92.Ag, x92.Time.B6, x92.Time.BA, x92.Data, (0 : Int), x91))) (some (.inl (x1, x2, x92.Name, x92.AU, x92.Kind, x92.Mode, x92.BP, x92.BQ, x92.AN, x92.AO, x92.Aa, x92.Ag, x92.Time.B6, x92.Time.BA, x92.Data)))) (Ad (x80.Key == ([108, 105, 110, 107, 112, 97, 116, 104] : List UInt8)) ((DJ x80.Value (⟨x3, x4, x5, x6, x7, x8, x9, x10, x11, x12, (⟨x13, x14⟩ : Ac), x1, x15⟩ : AL)).bind fun (x93, x94) => Ad (x93 != 0) (some (.inr (x2, x94.Name, x94.AU, x94.Kind, x94.Mode, x94.BP, x94.BQ, x94.AN, x94.AO, x94.Aa, x94.Ag, x94.Time.B6, x94.Time.BA, x94.Data, (0 : Int), x93))) (some (.inl (x1, x2, x94.Name, x94.AU, x94.Kind, x94.Mode, x94.BP, x94.BQ, x94.AN, x94.AO, x94.Aa, x94.Ag, x94.Time.B6, x94.Time.BA, x94.Data)))) (Ad (x80.Key == ([109, 116, 105, 109, 101] : List UInt8)) ((Dg x80.Value (⟨x3, x4, x5, x6, x7, x8, x9, x10, x11, x12, (⟨x13, x14⟩ : Ac), x1, x15⟩ : AL)).bind fun (x95, x96) => Ad (x95 != 0) (some (.inr (x2, x96.Name, x96.AU, x96.Kind, x96.Mode, x96.BP, x96.BQ, x96.AN, x96.AO, x96.Aa, x96.Ag, x96.Time.B6, x96.Time.BA, x96.Data, (0 : Int), x95))) (some (.inl (x1, x2, x96.Name, x96.AU, x96.Kind, x96.Mode, x96.BP, x96.BQ, x96.AN, x96.AO, x96.Aa, x96.Ag, x96.Time.B6, x96.Time.BA, x96.Data)))) (D3 (R4 32 (x1.length + ([x80] : List AB).length)) <| some (.inl ((x1 ++ ([x80] : List AB)), x2, x3, x4, x5, x6, x7, x8, x9, x10, x11, x12, x13, x14, x15)))))))))) : Option (((List AB) × Int × (List UInt8) × (List UInt8) × Int × Int × Int × Int × (List UInt8) × (List UInt8) × Int × Int × Int × Int × (List UInt8)) ⊕ (Int × (List UInt8) × (List UInt8) × Int × Int × Int × Int × (List UInt8) × (List UInt8) × Int × Int × Int × Int × (List UInt8) × Int × Int))).bind fun o2 => (match o2 with | .inl (x49, x50, x51, x52, x53, x54, x55, x56, x57, x58, x59, x60, x61, x62, x63) => some (.inl (x49, x50, x51, x52, x53, x54, x55, x56, x57, x58, x59, x60, x61, x62, x63, IntKind.i64.wrap (x16 + 1))) | .inr (x64, x65, x66, x67, x68, x69, x70, x71, x72, x73, x74, x75, x76, x77, x78, x79) => some (.inr (.inr (x1, x64, x65, x66, x67, x68, x69, x70, x71, x72, x73, x74, x75, x76, x77, x78, x79))))) (some (.inr (.inl (x1, x2, x3, x4, x5, x6, x7, x8, x9, x10, x11, x12, x13, x14, x15))))
def Dh (p0 : AJ) (p1 : List AB) : Option (AL × Int × Int) :=
 (loop (Bn p1) (([] : List AB), p0.BU, p0.Name, p0.AU, p0.Kind, p0.Mode, p0.BP, p0.BQ, p0.AN, p0.AO, p0.Aa, p0.Ag, p0.Time, (0 : Int), ([] : List UInt8), (0 : Int))).bind fun o1 => (match o1 with | .inl (x17, x18, x19, x20, x21, x22, x23, x24, x25, x26, x27, x28, x29, x30, x31) => some ((⟨x19, x20, x21, x22, x23, x24, x25, x26, x27, x28, (⟨x29, x30⟩ : Ac), x17, x31⟩ : AL), x18, (0 : Int)) | .inr (x32, x33, x34, x35, x36, x37, x38, x39, x40, x41, x42, x43, x44, x45, x46, x47, x48) => some ((⟨([] : List UInt8), ([] : List UInt8), (0 : Int), (0 : Int), (0 : Int), (0 : Int), ([] : List UInt8), ([] : List UInt8), (0 : Int), (0 : Int), (⟨(0 : Int), (0 : Int)⟩ : Ac), ([] : List AB), ([] : List UInt8)⟩ : AL), x47, x48))
theorem K0 {p0 p1 rp1 q0 q1 q2} (hm : Dh p0 p1 = some (q0, q1, q2)) (A : HH g h [.Ak rp1 117 (Ak AE p1)] F) (hc : BG (cfg.still 30) av = [.agg (AF p0), Af rp1 p1.length] := by kernel_rfl) : ∃ v h', BH cfg g h 30 av v h' ∧ v = .tuple [.agg (AI q0), Ai q1, Ai q2] ∧ HH g h' [.Ak rp1 117 (Ak AE p1)] F := by
 refine bd 74 [.cell 4 26, .tmp 5, .tmp 6] hc ?_
 clear hc
 unfold Dh at hm
 refine bg 74 [(0, .agg (AF p0)), (1, Af rp1 p1.length)] fun fr H => ?_
 refine AG 4 ?_
 obtain ⟨h1, e1, A⟩ := A.pu (.cells none 2 (AF p0))
 refine BK 2 (.ptr (some (h.size, 0))) e1 H fun fr t H => ?_
 obtain ⟨h2, e2, A⟩ := A.pu (.cells none 2 [.str ([] : List UInt8), .str ([] : List UInt8), Ab 0, Ai 0, Ai 0, Ai 0, .str ([] : List UInt8), .str ([] : List UInt8), Ai 0, Ai 0, Ai 0, Ai 0, .slice none 0, .str ([] : List UInt8)])
 refine BK 4 (.ptr (some (h1.size, 0))) e2 H fun fr t H => ?_
 refine Bg 2 [] 26 H fun fr H => AV 1 [] 16 1 0 A H fun fr t H => ?_
 refine AV 1 [] 18 1 1 A H fun fr t H => ?_
 refine AV 1 [] 20 1 2 A H fun fr t H => ?_
 refine AV 1 [] 22 1 3 A H fun fr t H => ?_
 refine AV 1 [] 24 1 4 A H fun fr t H => ?_
 refine AV 1 [] 26 1 5 A H fun fr t H => ?_
 refine AV 1 [] 28 1 8 A H fun fr t H => ?_
 refine AV 1 [] 30 1 9 A H fun fr t H => ?_
 refine AV 1 [] 32 1 10 A H fun fr t H => ?_
 refine AV 1 [] 34 1 11 A H fun fr t H => ?_
 refine AV 1 [] 36 1 7 A H fun fr t H => ?_
 obtain ⟨h3, e3, A⟩ := A.pu (.cells none 2 [.str ([] : List UInt8), .str ([] : List UInt8), Ab 0, Ai 0, Ai 0, Ai 0, .str ([] : List UInt8), .str ([] : List UInt8), Ai 0, Ai 0, Ai 0, Ai 0, .slice none 0, .str ([] : List UInt8)])
 refine JA 2 [(38, .agg [.str p0.Name, .str p0.AU, Ab p0.Kind, Ai p0.Mode, Ai p0.BP, Ai p0.BQ, .str p0.AN, .str p0.AO, Ai p0.Aa, Ai p0.Ag, Ai p0.Time, Ai (0 : Int), .slice none 0, .str ([] : List UInt8)])] 7 (.ptr (some (h2.size, 0))) e3 H fun fr t H => ?_
 obtain ⟨h4, hx, A1⟩ := A.st 0 rfl (o := 0) (new := [.str p0.Name, .str p0.AU, Ab p0.Kind, Ai p0.Mode, Ai p0.BP, Ai p0.BQ, .str p0.AN, .str p0.AO, Ai p0.Aa, Ai p0.Ag, Ai p0.Time, Ai 0, .slice none 0, .str ([] : List UInt8)]) (ds := [.str p0.Name, .str p0.AU, Ab p0.Kind, Ai p0.Mode, Ai p0.BP, Ai p0.BQ, .str p0.AN, .str p0.AO, Ai p0.Aa, Ai p0.Ag, Ai p0.Time, Ai 0, .slice none 0, .str ([] : List UInt8)]) (Nat.le_of_ble_eq_true rfl) rfl rfl
 replace A : HH g h4 [.obj h2.size (.cells none 2 [.str p0.Name, .str p0.AU, Ab p0.Kind, Ai p0.Mode, Ai p0.BP, Ai p0.BQ, .str p0.AN, .str p0.AO, Ai p0.Aa, Ai p0.Ag, Ai p0.Time, Ai 0, .slice none 0, .str ([] : List UInt8)]), .obj h1.size (.cells none 2 [.str ([] : List UInt8), .str ([] : List UInt8), Ab 0, Ai 0, Ai 0, Ai 0, .str ([] : List UInt8), .str ([] : List UInt8), Ai 0, Ai 0, Ai 0, Ai 0, .slice none 0, .str ([] : List UInt8)]), .obj h.size (.cells none 2 (AF p0)), _] F := A1
 refine Ch hx H fun fr t H => ?_
 refine CJ 4 id (AV 1 [] 40 2 6 A H fun fr t H => ?_)
 obtain ⟨h5, e4, A⟩ := A.pu (.cells none 2 [Ai 0])
 refine BK 8 (.ptr (some (h4.size, 0))) e4 H fun fr t H => ?_
 obtain ⟨h6, hx, A⟩ := A.s0 0 [Ai p0.BU] [_]
 refine JB hx H fun fr t H => ?_
 refine CJ 2 id ?_
 obtain ⟨h7, e5⟩ : ∃ x, x = h6.push (.map 3 [(.str ([103, 105, 100] : List UInt8), .func (.func 194) [] [.AR [.ptr (some (h2.size, 5))]]), (.str ([117, 105, 100] : List UInt8), .func (.func 194) [] [.AR [.ptr (some (h2.size, 4))]]), (.str ([115, 105, 122, 101] : List UInt8), .func (.func 194) [] [.AR [.ptr (some (h4.size, 0))]]), (.str ([103, 110, 97, 109, 101] : List UInt8), .func (.func 195) [] [.AR [.ptr (some (h2.size, 7))]]), (.str ([117, 110, 97, 109, 101] : List UInt8), .func (.func 195) [] [.AR [.ptr (some (h2.size, 6))]]), (.str ([112, 97, 116, 104] : List UInt8), .func (.func 195) [] [.AR [.ptr (some (h2.size, 0))]]), (.str ([108, 105, 110, 107, 112, 97, 116, 104] : List UInt8), .func (.func 195) [] [.AR [.ptr (some (h2.size, 1))]]), (.str ([109, 116, 105, 109, 101] : List UInt8), .func (.func 142) [] [.AR [.ptr (some (h2.size, 0))]])]) := ⟨_, rfl⟩
 replace A : HH g h7 [.obj h6.size (.map 3 [(.str ([103, 105, 100] : List UInt8), .func (.func 194) [] [.AR [.ptr (some (h2.size, 5))]]), (.str ([117, 105, 100] : List UInt8), .func (.func 194) [] [.AR [.ptr (some (h2.size, 4))]]), (.str ([115, 105, 122, 101] : List UInt8), .func (.func 194) [] [.AR [.ptr (some (h4.size, 0))]]), (.str ([103, 110, 97, 109, 101] : List UInt8), .func (.func 195) [] [.AR [.ptr (some (h2.size, 7))]]), (.str ([117, 110, 97, 109, 101] : List UInt8), .func (.func 195) [] [.AR [.ptr (some (h2.size, 6))]]), (.str ([112, 97, 116, 104] : List UInt8), .func (.func 195) [] [.AR [.ptr (some (h2.size, 0))]]), (.str ([108, 105, 110, 107, 112, 97, 116, 104] : List UInt8), .func (.func 195) [] [.AR [.ptr (some (h2.size, 1))]]), (.str ([109, 116, 105, 109, 101] : List UInt8), .func (.func 142) [] [.AR [.ptr (some (h2.size, 0))]])]), _, _, _, _, _] F := (A.push _).to e5
 have hr : ∀ g, BH cfg g h6 82 [.ptr (some (h2.size, 0)), .ptr (some (h4.size, 0))] (.map (some h6.size)) h7 := fun g => by rw [e5]; exact Vi (C := cfg) (f := 82) (j := 0) (n := 2) (es := [(.str ([103, 105, 100] : List UInt8), .func (.func 194) [] [.AR [.ptr (some (h2.size, 5))]]), (.str ([117, 105, 100] : List UInt8), .func (.func 194) [] [.AR [.ptr (some (h2.size, 4))]]), (.str ([115, 105, 122, 101] : List UInt8), .func (.func 194) [] [.AR [.ptr (some (h4.size, 0))]]), (.str ([103, 110, 97, 109, 101] : List UInt8), .func (.func 195) [] [.AR [.ptr (some (h2.size, 7))]]), (.str ([117, 110, 97, 109, 101] : List UInt8), .func (.func 195) [] [.AR [.ptr (some (h2.size, 6))]]), (.str ([112, 97, 116, 104] : List UInt8), .func (.func 195) [] [.AR [.ptr (some (h2.size, 0))]]), (.str ([108, 105, 110, 107, 112, 97, 116, 104] : List UInt8), .func (.func 195) [] [.AR [.ptr (some (h2.size, 1))]]), (.str ([109, 116, 105, 109, 101] : List UInt8), .func (.func 142) [] [.AR [.ptr (some (h2.size, 0))]])]) (by kernel_rfl) (l := exts) rfl (by kernel_rfl) (by kernel_rfl) (by kernel_rfl)
 refine Ae 41 _ _ H (fun fr => Steps.call (by kernel_rfl) (hr _)) fun fr t H => ?_
 refine AK 1 [(9, .map (some h6.size))] H fun fr H => AP (AG 3 (AK 3 [(42, Af rp1 p1.length), (43, Ai (p1.length : Int)), (44, Ai 0)] H fun fr H => AY (id := 0) (by kernel_rfl) ?_))
 replace A : HH g h7 [.Ak none 117 (Ak AE ([] : List AB)), _, _, _, _, _, _] F := A.T9 117
 obtain ⟨o1, ho, hm⟩ := bind_some hm
 refine BJ (Q' := fun e fr' h' => (∃ x17 x18 x19 x20 x21 x22 x23 x24 x25 x26 x27 x28 x29 x30 x31, e = .exit 0 ∧ .inl (x17, x18, x19, x20, x21, x22, x23, x24, x25, x26, x27, x28, x29, x30, x31) = o1 ∧ ∃ r2, Has fr' 74 [(4, .ptr (some (h1.size, 0))), (7, .ptr (some (h2.size, 0))), (8, .ptr (some (h4.size, 0)))] ∧ HH g h' [.Ak r2 117 (Ak AE x17), .obj h6.size (.map 3 [(.str ([103, 105, 100] : List UInt8), .func (.func 194) [] [.AR [.ptr (some (h2.size, 5))]]), (.str ([117, 105, 100] : List UInt8), .func (.func 194) [] [.AR [.ptr (some (h2.size, 4))]]), (.str ([115, 105, 122, 101] : List UInt8), .func (.func 194) [] [.AR [.ptr (some (h4.size, 0))]]), (.str ([103, 110, 97, 109, 101] : List UInt8), .func (.func 195) [] [.AR [.ptr (some (h2.size, 7))]]), (.str ([117, 110, 97, 109, 101] : List UInt8), .func (.func 195) [] [.AR [.ptr (some (h2.size, 6))]]), (.str ([112, 97, 116, 104] : List UInt8), .func (.func 195) [] [.AR [.ptr (some (h2.size, 0))]]), (.str ([108, 105, 110, 107, 112, 97, 116, 104] : List UInt8), .func (.func 195) [] [.AR [.ptr (some (h2.size, 1))]]), (.str ([109, 116, 105, 109, 101] : List UInt8), .func (.func 142) [] [.AR [.ptr (some (h2.size, 0))]])]), .obj h4.size (.cells none 2 [Ai x18]), .obj h2.size (.cells none 2 [.str x19, .str x20, Ab x21, Ai x22, Ai x23, Ai x24, .str x25, .str x26, Ai x27, Ai x28, Ai x29, Ai x30, Af r2 x17.length, .str x31]), .obj h1.size (.cells none 2 [.str ([] : List UInt8), .str ([] : List UInt8), Ab 0, Ai 0, Ai 0, Ai 0, .str ([] : List UInt8), .str ([] : List UInt8), Ai 0, Ai 0, Ai 0, Ai 0, .slice none 0, .str ([] : List UInt8)]), .obj h.size (.cells none 2 (AF p0)), .Ak rp1 117 (Ak AE p1)] F) ∨ (∃ x32 x33 x34 x35 x36 x37 x38 x39 x40 x41 x42 x43 x44 x45 x46 x47 x48, e = .ret ∧ .inr (x32, x33, x34, x35, x36, x37, x38, x39, x40, x41, x42, x43, x44, x45, x46, x47, x48) = o1 ∧ ∃ r3, Has fr' 74 [(4, .ptr (some (h1.size, 0))), (5, Ai x47), (6, Ai x48)] ∧ HH g h' [.Ak r3 117 (Ak AE x32), .obj h6.size (.map 3 [(.str ([103, 105, 100] : List UInt8), .func (.func 194) [] [.AR [.ptr (some (h2.size, 5))]]), (.str ([117, 105, 100] : List UInt8), .func (.func 194) [] [.AR [.ptr (some (h2.size, 4))]]), (.str ([115, 105, 122, 101] : List UInt8), .func (.func 194) [] [.AR [.ptr (some (h4.size, 0))]]), (.str ([103, 110, 97, 109, 101] : List UInt8), .func (.func 195) [] [.AR [.ptr (some (h2.size, 7))]]), (.str ([117, 110, 97, 109, 101] : List UInt8), .func (.func 195) [] [.AR [.ptr (some (h2.size, 6))]]), (.str ([112, 97, 116, 104] : List UInt8), .func (.func 195) [] [.AR [.ptr (some (h2.size, 0))]]), (.str ([108, 105, 110, 107, 112, 97, 116, 104] : List UInt8), .func (.func 195) [] [.AR [.ptr (some (h2.size, 1))]]), (.str ([109, 116, 105, 109, 101] : List UInt8), .func (.func 142) [] [.AR [.ptr (some (h2.size, 0))]])]), .obj h4.size (.cells none 2 [Ai x33]), .obj h2.size (.cells none 2 [.str x34, .str x35, Ab x36, Ai x37, Ai x38, Ai x39, .str x40, .str x41, Ai x42, Ai x43, Ai x44, Ai x45, Af r3 x32.length, .str x46]), .obj h1.size (.cells none 2 [.str ([] : List UInt8), .str ([] : List UInt8), Ab 0, Ai 0, Ai 0, Ai 0, .str ([] : List UInt8), .str ([] : List UInt8), Ai 0, Ai 0, Ai 0, Ai 0, .slice none 0, .str ([] : List UInt8)]), .obj h.size (.cells none 2 (AF p0)), .Ak rp1 117 (Ak AE p1)] F) ∨ False) ?_ ?_
 ·refine Ce (by kernel_rfl) (fun (s : (List AB) × Int × (List UInt8) × (List UInt8) × Int × Int × Int × Int × (List UInt8) × (List UInt8) × Int × Int × Int × Int × (List UInt8) × Int) fr' h' => ∃ x1 x2 x3 x4 x5 x6 x7 x8 x9 x10 x11 x12 x13 x14 x15 x16, (x1, x2, x3, x4, x5, x6, x7, x8, x9, x10, x11, x12, x13, x14, x15, x16) = s ∧ ∃ r1, Has fr' 74 [(4, .ptr (some (h1.size, 0))), (7, .ptr (some (h2.size, 0))), (8, .ptr (some (h4.size, 0))), (9, .map (some h6.size)), (42, Af rp1 p1.length), (43, Ai (p1.length : Int)), (44, Ai x16)] ∧ HH g h' [.Ak r1 117 (Ak AE x1), .obj h6.size (.map 3 [(.str ([103, 105, 100] : List UInt8), .func (.func 194) [] [.AR [.ptr (some (h2.size, 5))]]), (.str ([117, 105, 100] : List UInt8), .func (.func 194) [] [.AR [.ptr (some (h2.size, 4))]]), (.str ([115, 105, 122, 101] : List UInt8), .func (.func 194) [] [.AR [.ptr (some (h4.size, 0))]]), (.str ([103, 110, 97, 109, 101] : List UInt8), .func (.func 195) [] [.AR [.ptr (some (h2.size, 7))]]), (.str ([117, 110, 97, 109, 101] : List UInt8), .func (.func 195) [] [.AR [.ptr (some (h2.size, 6))]]), (.str ([112, 97, 116, 104] : List UInt8), .func (.func 195) [] [.AR [.ptr (some (h2.size, 0))]]), (.str ([108, 105, 110, 107, 112, 97, 116, 104] : List UInt8), .func (.func 195) [] [.AR [.ptr (some (h2.size, 1))]]), (.str ([109, 116, 105, 109, 101] : List UInt8), .func (.func 142) [] [.AR [.ptr (some (h2.size, 0))]])]), .obj h4.size (.cells none 2 [Ai x2]), .obj h2.size (.cells none 2 [.str x3, .str x4, Ab x5, Ai x6, Ai x7, Ai x8, .str x9, .str x10, Ai x11, Ai x12, Ai x13, Ai x14, Af r1 x1.length, .str x15]), .obj h1.size (.cells none 2 [.str ([] : List UInt8), .str ([] : List UInt8), Ab 0, Ai 0, Ai 0, Ai 0, .str ([] : List UInt8), .str ([] : List UInt8), Ai 0, Ai 0, Ai 0, Ai 0, .slice none 0, .str ([] : List UInt8)]), .obj h.size (.cells none 2 (AF p0)), .Ak rp1 117 (Ak AE p1)] F) ho ⟨_, _, _, _, _, _, _, _, _, _, _, _, _, _, _, _, rfl, none, H.ls, A⟩ ?_
  clear ho hm H A
  intro s q fr h8 hI hm
  obtain ⟨x1, x2, x3, x4, x5, x6, x7, x8, x9, x10, x11, x12, x13, x14, x15, x16, rfl, r1, H, A⟩ := hI
  unfold Bn at hm
  refine AG 1 (AK 1 [(45, .bool (decide (x16 < (p1.length : Int))))] H fun fr H => AP (AZ 45 H hm (fun hb hm H => ?_) fun hb hm H => ?_))
  ·refine CI id (AP ?_)
   obtain ⟨o2, ho, hm⟩ := bind_some hm
   refine BJ (Q' := fun e fr' h' => (∃ x49 x50 x51 x52 x53 x54 x55 x56 x57 x58 x59 x60 x61 x62 x63, e = .normal ∧ .inl (x49, x50, x51, x52, x53, x54, x55, x56, x57, x58, x59, x60, x61, x62, x63) = o2 ∧ ∃ r4, Has fr' 74 [(4, .ptr (some (h1.size, 0))), (7, .ptr (some (h2.size, 0))), (8, .ptr (some (h4.size, 0))), (9, .map (some h6.size)), (42, Af rp1 p1.length), (43, Ai (p1.length : Int)), (44, Ai x16)] ∧ HH g h' [.Ak r4 117 (Ak AE x49), .obj h6.size (.map 3 [(.str ([103, 105, 100] : List UInt8), .func (.func 194) [] [.AR [.ptr (some (h2.size, 5))]]), (.str ([117, 105, 100] : List UInt8), .func (.func 194) [] [.AR [.ptr (some (h2.size, 4))]]), (.str ([115, 105, 122, 101] : List UInt8), .func (.func 194) [] [.AR [.ptr (some (h4.size, 0))]]), (.str ([103, 110, 97, 109, 101] : List UInt8), .func (.func 195) [] [.AR [.ptr (some (h2.size, 7))]]), (.str ([117, 110, 97, 109, 101] : List UInt8), .func (.func 195) [] [.AR [.ptr (some (h2.size, 6))]]), (.str ([112, 97, 116, 104] : List UInt8), .func (.func 195) [] [.AR [.ptr (some (h2.size, 0))]]), (.str ([108, 105, 110, 107, 112, 97, 116, 104] : List UInt8), .func (.func 195) [] [.AR [.ptr (some (h2.size, 1))]]), (.str ([109, 116, 105, 109, 101] : List UInt8), .func (.func 142) [] [.AR [.ptr (some (h2.size, 0))]])]), .obj h4.size (.cells none 2 [Ai x50]), .obj h2.size (.cells none 2 [.str x51, .str x52, Ab x53, Ai x54, Ai x55, Ai x56, .str x57, .str x58, Ai x59, Ai x60, Ai x61, Ai x62, Af r4 x49.length, .str x63]), .obj h1.size (.cells none 2 [.str ([] : List UInt8), .str ([] : List UInt8), Ab 0, Ai 0, Ai 0, Ai 0, .str ([] : List UInt8), .str ([] : List UInt8), Ai 0, Ai 0, Ai 0, Ai 0, .slice none 0, .str ([] : List UInt8)]), .obj h.size (.cells none 2 (AF p0)), .Ak rp1 117 (Ak AE p1)] F) ∨ (∃ x64 x65 x66 x67 x68 x69 x70 x71 x72 x73 x74 x75 x76 x77 x78 x79, e = .ret ∧ .inr (x64, x65, x66, x67, x68, x69, x70, x71, x72, x73, x74, x75, x76, x77, x78, x79) = o2 ∧ Has fr' 74 [(4, .ptr (some (h1.size, 0))), (5, Ai x78), (6, Ai x79)] ∧ HH g h' [.Ak r1 117 (Ak AE x1), .obj h6.size (.map 3 [(.str ([103, 105, 100] : List UInt8), .func (.func 194) [] [.AR [.ptr (some (h2.size, 5))]]), (.str ([117, 105, 100] : List UInt8), .func (.func 194) [] [.AR [.ptr (some (h2.size, 4))]]), (.str ([115, 105, 122, 101] : List UInt8), .func (.func 194) [] [.AR [.ptr (some (h4.size, 0))]]), (.str ([103, 110, 97, 109, 101] : List UInt8), .func (.func 195) [] [.AR [.ptr (some (h2.size, 7))]]), (.str ([117, 110, 97, 109, 101] : List UInt8), .func (.func 195) [] [.AR [.ptr (some (h2.size, 6))]]), (.str ([112, 97, 116, 104] : List UInt8), .func (.func 195) [] [.AR [.ptr (some (h2.size, 0))]]), (.str ([108, 105, 110, 107, 112, 97, 116, 104] : List UInt8), .func (.func 195) [] [.AR [.ptr (some (h2.size, 1))]]), (.str ([109, 116, 105, 109, 101] : List UInt8), .func (.func 142) [] [.AR [.ptr (some (h2.size, 0))]])]), .obj h4.size (.cells none 2 [Ai x64]), .obj h2.size (.cells none 2 [.str x65, .str x66, Ab x67, Ai x68, Ai x69, Ai x70, .str x71, .str x72, Ai x73, Ai x74, Ai x75, Ai x76, Af r1 x1.length, .str x77]), .obj h1.size (.cells none 2 [.str ([] : List UInt8), .str ([] : List UInt8), Ab 0, Ai 0, Ai 0, Ai 0, .str ([] : List UInt8), .str ([] : List UInt8), Ai 0, Ai 0, Ai 0, Ai 0, .slice none 0, .str ([] : List UInt8)]), .obj h.size (.cells none 2 (AF p0)), .Ak rp1 117 (Ak AE p1)] F) ∨ False) ?_ ?_
   ·replace hm := ho
    clear ho
    refine AY (id := 1) (by kernel_rfl) ?_
    refine AG 4 ?_
    obtain ⟨x80, hx, hm⟩ := bind_some hm
    obtain ⟨i1, er1, _, hx, hq1⟩ := HH.XQ Am (by decide) A 6 (xs := p1) rfl hx
    refine Ae 46 (.ptr (some (i1, x16.toNat * 2))) h8 H (fun fr => .of (LP (s := EF rp1 p1.length) (by kernel_rfl) hx)) fun fr t H => ?_
    refine Ae 47 _ _ H (fun fr => .of (BM (by kernel_rfl) (QQ Am (HH.row A 6 rfl er1) hq1 0 2 (Nat.le_of_ble_eq_true rfl)))) fun fr t H => ?_
    obtain ⟨h9, e6, A⟩ := A.pu (.cells none 2 [.str ([] : List UInt8), .str ([] : List UInt8)])
    refine BK 11 (.ptr (some (h8.size, 0))) e6 H fun fr t H => ?_
    obtain ⟨h10, hx, A⟩ := A.s0 0 [.str x80.Key, .str x80.Value] [_, _]
    refine Ch hx H fun fr t H => ?_
    refine CJ 9 id (AV 2 [(49, .map (some h6.size))] 51 0 0 A H fun fr t H => ?_)
    rcases Ax hm with ⟨hb, hm⟩ | ⟨hk1, hm⟩
    ·refine Ae 52 (.tuple [.func (.func 194) [] [.AR [.ptr (some (h2.size, 5))]], .bool true]) h10 H (fun fr => .of (Fx (by kernel_rfl) (HH.Ew (P := cfg.P) A 2 rfl (t := 140) (kt := 9) (et := 144) (by kernel_rfl) (by kernel_rfl) (s := x80.Key) (.hit hb)))) fun fr t H => ?_
     refine AK 5 [(12, .func (.func 194) [] [.AR [.ptr (some (h2.size, 5))]]), (13, .bool true)] H fun fr H => AP (AG 2 (AK 2 [(56, .bool false)] H fun fr H => E8 (x := .tmp 56) (by kernel_rfl) H (fun fr => by kernel_rfl) ?_))
     refine Br 5 id (AV 2 [(63, .func (.func 194) [] [.AR [.ptr (some (h2.size, 5))]])] 65 0 1 A H fun fr t H => ?_)
     replace A := A.k8 4 1 0 2 3 5 6 7
     obtain ⟨⟨x81, x82⟩, hx, hm⟩ := bind_some hm
     obtain ⟨v1, h11, hr, rfl, A1⟩ := IC (av := [.str x80.Value, .AR [.ptr (some (h2.size, 5))]]) hx (A.cut 2)
     replace A := A.g22 A1
     refine Aw 66 hr H fun fr t H => ?_
     refine Bg 1 [(14, Ai x81)] 2 H fun fr H => AK 2 [(68, .bool (x81 != 0))] H fun fr H => AZ 68 H hm (fun hb hm H => ?_) fun hb hm H => ?_
     ·refine AG 5 ?_
      obtain ⟨h12, hx, A⟩ := A.s5 0 [.str ([] : List UInt8), .str ([] : List UInt8), Ab 0, Ai 0, Ai 0, Ai 0, .str ([] : List UInt8), .str ([] : List UInt8), Ai 0, Ai 0, Ai 0, Ai 0, .slice none 0, .str ([] : List UInt8)] [_, _, _, _, _, _, _, _, _, _, _, _, _, _]
      refine Es 2 [(70, Ai x81)] hx H fun fr t H => ?_
      refine AK 2 [(5, Ai 0), (6, Ai x81)] H fun fr H => AS ?_
      replace A := A.k7 1 3 4 0 5 6 7
      exact .inr (.inl ⟨_, _, _, _, _, _, _, _, _, _, _, _, _, _, _, _, rfl, An hm, H.ls, A⟩)
     refine D5 ?_
     replace A := A.k7 1 3 4 0 5 6 7
     exact .inl ⟨_, _, _, _, _, _, _, _, _, _, _, _, _, _, _, rfl, An hm, _, H.ls, A⟩
    rcases Ax hm with ⟨hb, hm⟩ | ⟨hk2, hm⟩
    ·refine Ae 52 (.tuple [.func (.func 194) [] [.AR [.ptr (some (h2.size, 4))]], .bool true]) h10 H (fun fr => .of (Fx (by kernel_rfl) (HH.Ew (P := cfg.P) A 2 rfl (t := 140) (kt := 9) (et := 144) (by kernel_rfl) (by kernel_rfl) (s := x80.Key) (.Be hk1 (.hit hb))))) fun fr t H => ?_
     refine AK 5 [(12, .func (.func 194) [] [.AR [.ptr (some (h2.size, 4))]]), (13, .bool true)] H fun fr H => AP (AG 2 (AK 2 [(56, .bool false)] H fun fr H => E8 (x := .tmp 56) (by kernel_rfl) H (fun fr => by kernel_rfl) ?_))
     refine Br 5 id (AV 2 [(63, .func (.func 194) [] [.AR [.ptr (some (h2.size, 4))]])] 65 0 1 A H fun fr t H => ?_)
     replace A := A.k8 4 1 0 2 3 5 6 7
     obtain ⟨⟨x83, x84⟩, hx, hm⟩ := bind_some hm
     obtain ⟨v1, h13, hr, rfl, A1⟩ := H0 (av := [.str x80.Value, .AR [.ptr (some (h2.size, 4))]]) hx (A.cut 2)
     replace A := A.g22 A1
     refine Aw 66 hr H fun fr t H => ?_
     refine Bg 1 [(14, Ai x83)] 2 H fun fr H => AK 2 [(68, .bool (x83 != 0))] H fun fr H => AZ 68 H hm (fun hb hm H => ?_) fun hb hm H => ?_
     ·refine AG 5 ?_
      obtain ⟨h14, hx, A⟩ := A.s5 0 [.str ([] : List UInt8), .str ([] : List UInt8), Ab 0, Ai 0, Ai 0, Ai 0, .str ([] : List UInt8), .str ([] : List UInt8), Ai 0, Ai 0, Ai 0, Ai 0, .slice none 0, .str ([] : List UInt8)] [_, _, _, _, _, _, _, _, _, _, _, _, _, _]
      refine Es 2 [(70, Ai x83)] hx H fun fr t H => ?_
      refine AK 2 [(5, Ai 0), (6, Ai x83)] H fun fr H => AS ?_
      replace A := A.k7 1 3 4 0 5 6 7
      exact .inr (.inl ⟨_, _, _, _, _, _, _, _, _, _, _, _, _, _, _, _, rfl, An hm, H.ls, A⟩)
     refine D5 ?_
     replace A := A.k7 1 3 4 0 5 6 7
     exact .inl ⟨_, _, _, _, _, _, _, _, _, _, _, _, _, _, _, rfl, An hm, _, H.ls, A⟩
    rcases Ax hm with ⟨hb, hm⟩ | ⟨hk3, hm⟩
    ·refine Ae 52 (.tuple [.func (.func 194) [] [.AR [.ptr (some (h4.size, 0))]], .bool true]) h10 H (fun fr => .of (Fx (by kernel_rfl) (HH.Ew (P := cfg.P) A 2 rfl (t := 140) (kt := 9) (et := 144) (by kernel_rfl) (by kernel_rfl) (s := x80.Key) (.Be hk1 (.Be hk2 (.hit hb)))))) fun fr t H => ?_
     refine AK 5 [(12, .func (.func 194) [] [.AR [.ptr (some (h4.size, 0))]]), (13, .bool true)] H fun fr H => AP (AG 2 (AK 2 [(56, .bool false)] H fun fr H => E8 (x := .tmp 56) (by kernel_rfl) H (fun fr => by kernel_rfl) ?_))
     refine Br 5 id (AV 2 [(63, .func (.func 194) [] [.AR [.ptr (some (h4.size, 0))]])] 65 0 1 A H fun fr t H => ?_)
     replace A := A.k8 3 0 1 2 4 5 6 7
     obtain ⟨⟨x85, x86⟩, hx, hm⟩ := bind_some hm
     obtain ⟨v1, h15, hr, rfl, A1⟩ := I8 (av := [.str x80.Value, .AR [.ptr (some (h4.size, 0))]]) hx (A.cut 1)
     replace A := A.g11 A1
     refine Aw 66 hr H fun fr t H => ?_
     refine Bg 1 [(14, Ai x85)] 2 H fun fr H => AK 2 [(68, .bool (x85 != 0))] H fun fr H => AZ 68 H hm (fun hb hm H => ?_) fun hb hm H => ?_
     ·refine AG 5 ?_
      obtain ⟨h16, hx, A⟩ := A.s5 0 [.str ([] : List UInt8), .str ([] : List UInt8), Ab 0, Ai 0, Ai 0, Ai 0, .str ([] : List UInt8), .str ([] : List UInt8), Ai 0, Ai 0, Ai 0, Ai 0, .slice none 0, .str ([] : List UInt8)] [_, _, _, _, _, _, _, _, _, _, _, _, _, _]
      refine Es 2 [(70, Ai x85)] hx H fun fr t H => ?_
      refine AK 2 [(5, Ai 0), (6, Ai x85)] H fun fr H => AS ?_
      replace A := A.k7 2 3 0 4 5 6 7
      exact .inr (.inl ⟨_, _, _, _, _, _, _, _, _, _, _, _, _, _, _, _, rfl, An hm, H.ls, A⟩)
     refine D5 ?_
     replace A := A.k7 2 3 0 4 5 6 7
     exact .inl ⟨_, _, _, _, _, _, _, _, _, _, _, _, _, _, _, rfl, An hm, _, H.ls, A⟩
    rcases Ax hm with ⟨hb, hm⟩ | ⟨hk4, hm⟩
    ·refine Ae 52 (.tuple [.func (.func 195) [] [.AR [.ptr (some (h2.size, 7))]], .bool true]) h10 H (fun fr => .of (Fx (by kernel_rfl) (HH.Ew (P := cfg.P) A 2 rfl (t := 140) (kt := 9) (et := 144) (by kernel_rfl) (by kernel_rfl) (s := x80.Key) (.Be hk1 (.Be hk2 (.Be hk3 (.hit hb))))))) fun fr t H => ?_
     refine AK 5 [(12, .func (.func 195) [] [.AR [.ptr (some (h2.size, 7))]]), (13, .bool true)] H fun fr H => AP (AG 2 (AK 2 [(56, .bool false)] H fun fr H => E8 (x := .tmp 56) (by kernel_rfl) H (fun fr => by kernel_rfl) ?_))
     refine Br 5 id (AV 2 [(63, .func (.func 195) [] [.AR [.ptr (some (h2.size, 7))]])] 65 0 1 A H fun fr t H => ?_)
     replace A := A.k8 4 1 0 2 3 5 6 7
     obtain ⟨⟨x87, x88⟩, hx, hm⟩ := bind_some hm
     obtain ⟨v1, h17, hr, rfl, A1⟩ := IL (av := [.str x80.Value, .AR [.ptr (some (h2.size, 7))]]) hx (A.cut 2)
     replace A := A.g22 A1
     refine Aw 66 hr H fun fr t H => ?_
     refine Bg 1 [(14, Ai x87)] 2 H fun fr H => AK 2 [(68, .bool (x87 != 0))] H fun fr H => AZ 68 H hm (fun hb hm H => ?_) fun hb hm H => ?_
     ·refine AG 5 ?_
      obtain ⟨h18, hx, A⟩ := A.s5 0 [.str ([] : List UInt8), .str ([] : List UInt8), Ab 0, Ai 0, Ai 0, Ai 0, .str ([] : List UInt8), .str ([] : List UInt8), Ai 0, Ai 0, Ai 0, Ai 0, .slice none 0, .str ([] : List UInt8)] [_, _, _, _, _, _, _, _, _, _, _, _, _, _]
      refine Es 2 [(70, Ai x87)] hx H fun fr t H => ?_
      refine AK 2 [(5, Ai 0), (6, Ai x87)] H fun fr H => AS ?_
      replace A := A.k7 1 3 4 0 5 6 7
      exact .inr (.inl ⟨_, _, _, _, _, _, _, _, _, _, _, _, _, _, _, _, rfl, An hm, H.ls, A⟩)
     refine D5 ?_
     replace A := A.k7 1 3 4 0 5 6 7
     exact .inl ⟨_, _, _, _, _, _, _, _, _, _, _, _, _, _, _, rfl, An hm, _, H.ls, A⟩
    rcases Ax hm with ⟨hb, hm⟩ | ⟨hk5, hm⟩
    ·refine Ae 52 (.tuple [.func (.func 195) [] [.AR [.ptr (some (h2.size, 6))]], .bool true]) h10 H (fun fr => .of (Fx (by kernel_rfl) (HH.Ew (P := cfg.P) A 2 rfl (t := 140) (kt := 9) (et := 144) (by kernel_rfl) (by kernel_rfl) (s := x80.Key) (.Be hk1 (.Be hk2 (.Be hk3 (.Be hk4 (.hit hb)))))))) fun fr t H => ?_
     refine AK 5 [(12, .func (.func 195) [] [.AR [.ptr (some (h2.size, 6))]]), (13, .bool true)] H fun fr H => AP (AG 2 (AK 2 [(56, .bool false)] H fun fr H => E8 (x := .tmp 56) (by kernel_rfl) H (fun fr => by kernel_rfl) ?_))
     refine Br 5 id (AV 2 [(63, .func (.func 195) [] [.AR [.ptr (some (h2.size, 6))]])] 65 0 1 A H fun fr t H => ?_)
     replace A := A.k8 4 1 0 2 3 5 6 7
     obtain ⟨⟨x89, x90⟩, hx, hm⟩ := bind_some hm
     obtain ⟨v1, h19, hr, rfl, A1⟩ := IV (av := [.str x80.Value, .AR [.ptr (some (h2.size, 6))]]) hx (A.cut 2)
     replace A := A.g22 A1
     refine Aw 66 hr H fun fr t H => ?_
     refine Bg 1 [(14, Ai x89)] 2 H fun fr H => AK 2 [(68, .bool (x89 != 0))] H fun fr H => AZ 68 H hm (fun hb hm H => ?_) fun hb hm H => ?_
     ·refine AG 5 ?_
      obtain ⟨h20, hx, A⟩ := A.s5 0 [.str ([] : List UInt8), .str ([] : List UInt8), Ab 0, Ai 0, Ai 0, Ai 0, .str ([] : List UInt8), .str ([] : List UInt8), Ai 0, Ai 0, Ai 0, Ai 0, .slice none 0, .str ([] : List UInt8)] [_, _, _, _, _, _, _, _, _, _, _, _, _, _]
      refine Es 2 [(70, Ai x89)] hx H fun fr t H => ?_
      refine AK 2 [(5, Ai 0), (6, Ai x89)] H fun fr H => AS ?_
      replace A := A.k7 1 3 4 0 5 6 7
      exact .inr (.inl ⟨_, _, _, _, _, _, _, _, _, _, _, _, _, _, _, _, rfl, An hm, H.ls, A⟩)
     refine D5 ?_
     replace A := A.k7 1 3 4 0 5 6 7
     exact .inl ⟨_, _, _, _, _, _, _, _, _, _, _, _, _, _, _, rfl, An hm, _, H.ls, A⟩
    rcases Ax hm with ⟨hb, hm⟩ | ⟨hk6, hm⟩
    ·refine Ae 52 (.tuple [.func (.func 195) [] [.AR [.ptr (some (h2.size, 0))]], .bool true]) h10 H (fun fr => .of (Fx (by kernel_rfl) (HH.Ew (P := cfg.P) A 2 rfl (t := 140) (kt := 9) (et := 144) (by kernel_rfl) (by kernel_rfl) (s := x80.Key) (.Be hk1 (.Be hk2 (.Be hk3 (.Be hk4 (.Be hk5 (.hit hb))))))))) fun fr t H => ?_
     refine AK 5 [(12, .func (.func 195) [] [.AR [.ptr (some (h2.size, 0))]]), (13, .bool true)] H fun fr H => AP (AG 2 (AK 2 [(56, .bool false)] H fun fr H => E8 (x := .tmp 56) (by kernel_rfl) H (fun fr => by kernel_rfl) ?_))
     refine Br 5 id (AV 2 [(63, .func (.func 195) [] [.AR [.ptr (some (h2.size, 0))]])] 65 0 1 A H fun fr t H => ?_)
     replace A := A.k8 4 1 0 2 3 5 6 7
     obtain ⟨⟨x91, x92⟩, hx, hm⟩ := bind_some hm
     obtain ⟨v1, h21, hr, rfl, A1⟩ := I2 (av := [.str x80.Value, .AR [.ptr (some (h2.size, 0))]]) hx (A.cut 2)
     replace A := A.g22 A1
     refine Aw 66 hr H fun fr t H => ?_
     refine Bg 1 [(14, Ai x91)] 2 H fun fr H => AK 2 [(68, .bool (x91 != 0))] H fun fr H => AZ 68 H hm (fun hb hm H => ?_) fun hb hm H => ?_
     ·refine AG 5 ?_
      obtain ⟨h22, hx, A⟩ := A.s5 0 [.str ([] : List UInt8), .str ([] : List UInt8), Ab 0, Ai 0, Ai 0, Ai 0, .str ([] : List UInt8), .str ([] : List UInt8), Ai 0, Ai 0, Ai 0, Ai 0, .slice none 0, .str ([] : List UInt8)] [_, _, _, _, _, _, _, _, _, _, _, _, _, _]
      refine Es 2 [(70, Ai x91)] hx H fun fr t H => ?_
      refine AK 2 [(5, Ai 0), (6, Ai x91)] H fun fr H => AS ?_
      replace A := A.k7 1 3 4 0 5 6 7
      exact .inr (.inl ⟨_, _, _, _, _, _, _, _, _, _, _, _, _, _, _, _, rfl, An hm, H.ls, A⟩)
     refine D5 ?_
     replace A := A.k7 1 3 4 0 5 6 7
     exact .inl ⟨_, _, _, _, _, _, _, _, _, _, _, _, _, _, _, rfl, An hm, _, H.ls, A⟩
    rcases Ax hm with ⟨hb, hm⟩ | ⟨hk7, hm⟩
    ·refine Ae 52 (.tuple [.func (.func 195) [] [.AR [.ptr (some (h2.size, 1))]], .bool true]) h10 H (fun fr => .of (Fx (by kernel_rfl) (HH.Ew (P := cfg.P) A 2 rfl (t := 140) (kt := 9) (et := 144) (by kernel_rfl) (by kernel_rfl) (s := x80.Key) (.Be hk1 (.Be hk2 (.Be hk3 (.Be hk4 (.Be hk5 (.Be hk6 (.hit hb)))))))))) fun fr t H => ?_
     refine AK 5 [(12, .func (.func 195) [] [.AR [.ptr (some (h2.size, 1))]]), (13, .bool true)] H fun fr H => AP (AG 2 (AK 2 [(56, .bool false)] H fun fr H => E8 (x := .tmp 56) (by kernel_rfl) H (fun fr => by kernel_rfl) ?_))
     refine Br 5 id (AV 2 [(63, .func (.func 195) [] [.AR [.ptr (some (h2.size, 1))]])] 65 0 1 A H fun fr t H => ?_)
     replace A := A.k8 4 1 0 2 3 5 6 7
     obtain ⟨⟨x93, x94⟩, hx, hm⟩ := bind_some hm
     obtain ⟨v1, h23, hr, rfl, A1⟩ := IW (av := [.str x80.Value, .AR [.ptr (some (h2.size, 1))]]) hx (A.cut 2)
     replace A := A.g22 A1
     refine Aw 66 hr H fun fr t H => ?_
     refine Bg 1 [(14, Ai x93)] 2 H fun fr H => AK 2 [(68, .bool (x93 != 0))] H fun fr H => AZ 68 H hm (fun hb hm H => ?_) fun hb hm H => ?_
     ·refine AG 5 ?_
      obtain ⟨h24, hx, A⟩ := A.s5 0 [.str ([] : List UInt8), .str ([] : List UInt8), Ab 0, Ai 0, Ai 0, Ai 0, .str ([] : List UInt8), .str ([] : List UInt8), Ai 0, Ai 0, Ai 0, Ai 0, .slice none 0, .str ([] : List UInt8)] [_, _, _, _, _, _, _, _, _, _, _, _, _, _]
      refine Es 2 [(70, Ai x93)] hx H fun fr t H => ?_
      refine AK 2 [(5, Ai 0), (6, Ai x93)] H fun fr H => AS ?_
      replace A := A.k7 1 3 4 0 5 6 7
      exact .inr (.inl ⟨_, _, _, _, _, _, _, _, _, _, _, _, _, _, _, _, rfl, An hm, H.ls, A⟩)
     refine D5 ?_
     replace A := A.k7 1 3 4 0 5 6 7
     exact .inl ⟨_, _, _, _, _, _, _, _, _, _, _, _, _, _, _, rfl, An hm, _, H.ls, A⟩
    rcases Ax hm with ⟨hb, hm⟩ | ⟨hk8, hm⟩
    ·refine Ae 52 (.tuple [.func (.func 142) [] [.AR [.ptr (some (h2.size, 0))]], .bool true]) h10 H (fun fr => .of (Fx (by kernel_rfl) (HH.Ew (P := cfg.P) A 2 rfl (t := 140) (kt := 9) (et := 144) (by kernel_rfl) (by kernel_rfl) (s := x80.Key) (.Be hk1 (.Be hk2 (.Be hk3 (.Be hk4 (.Be hk5 (.Be hk6 (.Be hk7 (.hit hb))))))))))) fun fr t H => ?_
     refine AK 5 [(12, .func (.func 142) [] [.AR [.ptr (some (h2.size, 0))]]), (13, .bool true)] H fun fr H => AP (AG 2 (AK 2 [(56, .bool false)] H fun fr H => E8 (x := .tmp 56) (by kernel_rfl) H (fun fr => by kernel_rfl) ?_))
     refine Br 5 id (AV 2 [(63, .func (.func 142) [] [.AR [.ptr (some (h2.size, 0))]])] 65 0 1 A H fun fr t H => ?_)
     replace A := A.k8 4 1 0 2 3 5 6 7
     obtain ⟨⟨x95, x96⟩, hx, hm⟩ := bind_some hm
     obtain ⟨v1, h25, hr, rfl, A1⟩ := JO (av := [.str x80.Value, .AR [.ptr (some (h2.size, 0))]]) hx (A.cut 2)
     replace A := A.g22 A1
     refine Aw 66 hr H fun fr t H => ?_
     refine Bg 1 [(14, Ai x95)] 2 H fun fr H => AK 2 [(68, .bool (x95 != 0))] H fun fr H => AZ 68 H hm (fun hb hm H => ?_) fun hb hm H => ?_
     ·refine AG 5 ?_
      obtain ⟨h26, hx, A⟩ := A.s5 0 [.str ([] : List UInt8), .str ([] : List UInt8), Ab 0, Ai 0, Ai 0, Ai 0, .str ([] : List UInt8), .str ([] : List UInt8), Ai 0, Ai 0, Ai 0, Ai 0, .slice none 0, .str ([] : List UInt8)] [_, _, _, _, _, _, _, _, _, _, _, _, _, _]
      refine Es 2 [(70, Ai x95)] hx H fun fr t H => ?_
      refine AK 2 [(5, Ai 0), (6, Ai x95)] H fun fr H => AS ?_
      replace A := A.k7 1 3 4 0 5 6 7
      exact .inr (.inl ⟨_, _, _, _, _, _, _, _, _, _, _, _, _, _, _, _, rfl, An hm, H.ls, A⟩)
     refine D5 ?_
     replace A := A.k7 1 3 4 0 5 6 7
     exact .inl ⟨_, _, _, _, _, _, _, _, _, _, _, _, _, _, _, rfl, An hm, _, H.ls, A⟩
    refine Ae 52 (.tuple [.nilFunc, .bool false]) h10 H (fun fr => .of (Fx (by kernel_rfl) (HH.TE (P := cfg.P) A 2 rfl (t := 140) (kt := 9) (et := 144) (by kernel_rfl) (by kernel_rfl) (z := .nilFunc) (by kernel_rfl) (s := x80.Key) (.Be hk1 (.Be hk2 (.Be hk3 (.Be hk4 (.Be hk5 (.Be hk6 (.Be hk7 (.Be hk8 (.nil)))))))))))) fun fr t H => ?_
    refine AK 5 [(12, .nilFunc), (13, .bool false)] H fun fr H => AP (AG 2 (AK 2 [(56, .bool true)] H fun fr H => Cf (x := .tmp 56) (by kernel_rfl) H (fun fr => by kernel_rfl) ?_))
    refine AG 7 (AV 1 [] 58 4 12 A H fun fr t H => ?_)
    refine Ae 59 _ _ H (fun fr => .of (BM (by kernel_rfl) (A.Eh 0 rfl (o := 0) (n := 2) ⟨Nat.le_of_ble_eq_true rfl, rfl⟩))) fun fr t H => ?_
    obtain ⟨h27, e7, A⟩ := A.pL 117 [.str x80.Key, .str x80.Value]
    refine BK 60 (Af (some h10.size) (([x80] : List AB).length)) e7 H fun fr t H => ?_
    obtain ⟨hb, hm⟩ := A4 hm
    obtain ⟨r5, h28, hx, A1⟩ := HH.N7 Am (by decide) A 2 (xs := x1) (ys := ([x80] : List AB)) rfl (Dy A 0 rfl (n := ([x80] : List AB).length) (z := 2) rfl (by decide)) rfl rfl hb
    replace A : HH g h28 [.Ak (some h10.size) 117 ([.str x80.Key, .str x80.Value]), _, .Ak r5 117 (Ak AE (x1 ++ ([x80] : List AB))), _, _, _, _, _, _] F := A1
    replace A := A.k8 1 2 3 4 5 6 7 8
    refine Ae 61 _ _ H (fun fr => .of (IT (s := EF r1 x1.length) (by kernel_rfl) hx)) fun fr t H => ?_
    obtain ⟨h29, hx, A1⟩ := A.st 4 rfl (o := 12) (new := [Af r5 ((x1 ++ ([x80] : List AB)).length)]) (ds := [.str x3, .str x4, Ab x5, Ai x6, Ai x7, Ai x8, .str x9, .str x10, Ai x11, Ai x12, Ai x13, Ai x14, Af r5 ((x1 ++ ([x80] : List AB)).length), .str x15]) (Nat.le_of_ble_eq_true rfl) rfl rfl
    replace A : HH g h29 [_, _, _, _, .obj h2.size (.cells none 2 [_, _, _, _, _, _, _, _, _, _, _, _, Af r5 ((x1 ++ ([x80] : List AB)).length), _]), _, _, _] F := A1
    refine CF 1 [] hx H fun fr t H => ?_
    refine BI id (Bf (i := 1) (by kernel_rfl) ?_)
    replace A := A.k7 1 2 3 4 5 6 7
    exact .inl ⟨_, _, _, _, _, _, _, _, _, _, _, _, _, _, _, rfl, An hm, _, H.ls, A⟩
   clear ho
   clear A
   intro e fr h30 hQ
   rcases hQ with ⟨x49, x50, x51, x52, x53, x54, x55, x56, x57, x58, x59, x60, x61, x62, x63, rfl, rfl, r4, H, A⟩ | ⟨x64, x65, x66, x67, x68, x69, x70, x71, x72, x73, x74, x75, x76, x77, x78, x79, rfl, rfl, H, A⟩ | hF
   ·show AW _ _ _ _ _ _ _
    refine CX 2 (Bd 2 [(4, .ptr (some (h1.size, 0))), (7, .ptr (some (h2.size, 0))), (8, .ptr (some (h4.size, 0))), (9, .map (some h6.size)), (42, Af rp1 p1.length), (43, Ai (p1.length : Int)), (44, Ai (IntKind.i64.wrap (x16 + 1)))] H fun fr H => at_nil ?_)
    exact nx hm ⟨_, _, _, _, _, _, _, _, _, _, _, _, _, _, _, _, rfl, _, H.ls, A⟩
   ·exact nr hm fun e => Or.inr (.inl ⟨_, _, _, _, _, _, _, _, _, _, _, _, _, _, _, _, _, rfl, e, _, H.ls, A⟩)
   exact hF.elim
  refine Bf (i := 0) (by kernel_rfl) ?_
  exact nr hm fun e => .inl ⟨_, _, _, _, _, _, _, _, _, _, _, _, _, _, _, rfl, e, _, H.ls, A⟩
 clear ho
 clear A
 intro e fr h31 hQ
 rcases hQ with ⟨x17, x18, x19, x20, x21, x22, x23, x24, x25, x26, x27, x28, x29, x30, x31, rfl, rfl, r2, H, A⟩ | ⟨x32, x33, x34, x35, x36, x37, x38, x39, x40, x41, x42, x43, x44, x45, x46, x47, x48, rfl, rfl, r3, H, A⟩ | hF
 ·show AW _ _ _ _ _ _ _
  refine AP (RD 14 5 [(0, []), (1, []), (2, [1]), (3, []), (4, [])] ?_)
  refine Gq 72 (.agg [.str x19, .str x20, Ab x21, Ai x22, Ai x23, Ai x24, .str x25, .str x26, Ai x27, Ai x28, Ai x29, Ai x30, Af r2 x17.length, .str x31]) h31 [(0, h2.size)] (g.Cl) H (fun fr => .of (BM (by kernel_rfl) (A.la 3 0 14))) (fun fr H => ?_)
  refine Gq 73 (Ai x18) h31 [(1, h4.size), (0, h2.size)] (g.Cl) H (fun fr => .of (O0 (by kernel_rfl) (A.l1 2 0))) (fun fr H => ?_)
  replace A := A.k7 4 0 1 2 3 5 6
  have A1 := A.Lk 1 (pr := [h4.size]) (.cons 2 rfl (by simp [Ck.ids]) .nil)
  obtain ⟨h32, hx, A1⟩ := A1.st 0 rfl (o := 0) (new := [.str x19, .str x20, Ab x21, Ai x22, Ai x23, Ai x24, .str x25, .str x26, Ai x27, Ai x28, Ai x29, Ai x30, Af r2 x17.length, .str x31]) (ds := [.str x19, .str x20, Ab x21, Ai x22, Ai x23, Ai x24, .str x25, .str x26, Ai x27, Ai x28, Ai x29, Ai x30, Af r2 x17.length, .str x31]) (Nat.le_of_ble_eq_true rfl) rfl rfl
  replace A := A.aw A1
  refine Rv (.tuple []) h32 [(1, h4.size), (0, h2.size)] (h4.size :: g.Cl) H (fun fr => .of (RV (by kernel_rfl) (NY hx rfl))) (fun fr H => ?_)
  refine AK 2 [(5, Ai x18), (6, Ai 0)] H fun fr H => AS ?_
  obtain ⟨rfl, rfl, rfl⟩ := Uz hm
  refine ⟨.inl rfl, .tuple [.agg [.str x19, .str x20, Ab x21, Ai x22, Ai x23, Ai x24, .str x25, .str x26, Ai x27, Ai x28, Ai x29, Ai x30, Af r2 x17.length, .str x31], Ai x18, Ai 0], CW (.cell (rT H) (CL (by kernel_rfl) (by kernel_rfl) (A.la 0 0 14)) (.tmp (rT H) (.tmp (rT H) .nil))), ?_⟩
  obtain ⟨h33, hz0, A1⟩ := (A.front 1 rfl).bH (n := x17.length) (z := 2) (Am.K1 _) (by decide)
  replace A : HH g h33 [_, _, _, _, _, _] F := A1
  refine ⟨.tuple [.agg [.str x19, .str x20, Ab x21, Ai x22, Ai x23, Ai x24, .str x25, .str x26, Ai x27, Ai x28, Ai x29, Ai x30, vs AE x17, .str x31], Ai x18, Ai 0], h33, by first | rfl | (simp only [ZW, Zn, Z8, ZS, Zp, Yr, Y2, YH, Yd, ZA, Yx, Yw, Yk, Zf, ZX, Zj, ZL, Z2, Option.map_some, hz0] <;> rfl), ?_⟩
  replace A := A.k1 5
  exact ⟨rfl, A⟩
 ·obtain ⟨rfl, rfl, rfl⟩ := Uz hm
  refine ⟨.inl rfl, .tuple [.agg [.str ([] : List UInt8), .str ([] : List UInt8), Ab 0, Ai 0, Ai 0, Ai 0, .str ([] : List UInt8), .str ([] : List UInt8), Ai 0, Ai 0, Ai 0, Ai 0, .slice none 0, .str ([] : List UInt8)], Ai x47, Ai x48], CW (.cell (rT H) (CL (by kernel_rfl) (by kernel_rfl) (A.la 4 0 14)) (.tmp (rT H) (.tmp (rT H) .nil))), ?_⟩
  refine ⟨.tuple [.agg [.str ([] : List UInt8), .str ([] : List UInt8), Ab 0, Ai 0, Ai 0, Ai 0, .str ([] : List UInt8), .str ([] : List UInt8), Ai 0, Ai 0, Ai 0, Ai 0, vs AE ([] : List AB), .str ([] : List UInt8)], Ai x47, Ai x48], h31, by first | rfl | (simp only [ZW, Zn, Z8, ZS, Zp, Yr, Y2, YH, Yd, ZA, Yx, Yw, Yk, Zf, ZX, Zj, ZL, Z2, Option.map_some] <;> rfl), ?_⟩
  replace A := A.k1 6
  exact ⟨rfl, A⟩
 exact hF.elim
def Cs (p0 : AL) (p1 : Int) : Option (Bool) :=
 (DG p0).bind fun x1 => Ad x1 ((CP).bind fun x2 => some x2) ((Di p0 p1).bind fun (x3, x4) => (C0 p0 p1).bind fun (x5, x6) => Ad ((x4 != 0) || (x6 != 0)) ((Ad (x4 == x6) ((CP).bind fun x8 => some x8) (some false) : Option (Bool)).bind fun x7 => some x7) ((Dw x3).bind fun (x9, x10) => (Eb x9).bind fun (x11, x12) => (Ad (p0.Kind == 0) (some (48 : Int)) (some p0.Kind) : Option ((Int))).bind fun x13 => (E3 ([] : List AB) x5).bind fun x14 => (Dh x11 x14).bind fun (x15, x16, x17) => (Ad ((((x10 == 0) && (x12 == 0)) && (x17 == 0)) && (x16 == p1)) ((DD x15 (⟨p0.Name, p0.AU, x13, p0.Mode, p0.BP, p0.BQ, p0.AN, p0.AO, p0.Aa, p0.Ag, p0.Time, p0.Extra, ([] : List UInt8)⟩ : AL)).bind fun x19 => some x19) (some false) : Option (Bool)).bind fun x18 => (Ad x18 ((CP).bind fun x21 => some x21) (some false) : Option (Bool)).bind fun x20 => some x20))
theorem Hc {p0 p1 q0} (hm : Cs p0 p1 = some q0) (A : HH g h [] F) (hc : BG (cfg.still 6) av = [.agg (AI p0), Ai p1] := by kernel_rfl) : ∃ v h', BH cfg g h 6 av v h' ∧ v = .bool q0 ∧ HH g h' [] F := by
 refine ES 89 [.tmp 4] hc ?_
 clear hc
 unfold Cs at hm
 refine bg 89 [(0, .agg (AI p0)), (1, Ai p1)] fun fr H => ?_
 refine AG 2 ?_
 obtain ⟨h1, e1, A⟩ := A.pu (.cells none 2 (AI p0))
 refine BK 2 (.ptr (some (h.size, 0))) e1 H fun fr t H => ?_
 refine AK 1 [] H fun fr H => AP (AG 2 (Ae 16 _ _ H (fun fr => .of (BM (by kernel_rfl) (A.Eh 0 rfl (o := 0) (n := 14) ⟨Nat.le_of_ble_eq_true rfl, rfl⟩))) fun fr t H => ?_))
 obtain ⟨x1, hx, hm⟩ := bind_some hm
 obtain ⟨v1, h2, hr, rfl, A1⟩ := Jo (av := [.agg (AI p0)]) hx (A.cut 0)
 replace A : HH g h2 [.obj h.size (.cells none 2 (AI p0))] F := A.Fp (n := 0) A1
 refine Aw 17 hr H fun fr t H => ?_
 refine BI id (AZ 17 H hm (fun hb hm H => ?_) fun hb hm H => ?_)
 ·refine AG 2 ?_
  obtain ⟨x2, hx, hm⟩ := bind_some hm
  obtain ⟨v1, h3, hr, rfl, A1⟩ := EN (av := []) hx (A.cut 0)
  replace A := A.DN A1
  refine Aw 18 hr H fun fr t H => ?_
  refine AK 1 [(4, .bool x2)] H fun fr H => AS ?_
  obtain rfl := An hm
  refine ⟨.inl rfl, .bool x2, rH H, ?_⟩
  replace A := A.d0
  exact ⟨rfl, A⟩
 refine Br 9 id (Ae 20 _ _ H (fun fr => .of (BM (by kernel_rfl) (A.Eh 0 rfl (o := 0) (n := 14) ⟨Nat.le_of_ble_eq_true rfl, rfl⟩))) fun fr t H => ?_)
 obtain ⟨⟨x3, x4⟩, hx, hm⟩ := bind_some hm
 obtain ⟨v1, h4, hr, rfl, A1⟩ := Kh (av := [.agg (AI p0), Ai p1]) hx (A.cut 0)
 replace A := A.DN A1
 refine A6 1 [] 22 hr H fun fr t H => ?_
 obtain ⟨h5, e2, A⟩ := A.pu (.cells none 2 [.str ([] : List UInt8), .str ([] : List UInt8), Ab 0, Ai 0, Ai 0, Ai 0, Ai 0, Ai 0, .str ([] : List UInt8), .str ([] : List UInt8), Ai 0, Ai 0, Ai 0])
 refine JA 3 [(23, .agg (AF x3)), (24, Ai x4)] 5 (.ptr (some (h4.size, 0))) e2 H fun fr t H => ?_
 obtain ⟨h6, hx, A⟩ := A.s0 0 (AF x3) [_, _, _, _, _, _, _, _, _, _, _, _, _]
 refine Ch hx H fun fr t H => ?_
 refine Bg 1 [(6, Ai x4)] 8 H fun fr H => Ae 26 _ _ H (fun fr => .of (BM (by kernel_rfl) (A.Eh 1 rfl (o := 0) (n := 14) ⟨Nat.le_of_ble_eq_true rfl, rfl⟩))) fun fr t H => ?_
 obtain ⟨⟨x5, x6⟩, hx, hm⟩ := bind_some hm
 obtain ⟨v1, h7, hr, rqw5, rfl, A1⟩ := JH (av := [.agg (AI p0), Ai p1]) hx (A.cut 0)
 replace A := A.Yc A1
 refine A6 1 [] 28 hr H fun fr t H => ?_
 refine AK 5 [(7, Af rqw5 x5.length), (8, Ai x6)] H fun fr H => AP (AG 6 (AM 3 [(33, .bool (x4 != 0))] H fun fr H => A5 3 (fun fr' h' => h7 = h' ∧ Has fr' 89 [(1, Ai p1), (2, .ptr (some (h.size, 0))), (5, .ptr (some (h4.size, 0))), (6, Ai x4), (7, Af rqw5 x5.length), (8, Ai x6), (36, .bool ((x4 != 0) || (x6 != 0)))]) ?_ ?_))
 ·cases hb : (x4 != 0 : Bool) with
  | true =>
   replace H := H.kn 33 hb
   exact AM 3 [(36, .bool true)] H fun fr H => Ao H hb
  | false =>
   replace H := H.kn 33 hb
   exact AM 3 [(36, .bool (x6 != 0))] H fun fr H => Ao H hb
 intro t fr h' hK
 obtain ⟨e, H⟩ := hK
 subst e
 refine BI id (AZ 36 H hm (fun hb hm H => ?_) fun hb hm H => ?_)
 ·refine AG 7 (AM 4 [(40, .bool (x4 == x6))] H fun fr H => ?_)
  obtain ⟨x7, ho, hm⟩ := bind_some hm
  refine A5 2 (fun fr' h' => Has fr' 89 [(42, .bool x7)] ∧ HH g h' [.obj h4.size (.cells none 2 (AF x3)), .obj h.size (.cells none 2 (AI p0))] F) ?_ ?_
  ·rcases Ax ho with ⟨hb, hm⟩ | ⟨hb, hm⟩
   ·replace H := H.kn 40 hb
    obtain ⟨x8, hx, hm⟩ := bind_some hm
    obtain ⟨v1, h9, hr, rfl, A1⟩ := EN (av := []) hx (A.cut 0)
    replace A := A.DN A1
    refine Aw 41 hr H fun fr t H => ?_
    refine AM 1 [(42, .bool x8)] H fun fr H => ?_
    obtain rfl := An hm
    replace A := A.k2 1 2
    exact at_nil ⟨H.ls, A⟩
   replace H := H.kn 40 hb
   refine AM 2 [(42, .bool false)] H fun fr H => ?_
   obtain rfl := An hm
   replace A := A.k2 1 2
   exact at_nil ⟨H.ls, A⟩
  clear A
  intro t fr h8 hK
  obtain ⟨H, A⟩ := hK
  refine AK 1 [(4, .bool x7)] H fun fr H => AS ?_
  obtain rfl := An hm
  refine ⟨.inl rfl, .bool x7, rH H, ?_⟩
  replace A := A.d0
  exact ⟨rfl, A⟩
 refine Br 7 id (Ae 44 _ _ H (fun fr => .of (BM (by kernel_rfl) (A.Eh 1 rfl (o := 0) (n := 13) ⟨Nat.le_of_ble_eq_true rfl, rfl⟩))) fun fr t H => ?_)
 obtain ⟨⟨x9, x10⟩, hx, hm⟩ := bind_some hm
 obtain ⟨v1, h10, hr, rfl, A1⟩ := M4 (av := [.agg (AF x3)]) hx (A.cut 0)
 replace A := A.DN A1
 refine Aw 45 hr H fun fr t H => ?_
 refine Bg 5 [(9, .str x9), (10, Ai x10)] 8 H fun fr H => ?_
 obtain ⟨⟨x11, x12⟩, hx, hm⟩ := bind_some hm
 obtain ⟨v1, h11, hr, rfl, A1⟩ := M0 (av := [.str x9]) hx (A.cut 0)
 replace A := A.DN A1
 refine A6 1 [] 50 hr H fun fr t H => ?_
 obtain ⟨h12, e3, A⟩ := A.pu (.cells none 2 [.str ([] : List UInt8), .str ([] : List UInt8), Ab 0, Ai 0, Ai 0, Ai 0, Ai 0, Ai 0, .str ([] : List UInt8), .str ([] : List UInt8), Ai 0, Ai 0, Ai 0])
 refine JA 3 [(51, .agg (AF x11)), (52, Ai x12)] 11 (.ptr (some (h11.size, 0))) e3 H fun fr t H => ?_
 obtain ⟨h13, hx, A⟩ := A.s0 0 (AF x11) [_, _, _, _, _, _, _, _, _, _, _, _, _]
 refine Ch hx H fun fr t H => ?_
 refine AK 1 [(12, Ai x12)] H fun fr H => AP ?_
 obtain ⟨o1, ho, hm⟩ := bind_some hm
 refine BJ (Q' := fun e fr' h' => (∃ x13, e = .normal ∧ x13 = o1 ∧ Has fr' 89 [(1, Ai p1), (2, .ptr (some (h.size, 0))), (7, Af rqw5 x5.length), (10, Ai x10), (11, .ptr (some (h11.size, 0))), (12, Ai x12)] ∧ HH g h' [.obj h11.size (.cells none 2 (AF x11)), .Ak rqw5 117 (Ak AE x5), .obj h4.size (.cells none 2 (AF x3)), .obj h.size (.cells none 2 (Oa p0 (Ab x13)))] F) ∨ False) ?_ ?_
 ·replace hm := ho
  clear ho
  refine AG 3 (AV 1 [] 54 3 2 A H fun fr t H => ?_)
  refine AK 1 [(55, .bool (p0.Kind == 0))] H fun fr H => AZ 55 H hm (fun hb hm H => ?_) fun hb hm H => ?_
  ·refine CX 2 ?_
   obtain ⟨h14, hx, A⟩ := A.s3 2 [Ab 48] [_, _, _, _, _, _, _, _, _, _, _, _, _, _]
   refine CF 1 [] hx H fun fr t H => ?_
   refine at_nil ?_
   exact .inl ⟨_, rfl, An hm, H.ls, A⟩
  exact D5 (.inl ⟨_, rfl, An hm, H.ls, A⟩)
 clear ho
 clear A
 intro e fr h15 hQ
 rcases hQ with ⟨x13, rfl, rfl, H, A⟩ | hF
 ·show AW _ _ _ _ _ _ _
  refine AP (RD 11 12 [(0, []), (1, []), (8, []), (2, [0, 8]), (3, [8]), (4, []), (5, []), (6, []), (7, []), (9, []), (10, []), (11, [])] ?_)
  refine Gq 58 (.agg (AF x11)) h15 [(0, h11.size)] (g.Cl) H (fun fr => .of (BM (by kernel_rfl) (A.la 0 0 13))) (fun fr H => ?_)
  refine AM 1 [(59, Af rqw5 x5.length)] H fun fr H => ?_
  obtain ⟨h16, e4, A⟩ := A.pu (.cells none 2 [.str ([] : List UInt8), .str ([] : List UInt8), Ab 0, Ai 0, Ai 0, Ai 0, .str ([] : List UInt8), .str ([] : List UInt8), Ai 0, Ai 0, Ai 0, Ai 0, .slice none 0, .str ([] : List UInt8)])
  refine Gq 13 (.ptr (some (h15.size, 0))) h16 [(8, h15.size), (0, h11.size)] (g.Cl) H (fun fr => .of (Ye (by kernel_rfl) (congrArg some e4.symm))) (fun fr H => ?_)
  replace A : HH g h16 [.Ak none 117 (Ak AE ([] : List AB)), .obj h15.size (.cells none 2 [.str ([] : List UInt8), .str ([] : List UInt8), Ab 0, Ai 0, Ai 0, Ai 0, .str ([] : List UInt8), .str ([] : List UInt8), Ai 0, Ai 0, Ai 0, Ai 0, .slice none 0, .str ([] : List UInt8)]), _, _, _, _] F := A.T9 117
  obtain ⟨h17, hz1, A1⟩ := (A.front 0 rfl).ZR (n := ([] : List AB).length) (z := 2) (pr := [h15.size, h11.size]) (Am.K1 _) (by decide) (.cons 0 rfl (by simp [Ck.ids]) (.cons 1 rfl (by simp [Ck.ids]) .nil))
  replace A : HH g h17 [_, _, _, _, _] F := A1
  obtain ⟨h18, hz2, A1⟩ := (A.front 2 rfl).ZR (n := x5.length) (z := 2) (pr := [h15.size, h11.size]) (Am.K1 _) (by decide) (.cons 0 rfl (by simp [Ck.ids]) (.cons 1 rfl (by simp [Ck.ids]) .nil))
  replace A : HH g h18 [_, _, _, _] F := A1
  have A1 := A.Lk 0 (pr := [h15.size, h11.size]) (.cons 0 rfl (by simp [Ck.ids]) (.cons 1 rfl (by simp [Ck.ids]) .nil))
  obtain ⟨x14, hx, hm⟩ := bind_some hm
  obtain ⟨v1, h19, hr, rqw12, rfl, A1⟩ := Ob (av := [Af none (([] : List AB).length), Af rqw5 x5.length]) hx (h0 := h16) (hc := (by first | rfl | (simp only [Yk, Yw, Yr, bJ, YH, Yd, ZA, Y2, Yx, hz1, hz2, Option.map_some] <;> rfl))) A1
  replace A := A.bx A1
  refine Gq 60 (Af rqw12 x14.length) h19 [(8, h15.size), (0, h11.size)] (h15.size :: h11.size :: g.Cl) H (fun fr => Steps.call (by kernel_rfl) hr) (fun fr H => ?_)
  have A1 := A.Lk 1 (pr := [h15.size]) (.cons 0 rfl (by simp [Ck.ids]) .nil)
  obtain ⟨⟨x15, x16, x17⟩, hx, hm⟩ := bind_some hm
  obtain ⟨v1, h20, hr, rfl, A1⟩ := K0 (av := [.agg (AF x11), Af rqw12 x14.length]) hx A1
  replace A := A.aw A1
  refine Gq 61 (.tuple [.agg (AI x15), Ai x16, Ai x17]) h20 [(8, h15.size), (0, h11.size)] (h15.size :: g.Cl) H (fun fr => Steps.call (by kernel_rfl) hr) (fun fr H => ?_)
  refine AM 4 [(62, .agg (AI x15)), (63, Ai x16), (64, Ai x17)] H fun fr H => ?_
  obtain ⟨h21, hx, A⟩ := A.s1 0 (AI x15) [_, _, _, _, _, _, _, _, _, _, _, _, _, _]
  refine Rv (.tuple []) h21 [(8, h15.size), (0, h11.size)] (g.Cl) H (fun fr => .of (RV (by kernel_rfl) (NY hx rfl))) (fun fr H => ?_)
  refine Bg 2 [(14, Ai x16), (15, Ai x17)] 2 H fun fr H => ?_
  obtain ⟨h22, hx, A⟩ := A.s4 13 [.str ([] : List UInt8)] [_, _, _, _, _, _, _, _, _, _, _, _, _, _]
  refine CF 1 [] hx H fun fr t H => ?_
  refine CJ 24 id (AM 3 [(68, .bool (x10 == 0))] H fun fr H => A5 3 (fun fr' h' => h22 = h' ∧ Has fr' 89 [(1, Ai p1), (2, .ptr (some (h.size, 0))), (13, .ptr (some (h15.size, 0))), (14, Ai x16), (15, Ai x17), (71, .bool ((x10 == 0) && (x12 == 0)))]) ?_ ?_)
  ·cases hb : (x10 == 0 : Bool) with
   | true =>
    replace H := H.kn 68 hb
    exact AM 3 [(71, .bool (x12 == 0))] H fun fr H => Ao H hb
   | false =>
    replace H := H.kn 68 hb
    exact AM 3 [(71, .bool false)] H fun fr H => Ao H hb
  intro t fr h' hK
  obtain ⟨e, H⟩ := hK
  subst e
  refine AM 1 [(72, .bool ((x10 == 0) && (x12 == 0)))] H fun fr H => A5 3 (fun fr' h' => h22 = h' ∧ Has fr' 89 [(1, Ai p1), (2, .ptr (some (h.size, 0))), (13, .ptr (some (h15.size, 0))), (14, Ai x16), (75, .bool (((x10 == 0) && (x12 == 0)) && (x17 == 0)))]) ?_ ?_
  ·cases hb : ((x10 == 0) && (x12 == 0) : Bool) with
   | true =>
    replace H := H.kn 72 hb
    exact AM 3 [(75, .bool (x17 == 0))] H fun fr H => Ao H hb
   | false =>
    replace H := H.kn 72 hb
    exact AM 3 [(75, .bool false)] H fun fr H => Ao H hb
  intro t fr h' hK
  obtain ⟨e, H⟩ := hK
  subst e
  refine AM 1 [(76, .bool (((x10 == 0) && (x12 == 0)) && (x17 == 0)))] H fun fr H => A5 4 (fun fr' h' => h22 = h' ∧ Has fr' 89 [(2, .ptr (some (h.size, 0))), (13, .ptr (some (h15.size, 0))), (80, .bool ((((x10 == 0) && (x12 == 0)) && (x17 == 0)) && (x16 == p1)))]) ?_ ?_
  ·cases hb : (((x10 == 0) && (x12 == 0)) && (x17 == 0) : Bool) with
   | true =>
    replace H := H.kn 76 hb
    exact AM 4 [(80, .bool (x16 == p1))] H fun fr H => Ao H hb
   | false =>
    replace H := H.kn 76 hb
    exact AM 4 [(80, .bool false)] H fun fr H => Ao H hb
  intro t fr h' hK
  obtain ⟨e, H⟩ := hK
  subst e
  refine AM 1 [(81, .bool ((((x10 == 0) && (x12 == 0)) && (x17 == 0)) && (x16 == p1)))] H fun fr H => ?_
  obtain ⟨x18, ho, hm⟩ := bind_some hm
  refine A5 4 (fun fr' h' => Has fr' 89 [(85, .bool x18)] ∧ HH g h' [.obj h15.size (.cells none 2 (AI x15)), .obj h11.size (.cells none 2 (AF x11)), .obj h4.size (.cells none 2 (AF x3)), .obj h.size (.cells none 2 (Fg p0 (Ab x13) (.str ([] : List UInt8))))] F) ?_ ?_
  ·rcases Ax ho with ⟨hb, hm⟩ | ⟨hb, hm⟩
   ·replace H := H.kn 81 hb
    refine Ae 82 _ _ H (fun fr => .of (BM (by kernel_rfl) (A.Eh 1 rfl (o := 0) (n := 14) ⟨Nat.le_of_ble_eq_true rfl, rfl⟩))) fun fr t H => ?_
    refine Ae 83 _ _ H (fun fr => .of (BM (by kernel_rfl) (A.Eh 4 rfl (o := 0) (n := 14) ⟨Nat.le_of_ble_eq_true rfl, rfl⟩))) fun fr t H => ?_
    obtain ⟨x19, hx, hm⟩ := bind_some hm
    obtain ⟨v1, h24, hr, rfl, A1⟩ := JX (av := [.agg (AI x15), .agg (Fg p0 (Ab x13) (.str ([] : List UInt8)))]) hx (A.cut 0)
    replace A := A.DN A1
    refine Aw 84 hr H fun fr t H => ?_
    refine AM 1 [(85, .bool x19)] H fun fr H => ?_
    obtain rfl := An hm
    replace A := A.k4 1 2 3 4
    exact at_nil ⟨H.ls, A⟩
   replace H := H.kn 81 hb
   refine AM 4 [(85, .bool false)] H fun fr H => ?_
   obtain rfl := An hm
   replace A := A.k4 1 2 3 4
   exact at_nil ⟨H.ls, A⟩
  clear A
  intro t fr h23 hK
  obtain ⟨H, A⟩ := hK
  refine AM 1 [(86, .bool x18)] H fun fr H => ?_
  obtain ⟨x20, ho, hm⟩ := bind_some hm
  refine A5 2 (fun fr' h' => Has fr' 89 [(88, .bool x20)] ∧ HH g h' [.obj h15.size (.cells none 2 (AI x15)), .obj h11.size (.cells none 2 (AF x11)), .obj h4.size (.cells none 2 (AF x3)), .obj h.size (.cells none 2 (Fg p0 (Ab x13) (.str ([] : List UInt8))))] F) ?_ ?_
  ·rcases Ax ho with ⟨hb, hm⟩ | ⟨hb, hm⟩
   ·replace H := H.kn 86 hb
    obtain ⟨x21, hx, hm⟩ := bind_some hm
    obtain ⟨v1, h26, hr, rfl, A1⟩ := EN (av := []) hx (A.cut 0)
    replace A := A.DN A1
    refine Aw 87 hr H fun fr t H => ?_
    refine AM 1 [(88, .bool x21)] H fun fr H => ?_
    obtain rfl := An hm
    exact at_nil ⟨H.ls, A⟩
   replace H := H.kn 86 hb
   refine AM 2 [(88, .bool false)] H fun fr H => ?_
   obtain rfl := An hm
   exact at_nil ⟨H.ls, A⟩
  clear A
  intro t fr h25 hK
  obtain ⟨H, A⟩ := hK
  refine AK 1 [(4, .bool x20)] H fun fr H => AS ?_
  obtain rfl := An hm
  refine ⟨.inl rfl, .bool x20, rH H, ?_⟩
  replace A := A.d0
  exact ⟨rfl, A⟩
 exact hF.elim
end
end Go.Av.L
