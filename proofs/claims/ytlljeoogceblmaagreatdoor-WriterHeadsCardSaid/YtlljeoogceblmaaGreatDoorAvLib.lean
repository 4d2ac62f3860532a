/-
 A part.
-/
import Derived.Test.YtlljeoogceblmaaGreatDoorAvMap
import Derived.Shelf.SlicesE.Clone
import Derived.Shelf.Spec.SlicesGrow
import Derived.Shelf.SlIter.Nil
import Derived.Shelf.SortM.Plain
import Derived.Shelf.SortM.SortNone
import Derived.Lib.Bytealg
import Derived.Lib.ItoaNum
import Derived.Lib.Itoa
import Derived.Shelf.Strings.Repeat
import Derived.Shelf.Strings.OnBuilder
import Derived.Shelf.Strings.Cut
import Derived.Shelf.Strings.Search3
namespace Go.Av
open Go.RowKit Go.Shelf Go.Proofs Go.Lib Go.Maps Go.MapKept Go.ChangeMaps Go.WideShapes
set_option linter.unusedVariables false
section
variable {P : Program} {w0 : World} {m : A4} {h : AD} {w : World}
theorem Dt {f : FuncId} {args : Array Value} {Q : Value → World → Prop} (he : ∀ args w, (callFunc f args).run P w = .ok (.enter f args) w) (hc : Calls P f args w fun e w' => ∃ v, e = .returned v ∧ Q v w') : Cq P f args w Q := by
 unfold Cq
 rw [he args w]
 exact hc
def Oj : AB → Option Nat
 | .slice _ n => some n
 | .Iw n _ => some n
 | _ => none
theorem Xx {x : AB} {x' : Value} (hx : VR m x x') (hl : Oj x = some 0) : ∃ a c, x' = .slice a 0 c := by
 cases hx <;> simp [Oj] at hl
 case D5 => exact ⟨_, _, rfl⟩
 case ES => exact ⟨_, _, rfl⟩
 case slice => subst hl; exact ⟨_, _, rfl⟩
 case Iy => exact ⟨_, _, rfl⟩
 case Iw => subst hl; exact ⟨_, _, rfl⟩
def Sv (i : TypeInfo) (n : Nat) : Bool := decide (i.size ≠ 0 ∧ n ≤ 1099511627776 ∧ n * i.bytes ≤ 1099511627776 ∧ i.zero.map (·.cells.size) = some i.size)
def VN (P : Program) (e : TypeId) (h : AD) : List AB → Option (AB × AD)
 | [x] =>
  match Oj x with
  | some 0 =>
   match P.info? e with
   | some _ => some (.slice none 0, h)
   | none => none
  | some n =>
   match P.info? e with
   | some i =>
    match (Db h i.size n x).map (·.map FC) with
    | some cs => if cs.all AB.one = true ∧ Sv i n = true then some (.slice (some (h.size, 0)) n, h.push (.cells (some e) 2 cs)) else none
    | none => none
   | none => none
  | none => none
 | _ => none
theorem SE {m : A4} {x : AB} {cargs : Array Value} (hv : B4 m [x] cargs.toList) : ∃ a, cargs = #[a] ∧ VR m x a := by
 have := hv.1
 match cargs, this with
 | ⟨[a]⟩, _ => exact ⟨a, rfl, hv.2 0 _ _ rfl rfl⟩
theorem Kd {m : A4} {x y : AB} {cargs : Array Value} (hv : B4 m [x, y] cargs.toList) : ∃ a b, cargs = #[a, b] ∧ VR m x a ∧ VR m y b := by
 have := hv.1
 match cargs, this with
 | ⟨[a, b]⟩, _ => exact ⟨a, b, rfl, hv.2 0 _ _ rfl rfl, hv.2 1 _ _ rfl rfl⟩
def Es (P : Program) (G : Nat → Option (List AB)) (f : FuncId) (ext : Gd → AD → List AB → Option (AB × AD)) : Prop := Qz P G fun g h f' args => if f' = f then ext g h args else none
theorem Es.of {G : Nat → Option (List AB)} {f : FuncId} {ext : Gd → AD → List AB → Option (AB × AD)}
  (hx : ∀ g h args v h', ext g h args = some (v, h') → A6 g h h' ∧ ∀ w0 m w (cargs : Array Value), Rel P w0 m h w → B4 m args cargs.toList → Cq P f cargs w fun v' w' => ∃ m' : A4, (m.ext h.size m') ∧ Rel P w0 m' h' w' ∧ VR m' v v') : Es P G f ext := by
 intro g h f' args v h' hc
 dsimp only at hc
 split at hc
 ·rename_i e; subst e
  obtain ⟨k, q⟩ := hx g h args v h' hc
  exact ⟨k, fun w0 m w cargs _ r hv => q w0 m w cargs r hv⟩
 ·cases hc
theorem Es.az {G : Nat → Option (List AB)} {f : FuncId} {ext : Gd → AD → List AB → Option (AB × AD)}
  (hx : ∀ g h args v h', ext g h args = some (v, h') → A6 g h h' ∧ ∀ w0 m w (cargs : Array Value), BY G w → Rel P w0 m h w → B4 m args cargs.toList → Cq P f cargs w fun v' w' => ∃ m' : A4, (m.ext h.size m') ∧ Rel P w0 m' h' w' ∧ VR m' v v') : Es P G f ext := by
 intro g h f' args v h' hc
 dsimp only at hc
 split at hc
 ·rename_i e; subst e
  obtain ⟨k, q⟩ := hx g h args v h' hc
  exact ⟨k, fun w0 m w cargs hz r hv => q w0 m w cargs (hz.later r.below) r hv⟩
 ·cases hc
def UR (P : Program) (e : TypeId) (h : AD) : List AB → Option (AB × AD)
 | [x] =>
  match Oj x with
  | some 0 =>
   match P.info? e with
   | some _ => some (.Iw 0 [], h)
   | none => none
  | some n =>
   match P.info? e with
   | some i =>
    match (Db h i.size n x).map (·.map FC) with
    | some cs => if cs.all AB.one = true ∧ Sv i n = true then some (.Iw n cs, h) else none
    | none => none
   | none => none
  | none => none
 | _ => none
def X3 (P : Program) (e : TypeId) (h : AD) : List AB → Option (AB × AD)
 | [.slice none 0, .int .i64 n] =>
  if n = 0 then some (.slice none 0, h) else
  match P.info? e with
  | some i => if 0 < n ∧ Sv i n.toNat = true then some (.slice (some (h.size, 0)) 0, h.push (.cells (some e) 2 [])) else none
  | none => none
 | _ => none
def Y9 (h : AD) : List AB → Option (AB × AD)
 | [.str a, .str b] => some (.int .i64 (compareBytes a b), h)
 | _ => none
def Wm (P : Program) (f : FuncId) : Bool :=
 match P.funcs[f]? with
 | some fn => !(fn.name == "runtime.NumGoroutine") && fn.body.isNone
 | none => false
theorem Xd {f : FuncId} (hx : Wm P f = true) {F : Array Value → Sem Value} (hn : ∀ fn, P.funcs[f]? = some fn → Extern.findNext fn = none ∧ Extern.find fn = some F) {cargs : Array Value} {v : Value} {w' : World} (h1 : (F cargs).run P w = .ok v w') {Q : Value → World → Prop} (hq : Q v w') : Cq P f cargs w Q := by
 unfold Wm at hx
 split at hx
 ·rename_i fn hfn
  simp only [Bool.and_eq_true, Bool.not_eq_true', Option.isNone_iff_eq_none] at hx
  obtain ⟨e1, e2⟩ := hn fn hfn
  have hrun : (callFunc f cargs).run P w = .ok (.value v) w' := by
   unfold callFunc
   simp only [Sem.run_bind, program, Sem.run, Result.andThen_ok, hfn]
   rw [if_neg (by rw [hx.1]; decide), if_pos (by rw [hx.2]; rfl)]
   simp only [e1, e2, Sem.run_bind]
   rw [show Sem.run P (Go.mark (Mark.extern f)) w = .ok () w from rfl]
   simp only [Result.andThen_ok, h1, Sem.run_pure]
  unfold Cq
  rw [hrun]
  exact hq
 ·cases hx
theorem Yd {f : FuncId} (G : Nat → Option (List AB)) (hx : Wm P f = true) (hn : ∀ fn, P.funcs[f]? = some fn → Extern.findNext fn = none ∧ Extern.find fn = some Extern.BytealgIndexByte.indexByte) : Es P G f fun g h args => Vb h args := by
 refine Es.of fun g h args v h' hc => ?_
 unfold Vb at hc
 split at hc
 ·rename_i s c
  split at hc
  ·rename_i hr
   simp only [Option.some.injEq, Prod.mk.injEq] at hc
   obtain ⟨rfl, rfl⟩ := hc
   refine ⟨A6.refl _ _, fun w0 m w cargs r hv => ?_⟩
   obtain ⟨a, b, rfl, ha, hb⟩ := Kd hv
   obtain rfl := ha.Dk
   obtain rfl := hb.Bo
   refine Xd hx hn (v := .int .i64 (idxOf s (UInt8.ofNat c.toNat))) (w' := w) ?_ ⟨m, A4.ext.refl _ _, r, .int _ _⟩
   show Sem.run P (do
    let b ← Extern.Bytes.bytesOf (.string ⟨⟨s⟩⟩)
    let c ← Extern.Bytes.asByte (.int .u8 c)
    match (List.range b.size).find? fun i => b[i]! == c with
    | some i => pure (goInt i)
    | none => pure (goInt (-1))) w = _
   simp only [Extern.Bytes.bytesOf, Extern.Bytes.asByte, Sem.run_bind, Sem.run_pure, Result.andThen_ok]
   rw [idx_eq s c.toNat.toUInt8]
   unfold idxOf
   rw [show UInt8.ofNat c.toNat = c.toNat.toUInt8 from rfl]
   cases (List.range s.length).find? fun i => s[i]? == some c.toNat.toUInt8 <;> rfl
  ·cases hc
 ·cases hc
def Rh : List (AB × AB) → Option (List (List UInt8))
 | [] => some []
 | (.str s, _) :: r => (Rh r).map (s :: ·)
 | _ => none
def Zr (x : List UInt8) : List (List UInt8) → List (List UInt8)
 | [] => [x]
 | y :: l => bif Op.bytesLess y x then y :: Zr x l else x :: y :: l
def Zv (l : List (List UInt8)) : List (List UInt8) := l.foldr Zr []
def ZC (ks : List (List UInt8)) : Bool := decide (ks.length ≤ 1099511627776) && ks.all fun s => decide (s.length ≤ 1099511627776)
def YA (e : TypeId) (h : AD) (ks : List (List UInt8)) : AB × AD :=
 match ks with
 | [] => (.slice none 0, h)
 | _ => (.slice (some (h.size, 0)) ks.length, h.push (.cells (some e) 2 ((Zv ks).map .str)))
def XY (h : AD) (b : Nat) : Option AB :=
 match h.get b with
 | some (.cells none 2 [v]) => some v
 | _ => none
def Uk (it : FuncId) (e : TypeId) (h : AD) : List AB → Option (AB × AD)
 | [.func (.func f) [] [.ptr (some (b, 0))]] =>
  if f = it then
   match XY h b with
   | some (.map none) => some (.slice none 0, h)
   | some (.map (some mid)) =>
    match h.get mid with
    | some (.map st es) =>
     if st = 2 then
      match Rh es with
      | some ks => if ZC ks = true then some (YA e h ks) else none
      | none => none
     else none
    | _ => none
   | _ => none
  else none
 | _ => none
def Q9 (s : List UInt8) (n : Int) : Bool := decide (0 ≤ n ∧ n ≤ 1099511627776 ∧ s.length * n.toNat ≤ 1099511627776)
def JC (h : AD) : List AB → Option (AB × AD)
 | [.str s, .int .i64 n] => if Q9 s n = true then some (.str (Lib.repeatL s n.toNat), h) else none
 | _ => none
theorem Uz {ρ : Ren} (L : Lays.n105 P ρ) (X : Builder.Extra P ρ) (G : Nat → Option (List AB)) : Es P G (ρ.f 105) fun g h args => JC h args := by
 refine Es.of fun g h args v h' hc => ?_
 have en : ∀ args w, (callFunc (ρ.f 105) args).run P w = .ok (.enter (ρ.f 105) args) w := enters_of L.f105 (by kernel_rfl) rfl
 unfold JC at hc
 split at hc
 ·rename_i s n
  split at hc
  ·rename_i hb
   obtain ⟨h0, h1, h2⟩ := of_decide_eq_true hb
   simp only [Option.some.injEq, Prod.mk.injEq] at hc
   obtain ⟨rfl, rfl⟩ := hc
   refine ⟨A6.refl _ _, fun w0 m w cargs r hv => ?_⟩
   obtain ⟨a, b, rfl, ha, hb'⟩ := Kd hv
   obtain rfl := ha.Dk
   obtain rfl := hb'.Bo
   obtain ⟨c, rfl⟩ : ∃ c : Nat, n = c := ⟨n.toNat, by omega⟩
   rw [Int.toNat_natCast] at h2 ⊢
   refine Dt en ((Any.strings_Repeat L X ⟨⟨s⟩⟩ c w (by omega) (by show s.length * c ≤ _; omega)).mono ?_)
   rintro e w' ⟨rfl, hbl⟩
   exact ⟨_, rfl, m, A4.ext.refl _ _, r.later hbl, VR.str ⟨⟨Lib.repeatL s c⟩⟩⟩
  ·cases hc
 ·cases hc
def Wo : List AB → Option (List (List UInt8))
 | [] => some []
 | .str s :: r => (Wo r).map (s :: ·)
 | _ => none
def Yi (ss : List (List UInt8)) (t : List UInt8) : Bool := decide (ss.length ≤ 1099511627776 ∧ (Lib.join ss t).length ≤ 1099511627776)
def Xl (h : AD) : List AB → Option (AB × AD)
 | [x, .str t] =>
  match Oj x with
  | some n =>
   match (bif Nat.beq n 0 then some [] else (Db h 1 n x).bind Wo) with
   | some ss => if Yi ss t = true then some (.str (Lib.join ss t), h) else none
   | none => none
  | none => none
 | _ => none
def ZA (h : AD) : List AB → Option (AB × AD)
 | [.str s, .str t] => if s.length ≤ 4294967280 then some (.tuple [.str (Lib.cut s t).1, .str (Lib.cut s t).2.1, .bool (Lib.cut s t).2.2], h) else none
 | _ => none
def VT (h : AD) : List AB → Option (AB × AD)
 | [.str s, .str t] => if s.length ≤ 4294967280 then some (.int .i64 (Lib.index s t), h) else none
 | _ => none
end
def XS (h : AD) : List AB → Option (AB × AD)
 | [] => some (.bool true, h)
 | _ => none
def XH (h : AD) : List AB → Option (AB × AD)
 | [] => some (.undef, h)
 | _ => none
def V2 (f : AB → Option AB) : List AB → Option (List AB)
 | [] => some []
 | v :: vs => match f v, V2 f vs with | some v', some vs' => some (v' :: vs') | _, _ => none
def Z3 (args : List AB) (i o : Nat) : Option AB :=
 match args[i]? with
 | some (.ptr (some (id, b))) => some (.ptr (some (id, b + o)))
 | _ => none
def WE (args : List AB) : Nat → AB → Option AB
 | 0, _ => none
 | n + 1, v =>
  match v with
  | .ptr (some (i, o)) => Z3 args i o
  | .Am cs => (V2 (WE args n) cs).map .Am
  | .agg cs => (V2 (WE args n) cs).map .agg
  | .func fn a b => match V2 (WE args n) a, V2 (WE args n) b with | some a', some b' => some (.func fn a' b') | _, _ => none
  | v => bif Ed v then some v else none
def VW (args : List AB) : List (AB × AB) → Option (List (AB × AB))
 | [] => some []
 | (k, v) :: es => match WE args 10 v, VW args es with | some v', some es' => some ((k, v') :: es') | _, _ => none
def Ph : AB → Bool
 | .ptr (some _) => true
 | _ => false
abbrev XG := List (List (AB × AB))
def Z1 (es : List (AB × AB)) (n : Nat) (h : AD) (args : List AB) : Option (AB × AD) :=
 bif Nat.beq args.length n && args.all Ph then (VW args es).map fun es' => (.map (some h.size), h.push (.map 2 es')) else none
def PZ (es : List (AB × AB)) (n : Nat) (h : AD) (args : List AB) : Option (AB × AD) :=
 bif Nat.beq args.length n && args.all Ph then (VW args es).map fun es' => (.map (some h.size), h.push (.map 3 es')) else none
def WG : AB → AB → Bool
 | .bool a, .bool b => a == b
 | .int k a, .int k' b => decide (k = k') && decide (a = b)
 | .str a, .str b => decide (a = b)
 | _, _ => false
def Qu : List AB → List AB → Bool
 | [], [] => true
 | a :: l, b :: r => WG a b && Qu l r
 | _, _ => false
def Yt (tab : List (AB × AB)) (h : AD) : List AB → Option (AB × AD)
 | [.agg cs] => (tab.find? fun p => match p.1 with | .agg ds => Qu ds cs | _ => false).map fun p => (p.2, h)
 | _ => none
def Zd : AB → AB → Bool
 | .Iw n cs, .Iw n' cs' => Nat.beq n n' && Qu cs cs'
 | x, y => WG x y
def WT : List AB → List AB → Bool
 | [], [] => true
 | x :: xs, y :: ys => Zd x y && WT xs ys
 | _, _ => false
def Yj (tab : List (AB × AB)) (h : AD) (args : List AB) : Option (AB × AD) := (tab.find? fun p => match p.1 with | .tuple ks => WT ks args | _ => false).map fun p => (p.2, h)
def MF (h : AD) : List AB → Option (AB × AD)
 | [.int .i64 n] => if -9223372036854775808 ≤ n ∧ n ≤ 9223372036854775807 then some (.str (Lib.itoa n), h) else none
 | _ => none
def OM (h : AD) : List AB → Option (AB × AD)
 | [.int .u64 u] => if 1 ≤ u ∧ u < 18446744073709551616 then some (.int .i64 (Lib.nDigits u.toNat : Nat), h) else none
 | _ => none
def I3 (n u : Nat) : List UInt8 := (List.range n).map fun t => Lib.dg u (n - 1 - t)
def Pu (n : Nat) (u : Int) : Bool := decide (n ≠ 0 ∧ n ≤ 24 ∧ 0 ≤ u ∧ u < 18446744073709551616 ∧ u.toNat < 10 ^ n)
def aL : AB → Bool
 | .int .u8 k => decide (0 ≤ k ∧ k ≤ 255)
 | _ => false
def OU (g : Gd) (h : AD) : List AB → Option (AB × AD)
 | [.slice (some (id, 0)) n, .int .u64 u] =>
  if Pu n u = true then
   match h.get id with
   | some (.cells gr 2 cs) => if g.may id = true ∧ n ≤ cs.length ∧ (cs.take n).all aL = true then some (.tuple [], h.set id (.cells gr 2 ((I3 n u.toNat).map (fun b => AB.int .u8 (b.toNat : Int)) ++ cs.drop n))) else none
   | _ => none
  else none
 | _ => none
abbrev Ik := List UInt8 × List UInt8
def MS : List AB → Option (List Ik)
 | [] => some []
 | .str k :: .str v :: r => (MS r).map ((k, v) :: ·)
 | _ => none
def FE (l : List Ik) : List AB := l.flatMap fun p => [.str p.1, .str p.2]
def TI (x : Ik) : List Ik → List Ik
 | [] => [x]
 | y :: l => if x.1 ≤ y.1 then x :: y :: l else y :: TI x l
def FZ (l : List Ik) : List Ik := l.foldr TI []
def L8 : List Ik → Bool
 | [] => true
 | x :: l => l.all (fun y => y.1 != x.1) && L8 l
def GI (c : FuncId) (g : Gd) (h : AD) : List AB → Option (AB × AD)
 | [.slice r n, .func (.func f) [] []] =>
  if f = c then
   if n = 0 then some (.tuple [], h) else
   match r with
   | some (id, 0) =>
    match h.get id with
    | some (.cells gr 2 cs) =>
     if cs.length = n * 2 ∧ n ≤ 1099511627776 ∧ g.may id = true then
      match MS cs with
      | some l => if L8 l = true then some (.tuple [], h.set id (.cells gr 2 (FE (FZ l)))) else none
      | none => none
     else none
    | _ => none
   | _ => none
  else none
 | _ => none
def WJ (P : Program) (km : XG) (c : Nat × Nat × Nat) (g : Gd) (h : AD) (args : List AB) : Option (AB × AD) :=
 match c.1 with
 | 1 => Vb h args
 | 2 => Uk c.2.1 c.2.2 h args
 | 3 => Y9 h args
 | 4 => VN P c.2.2 h args
 | 5 => X3 P c.2.2 h args
 | 6 => UR P c.2.2 h args
 | 7 => JC h args
 | 8 => ZA h args
 | 9 => VT h args
 | 10 => Xl h args
 | 11 => GI c.2.1 g h args
 | 12 => MF h args
 | 13 => OM h args
 | 14 => OU g h args
 | 30 => XS h args
 | 31 => XH h args
 | 32 => Z1 (km.getD c.2.1 []) c.2.2 h args
 | 33 => PZ (km.getD c.2.1 []) c.2.2 h args
 | 34 => Yt (km.getD c.2.1 []) h args
 | 35 => Yj (km.getD c.2.1 []) h args
 | _ => none
def Hm : List (Nat × Nat × Nat × Nat) → Nat → Option (Nat × Nat × Nat)
 | [], _ => none
 | (f', c) :: l, f => bif Nat.beq f f' then some c else Hm l f
theorem P8 : ∀ {l : List (Nat × Nat × Nat × Nat)} {f : Nat} {c : Nat × Nat × Nat}, Hm l f = some c → (f, c) ∈ l
 | (f', c') :: l, f, c, h => by
  unfold Hm at h
  rw [HP] at h
  split at h
  ·rename_i e; subst e; injection h with h; subst h; simp
  ·exact List.mem_cons_of_mem _ (P8 h)
def Ms (P : Program) (km : XG) (l : List (Nat × Nat × Nat × Nat)) (f : Nat) (g : Gd) (h : AD) (args : List AB) : Option (AB × AD) :=
 match Hm l f with
 | some c => WJ P km c g h args
 | none => none
def Qr (ks : List Nat) (l : List (Nat × Nat × Nat × Nat)) : Nat → Bool
 | 0 => true
 | n + 1 => Qr ks l n && (!(Nat.beq (Po ks n) 3) || (Hm l n).isSome)
theorem P7 {ks : List Nat} {l : List (Nat × Nat × Nat × Nat)} : ∀ {n : Nat}, Qr ks l n = true → ∀ f, f < n → Po ks f = 3 → (Hm l f).isSome = true
 | 0, _, f, hf, _ => by omega
 | n + 1, h, f, hf, h3 => by
  simp only [Qr, Bool.and_eq_true] at h
  by_cases e : f = n
  ·subst e
   have := h.2
   rw [h3] at this
   simpa using this
  ·exact P7 h.1 f (by omega) h3
theorem Uc {C : Ft} {km : XG} {ks : List Nat} {l : List (Nat × Nat × Nat × Nat)} (hk : C.kind = Po ks) (hmix : C.P.follows .mixedOrders = true) (hall : UK C ks.length = true) (hro : C.aH = Vg C.P C.LD) (hx : C.ext = Ms C.P km l) (h3 : Qr ks l ks.length = true)
  (he : ∀ p ∈ l, Es C.P C.Cd p.1 (WJ C.P km p.2)) : I5 C := by
 refine ⟨hmix, fun f fn c hkf h1 h2 => ?_, fun f a b hr => ?_, fun f hf => ?_⟩
 ·have hne : C.kind f ≠ 0 := by omega
  refine SC hall ?_ hne (by omega) h1 h2
  rcases Nat.lt_or_ge f ks.length with h | h
  ·exact h
  ·rw [hk, N8 h] at hne; exact absurd rfl hne
 ·rw [hro] at hr
  simp only [Vg, Bool.and_eq_true] at hr
  exact ⟨(NV (C := C) (C' := Wk C.P C.LD) rfl rfl f a).trans hr.1.1, (NV (C := C) (C' := Wk C.P C.LD) rfl rfl f b).trans hr.1.2, hr.2.1, hr.2.2⟩
 ·have hlt : f < ks.length := by
   rcases Nat.lt_or_ge f ks.length with h | h
   ·exact h
   ·rw [hk, N8 h] at hf; cases hf
  obtain ⟨c, hl⟩ := Option.isSome_iff_exists.1 (P7 h3 f hlt (by rw [← hk]; exact hf))
  have := he _ (P8 hl)
  have e : (fun (g : Gd) (h : AD) (f' : FuncId) (args : List AB) => if f' = f then C.ext f g h args else none) = fun (g : Gd) h f' args => if f' = f then WJ C.P km c g h args else none := by
   funext g h f' args
   rw [hx]
   simp only [Ms, hl]
  rw [e]; exact this
section
variable {C : Ft} {km : XG} {l : List (Nat × Nat × Nat × Nat)} {g : Gd} {h : AD} {f : Nat} {L F : List Ck}
theorem MJ {c : Nat × Nat × Nat} {args : List AB} {v : AB} {h' : AD} (hk : C.kind f = 3) (hx : C.ext = Ms C.P km l) (hl : Hm l f = some c) (he : WJ C.P km c g h args = some (v, h')) : BB C g h f args v h' := by
 refine ⟨1, ?_⟩
 show Ji C (Cy C 0) g h f _ = _
 unfold Ji
 rw [hk]
 simp only [hx, Ms, hl, he]
theorem XR {s : List UInt8} {c n : Int} (hk : C.kind f = 3) (hx : C.ext = Ms C.P km l) (hl : Hm l f = some (1, 0, 0)) (hm : G3 s c = some n) : BB C g h f [.str s, .int .u8 c] (.int .i64 n) h := by
 refine MJ hk hx hl ?_
 unfold G3 at hm
 show Vb h [.str s, .int .u8 c] = some (.int .i64 n, h)
 unfold Vb
 split at hm
 ·rename_i hr; injection hm with hm; subst hm; dsimp only; rw [if_pos hr]
 ·cases hm
theorem Tm {s : List UInt8} {n : Int} (hk : C.kind f = 3) (hx : C.ext = Ms C.P km l) (hl : Hm l f = some (7, 0, 0)) (hb : Q9 s n = true) : BB C g h f [.str s, .int .i64 n] (.str (Lib.repeatL s n.toNat)) h := by
 refine MJ hk hx hl ?_
 show JC h [.str s, .int .i64 n] = _
 unfold JC
 dsimp only
 rw [if_pos hb]
end
end Go.Av
