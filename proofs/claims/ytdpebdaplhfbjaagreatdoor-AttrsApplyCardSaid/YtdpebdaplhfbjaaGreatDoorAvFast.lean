/-
  AV: a run that the kernel reckons fast: slots in a trie, values put into their plain forms. What it tells, the abstract run tells.
-/
import Derived.Test.YtdpebdaplhfbjaaGreatDoorAvWalk
namespace Go.Av
set_option linter.unusedVariables false
set_option linter.unusedSimpArgs false
section
variable (P : Program)
def opPE (E : Operand → AVal) : Op → Option AVal
 | .move x | .assign x => some (E x)
 | .pick c a b =>
  match E c with
  | .bool b' => some (bif b' then E a else E b)
  | _ => none
 | .build t parts => buildA P t (parts.toList.map fun (i, x) => (i, E x))
 | .nilCheck x =>
  match E x with
  | .ptr (some r) => some (.ptr (some r))
  | .gptr g o => some (.gptr g o)
  | .vptr cs => some (.vptr cs)
  | .func (.func f) a b => some (.func (.func f) a b)
  | _ => none
 | .binOp op t x y _ => binN P op t (isC x || isC y) (E x) (E y)
 | .unOp op _ x => unA op (E x)
 | .convert s d x => convP P s d (E x)
 | .makeFunc fn first cap => some (.func fn (first.toList.map E) (cap.toList.map E))
 | .slice t x lo hi none => sliceP P t (E x) (lo.map E) (hi.map E)
 | .fieldAddr s x f => fieldAddrA P s (E x) f
 | .field s x f => fieldA P s (E x) f
 | .indexAddr t x i => indexAddrA P t (E x) (E i)
 | .index t x i => indexA P t (E x) (E i)
 | .extract x i =>
  match E x with
  | .tuple vs => vs[i]?
  | _ => none
 | .call { callee := .builtin b, args := as, argTypes := ts } =>
  match b, as.toList.map E with
  | .len, [x] => lenP P ts x
  | .min, x :: r => minMaxA false x r
  | .max, x :: r => minMaxA true x r
  | _, _ => none
 | _ => none
def touchAE (E : Operand → AVal) : Op → Option Nat
 | .load _ x => refOf (E x)
 | .slice _ x _ _ _ => refOf (E x)
 | .convert _ _ x => refOf (E x)
 | .lookup _ x _ _ => refOf (E x)
 | .call { args := as, .. } =>
  match as.toList with
  | [x] => refOf (E x)
  | _ => none
 | _ => none
def opRE (G : Nat → Option (List AVal)) (E : Operand → AVal) (ob : Option AObj) : Op → Option AVal
 | .load t a =>
  match E a with
  | .ptr (some (_, o)) => loadA P ob t o
  | .gptr g o => loadA P ((G g).map fun cs => .cells none 1 cs) t o
  | .vptr cs => loadA P (some (.cells none 1 cs)) t 0
  | _ => none
 | .slice t x lo hi none => sliceR P ob t (E x) (lo.map E) (hi.map E)
 | .convert s d x => convR P ob s d (E x)
 | .lookup t x k ok => lookupR P ob t (E x) (E k) ok
 | .call { callee := .builtin .len, args := as, argTypes := ts } =>
  match as.toList with
  | [x] => lenR P ob ts (E x)
  | _ => none
 | _ => none
def opNE (E : Operand → AVal) : Op → Option New
 | .alloc e => (zeroA P e).bind newVarA
 | .box _ x => newVarA (E x)
 | .buildSlice t len parts => buildSliceA P t len (parts.toList.map fun (i, x) => (i, E x))
 | .convert s d x => convN P s d (E x)
 | .makeMap _ none => some (fun n => .map (some n), .map 2 [])
 | .makeSlice t l c => makeSliceA P t (E l) (E c)
 | .makeChan t n =>
  match P.underlying t, E n with
  | some (.chan _ e), .int _ n =>
   match P.info? e with
   | some i => if 0 ≤ n ∧ n ≤ 1099511627776 ∧ i.bytes * n ≤ 1099511627776 then some (fun k => .chan (some k), .chan n.toNat []) else none
   | none => none
  | _, _ => none
 | .range t x =>
  match P.underlying t, E x with
  | some .string, .str s => some (fun n => .ptr (some (n, 0)), .iter s 0)
  | _, _ => none
 | _ => none
def opWE (g : Gd) (h : AHeap) (E : Operand → AVal) : Op → Option (AVal × AHeap)
 | .convert s d x => convW P g h s d (E x)
 | .store t a x =>
  match E a with
  | .ptr (some (id, o)) => (storeA P g h t id o (E x)).map (.tuple [], ·)
  | _ => none
 | .mapUpdate t m k v | .insert t m k v => (mapSetZ P g h t (E m) (E k) (E v)).map (.tuple [], ·)
 | .next it true =>
  match E it with
  | .ptr (some (id, 0)) =>
   match h.get id with
   | some (.iter s pos) =>
    if g.may id = true then
     if pos < s.length then
      some (.tuple [.bool true, .int .i64 pos, .int .i32 (Utf8.decode ⟨⟨s⟩⟩ pos).1], h.set id (.iter s (pos + (Utf8.decode ⟨⟨s⟩⟩ pos).2)))
     else some (.tuple [.bool false], h)
    else none
   | _ => none
  | _ => none
 | .call { callee := .builtin b, args := as, argTypes := ts } =>
  match b, as.toList.map E with
  | .append, [s, x] => appendA P g h ts s x
  | .copy, [d, x] => copyA P g h ts d x
  | .delete, [m, k] => (deleteA P g h ts m k).map (.tuple [], ·)
  | _, _ => none
 | _ => none
def opAE (G : Nat → Option (List AVal)) (g : Gd) (h : AHeap) (E : Operand → AVal) (op : Op) : Option (AVal × AHeap) :=
 match clsOf P op with
 | 0 => (opPE P E op).map (·, h)
 | 1 =>
  match touchAE E op with
  | none => (opRE P G E none op).map (·, h)
  | some id =>
   match h.get id with
   | some ob => (opRE P G E (some ob) op).map (·, h)
   | none => none
 | 2 => (opNE P E op).map fun x => (x.1 h.size, h.push x.2)
 | _ => opWE P g h E op
end
def selAE (P : Program) (g : Gd) (h : AHeap) (E : Operand → AVal) : Op → Option (AVal × AHeap)
 | .select cases blocking =>
  match cases.toList, blocking with
  | [c], false =>
   match zeroA P c.elem with
   | some z =>
    match E c.chan with
    | .chan (some id) =>
     match h.get id with
     | some (.chan cap buf) =>
      match c.send with
      | some x =>
       bif Nat.ble cap buf.length then some (.tuple [.int .i64 (-1), .bool false], h)
       else bif g.may id then some (.tuple [.int .i64 0, .bool false], h.set id (.chan cap (buf ++ [E x])))
       else none
      | none =>
       match buf with
       | v :: rest => bif g.may id then some (.tuple [.int .i64 0, .bool true, v], h.set id (.chan cap rest)) else none
       | [] => some (.tuple [.int .i64 (-1), .bool false, z], h)
     | _ => none
    | _ => none
   | none => none
  | _, _ => none
 | _ => none
section
variable (C : Cfg)
def stepE (call : Gd → AHeap → FuncId → List AVal → Option (AVal × AHeap)) (g : Gd) (h : AHeap) (E : Operand → AVal) (op : Op) : Option (AVal × AHeap) :=
 match op with
 | .call { callee := .value x, args := as, .. } =>
  match E x with
  | .func (.func f) first cap => call g h f (first ++ (as.toList.map E ++ cap))
  | _ => none
 | op => opAE C.P C.glob g h E op
def wantedE (ops : Array Oper) (E : Operand → AVal) (o : Oper) : Option Bool :=
 match o.guard with
 | none => some true
 | some (j, want) =>
  match (ops[j]?).bind (·.dst) with
  | none => some false
  | some d =>
   match E (.tmp d) with
   | .bool b => some (b == want)
   | .undef => none
   | _ => some false
def touchesE (P : Program) (h : AHeap) (E : Operand → AVal) (i : Nat) (op : Op) (tch : List (Nat × Nat)) : List (Nat × Nat) :=
 match clsOf P op with
 | 1 => match touchAE E op with | some id => (i, id) :: tch | none => tch
 | 2 => (i, h.size) :: tch
 | _ => tch
def reOk1E (ops : Array Oper) (N : Nat) (E : Operand → AVal) (h : AHeap) (i : Nat) : Bool :=
 match ops[i]? with
 | some o =>
  match wantedE ops E o with
  | some false => true
  | some true =>
   match o.dst, touchAE E o.op with
   | some d, some id =>
    Nat.blt d N && (match h.get id with
     | some ob => (match opRE C.P C.glob E (some ob) o.op with | some v => sameV v (E (.tmp d)) | none => false)
     | none => false)
   | _, _ => false
  | none => false
 | none => false
def reOkE (ops : Array Oper) (U : List Nat) (N : Nat) (E : Operand → AVal) (h : AHeap) : Bool := U.all fun u => Nat.blt u 10000 || reOk1E C ops N E h (u - 10000)
end
noncomputable section
abbrev OV := Option (AVal × AHeap)
def fcN (n : Nat) (k : Nat → OV) : OV := Nat.rec (k 0) (fun m _ => k (m + 1)) n
theorem fcN_eq (n : Nat) (k : Nat → OV) : fcN n k = k n := by cases n <;> rfl
def fcI (n : Int) (k : Int → OV) : OV := Int.rec (fun m => fcN m fun m => k (.ofNat m)) (fun m => fcN m fun m => k (.negSucc m)) n
theorem fcI_eq (n : Int) (k : Int → OV) : fcI n k = k n := by
 cases n
 ·rename_i m; exact fcN_eq m fun m => k (.ofNat m)
 ·rename_i m; exact fcN_eq m fun m => k (.negSucc m)
inductive FV where
 | i (k : IntKind) (n : Int)
 | b (x : Bool)
 | p (id o : Nat)
 | o (v : AVal)
def FV.toA : FV → AVal
 | .i k n => .int k n
 | .b x => .bool x
 | .p id q => .ptr (some (id, q))
 | .o v => v
def fvR (r : Option (Nat × Nat)) (k : FV → OV) : OV := match r with | some (a, b) => fcN a fun a => fcN b fun b => k (.p a b) | none => k (.o (.ptr none))
def ofA (v : AVal) (k : FV → OV) : OV :=
 match v with
 | .int kd n => fcI n fun n => k (.i kd n)
 | .bool b => Bool.rec (k (.b false)) (k (.b true)) b
 | .ptr r => fvR r k
 | v => k (.o v)
theorem ofA_ok {v : AVal} {k : FV → OV} {r : AVal × AHeap} (h : ofA v k = some r) : ∃ x : FV, x.toA = v ∧ k x = some r := by
 cases v with
 | int kd n => exact ⟨.i kd n, rfl, (fcI_eq n fun n => k (.i kd n)).symm.trans h⟩
 | bool b => cases b <;> exact ⟨.b _, rfl, h⟩
 | ptr q =>
  rcases q with _ | ⟨a, b⟩
  ·exact ⟨.o (.ptr none), rfl, h⟩
  ·refine ⟨.p a b, rfl, ?_⟩
   rw [← h]
   show _ = fcN a fun a => fcN b fun b => k (.p a b)
   rw [fcN_eq, fcN_eq]
 | _ => exact ⟨.o _, rfl, h⟩
def fcV (v : FV) (k : FV → OV) : OV := FV.rec (fun kd n => k (.i kd n)) (fun b => k (.b b)) (fun id o => k (.p id o)) (fun v => k (.o v)) v
theorem fcV_eq (v : FV) (k : FV → OV) : fcV v k = k v := by cases v <;> rfl
def fcT (t : Tr AObj) (k : Tr AObj → OV) : OV := Tr.rec (k .leaf) (fun l v r _ _ => k (.node l v r)) t
theorem fcT_eq (t : Tr AObj) (k : Tr AObj → OV) : fcT t k = k t := by cases t <;> rfl
def fcH (h : AHeap) (k : AHeap → OV) : OV := AHeap.rec (fun n t => fcN n fun n => fcT t fun t => k ⟨n, t⟩) h
theorem fcH_eq (h : AHeap) (k : AHeap → OV) : fcH h k = k h := by
 rcases h with ⟨n, t⟩
 show (fcN n fun n => fcT t fun t => k ⟨n, t⟩) = _
 rw [fcN_eq, fcT_eq]
def trG (t : Tr AObj) (i : Nat) : Option AObj := Tr.rec (motive := fun _ => Nat → Option AObj) (fun _ => none) (fun _ v _ l r i => Bool.rec (Bool.rec (r (i / 2 - 1)) (l (i / 2)) (Nat.beq (i % 2) 1)) v (Nat.beq i 0)) t i
theorem trG_eq : ∀ (t : Tr AObj) (i : Nat), trG t i = t.get i
 | .leaf, _ => rfl
 | .node l v r, i => by
  rw [Tr.get]
  show (Bool.rec (Bool.rec (trG r (i / 2 - 1)) (trG l (i / 2)) (Nat.beq (i % 2) 1)) v (Nat.beq i 0) : Option AObj) = _
  rw [trG_eq l, trG_eq r]
  cases Nat.beq i 0
  ·cases Nat.beq (i % 2) 1 <;> rfl
  ·rfl
def hget (h : AHeap) (i : Nat) : Option AObj := AHeap.rec (fun n t => Bool.rec none (trG t i) (Nat.blt i n)) h
theorem hget_eq (h : AHeap) (i : Nat) : hget h i = h.get i := by
 rcases h with ⟨n, t⟩
 show (Bool.rec none (trG t i) (Nat.blt i n) : Option AObj) = bif Nat.blt i n then t.get i else none
 rw [trG_eq]
 cases Nat.blt i n <;> rfl
def kn : IntKind → Nat
 | .i8 => 0 | .i16 => 1 | .i32 => 2 | .i64 => 3 | .u8 => 4 | .u16 => 5 | .u32 => 6 | .u64 => 7
theorem kn_eq (k k' : IntKind) : Nat.beq (kn k) (kn k') = decide (k = k') := by cases k <;> cases k' <;> rfl
structure BW where f : Int → Int
def wrK (k : IntKind) (lim m : Nat) : Int := Bool.rec (k.wrap (.ofNat m)) (.ofNat m) (Nat.blt m lim)
def wrB (k : IntKind) : BW := ⟨fun n => Int.rec (fun m => wrK k (2 ^ (k.bits - 1)) m) (fun m => k.wrap (.negSucc m)) n⟩
theorem wrB_eq (k : IntKind) (n : Int) : (wrB k).f n = k.wrap n := by
 cases n with
 | negSucc m => rfl
 | ofNat m =>
  show (Bool.rec (k.wrap (.ofNat m)) (Int.ofNat m) (Nat.blt m (2 ^ (k.bits - 1))) : Int) = _
  cases hb : Nat.blt m (2 ^ (k.bits - 1)) with
  | false => rfl
  | true =>
   rw [Nat.blt_eq] at hb
   have e : ((m : Nat) : Int) % (2 ^ k.bits : Int) = m := by
    refine Int.emod_eq_of_lt (Int.natCast_nonneg _) ?_
    have : (2 : Nat) ^ (k.bits - 1) < 2 ^ k.bits := Nat.pow_lt_pow_right (by omega) (by cases k <;> decide)
    exact_mod_cast Nat.lt_trans hb this
   show Int.ofNat m = k.wrap (Int.ofNat m)
   unfold IntKind.wrap
   simp only [Int.ofNat_eq_natCast, e]
   have h2 : ¬ ((m : Int) ≥ (2 ^ (k.bits - 1) : Int)) := by
    have : ((m : Nat) : Int) < ((2 ^ (k.bits - 1) : Nat) : Int) := by exact_mod_cast hb
    rw [Int.natCast_pow] at this
    simpa using this
   rw [decide_eq_false h2, Bool.and_false]
   rfl
def nn2 {α : Type} (f : Nat → Nat → α) (s : α) (a b : Int) : α := Int.rec (fun x => Int.rec (fun y => f x y) (fun _ => s) b) (fun _ => s) a
theorem nn2_eq {α : Type} {f : Nat → Nat → α} {s : α} {a b : Int} (h : ∀ x y : Nat, a = x → b = y → f x y = s) : nn2 f s a b = s := by
 cases a
 ·cases b
  ·exact h _ _ rfl rfl
  ·rfl
 ·rfl
def addI (a b : Int) : Int := nn2 (fun x y => .ofNat (Nat.add x y)) (a + b) a b
theorem addI_eq (a b : Int) : addI a b = a + b := nn2_eq fun x y e1 e2 => by subst e1 e2; rfl
def leI (a b : Int) : Bool := nn2 (fun x y => Nat.ble x y) (decide (a ≤ b)) a b
theorem leI_eq (a b : Int) : leI a b = decide (a ≤ b) := nn2_eq fun x y e1 e2 => by
 subst e1 e2
 rw [Bool.eq_iff_iff, decide_eq_true_eq, Nat.ble_eq]
 omega
def eqI (a b : Int) : Bool := nn2 (fun x y => Nat.beq x y) (a == b) a b
theorem eqI_eq (a b : Int) : eqI a b = (a == b) := nn2_eq fun x y e1 e2 => by
 subst e1 e2
 rw [Bool.eq_iff_iff, beq_iff_eq, Nat.beq_eq]
 omega
def andI (k : IntKind) (a b : Int) : Int := (BitVec.ofInt k.bits a &&& BitVec.ofInt k.bits b).toNat
def andF (k : IntKind) (a b : Int) : Int := nn2 (fun x y => .ofNat (Nat.mod (Nat.land x y) (2 ^ k.bits))) (andI k a b) a b
theorem andF_eq (k : IntKind) (a b : Int) : andF k a b = andI k a b := nn2_eq fun x y e1 e2 => by
 subst e1 e2
 unfold andI
 rw [BitVec.toNat_and]
 simp only [BitVec.ofInt_natCast, BitVec.toNat_ofNat]
 show ((Nat.land x y % 2 ^ k.bits : Nat) : Int) = _
 rw [show Nat.land x y = x &&& y from rfl, Nat.and_mod_two_pow]
def orI (k : IntKind) (a b : Int) : Int := (BitVec.ofInt k.bits a ||| BitVec.ofInt k.bits b).toNat
def orF (k : IntKind) (a b : Int) : Int := nn2 (fun x y => .ofNat (Nat.mod (Nat.lor x y) (2 ^ k.bits))) (orI k a b) a b
theorem orF_eq (k : IntKind) (a b : Int) : orF k a b = orI k a b := nn2_eq fun x y e1 e2 => by
 subst e1 e2
 unfold orI
 rw [BitVec.toNat_or]
 simp only [BitVec.ofInt_natCast, BitVec.toNat_ofNat]
 show ((Nat.lor x y % 2 ^ k.bits : Nat) : Int) = _
 rw [show Nat.lor x y = x ||| y from rfl, Nat.or_mod_two_pow]
def shrF (k : IntKind) (a b : Int) : Int := nn2 (fun x y => .ofNat (Nat.div x (2 ^ min y k.bits))) (a.fdiv (2 ^ (min b.toNat k.bits))) a b
theorem shrF_eq (k : IntKind) (a b : Int) : shrF k a b = a.fdiv (2 ^ (min b.toNat k.bits)) := nn2_eq fun x y e1 e2 => by
 subst e1 e2
 show ((x / 2 ^ min y k.bits : Nat) : Int) = _
 rw [Int.toNat_natCast]
 have : ((2 : Int) ^ min y k.bits) = ((2 ^ min y k.bits : Nat) : Int) := by rw [Int.natCast_pow]; rfl
 rw [this, Int.fdiv_eq_ediv_of_nonneg _ (Int.natCast_nonneg _)]
 rfl
structure BI where f : Int → Int → (FV → AHeap → OV) → AHeap → OV
def nI (k : IntKind) (f : Int → Int → Int) : BI := ⟨fun a b c h => fcI (f a b) fun n => c (.i k n) h⟩
def bI (f : Int → Int → Bool) : BI := ⟨fun a b c h => Bool.rec (c (.b false) h) (c (.b true) h) (f a b)⟩
def iB (o : BinOp) (k : IntKind) : Option BI :=
 match o with
 | .add => some (nI k fun a b => (wrB k).f (addI a b))
 | .sub => some (nI k fun a b => (wrB k).f (a - b))
 | .mul => some (nI k fun a b => (wrB k).f (a * b))
 | .and => some (nI k fun a b => (wrB k).f (andF k a b))
 | .or => some (nI k fun a b => (wrB k).f (orF k a b))
 | .eql => some (bI fun a b => eqI a b)
 | .neq => some (bI fun a b => !(eqI a b))
 | .lss => some (bI fun a b => !(leI b a))
 | .leq => some (bI fun a b => leI a b)
 | .gtr => some (bI fun a b => !(leI a b))
 | .geq => some (bI fun a b => leI b a)
 | _ => none
theorem iB_ok {o : BinOp} {k : IntKind} {f : BI} (h : iB o k = some f) {a b : Int} {c : FV → AHeap → OV} {hp : AHeap} {r : AVal × AHeap} (hr : f.f a b c hp = some r) :
  o ≠ .shl ∧ o ≠ .shr ∧ ∃ x : FV, intBin o k a b = some x.toA ∧ c x hp = some r := by
 have nok : ∀ {g : Int → Int → Int} {n : Int}, (nI k g).f a b c hp = some r → g a b = n → ∃ x : FV, some (AVal.int k n) = some x.toA ∧ c x hp = some r := fun {g n} h1 h2 =>
  ⟨.i k n, rfl, by rw [← h1, ← h2]; exact (fcI_eq (g a b) fun n => c (.i k n) hp).symm⟩
 have bok : ∀ {g : Int → Int → Bool} {n : Bool}, (bI g).f a b c hp = some r → g a b = n → ∃ x : FV, some (AVal.bool n) = some x.toA ∧ c x hp = some r := fun {g n} h1 h2 => by
  refine ⟨.b n, rfl, ?_⟩
  have h1 : Bool.rec (c (.b false) hp) (c (.b true) hp) (g a b) = some r := h1
  rw [h2] at h1
  cases n <;> exact h1
 cases o <;> simp only [iB, Option.some.injEq, reduceCtorEq] at h <;> subst h <;> refine ⟨by simp, by simp, ?_⟩ <;> simp only [intBin]
 ·exact nok hr (by rw [wrB_eq, addI_eq])
 ·exact nok hr (wrB_eq _ _)
 ·exact nok hr (wrB_eq _ _)
 ·exact nok hr (by rw [wrB_eq, andF_eq]; rfl)
 ·exact nok hr (by rw [wrB_eq, orF_eq]; rfl)
 ·exact bok hr (eqI_eq _ _)
 ·exact bok hr (by rw [eqI_eq]; rfl)
 ·exact bok hr (by rw [leI_eq]; simp [← decide_not])
 ·exact bok hr (leI_eq _ _)
 ·exact bok hr (by rw [leI_eq]; simp [← decide_not])
 ·exact bok hr (leI_eq _ _)
inductive Q16 where
 | mk (a0 a1 a2 a3 a4 a5 a6 a7 a8 a9 a10 a11 a12 a13 a14 a15 : FV)
def Q16.all (x : FV) : Q16 := .mk x x x x x x x x x x x x x x x x
def Q16.s0 (q : Q16) : FV := Q16.rec (fun a0 a1 a2 a3 a4 a5 a6 a7 a8 a9 a10 a11 a12 a13 a14 a15 => a0) q
def Q16.u0 (q : Q16) (x : FV) : Q16 := Q16.rec (fun a0 a1 a2 a3 a4 a5 a6 a7 a8 a9 a10 a11 a12 a13 a14 a15 => .mk x a1 a2 a3 a4 a5 a6 a7 a8 a9 a10 a11 a12 a13 a14 a15) q
def Q16.s1 (q : Q16) : FV := Q16.rec (fun a0 a1 a2 a3 a4 a5 a6 a7 a8 a9 a10 a11 a12 a13 a14 a15 => a1) q
def Q16.u1 (q : Q16) (x : FV) : Q16 := Q16.rec (fun a0 a1 a2 a3 a4 a5 a6 a7 a8 a9 a10 a11 a12 a13 a14 a15 => .mk a0 x a2 a3 a4 a5 a6 a7 a8 a9 a10 a11 a12 a13 a14 a15) q
def Q16.s2 (q : Q16) : FV := Q16.rec (fun a0 a1 a2 a3 a4 a5 a6 a7 a8 a9 a10 a11 a12 a13 a14 a15 => a2) q
def Q16.u2 (q : Q16) (x : FV) : Q16 := Q16.rec (fun a0 a1 a2 a3 a4 a5 a6 a7 a8 a9 a10 a11 a12 a13 a14 a15 => .mk a0 a1 x a3 a4 a5 a6 a7 a8 a9 a10 a11 a12 a13 a14 a15) q
def Q16.s3 (q : Q16) : FV := Q16.rec (fun a0 a1 a2 a3 a4 a5 a6 a7 a8 a9 a10 a11 a12 a13 a14 a15 => a3) q
def Q16.u3 (q : Q16) (x : FV) : Q16 := Q16.rec (fun a0 a1 a2 a3 a4 a5 a6 a7 a8 a9 a10 a11 a12 a13 a14 a15 => .mk a0 a1 a2 x a4 a5 a6 a7 a8 a9 a10 a11 a12 a13 a14 a15) q
def Q16.s4 (q : Q16) : FV := Q16.rec (fun a0 a1 a2 a3 a4 a5 a6 a7 a8 a9 a10 a11 a12 a13 a14 a15 => a4) q
def Q16.u4 (q : Q16) (x : FV) : Q16 := Q16.rec (fun a0 a1 a2 a3 a4 a5 a6 a7 a8 a9 a10 a11 a12 a13 a14 a15 => .mk a0 a1 a2 a3 x a5 a6 a7 a8 a9 a10 a11 a12 a13 a14 a15) q
def Q16.s5 (q : Q16) : FV := Q16.rec (fun a0 a1 a2 a3 a4 a5 a6 a7 a8 a9 a10 a11 a12 a13 a14 a15 => a5) q
def Q16.u5 (q : Q16) (x : FV) : Q16 := Q16.rec (fun a0 a1 a2 a3 a4 a5 a6 a7 a8 a9 a10 a11 a12 a13 a14 a15 => .mk a0 a1 a2 a3 a4 x a6 a7 a8 a9 a10 a11 a12 a13 a14 a15) q
def Q16.s6 (q : Q16) : FV := Q16.rec (fun a0 a1 a2 a3 a4 a5 a6 a7 a8 a9 a10 a11 a12 a13 a14 a15 => a6) q
def Q16.u6 (q : Q16) (x : FV) : Q16 := Q16.rec (fun a0 a1 a2 a3 a4 a5 a6 a7 a8 a9 a10 a11 a12 a13 a14 a15 => .mk a0 a1 a2 a3 a4 a5 x a7 a8 a9 a10 a11 a12 a13 a14 a15) q
def Q16.s7 (q : Q16) : FV := Q16.rec (fun a0 a1 a2 a3 a4 a5 a6 a7 a8 a9 a10 a11 a12 a13 a14 a15 => a7) q
def Q16.u7 (q : Q16) (x : FV) : Q16 := Q16.rec (fun a0 a1 a2 a3 a4 a5 a6 a7 a8 a9 a10 a11 a12 a13 a14 a15 => .mk a0 a1 a2 a3 a4 a5 a6 x a8 a9 a10 a11 a12 a13 a14 a15) q
def Q16.s8 (q : Q16) : FV := Q16.rec (fun a0 a1 a2 a3 a4 a5 a6 a7 a8 a9 a10 a11 a12 a13 a14 a15 => a8) q
def Q16.u8 (q : Q16) (x : FV) : Q16 := Q16.rec (fun a0 a1 a2 a3 a4 a5 a6 a7 a8 a9 a10 a11 a12 a13 a14 a15 => .mk a0 a1 a2 a3 a4 a5 a6 a7 x a9 a10 a11 a12 a13 a14 a15) q
def Q16.s9 (q : Q16) : FV := Q16.rec (fun a0 a1 a2 a3 a4 a5 a6 a7 a8 a9 a10 a11 a12 a13 a14 a15 => a9) q
def Q16.u9 (q : Q16) (x : FV) : Q16 := Q16.rec (fun a0 a1 a2 a3 a4 a5 a6 a7 a8 a9 a10 a11 a12 a13 a14 a15 => .mk a0 a1 a2 a3 a4 a5 a6 a7 a8 x a10 a11 a12 a13 a14 a15) q
def Q16.s10 (q : Q16) : FV := Q16.rec (fun a0 a1 a2 a3 a4 a5 a6 a7 a8 a9 a10 a11 a12 a13 a14 a15 => a10) q
def Q16.u10 (q : Q16) (x : FV) : Q16 := Q16.rec (fun a0 a1 a2 a3 a4 a5 a6 a7 a8 a9 a10 a11 a12 a13 a14 a15 => .mk a0 a1 a2 a3 a4 a5 a6 a7 a8 a9 x a11 a12 a13 a14 a15) q
def Q16.s11 (q : Q16) : FV := Q16.rec (fun a0 a1 a2 a3 a4 a5 a6 a7 a8 a9 a10 a11 a12 a13 a14 a15 => a11) q
def Q16.u11 (q : Q16) (x : FV) : Q16 := Q16.rec (fun a0 a1 a2 a3 a4 a5 a6 a7 a8 a9 a10 a11 a12 a13 a14 a15 => .mk a0 a1 a2 a3 a4 a5 a6 a7 a8 a9 a10 x a12 a13 a14 a15) q
def Q16.s12 (q : Q16) : FV := Q16.rec (fun a0 a1 a2 a3 a4 a5 a6 a7 a8 a9 a10 a11 a12 a13 a14 a15 => a12) q
def Q16.u12 (q : Q16) (x : FV) : Q16 := Q16.rec (fun a0 a1 a2 a3 a4 a5 a6 a7 a8 a9 a10 a11 a12 a13 a14 a15 => .mk a0 a1 a2 a3 a4 a5 a6 a7 a8 a9 a10 a11 x a13 a14 a15) q
def Q16.s13 (q : Q16) : FV := Q16.rec (fun a0 a1 a2 a3 a4 a5 a6 a7 a8 a9 a10 a11 a12 a13 a14 a15 => a13) q
def Q16.u13 (q : Q16) (x : FV) : Q16 := Q16.rec (fun a0 a1 a2 a3 a4 a5 a6 a7 a8 a9 a10 a11 a12 a13 a14 a15 => .mk a0 a1 a2 a3 a4 a5 a6 a7 a8 a9 a10 a11 a12 x a14 a15) q
def Q16.s14 (q : Q16) : FV := Q16.rec (fun a0 a1 a2 a3 a4 a5 a6 a7 a8 a9 a10 a11 a12 a13 a14 a15 => a14) q
def Q16.u14 (q : Q16) (x : FV) : Q16 := Q16.rec (fun a0 a1 a2 a3 a4 a5 a6 a7 a8 a9 a10 a11 a12 a13 a14 a15 => .mk a0 a1 a2 a3 a4 a5 a6 a7 a8 a9 a10 a11 a12 a13 x a15) q
def Q16.s15 (q : Q16) : FV := Q16.rec (fun a0 a1 a2 a3 a4 a5 a6 a7 a8 a9 a10 a11 a12 a13 a14 a15 => a15) q
def Q16.u15 (q : Q16) (x : FV) : Q16 := Q16.rec (fun a0 a1 a2 a3 a4 a5 a6 a7 a8 a9 a10 a11 a12 a13 a14 a15 => .mk a0 a1 a2 a3 a4 a5 a6 a7 a8 a9 a10 a11 a12 a13 a14 x) q
structure Q16B where
 s : Q16 → FV
 u : Q16 → FV → Q16
def qb (i : Nat) : Q16B :=
 match i with
 | 0 => ⟨Q16.s0, Q16.u0⟩
 | 1 => ⟨Q16.s1, Q16.u1⟩
 | 2 => ⟨Q16.s2, Q16.u2⟩
 | 3 => ⟨Q16.s3, Q16.u3⟩
 | 4 => ⟨Q16.s4, Q16.u4⟩
 | 5 => ⟨Q16.s5, Q16.u5⟩
 | 6 => ⟨Q16.s6, Q16.u6⟩
 | 7 => ⟨Q16.s7, Q16.u7⟩
 | 8 => ⟨Q16.s8, Q16.u8⟩
 | 9 => ⟨Q16.s9, Q16.u9⟩
 | 10 => ⟨Q16.s10, Q16.u10⟩
 | 11 => ⟨Q16.s11, Q16.u11⟩
 | 12 => ⟨Q16.s12, Q16.u12⟩
 | 13 => ⟨Q16.s13, Q16.u13⟩
 | 14 => ⟨Q16.s14, Q16.u14⟩
 | _ => ⟨Q16.s15, Q16.u15⟩
def Q16.toL (q : Q16) : List FV := Q16.rec (fun a0 a1 a2 a3 a4 a5 a6 a7 a8 a9 a10 a11 a12 a13 a14 a15 => [a0, a1, a2, a3, a4, a5, a6, a7, a8, a9, a10, a11, a12, a13, a14, a15]) q
theorem Q16.s_eq (q : Q16) : ∀ i, i < 16 → (qb i).s q :: [] = (q.toL.drop i).take 1
 | 0, _ => by cases q; rfl
 | 1, _ => by cases q; rfl
 | 2, _ => by cases q; rfl
 | 3, _ => by cases q; rfl
 | 4, _ => by cases q; rfl
 | 5, _ => by cases q; rfl
 | 6, _ => by cases q; rfl
 | 7, _ => by cases q; rfl
 | 8, _ => by cases q; rfl
 | 9, _ => by cases q; rfl
 | 10, _ => by cases q; rfl
 | 11, _ => by cases q; rfl
 | 12, _ => by cases q; rfl
 | 13, _ => by cases q; rfl
 | 14, _ => by cases q; rfl
 | 15, _ => by cases q; rfl
 | k + 16, h => absurd h (by omega)
theorem Q16.u_eq (q : Q16) (x : FV) : ∀ i, i < 16 → ((qb i).u q x).toL = q.toL.set i x
 | 0, _ => by cases q; rfl
 | 1, _ => by cases q; rfl
 | 2, _ => by cases q; rfl
 | 3, _ => by cases q; rfl
 | 4, _ => by cases q; rfl
 | 5, _ => by cases q; rfl
 | 6, _ => by cases q; rfl
 | 7, _ => by cases q; rfl
 | 8, _ => by cases q; rfl
 | 9, _ => by cases q; rfl
 | 10, _ => by cases q; rfl
 | 11, _ => by cases q; rfl
 | 12, _ => by cases q; rfl
 | 13, _ => by cases q; rfl
 | 14, _ => by cases q; rfl
 | 15, _ => by cases q; rfl
 | k + 16, h => absurd h (by omega)
theorem Q16.len (q : Q16) : q.toL.length = 16 := by cases q; rfl
theorem Q16.get (q : Q16) (i : Nat) (h : i < 16) : q.toL[i]? = some ((qb i).s q) := by
 have e := congrArg (·[0]?) (Q16.s_eq q i h)
 simp only [List.getElem?_take, List.getElem?_drop, Nat.lt_one_iff, if_true, Nat.add_zero, List.getElem?_cons_zero] at e
 exact e.symm
theorem Q16.su (q : Q16) (x : FV) (i j : Nat) (hi : i < 16) (hj : j < 16) : (qb j).s ((qb i).u q x) = if i = j then x else (qb j).s q := by
 have e := Q16.get ((qb i).u q x) j hj
 rw [Q16.u_eq q x i hi, List.getElem?_set, Q16.len] at e
 by_cases h : i = j
 ·subst h
  simp only [if_true, hi] at e
  rw [if_pos rfl]
  exact (Option.some.inj e).symm
 ·rw [if_neg h] at e
  rw [if_neg h]
  rw [Q16.get q j hj] at e
  exact (Option.some.inj e).symm
theorem Q16.sall (x : FV) : ∀ i, (qb i).s (Q16.all x) = x
 | 0 => rfl
 | 1 => rfl
 | 2 => rfl
 | 3 => rfl
 | 4 => rfl
 | 5 => rfl
 | 6 => rfl
 | 7 => rfl
 | 8 => rfl
 | 9 => rfl
 | 10 => rfl
 | 11 => rfl
 | 12 => rfl
 | 13 => rfl
 | 14 => rfl
 | k + 15 => rfl
inductive FT where
 | mk (a0 a1 a2 a3 a4 a5 a6 a7 a8 a9 a10 a11 a12 a13 a14 a15 : Q16)
def FT.all (x : Q16) : FT := .mk x x x x x x x x x x x x x x x x
def FT.s0 (q : FT) : Q16 := FT.rec (fun a0 a1 a2 a3 a4 a5 a6 a7 a8 a9 a10 a11 a12 a13 a14 a15 => a0) q
def FT.u0 (q : FT) (x : Q16) : FT := FT.rec (fun a0 a1 a2 a3 a4 a5 a6 a7 a8 a9 a10 a11 a12 a13 a14 a15 => .mk x a1 a2 a3 a4 a5 a6 a7 a8 a9 a10 a11 a12 a13 a14 a15) q
def FT.s1 (q : FT) : Q16 := FT.rec (fun a0 a1 a2 a3 a4 a5 a6 a7 a8 a9 a10 a11 a12 a13 a14 a15 => a1) q
def FT.u1 (q : FT) (x : Q16) : FT := FT.rec (fun a0 a1 a2 a3 a4 a5 a6 a7 a8 a9 a10 a11 a12 a13 a14 a15 => .mk a0 x a2 a3 a4 a5 a6 a7 a8 a9 a10 a11 a12 a13 a14 a15) q
def FT.s2 (q : FT) : Q16 := FT.rec (fun a0 a1 a2 a3 a4 a5 a6 a7 a8 a9 a10 a11 a12 a13 a14 a15 => a2) q
def FT.u2 (q : FT) (x : Q16) : FT := FT.rec (fun a0 a1 a2 a3 a4 a5 a6 a7 a8 a9 a10 a11 a12 a13 a14 a15 => .mk a0 a1 x a3 a4 a5 a6 a7 a8 a9 a10 a11 a12 a13 a14 a15) q
def FT.s3 (q : FT) : Q16 := FT.rec (fun a0 a1 a2 a3 a4 a5 a6 a7 a8 a9 a10 a11 a12 a13 a14 a15 => a3) q
def FT.u3 (q : FT) (x : Q16) : FT := FT.rec (fun a0 a1 a2 a3 a4 a5 a6 a7 a8 a9 a10 a11 a12 a13 a14 a15 => .mk a0 a1 a2 x a4 a5 a6 a7 a8 a9 a10 a11 a12 a13 a14 a15) q
def FT.s4 (q : FT) : Q16 := FT.rec (fun a0 a1 a2 a3 a4 a5 a6 a7 a8 a9 a10 a11 a12 a13 a14 a15 => a4) q
def FT.u4 (q : FT) (x : Q16) : FT := FT.rec (fun a0 a1 a2 a3 a4 a5 a6 a7 a8 a9 a10 a11 a12 a13 a14 a15 => .mk a0 a1 a2 a3 x a5 a6 a7 a8 a9 a10 a11 a12 a13 a14 a15) q
def FT.s5 (q : FT) : Q16 := FT.rec (fun a0 a1 a2 a3 a4 a5 a6 a7 a8 a9 a10 a11 a12 a13 a14 a15 => a5) q
def FT.u5 (q : FT) (x : Q16) : FT := FT.rec (fun a0 a1 a2 a3 a4 a5 a6 a7 a8 a9 a10 a11 a12 a13 a14 a15 => .mk a0 a1 a2 a3 a4 x a6 a7 a8 a9 a10 a11 a12 a13 a14 a15) q
def FT.s6 (q : FT) : Q16 := FT.rec (fun a0 a1 a2 a3 a4 a5 a6 a7 a8 a9 a10 a11 a12 a13 a14 a15 => a6) q
def FT.u6 (q : FT) (x : Q16) : FT := FT.rec (fun a0 a1 a2 a3 a4 a5 a6 a7 a8 a9 a10 a11 a12 a13 a14 a15 => .mk a0 a1 a2 a3 a4 a5 x a7 a8 a9 a10 a11 a12 a13 a14 a15) q
def FT.s7 (q : FT) : Q16 := FT.rec (fun a0 a1 a2 a3 a4 a5 a6 a7 a8 a9 a10 a11 a12 a13 a14 a15 => a7) q
def FT.u7 (q : FT) (x : Q16) : FT := FT.rec (fun a0 a1 a2 a3 a4 a5 a6 a7 a8 a9 a10 a11 a12 a13 a14 a15 => .mk a0 a1 a2 a3 a4 a5 a6 x a8 a9 a10 a11 a12 a13 a14 a15) q
def FT.s8 (q : FT) : Q16 := FT.rec (fun a0 a1 a2 a3 a4 a5 a6 a7 a8 a9 a10 a11 a12 a13 a14 a15 => a8) q
def FT.u8 (q : FT) (x : Q16) : FT := FT.rec (fun a0 a1 a2 a3 a4 a5 a6 a7 a8 a9 a10 a11 a12 a13 a14 a15 => .mk a0 a1 a2 a3 a4 a5 a6 a7 x a9 a10 a11 a12 a13 a14 a15) q
def FT.s9 (q : FT) : Q16 := FT.rec (fun a0 a1 a2 a3 a4 a5 a6 a7 a8 a9 a10 a11 a12 a13 a14 a15 => a9) q
def FT.u9 (q : FT) (x : Q16) : FT := FT.rec (fun a0 a1 a2 a3 a4 a5 a6 a7 a8 a9 a10 a11 a12 a13 a14 a15 => .mk a0 a1 a2 a3 a4 a5 a6 a7 a8 x a10 a11 a12 a13 a14 a15) q
def FT.s10 (q : FT) : Q16 := FT.rec (fun a0 a1 a2 a3 a4 a5 a6 a7 a8 a9 a10 a11 a12 a13 a14 a15 => a10) q
def FT.u10 (q : FT) (x : Q16) : FT := FT.rec (fun a0 a1 a2 a3 a4 a5 a6 a7 a8 a9 a10 a11 a12 a13 a14 a15 => .mk a0 a1 a2 a3 a4 a5 a6 a7 a8 a9 x a11 a12 a13 a14 a15) q
def FT.s11 (q : FT) : Q16 := FT.rec (fun a0 a1 a2 a3 a4 a5 a6 a7 a8 a9 a10 a11 a12 a13 a14 a15 => a11) q
def FT.u11 (q : FT) (x : Q16) : FT := FT.rec (fun a0 a1 a2 a3 a4 a5 a6 a7 a8 a9 a10 a11 a12 a13 a14 a15 => .mk a0 a1 a2 a3 a4 a5 a6 a7 a8 a9 a10 x a12 a13 a14 a15) q
def FT.s12 (q : FT) : Q16 := FT.rec (fun a0 a1 a2 a3 a4 a5 a6 a7 a8 a9 a10 a11 a12 a13 a14 a15 => a12) q
def FT.u12 (q : FT) (x : Q16) : FT := FT.rec (fun a0 a1 a2 a3 a4 a5 a6 a7 a8 a9 a10 a11 a12 a13 a14 a15 => .mk a0 a1 a2 a3 a4 a5 a6 a7 a8 a9 a10 a11 x a13 a14 a15) q
def FT.s13 (q : FT) : Q16 := FT.rec (fun a0 a1 a2 a3 a4 a5 a6 a7 a8 a9 a10 a11 a12 a13 a14 a15 => a13) q
def FT.u13 (q : FT) (x : Q16) : FT := FT.rec (fun a0 a1 a2 a3 a4 a5 a6 a7 a8 a9 a10 a11 a12 a13 a14 a15 => .mk a0 a1 a2 a3 a4 a5 a6 a7 a8 a9 a10 a11 a12 x a14 a15) q
def FT.s14 (q : FT) : Q16 := FT.rec (fun a0 a1 a2 a3 a4 a5 a6 a7 a8 a9 a10 a11 a12 a13 a14 a15 => a14) q
def FT.u14 (q : FT) (x : Q16) : FT := FT.rec (fun a0 a1 a2 a3 a4 a5 a6 a7 a8 a9 a10 a11 a12 a13 a14 a15 => .mk a0 a1 a2 a3 a4 a5 a6 a7 a8 a9 a10 a11 a12 a13 x a15) q
def FT.s15 (q : FT) : Q16 := FT.rec (fun a0 a1 a2 a3 a4 a5 a6 a7 a8 a9 a10 a11 a12 a13 a14 a15 => a15) q
def FT.u15 (q : FT) (x : Q16) : FT := FT.rec (fun a0 a1 a2 a3 a4 a5 a6 a7 a8 a9 a10 a11 a12 a13 a14 a15 => .mk a0 a1 a2 a3 a4 a5 a6 a7 a8 a9 a10 a11 a12 a13 a14 x) q
structure FTB where
 s : FT → Q16
 u : FT → Q16 → FT
def fb (i : Nat) : FTB :=
 match i with
 | 0 => ⟨FT.s0, FT.u0⟩
 | 1 => ⟨FT.s1, FT.u1⟩
 | 2 => ⟨FT.s2, FT.u2⟩
 | 3 => ⟨FT.s3, FT.u3⟩
 | 4 => ⟨FT.s4, FT.u4⟩
 | 5 => ⟨FT.s5, FT.u5⟩
 | 6 => ⟨FT.s6, FT.u6⟩
 | 7 => ⟨FT.s7, FT.u7⟩
 | 8 => ⟨FT.s8, FT.u8⟩
 | 9 => ⟨FT.s9, FT.u9⟩
 | 10 => ⟨FT.s10, FT.u10⟩
 | 11 => ⟨FT.s11, FT.u11⟩
 | 12 => ⟨FT.s12, FT.u12⟩
 | 13 => ⟨FT.s13, FT.u13⟩
 | 14 => ⟨FT.s14, FT.u14⟩
 | _ => ⟨FT.s15, FT.u15⟩
def FT.toL (q : FT) : List Q16 := FT.rec (fun a0 a1 a2 a3 a4 a5 a6 a7 a8 a9 a10 a11 a12 a13 a14 a15 => [a0, a1, a2, a3, a4, a5, a6, a7, a8, a9, a10, a11, a12, a13, a14, a15]) q
theorem FT.s_eq (q : FT) : ∀ i, i < 16 → (fb i).s q :: [] = (q.toL.drop i).take 1
 | 0, _ => by cases q; rfl
 | 1, _ => by cases q; rfl
 | 2, _ => by cases q; rfl
 | 3, _ => by cases q; rfl
 | 4, _ => by cases q; rfl
 | 5, _ => by cases q; rfl
 | 6, _ => by cases q; rfl
 | 7, _ => by cases q; rfl
 | 8, _ => by cases q; rfl
 | 9, _ => by cases q; rfl
 | 10, _ => by cases q; rfl
 | 11, _ => by cases q; rfl
 | 12, _ => by cases q; rfl
 | 13, _ => by cases q; rfl
 | 14, _ => by cases q; rfl
 | 15, _ => by cases q; rfl
 | k + 16, h => absurd h (by omega)
theorem FT.u_eq (q : FT) (x : Q16) : ∀ i, i < 16 → ((fb i).u q x).toL = q.toL.set i x
 | 0, _ => by cases q; rfl
 | 1, _ => by cases q; rfl
 | 2, _ => by cases q; rfl
 | 3, _ => by cases q; rfl
 | 4, _ => by cases q; rfl
 | 5, _ => by cases q; rfl
 | 6, _ => by cases q; rfl
 | 7, _ => by cases q; rfl
 | 8, _ => by cases q; rfl
 | 9, _ => by cases q; rfl
 | 10, _ => by cases q; rfl
 | 11, _ => by cases q; rfl
 | 12, _ => by cases q; rfl
 | 13, _ => by cases q; rfl
 | 14, _ => by cases q; rfl
 | 15, _ => by cases q; rfl
 | k + 16, h => absurd h (by omega)
theorem FT.len (q : FT) : q.toL.length = 16 := by cases q; rfl
theorem FT.get (q : FT) (i : Nat) (h : i < 16) : q.toL[i]? = some ((fb i).s q) := by
 have e := congrArg (·[0]?) (FT.s_eq q i h)
 simp only [List.getElem?_take, List.getElem?_drop, Nat.lt_one_iff, if_true, Nat.add_zero, List.getElem?_cons_zero] at e
 exact e.symm
theorem FT.su (q : FT) (x : Q16) (i j : Nat) (hi : i < 16) (hj : j < 16) : (fb j).s ((fb i).u q x) = if i = j then x else (fb j).s q := by
 have e := FT.get ((fb i).u q x) j hj
 rw [FT.u_eq q x i hi, List.getElem?_set, FT.len] at e
 by_cases h : i = j
 ·subst h
  simp only [if_true, hi] at e
  rw [if_pos rfl]
  exact (Option.some.inj e).symm
 ·rw [if_neg h] at e
  rw [if_neg h]
  rw [FT.get q j hj] at e
  exact (Option.some.inj e).symm
theorem FT.sall (x : Q16) : ∀ i, (fb i).s (FT.all x) = x
 | 0 => rfl
 | 1 => rfl
 | 2 => rfl
 | 3 => rfl
 | 4 => rfl
 | 5 => rfl
 | 6 => rfl
 | 7 => rfl
 | 8 => rfl
 | 9 => rfl
 | 10 => rfl
 | 11 => rfl
 | 12 => rfl
 | 13 => rfl
 | 14 => rfl
 | k + 15 => rfl
structure Slot where
 s : FT → FV
 u : FT → FV → FT
def fcQ (q : Q16) (k : Q16 → FT) : FT := Q16.rec (fun a0 a1 a2 a3 a4 a5 a6 a7 a8 a9 a10 a11 a12 a13 a14 a15 => k (.mk a0 a1 a2 a3 a4 a5 a6 a7 a8 a9 a10 a11 a12 a13 a14 a15)) q
theorem fcQ_eq (q : Q16) (k : Q16 → FT) : fcQ q k = k q := by cases q; rfl
def slotAt (a : Q16B) (b : FTB) : Slot := ⟨fun t => a.s (b.s t), fun t v => fcQ (a.u (b.s t) v) fun q => b.u t q⟩
def slot (i : Nat) : Slot := slotAt (qb (i % 16)) (fb (i / 16))
def FT.new : FT := .all (.all (.o (.tuple [])))
theorem slot_su (t : FT) (v : FV) (i j : Nat) (hi : i < 256) (hj : j < 256) : (slot j).s ((slot i).u t v) = if i = j then v else (slot j).s t := by
 show (qb (j % 16)).s ((fb (j / 16)).s (fcQ ((qb (i % 16)).u ((fb (i / 16)).s t) v) fun q => (fb (i / 16)).u t q)) = _
 rw [fcQ_eq, FT.su _ _ _ _ (by omega) (by omega)]
 by_cases h : i / 16 = j / 16
 ·rw [if_pos h, Q16.su _ _ _ _ (by omega) (by omega)]
  by_cases h2 : i % 16 = j % 16
  ·rw [if_pos h2, if_pos (by omega)]
  ·rw [if_neg h2, if_neg (by omega), h]; rfl
 ·rw [if_neg h, if_neg (by omega)]; rfl
theorem slot_new (i : Nat) : (slot i).s FT.new = .o (.tuple []) := by
 show (qb (i % 16)).s ((fb (i / 16)).s FT.new) = _
 unfold FT.new
 rw [FT.sall, Q16.sall]
def look (t : FT) (i : Nat) : FV := bif Nat.blt i 256 then (slot i).s t else .o (.tuple [])
def cst (v : AVal) : FV :=
 match v with
 | .int k n => .i k n
 | .bool b => .b b
 | v => .o v
theorem cst_eq (v : AVal) : (cst v).toA = v := by cases v <;> rfl
def evF (t : FT) : Operand → AVal
 | .tmp i => (look t i).toA
 | .const v => ofV v
 | .global g => .gptr g 0
 | .func f => .func (.func f) [] []
abbrev CallF := Gd → AHeap → FuncId → List FV → (FV → AHeap → OV) → OV
structure SelfF where
 call : CallF
 loop : Nat → FuncId → Code → Gd → FT → AHeap → (FT → AHeap → OV) → (Nat → FT → AHeap → OV) → (FT → AHeap → OV) → OV
abbrev CallS := Gd → AHeap → FuncId → List AVal → Option (AVal × AHeap)
def CallRel (F : CallF) (S : CallS) : Prop := ∀ g h f as k r, F g h f as k = some r → ∃ x h', S g h f (as.map FV.toA) = some (FV.toA x, h') ∧ k x h' = some r
structure BV where f : FT → FV
structure BL where f : FT → List FV
structure BO where f : CallF → Gd → AHeap → FT → (FV → AHeap → OV) → OV
def oV (x : Operand) : BV :=
 match x with
 | .tmp i => bif Nat.blt i 256 then ⟨(slot i).s⟩ else ⟨fun _ => .o (.tuple [])⟩
 | .const v => ⟨fun _ => cst (ofV v)⟩
 | .global g => ⟨fun _ => .o (.gptr g 0)⟩
 | .func f => ⟨fun _ => .o (.func (.func f) [] [])⟩
theorem oV_eq (x : Operand) (t : FT) : ((oV x).f t).toA = evF t x := by
 cases x with
 | tmp i =>
  show ((bif Nat.blt i 256 then (⟨(slot i).s⟩ : BV) else ⟨fun _ => .o (.tuple [])⟩).f t).toA = (look t i).toA
  unfold look
  cases Nat.blt i 256 <;> rfl
 | const v => exact cst_eq _
 | _ => rfl
theorem oV_tmp (i : Nat) (t : FT) : (oV (.tmp i)).f t = look t i := by
 show (bif Nat.blt i 256 then (⟨(slot i).s⟩ : BV) else ⟨fun _ => .o (.tuple [])⟩).f t = look t i
 unfold look
 cases Nat.blt i 256 <;> rfl
def consB (a : BV) (l : BL) : BL := ⟨fun t => a.f t :: l.f t⟩
def oL : List Operand → BL
 | [] => ⟨fun _ => []⟩
 | x :: xs => consB (oV x) (oL xs)
theorem oL_eq (t : FT) : ∀ l : List Operand, ((oL l).f t).map FV.toA = l.map (evF t)
 | [] => rfl
 | x :: xs => by
  show ((oV x).f t).toA :: ((oL xs).f t).map FV.toA = _
  rw [oL_eq t xs, oV_eq]; rfl
section
variable (C : Cfg)
def BO.ok (b : BO) (op : Op) : Prop := ∀ (F : CallF) (S : CallS), CallRel F S → ∀ g h t k r, b.f F g h t k = some r → ∃ x h', stepE C S g h (evF t) op = some (FV.toA x, h') ∧ k x h' = some r
end
def outK (r : Option (AVal × AHeap)) (k : FV → AHeap → OV) : OV := match r with | some (v, h) => ofA v fun x => k x h | none => none
theorem outK_ok {q : Option (AVal × AHeap)} {k : FV → AHeap → OV} {r : AVal × AHeap} (h : outK q k = some r) : ∃ x h', q = some (FV.toA x, h') ∧ k x h' = some r := by
 rcases q with _ | ⟨v, h'⟩
 ·cases h
 ·obtain ⟨x, h1, h2⟩ := ofA_ok (k := fun x => k x h') h
  exact ⟨x, h', by rw [h1], h2⟩
def outP (r : Option AVal) (h : AHeap) (k : FV → AHeap → OV) : OV := match r with | some v => ofA v fun x => k x h | none => none
theorem outP_ok {q : Option AVal} {h : AHeap} {k : FV → AHeap → OV} {r : AVal × AHeap} (hr : outP q h k = some r) : ∃ x, q = some (FV.toA x) ∧ k x h = some r := by
 rcases q with _ | v
 ·cases hr
 ·obtain ⟨x, h1, h2⟩ := ofA_ok (k := fun x => k x h) hr
  exact ⟨x, by rw [h1], h2⟩
def ifI (v : FV) (f : IntKind → Int → OV) (e : OV) : OV := FV.rec f (fun _ => e) (fun _ _ => e) (fun _ => e) v
def ifB (v : FV) (f : Bool → OV) (e : OV) : OV := FV.rec (fun _ _ => e) f (fun _ _ => e) (fun _ => e) v
def ifP (v : FV) (f : Nat → Nat → OV) (e : OV) : OV := FV.rec (fun _ _ => e) (fun _ => e) f (fun _ => e) v
def ifO (v : FV) (f : AVal → OV) (e : OV) : OV := FV.rec (fun _ _ => e) (fun _ => e) (fun _ _ => e) f v
theorem ifI_ok {v : FV} {f : IntKind → Int → OV} {e : OV} {r : AVal × AHeap} (h : ifI v f e = some r) : (∃ k n, v = .i k n ∧ f k n = some r) ∨ e = some r := by
 cases v <;> first | exact .inl ⟨_, _, rfl, h⟩ | exact .inr h
theorem ifB_ok {v : FV} {f : Bool → OV} {e : OV} {r : AVal × AHeap} (h : ifB v f e = some r) : (∃ b, v = .b b ∧ f b = some r) ∨ e = some r := by
 cases v <;> first | exact .inl ⟨_, rfl, h⟩ | exact .inr h
theorem ifP_ok {v : FV} {f : Nat → Nat → OV} {e : OV} {r : AVal × AHeap} (h : ifP v f e = some r) : (∃ a b, v = .p a b ∧ f a b = some r) ∨ e = some r := by
 cases v <;> first | exact .inl ⟨_, _, rfl, h⟩ | exact .inr h
theorem ifO_ok {v : FV} {f : AVal → OV} {e : OV} {r : AVal × AHeap} (h : ifO v f e = some r) : (∃ a, v = .o a ∧ f a = some r) ∨ e = some r := by
 cases v <;> first | exact .inl ⟨_, rfl, h⟩ | exact .inr h
def ite2 (b : Bool) (x y : OV) : OV := Bool.rec y x b
theorem ite2_ok {b : Bool} {x y : OV} {r : AVal × AHeap} (h : ite2 b x y = some r) : (b = true ∧ x = some r) ∨ (b = false ∧ y = some r) := by
 cases b
 ·exact .inr ⟨rfl, h⟩
 ·exact .inl ⟨rfl, h⟩
def nthK {α : Type} (l : List α) (o : Nat) (k : α → OV) : OV := List.rec (motive := fun _ => Nat → OV) (fun _ => none) (fun a _ ih o => ite2 (Nat.beq o 0) (k a) (ih (o - 1))) l o
theorem nthK_ok {α : Type} {k : α → OV} {r : AVal × AHeap} : ∀ {l : List α} {o : Nat}, nthK l o k = some r → ∃ a, l[o]? = some a ∧ k a = some r
 | [], _, h => by cases h
 | a :: l, o, h => by
  rcases ite2_ok (x := k a) (y := nthK l (o - 1) k) h with ⟨h1, h2⟩ | ⟨h1, h2⟩
  ·rw [Nat.beq_eq] at h1; subst h1; exact ⟨a, rfl, h2⟩
  ·obtain ⟨b, h3, h4⟩ := nthK_ok h2
   cases o with
   | zero => cases h1
   | succ o => exact ⟨b, h3, h4⟩
section
variable (C : Cfg)
def gO (op : Op) : BO := ⟨fun _ g h t k => outK (opAE C.P C.glob g h (evF t) op) k⟩
def noCall : Op → Bool
 | .call c => (match c.callee with | .value _ => false | _ => true)
 | _ => true
theorem stepE_no {S : CallS} {g : Gd} {h : AHeap} {E : Operand → AVal} {op : Op} (hn : noCall op = true) : stepE C S g h E op = opAE C.P C.glob g h E op := by
 cases op <;> try rfl
 rename_i c
 rcases c with ⟨cl, _⟩
 cases cl <;> first | rfl | (simp [noCall] at hn)
theorem gO_ok {op : Op} (hn : noCall op = true) : (gO C op).ok C op := fun F S hS g h t k r hr => by
 rw [stepE_no C hn]
 exact outK_ok hr
theorem pure_ok {op : Op} {S : CallS} {g : Gd} {h : AHeap} {E : Operand → AVal} {v : AVal} (hn : noCall op = true) (hc : clsOf C.P op = 0) (ho : opPE C.P E op = some v) : stepE C S g h E op = some (v, h) := by
 rw [stepE_no C hn]
 unfold opAE
 rw [hc]
 simp only [ho, Option.map_some]
end
def mvO (x : BV) : BO := ⟨fun _ _ h t k => fcV (x.f t) fun v => k v h⟩
def pkO (c a b : BV) : BO := ⟨fun _ _ h t k => ifB (c.f t) (fun v => ite2 v (fcV (a.f t) fun v => k v h) (fcV (b.f t) fun v => k v h)) none⟩
def binO (n0 : Nat) (f : BI) (gen : BO) (x y : BV) : BO := ⟨fun F g h t k =>
 ifI (x.f t) (fun k1 a => ifI (y.f t) (fun k2 b => ite2 (Nat.beq (kn k1) n0 && Nat.beq (kn k2) n0) (f.f a b k h) (gen.f F g h t k)) (gen.f F g h t k)) (gen.f F g h t k)⟩
def shrO (gen : BO) (x y : BV) : BO := ⟨fun F g h t k =>
 ifI (x.f t) (fun k1 a => ifI (y.f t) (fun _ b => ite2 (leI 0 b) (fcI (shrF k1 a b) fun n => k (.i k1 n) h) (gen.f F g h t k)) (gen.f F g h t k)) (gen.f F g h t k)⟩
def shlO (gen : BO) (x y : BV) : BO := ⟨fun F g h t k =>
 ifI (x.f t) (fun k1 a => ifI (y.f t) (fun _ b => ite2 (leI 0 b) (fcI ((wrB k1).f (a * 2 ^ min b.toNat k1.bits)) fun n => k (.i k1 n) h) (gen.f F g h t k)) (gen.f F g h t k)) (gen.f F g h t k)⟩
def notO (gen : BO) (x : BV) : BO := ⟨fun F g h t k => ifB (x.f t) (fun v => ite2 v (k (.b false) h) (k (.b true) h)) (gen.f F g h t k)⟩
def tupK (v : AVal) (i : Nat) (k : AVal → OV) : OV := match v with | .tuple vs => nthK vs i k | _ => none
def exO (x : BV) (i : Nat) : BO := ⟨fun _ _ h t k => ifO (x.f t) (fun v => tupK v i fun v => ofA v fun v => k v h) none⟩
def rdOb (ob : AObj) (o : Nat) (k : AVal → OV) : OV := match ob with | .cells _ st cs => ite2 (Nat.beq st 0) none (nthK cs o k) | _ => none
def rdAt (h : AHeap) (id o : Nat) (k : AVal → OV) : OV := match hget h id with | some ob => rdOb ob o k | none => none
def ldO (gen : BO) (x : BV) : BO := ⟨fun F g h t k => ifP (x.f t) (fun id o => rdAt h id o fun v => ofA v fun v => k v h) (gen.f F g h t k)⟩
def rdOb2 (ob : AObj) (o n : Nat) (k : List AVal → OV) : OV := match ob with | .cells _ st cs => ite2 (Nat.beq st 0) none (ite2 (Nat.ble (o + n) cs.length) (k ((cs.drop o).take n)) none) | _ => none
def rdAt2 (h : AHeap) (id o n : Nat) (k : List AVal → OV) : OV := match hget h id with | some ob => rdOb2 ob o n k | none => none
def fcLs (l : List AVal) (k : List AVal → OV) : OV := List.rec (motive := fun _ => (List AVal → OV) → OV) (fun k => k []) (fun a _ ih k => ih fun l => k (a :: l)) l k
theorem fcLs_eq : ∀ (l : List AVal) (k : List AVal → OV), fcLs l k = k l
 | [], _ => rfl
 | a :: l, k => fcLs_eq l fun l => k (a :: l)
def ldaO (gen : BO) (n : Option Nat) (x : BV) : BO :=
 match n with
 | some n => ⟨fun F g h t k => ifP (x.f t) (fun id o => rdAt2 h id o n fun l => fcLs l fun l => k (.o (.agg l)) h) (gen.f F g h t k)⟩
 | none => gen
def setLK (l : List AVal) (o : Nat) (v : AVal) (k : List AVal → OV) : OV :=
 List.rec (motive := fun _ => Nat → (List AVal → OV) → OV) (fun _ _ => none) (fun a l ih o k => ite2 (Nat.beq o 0) (k (v :: l)) (ih (o - 1) fun l => k (a :: l))) l o k
theorem setLK_ok {v : AVal} {r : AVal × AHeap} : ∀ {l : List AVal} {o : Nat} {k : List AVal → OV}, setLK l o v k = some r → o < l.length ∧ k (l.set o v) = some r
 | [], _, _, h => by cases h
 | a :: l, o, k, h => by
  rcases ite2_ok (x := k (v :: l)) (y := setLK l (o - 1) v fun l => k (a :: l)) h with ⟨h1, h2⟩ | ⟨h1, h2⟩
  ·rw [Nat.beq_eq] at h1; subst h1; exact ⟨by simp, h2⟩
  ·obtain ⟨h3, h4⟩ := setLK_ok h2
   cases o with
   | zero => cases h1
   | succ o => exact ⟨by simp at h3 ⊢; omega, h4⟩
def trS (t : Tr AObj) (i : Nat) (x : AObj) : Tr AObj :=
 Tr.rec (motive := fun _ => Nat → Tr AObj) (fun i => Tr.set (i + 1) .leaf i x) (fun l v r ihl ihr i => Bool.rec (Bool.rec (.node l v (ihr (i / 2 - 1))) (.node (ihl (i / 2)) v r) (Nat.beq (i % 2) 1)) (.node l (some x) r) (Nat.beq i 0)) t i
theorem Tr.set_fuel {α : Type} : ∀ (f f' : Nat) (t : Tr α) (i : Nat) (x : α), i < f → i < f' → Tr.set f t i x = Tr.set f' t i x
 | 0, _, _, _, _, h, _ => by omega
 | _, 0, _, _, _, _, h => by omega
 | f + 1, f' + 1, .leaf, i, x, h, h' => by
  rw [Tr.set, Tr.set]
  cases hb : Nat.beq i 0 with
  | true => rfl
  | false =>
   have h0 : i ≠ 0 := fun e => by subst e; cases hb
   rw [Tr.set_fuel f f' .leaf (i / 2) x (by omega) (by omega), Tr.set_fuel f f' .leaf (i / 2 - 1) x (by omega) (by omega)]
 | f + 1, f' + 1, .node l v r, i, x, h, h' => by
  rw [Tr.set, Tr.set]
  cases hb : Nat.beq i 0 with
  | true => rfl
  | false =>
   have h0 : i ≠ 0 := fun e => by subst e; cases hb
   rw [Tr.set_fuel f f' l (i / 2) x (by omega) (by omega), Tr.set_fuel f f' r (i / 2 - 1) x (by omega) (by omega)]
theorem trS_eq : ∀ (t : Tr AObj) (i : Nat) (x : AObj), trS t i x = Tr.set (i + 1) t i x
 | .leaf, _, _ => rfl
 | .node l v r, i, x => by
  rw [Tr.set]
  show (Bool.rec (Bool.rec (.node l v (trS r (i / 2 - 1) x)) (.node (trS l (i / 2) x) v r) (Nat.beq (i % 2) 1)) (.node l (some x) r) (Nat.beq i 0) : Tr AObj) = _
  rw [trS_eq l, trS_eq r]
  cases hb : Nat.beq i 0 with
  | true => rfl
  | false =>
   have h0 : i ≠ 0 := fun e => by subst e; cases hb
   rw [Tr.set_fuel i (i / 2 + 1) l (i / 2) x (by omega) (by omega), Tr.set_fuel i (i / 2 - 1 + 1) r (i / 2 - 1) x (by omega) (by omega)]
   cases Nat.beq (i % 2) 1 <;> rfl
def hset (h : AHeap) (i : Nat) (o : AObj) (k : AHeap → OV) : OV := AHeap.rec (fun n t => fcT (trS t i o) fun t => k ⟨n, t⟩) h
theorem hset_eq (h : AHeap) (i : Nat) (o : AObj) (k : AHeap → OV) : hset h i o k = k (h.set i o) := by
 rcases h with ⟨n, t⟩
 show (fcT (trS t i o) fun t => k ⟨n, t⟩) = _
 rw [fcT_eq, trS_eq]; rfl
def wrOb (g : Gd) (h : AHeap) (id o : Nat) (v : AVal) (ob : AObj) (k : AHeap → OV) : OV :=
 match ob with
 | .cells gr st cs => ite2 (Nat.beq st 2 && g.may id) (setLK cs o v fun cs => hset h id (.cells gr 2 cs) k) none
 | _ => none
def wrAt (g : Gd) (h : AHeap) (id o : Nat) (v : AVal) (k : AHeap → OV) : OV := match hget h id with | some ob => wrOb g h id o v ob k | none => none
def FV.one (v : FV) : Bool := match v with | .o a => a.one | _ => true
def stO (gen : BO) (x y : BV) : BO := ⟨fun F g h t k => ifP (x.f t) (fun id o => fcV (y.f t) fun v => ite2 v.one (wrAt g h id o v.toA fun h => k (.o (.tuple [])) h) (gen.f F g h t k)) (gen.f F g h t k)⟩
def fdO (gen : BO) (off : Option Nat) (x : BV) : BO :=
 match off with
 | some c => ⟨fun F g h t k => ifP (x.f t) (fun id o => fcN (o + c) fun o => k (.p id o) h) (gen.f F g h t k)⟩
 | none => gen
def offOf (P : Program) (s : TypeId) (f : Nat) : Option Nat :=
 match P.underlying s with
 | some (.struct fs) => (match fs[f]? with
  | some fd => (match szOf P fd.type with
   | some (_ + 1) => some fd.offset
   | _ => none)
  | none => none)
 | _ => none
def cvO (gen : BO) (k0 : Option IntKind) (x : BV) : BO :=
 match k0 with
 | some k0 => ⟨fun F g h t k => ifI (x.f t) (fun _ n => fcI ((wrB k0).f n) fun n => k (.i k0 n) h) (gen.f F g h t k)⟩
 | none => gen
def natI (b : Int) (f : Nat → OV) (e : OV) : OV := Int.rec f (fun _ => e) b
theorem natI_ok {b : Int} {f : Nat → OV} {e : OV} {r : AVal × AHeap} (h : natI b f e = some r) : (∃ n : Nat, b = n ∧ f n = some r) ∨ e = some r := by
 cases b
 ·exact .inl ⟨_, rfl, h⟩
 ·exact .inr h
def ixaO (gen : BO) (n z : Nat) (x y : BV) : BO := ⟨fun F g h t k =>
 ifP (x.f t) (fun id o => ifI (y.f t) (fun _ b => natI b (fun m => ite2 (Nat.blt m n) (fcN (o + m * z) fun o => k (.p id o) h) none) none) none) (gen.f F g h t k)⟩
def slK (v : AVal) (f : Nat → Nat → Nat → OV) (e : OV) : OV := match v with | .slice (some (id, o)) n => f id o n | _ => e
def ixsO (gen : BO) (z : Nat) (x y : BV) : BO := ⟨fun F g h t k =>
 ifO (x.f t) (fun v => slK v (fun id o n => ifI (y.f t) (fun _ b => natI b (fun m => ite2 (Nat.blt m n) (fcN (o + m * z) fun o => k (.p id o) h) none) none) none) (gen.f F g h t k)) (gen.f F g h t k)⟩
inductive IxT where
 | arr (n z : Nat)
 | row (z : Nat)
 | no
def ixT (P : Program) (t : TypeId) : IxT :=
 match P.underlying t with
 | some (.array n e) => (match szOf P e with | some z => .arr n z | none => .no)
 | some (.slice e) => (match szOf P e with | some z => .row z | none => .no)
 | _ => .no
def ixO (gen : BO) (i : IxT) (x y : BV) : BO :=
 match i with
 | .arr n z => ixaO gen n z x y
 | .row z => ixsO gen z x y
 | .no => gen
def stK (v : AVal) (f : List UInt8 → OV) (e : OV) : OV := match v with | .str s => f s | _ => e
def agK (v : AVal) (f : List AVal → OV) (e : OV) : OV := match v with | .agg s => f s | _ => e
def ixStr (gen : BO) (x y : BV) : BO := ⟨fun F g h t k =>
 ifO (x.f t) (fun v => stK v (fun s => ifI (y.f t) (fun _ b => natI b (fun m => nthK s m fun c => fcN c.toNat fun c => k (.i .u8 (.ofNat c)) h) none) none) (gen.f F g h t k)) (gen.f F g h t k)⟩
def ixAgg (gen : BO) (n : Nat) (x y : BV) : BO := ⟨fun F g h t k =>
 ifO (x.f t) (fun v => agK v (fun s => ifI (y.f t) (fun _ b => natI b (fun m => ite2 (Nat.blt m n) (nthK s m fun c => ofA c fun c => k c h) none) none) none) (gen.f F g h t k)) (gen.f F g h t k)⟩
def single (P : Program) (ty : TypeId) : Bool := match isAggT P ty with | some false => true | _ => false
def one1 (P : Program) (ty : TypeId) : Bool := match szOf P ty with | some 1 => true | _ => false
def ixV1 (P : Program) (gen : BO) (ty : TypeId) (x y : BV) : BO :=
 match P.underlying ty with
 | some .string => ixStr gen x y
 | some (.array n e) => bif single P e && one1 P e then ixAgg gen n x y else gen
 | _ => gen
def fnK (v : AVal) (f : FuncId → List AVal → List AVal → OV) : OV := match v with | .func fn a b => (match fn with | .func q => f q a b | _ => none) | _ => none
def clO (x : BV) (as : BL) : BO := ⟨fun F g h t k => ifO (x.f t) (fun v => fnK v fun q a b => F g h q (a.map cst ++ (as.f t ++ b.map cst)) k) none⟩
def callO (x : Operand) (as : BL) : BO :=
 match x with
 | .func f => ⟨fun F g h t k => F g h f (as.f t) k⟩
 | x => clO (oV x) as
def nwK (h : AHeap) (n : Option New) (k : FV → AHeap → OV) : OV := match n with | some (a, b) => fcH (h.push b) fun h' => ofA (a h.size) fun v => k v h' | none => none
def agZ (P : Program) (ty : TypeId) : Option Nat := match isAggT P ty with | some true => szOf P ty | _ => none
def intK (P : Program) (t : TypeId) : Option IntKind := match P.underlying t with | some (.int k) => some k | _ => none
def convK (P : Program) (s d : TypeId) : Option IntKind :=
 match P.underlying s with
 | some _ => intK P d
 | none => none
def binC (gen : BO) (o : BinOp) (k : Option IntKind) (x y : BV) : BO :=
 match o with
 | .shr => shrO gen x y
 | .shl => shlO gen x y
 | o => (match k with
  | some k => (match iB o k with
   | some f => binO (kn k) f gen x y
   | none => gen)
  | none => gen)
def pO (f : FT → Option AVal) : BO := ⟨fun _ _ h t k => outP (f t) h k⟩
def hO (f : Gd → AHeap → FT → Option (AVal × AHeap)) : BO := ⟨fun _ g h t k => outK (f g h t) k⟩
def vA (x : Operand) (t : FT) : AVal := ((oV x).f t).toA
def vAs : Option Operand → FT → Option AVal
 | none => fun _ => none
 | some x => fun t => some (vA x t)
def ncO (gen : BO) (x : BV) : BO := ⟨fun F g h t k => ifP (x.f t) (fun id o => k (.p id o) h) (gen.f F g h t k)⟩
inductive LnT where
 | str
 | row
 | no
def lnT (P : Program) (ts : Array TypeId) : LnT :=
 match ts[0]? with
 | none => .no
 | some t => (match P.underlying t with
  | some .string => .str
  | some (.slice _) => .row
  | _ => .no)
def lnS (v : AVal) (k : Nat → OV) (e : OV) : OV := match v with | .str s => fcN s.length k | _ => e
def lnR (v : AVal) (k : Nat → OV) (e : OV) : OV := match v with | .slice _ n => fcN n k | .vsl n _ => fcN n k | _ => e
def lnO (gen : BO) (l : LnT) (x : BV) : BO :=
 match l with
 | .str => ⟨fun F g h t k => ifO (x.f t) (fun v => lnS v (fun n => k (.i .i64 (.ofNat n)) h) (gen.f F g h t k)) (gen.f F g h t k)⟩
 | .row => ⟨fun F g h t k => ifO (x.f t) (fun v => lnR v (fun n => k (.i .i64 (.ofNat n)) h) (gen.f F g h t k)) (gen.f F g h t k)⟩
 | .no => gen
def isStr (P : Program) (t : TypeId) : Bool := match P.underlying t with | some .string => true | _ => false
def blt (P : Program) (gen : BO) (b : Go.Builtin) (as : List Operand) (ts : Array TypeId) : BO :=
 match b with
 | .len => (match as with
  | [x] => lnO gen (lnT P ts) (oV x)
  | _ => gen)
 | .append => (match as with
  | [x, y] => hO fun g h t => appendA P g h ts (vA x t) (vA y t)
  | _ => gen)
 | _ => gen
section
variable (C : Cfg)
def cOp (op : Op) : BO :=
 match op with
 | .move x => mvO (oV x)
 | .assign x => mvO (oV x)
 | .pick c a b => pkO (oV c) (oV a) (oV b)
 | .binOp o ty x y k => binC (gO C (.binOp o ty x y k)) o (intK C.P ty) (oV x) (oV y)
 | .unOp o ty x => (match o with | .not => notO (gO C (.unOp .not ty x)) (oV x) | o => gO C (.unOp o ty x))
 | .extract x i => exO (oV x) i
 | .load ty x => bif single C.P ty then ldO (gO C (.load ty x)) (oV x) else ldaO (gO C (.load ty x)) (agZ C.P ty) (oV x)
 | .store ty x y => bif one1 C.P ty then stO (gO C (.store ty x y)) (oV x) (oV y) else gO C (.store ty x y)
 | .fieldAddr s x f => fdO (gO C (.fieldAddr s x f)) (offOf C.P s f) (oV x)
 | .indexAddr ty x i => ixO (gO C (.indexAddr ty x i)) (ixT C.P ty) (oV x) (oV i)
 | .index ty x i => ixV1 C.P (gO C (.index ty x i)) ty (oV x) (oV i)
 | .convert s d x => cvO (gO C (.convert s d x)) (convK C.P s d) (oV x)
 | .alloc e => ⟨fun _ _ h _ k => nwK h ((zeroA C.P e).bind newVarA) k⟩
 | .call c => (match c.callee with
  | .value x => callO x (oL c.args.toList)
  | .builtin b => blt C.P (gO C (.call c)) b c.args.toList c.argTypes
  | _ => gO C (.call c))
 | .field s x f => pO fun t => fieldA C.P s (vA x t) f
 | .slice ty x lo hi mx => (match mx with
  | none => bif isStr C.P ty then pO fun t => sliceP C.P ty (vA x t) (vAs lo t) (vAs hi t) else gO C (.slice ty x lo hi none)
  | some m => gO C (.slice ty x lo hi (some m)))
 | .build ty ps => pO fun t => buildA C.P ty (ps.toList.map fun p => (p.1, vA p.2 t))
 | .makeFunc fn a b => pO fun t => some (.func fn (((oL a.toList).f t).map FV.toA) (((oL b.toList).f t).map FV.toA))
 | .nilCheck x => ncO (gO C (.nilCheck x)) (oV x)
 | .box e x => ⟨fun _ _ h t k => nwK h (newVarA (vA x t)) k⟩
 | op => gO C op
end
structure BG where f : FT → OV → OV → OV
def undK (v : AVal) (kf : OV) : OV := match v with | .undef => none | _ => kf
def gdK (want : Bool) (v : FV) (kt kf : OV) : OV := FV.rec (fun _ _ => kf) (fun b => ite2 (b == want) kt kf) (fun _ _ => kf) (fun a => match a with | .bool _ => none | a => undK a kf) v
def gdB (ops : Array Oper) (o : Oper) : Option BG :=
 match o.guard with
 | none => none
 | some (j, want) =>
  match (ops[j]?).bind (·.dst) with
  | none => some ⟨fun _ _ kf => kf⟩
  | some d => some ⟨fun t kt kf => gdK want ((oV (.tmp d)).f t) kt kf⟩
def fcF (t : FT) (k : FT → OV) : OV := FT.rec (fun a0 a1 a2 a3 a4 a5 a6 a7 a8 a9 a10 a11 a12 a13 a14 a15 => k (.mk a0 a1 a2 a3 a4 a5 a6 a7 a8 a9 a10 a11 a12 a13 a14 a15)) t
theorem fcF_eq (t : FT) (k : FT → OV) : fcF t k = k t := by cases t; rfl
structure BP where f : FT → FV → (FT → OV) → OV
def ptB (N : Nat) (dst : Option Tmp) : BP :=
 match dst with
 | some d => bif Nat.blt d N && Nat.blt d 256 then ⟨fun t v k => fcF ((slot d).u t v) k⟩ else ⟨fun _ _ _ => none⟩
 | none => ⟨fun t _ k => k t⟩
abbrev KN := FT → AHeap → OV
structure BR where f : SelfF → Gd → FT → AHeap → KN → OV
def opRg (op : BO) (pt : BP) (rest : BR) : BR := ⟨fun S g t h k => op.f S.call g h t fun v h => pt.f t v fun t => rest.f S g t h k⟩
def skR (pt : BP) (rest : BR) : BR := ⟨fun S g t h k => pt.f t (.o (.tuple [])) fun t => rest.f S g t h k⟩
def opRg1 (gd : Option BG) (op : BO) (pt : BP) (rest : BR) : BR :=
 match gd with
 | none => opRg op pt rest
 | some gd => ⟨fun S g t h k => gd.f t ((opRg op pt rest).f S g t h k) ((skR pt rest).f S g t h k)⟩
structure BPl where f : List (Nat × Nat) → SelfF → Gd → FT → AHeap → KN → OV
structure BX where f : SelfF → Gd → FT → AHeap → KN → (Nat → KN) → KN → OV
def xReg (r : BR) : BX := ⟨fun S g t h kn _ _ => r.f S g t h kn⟩
def xPl (r : BPl) : BX := ⟨fun S g t h kn _ _ => r.f [] S g t h kn⟩
def xSeq (a b : BX) : BX := ⟨fun S g t h kn kx kr => a.f S g t h (fun t h => b.f S g t h kn kx kr) kx kr⟩
def xCond (c : BV) (a b : BX) : BX := ⟨fun S g t h kn kx kr => ifB (c.f t) (fun v => ite2 v (a.f S g t h kn kx kr) (b.f S g t h kn kx kr)) none⟩
def xBlock (id : Nat) (a : BX) : BX := ⟨fun S g t h kn kx kr => a.f S g t h kn (fun i t h => ite2 (Nat.beq i id) (kn t h) (kx i t h)) kr⟩
def xLoop (N : Nat) (f : FuncId) (c : Code) (a : BX) : BX := ⟨fun S g t h kn kx kr => a.f S g t h (fun t h => S.loop N f c g t h kn kx kr) kx kr⟩
section
variable (C : Cfg)
def regB (N : Nat) (ops : Array Oper) : List Oper → BR
 | [] => ⟨fun _ _ t h k => k t h⟩
 | o :: rest => opRg1 (gdB ops o) (cOp C o.op) (ptB N o.dst) (regB N ops rest)
def opPl (N : Nat) (ops : Array Oper) (i : Nat) (U : List Nat) (o : Op) (op : BO) (pt : BP) (rest : BPl) : BPl := ⟨fun tch S g t h k =>
 op.f S.call ⟨g.floor, protOf tch U ++ g.prot⟩ h t fun v h' => pt.f t v fun t' => ite2 (reOkE C ops U N (evF t') h') (rest.f (touchesE C.P h (evF t) i o tch) S g t' h' k) none⟩
def opPl0 (i : Nat) (o : Op) (op : BO) (pt : BP) (rest : BPl) : BPl := ⟨fun tch S g t h k =>
 op.f S.call g h t fun v h' => pt.f t v fun t' => rest.f (touchesE C.P h (evF t) i o tch) S g t' h' k⟩
def opPlU (N : Nat) (ops : Array Oper) (i : Nat) (U : List Nat) (o : Op) (op : BO) (pt : BP) (rest : BPl) : BPl :=
 match U with
 | [] => opPl0 C i o op pt rest
 | u :: U => opPl C N ops i (u :: U) o op pt rest
def skPl (pt : BP) (rest : BPl) : BPl := ⟨fun tch S g t h k => pt.f t (.o (.tuple [])) fun t => rest.f tch S g t h k⟩
def opP1 (gd : Option BG) (a b : BPl) : BPl :=
 match gd with
 | none => a
 | some gd => ⟨fun tch S g t h k => gd.f t (a.f tch S g t h k) (b.f tch S g t h k)⟩
def planB (N : Nat) (ops : Array Oper) : List (Nat × List Nat) → BPl
 | [] => ⟨fun _ _ _ t h k => k t h⟩
 | (i, U) :: rest =>
  match ops[i]? with
  | none => ⟨fun _ _ _ _ _ _ => none⟩
  | some o => opP1 (gdB ops o) (opPlU C N ops i U o.op (cOp C o.op) (ptB N o.dst) (planB N ops rest)) (skPl (ptB N o.dst) (planB N ops rest))
def exB (N : Nat) (f : FuncId) : Code → BX
 | .skip => ⟨fun _ _ t h kn _ _ => kn t h⟩
 | .label _ => ⟨fun _ _ t h kn _ _ => kn t h⟩
 | .region id ops draw => bif draw then xPl (planB C N ops (C.plan f id)) else xReg (regB C N ops ops.toList)
 | .seq a b => xSeq (exB N f a) (exB N f b)
 | .cond c a b => xCond (oV c) (exB N f a) (exB N f b)
 | .block id c => xBlock id (exB N f c)
 | .loop c => xLoop N f c (exB N f c)
 | .scope c => exB N f c
 | .exit id => ⟨fun _ _ t h _ kx _ => kx id t h⟩
 | .ret => ⟨fun _ _ t h _ _ kr => kr t h⟩
 | _ => ⟨fun _ _ _ _ _ _ _ => none⟩
def selO (op : Op) : BO := ⟨fun _ g h t k => outK (selAE C.P g h (evF t) op) k⟩
def selB (N : Nat) : Code → BX
 | .region _ ops _ => (match ops.toList with
  | o :: rest => xReg (opRg (selO C o.op) (ptB N o.dst) (regB C N ops rest))
  | [] => ⟨fun _ _ _ _ _ _ _ => none⟩)
 | _ => ⟨fun _ _ _ _ _ _ _ => none⟩
def exS (N : Nat) (f : FuncId) : Code → BX
 | .seq a b => xSeq (exS N f a) (exS N f b)
 | c => bif isSel c then selB C N c else exB C N f c
structure BE where f : FT → AHeap → (FV → AHeap → OV) → OV
def res1 (P : Program) (t : FT) (h : AHeap) : ResultVar → Option AVal
 | .tmp i => some (look t i).toA
 | .cell a ty =>
  match (look t a).toA with
  | .ptr (some (id, o)) => loadA P (h.get id) ty o
  | _ => none
def resG (P : Program) (rs : List ResultVar) (t : FT) (h : AHeap) : Option AVal :=
 match rs.mapM (res1 P t h) with
 | some [v] => some v
 | some vs => some (.tuple vs)
 | none => none
def resB (P : Program) (rs : List ResultVar) : BE :=
 match rs with
 | [.tmp i] => ⟨fun t h k => fcV ((oV (.tmp i)).f t) fun v => k v h⟩
 | rs => ⟨fun t h k => outP (resG P rs t h) h k⟩
def argK (as : List FV) (i : Nat) (t : FT) (k : FT → OV) : OV :=
 List.rec (motive := fun _ => Nat → FT → OV) (fun _ t => k t) (fun v _ ih i t => fcV v fun v => fcF ((slot i).u t v) fun t => fcN (i + 1) fun i => ih i t) as i t
structure BF where f : SelfF → Gd → AHeap → List FV → (FV → AHeap → OV) → OV
def bodyK (N : Nat) (x : BX) (e : BE) : BF := ⟨fun S g h as k => ite2 (Nat.blt N as.length) none (argK as 0 FT.new fun t => x.f S g t h (fun t h => e.f t h k) (fun _ _ _ => none) (fun t h => e.f t h k))⟩
def bodyB (sel : Bool) (f : FuncId) : BF :=
 match C.P.funcs[f]? with
 | none => ⟨fun _ _ _ _ _ => none⟩
 | some fn =>
  match fn.body with
  | none => ⟨fun _ _ _ _ _ => none⟩
  | some c => bif Nat.blt 256 fn.ntmps then ⟨fun _ _ _ _ _ => none⟩ else bodyK fn.ntmps (bif sel then exS C fn.ntmps f c else exB C fn.ntmps f c) (resB C.P fn.results.toList)
def canV (v : FV) : FV := match v with | .o a => .o (can2 a) | v => v
def canF : List Bool → List FV → List FV
 | true :: bs, v :: vs => canV v :: canF bs vs
 | false :: bs, v :: vs => v :: canF bs vs
 | _, vs => vs
def stillB (l : List Bool) (b : BF) : BF :=
 match l with
 | [] => b
 | l => ⟨fun S g h as k => b.f S g h (canF l as) k⟩
def fnB (f : FuncId) : BF :=
 match C.kind f with
 | 1 => stillB (C.still f) (bodyB C false f)
 | 2 => ⟨fun S g h as k => (bodyB C false f).f S ⟨h.size, []⟩ h as fun v _ => ite2 (flat3 v.toA) (k v h) none⟩
 | 3 => ⟨fun S g h as k => outK (C.ext f g h (as.map FV.toA)) k⟩
 | 4 => ⟨fun S g h as k => ite2 ((as.map FV.toA).all flat2) ((bodyB C false f).f S ⟨0, []⟩ ⟨0, .leaf⟩ as fun v _ => ite2 (flat3 v.toA) (k v h) none) none⟩
 | 7 => ⟨fun S g h as k => (stillB (C.still f) (bodyB C false f)).f S g h as fun v h => outK (frz3 g h v.toA) k⟩
 | 8 => stillB (C.still f) (bodyB C true f)
 | 9 => ⟨fun S g h as k => (stillB (C.still f) (bodyB C false f)).f S g h as fun v h => outK (frz4 g h v.toA) k⟩
 | _ => ⟨fun _ _ _ _ _ => none⟩
end
def selfF (C : Cfg) : Nat → SelfF
 | 0 => ⟨fun _ _ _ _ _ => none, fun _ _ _ _ _ _ _ _ _ => none⟩
 | n + 1 => ⟨fun g h f as k => (fnB C f).f (selfF C n) g h as k, fun N f c g t h kn kx kr => (exB C N f (.loop c)).f (selfF C n) g t h kn kx kr⟩
section
variable {P : Program}
theorem opPE_eq (fr : Fr) (op : Op) : opPE P (ev fr) op = opP P fr op := by cases op <;> rfl
theorem touchAE_eq (fr : Fr) (op : Op) : touchAE (ev fr) op = touchA fr op := by cases op <;> rfl
theorem opRE_eq (G : Nat → Option (List AVal)) (fr : Fr) (ob : Option AObj) (op : Op) : opRE P G (ev fr) ob op = opR P G fr ob op := by cases op <;> rfl
theorem opNE_eq (fr : Fr) (op : Op) : opNE P (ev fr) op = opN P fr op := by cases op <;> rfl
theorem opWE_eq (g : Gd) (h : AHeap) (fr : Fr) (op : Op) : opWE P g h (ev fr) op = opW P g h fr op := by cases op <;> rfl
theorem opAE_eq (G : Nat → Option (List AVal)) (g : Gd) (h : AHeap) (fr : Fr) (op : Op) : opAE P G g h (ev fr) op = opA P G g h fr op := by
 unfold opAE opA
 rw [opPE_eq, touchAE_eq, opNE_eq, opWE_eq]
 simp only [opRE_eq]
 rfl
end
section
variable {C : Cfg}
theorem stepE_A {S : Self} {g : Gd} {h : AHeap} {fr : Fr} {op : Op} {r : AVal × AHeap} (hr : stepE C S.call g h (ev fr) op = some r) : stepA C S g h fr op = some r := by
 cases op with
 | call c =>
  rcases c with ⟨cl, _⟩
  cases cl with
  | value x =>
   unfold stepE at hr
   unfold stepA
   dsimp only at hr ⊢
   split at hr
   ·rename_i f first cap hx
    simp only [hx]
    exact hr
   ·cases hr
  | _ => rw [stepE_no C rfl, opAE_eq] at hr; exact hr
 | _ => rw [stepE_no C rfl, opAE_eq] at hr; exact hr
theorem mv_ok (x : Operand) (op : Op) (ho : op = .move x ∨ op = .assign x) : (mvO (oV x)).ok C op := fun F S hS g h t k r hr => by
 have hr : fcV ((oV x).f t) (fun v => k v h) = some r := hr
 rw [fcV_eq] at hr
 refine ⟨_, h, ?_, hr⟩
 rw [oV_eq]
 rcases ho with rfl | rfl <;> exact pure_ok C rfl rfl rfl
theorem pk_ok (c a b : Operand) : (pkO (oV c) (oV a) (oV b)).ok C (.pick c a b) := fun F S hS g h t k r hr => by
 rcases ifB_ok hr with ⟨v, hv, h1⟩ | h1
 ·have hc : evF t c = .bool v := by rw [← oV_eq, hv]; rfl
  rcases ite2_ok h1 with ⟨rfl, h2⟩ | ⟨rfl, h2⟩
  ·rw [fcV_eq] at h2
   refine ⟨_, h, pure_ok C rfl rfl ?_, h2⟩
   rw [oV_eq]
   simp only [opPE, hc, cond_true]
  ·rw [fcV_eq] at h2
   refine ⟨_, h, pure_ok C rfl rfl ?_, h2⟩
   rw [oV_eq]
   simp only [opPE, hc, cond_false]
 ·cases h1
theorem binA_int {P : Program} {o : BinOp} {t : TypeId} {k : IntKind} {a b : Int} (h : o ≠ .shl ∧ o ≠ .shr) : binA P o t (.int k a) (.int k b) = intBin o k a b := by
 unfold binA
 cases o <;> simp_all
theorem bin_ok {o : BinOp} {ty : TypeId} {x y : Operand} {kk : TypeId} {k0 : IntKind} {f : BI} (hf : iB o k0 = some f) {gen : BO} (hg : gen.ok C (.binOp o ty x y kk)) : (binO (kn k0) f gen (oV x) (oV y)).ok C (.binOp o ty x y kk) := fun F S hS g h t k r hr => by
 rcases ifI_ok hr with ⟨k1, a, hx, h1⟩ | h1
 ·rcases ifI_ok h1 with ⟨k2, b, hy, h2⟩ | h2
  ·rcases ite2_ok h2 with ⟨hk, h3⟩ | ⟨-, h3⟩
   ·simp only [Bool.and_eq_true, kn_eq, decide_eq_true_eq] at hk
    obtain ⟨rfl, rfl⟩ := hk
    obtain ⟨n1, n2, v, h4, h5⟩ := iB_ok hf h3
    refine ⟨v, h, pure_ok C rfl rfl ?_, h5⟩
    show binN C.P o ty (isC x || isC y) (evF t x) (evF t y) = _
    rw [← oV_eq, ← oV_eq, hx, hy, ← h4]
    exact (show binN C.P o ty (isC x || isC y) (.int k2 a) (.int k2 b) = intBin o k2 a b from binA_int (P := C.P) (t := ty) ⟨n1, n2⟩)
   ·exact hg F S hS g h t k r h3
  ·exact hg F S hS g h t k r h2
 ·exact hg F S hS g h t k r h1
theorem shr_ok {ty : TypeId} {x y : Operand} {kk : TypeId} {gen : BO} (hg : gen.ok C (.binOp .shr ty x y kk)) : (shrO gen (oV x) (oV y)).ok C (.binOp .shr ty x y kk) := fun F S hS g h t k r hr => by
 rcases ifI_ok hr with ⟨k1, a, hx, h1⟩ | h1
 ·rcases ifI_ok h1 with ⟨k2, b, hy, h2⟩ | h2
  ·rcases ite2_ok h2 with ⟨hb, h3⟩ | ⟨-, h3⟩
   ·rw [leI_eq, decide_eq_true_eq] at hb
    rw [fcI_eq] at h3
    refine ⟨_, h, pure_ok C rfl rfl ?_, h3⟩
    show binN C.P .shr ty (isC x || isC y) (evF t x) (evF t y) = _
    rw [← oV_eq, ← oV_eq, hx, hy, shrF_eq]
    show shiftA .shr k1 a b = _
    unfold shiftA
    rw [if_neg (by omega)]
    rfl
   ·exact hg F S hS g h t k r h3
  ·exact hg F S hS g h t k r h2
 ·exact hg F S hS g h t k r h1
theorem shl_ok {ty : TypeId} {x y : Operand} {kk : TypeId} {gen : BO} (hg : gen.ok C (.binOp .shl ty x y kk)) : (shlO gen (oV x) (oV y)).ok C (.binOp .shl ty x y kk) := fun F S hS g h t k r hr => by
 rcases ifI_ok hr with ⟨k1, a, hx, h1⟩ | h1
 ·rcases ifI_ok h1 with ⟨k2, b, hy, h2⟩ | h2
  ·rcases ite2_ok h2 with ⟨hb, h3⟩ | ⟨-, h3⟩
   ·rw [leI_eq, decide_eq_true_eq] at hb
    rw [fcI_eq] at h3
    refine ⟨_, h, pure_ok C rfl rfl ?_, h3⟩
    show binN C.P .shl ty (isC x || isC y) (evF t x) (evF t y) = _
    rw [← oV_eq, ← oV_eq, hx, hy, wrB_eq]
    show shiftA .shl k1 a b = _
    unfold shiftA
    rw [if_neg (by omega)]
    rfl
   ·exact hg F S hS g h t k r h3
  ·exact hg F S hS g h t k r h2
 ·exact hg F S hS g h t k r h1
theorem binC_ok {o : BinOp} {ty : TypeId} {x y : Operand} {kk : TypeId} (k0 : Option IntKind) {gen : BO} (hg : gen.ok C (.binOp o ty x y kk)) : (binC gen o k0 (oV x) (oV y)).ok C (.binOp o ty x y kk) := by
 unfold binC
 split
 ·exact shr_ok hg
 ·exact shl_ok hg
 ·split
  ·split
   ·rename_i hf; exact bin_ok hf hg
   ·exact hg
  ·exact hg
theorem not_ok {ty : TypeId} {x : Operand} {gen : BO} (hg : gen.ok C (.unOp .not ty x)) : (notO gen (oV x)).ok C (.unOp .not ty x) := fun F S hS g h t k r hr => by
 rcases ifB_ok hr with ⟨v, hv, h1⟩ | h1
 ·have hc : evF t x = .bool v := by rw [← oV_eq, hv]; rfl
  rcases ite2_ok h1 with ⟨rfl, h2⟩ | ⟨rfl, h2⟩
  ·exact ⟨.b false, h, pure_ok C rfl rfl (by simp only [opPE, hc, unA]; rfl), h2⟩
  ·exact ⟨.b true, h, pure_ok C rfl rfl (by simp only [opPE, hc, unA]; rfl), h2⟩
 ·exact hg F S hS g h t k r h1
theorem ex_ok (x : Operand) (i : Nat) : (exO (oV x) i).ok C (.extract x i) := fun F S hS g h t k r hr => by
 rcases ifO_ok hr with ⟨v, hv, h1⟩ | h1
 ·have hc : evF t x = v := by rw [← oV_eq, hv]; rfl
  unfold tupK at h1
  split at h1
  ·rename_i vs
   obtain ⟨a, h2, h3⟩ := nthK_ok h1
   obtain ⟨y, h4, h5⟩ := ofA_ok h3
   exact ⟨y, h, pure_ok C rfl rfl (by simp only [opPE, hc, h2, h4]), h5⟩
  ·cases h1
 ·cases h1
theorem rd_ok {h : AHeap} {id o : Nat} {k : AVal → OV} {r : AVal × AHeap} (hr : rdAt h id o k = some r) : ∃ gr st cs v, h.get id = some (.cells gr st cs) ∧ st ≠ 0 ∧ cs[o]? = some v ∧ k v = some r := by
 unfold rdAt at hr
 rw [hget_eq] at hr
 split at hr
 ·rename_i ob hob
  unfold rdOb at hr
  split at hr
  ·rename_i gr st cs
   rcases ite2_ok hr with ⟨-, h1⟩ | ⟨h0, h1⟩
   ·cases h1
   ·obtain ⟨v, h2, h3⟩ := nthK_ok h1
    exact ⟨gr, st, cs, v, hob, (fun e => by subst e; cases h0), h2, h3⟩
  ·cases hr
 ·cases hr
theorem load_step {S : CallS} {g : Gd} {h : AHeap} {E : Operand → AVal} {ty : TypeId} {x : Operand} {id o : Nat} {ob : AObj} {v : AVal} (hx : E x = .ptr (some (id, o))) (hg : h.get id = some ob) (hl : loadA C.P (some ob) ty o = some v) : stepE C S g h E (.load ty x) = some (v, h) := by
 rw [stepE_no C rfl]
 unfold opAE
 rw [show clsOf C.P (.load ty x) = 1 from rfl]
 simp only [touchAE, hx, refOf, hg, opRE, hl, Option.map_some]
theorem ld_ok {ty : TypeId} {x : Operand} (hs : single C.P ty = true) {gen : BO} (hg : gen.ok C (.load ty x)) : (ldO gen (oV x)).ok C (.load ty x) := fun F S hS g h t k r hr => by
 rcases ifP_ok hr with ⟨id, o, hv, h1⟩ | h1
 ·have hc : evF t x = .ptr (some (id, o)) := by rw [← oV_eq, hv]; rfl
  obtain ⟨gr, st, cs, v, h2, h3, h4, h5⟩ := rd_ok h1
  obtain ⟨y, h6, h7⟩ := ofA_ok h5
  refine ⟨y, h, load_step hc h2 ?_, h7⟩
  have ht : isAggT C.P ty = some false := by
   unfold single at hs
   split at hs
   ·assumption
   ·cases hs
  have hlt := (List.getElem?_eq_some_iff.1 h4).1
  unfold loadA cellsAt
  simp only [ht]
  rw [if_pos ⟨h3, by omega⟩, h6]
  have e : (cs.drop o).take 1 = [v] := by
   rw [List.drop_eq_getElem_cons hlt]
   rw [List.getElem?_eq_getElem hlt] at h4
   simp [Option.some.inj h4]
  rw [e]
 ·exact hg F S hS g h t k r h1
theorem lda_ok {ty : TypeId} {x : Operand} {gen : BO} (hg : gen.ok C (.load ty x)) : (ldaO gen (agZ C.P ty) (oV x)).ok C (.load ty x) := by
 unfold ldaO
 split
 ·rename_i n hn
  intro F S hS g h t k r hr
  rcases ifP_ok hr with ⟨id, o, hv, h1⟩ | h1
  ·have hc : evF t x = .ptr (some (id, o)) := by rw [← oV_eq, hv]; rfl
   unfold agZ at hn
   split at hn
   ·rename_i ht
    unfold rdAt2 at h1
    rw [hget_eq] at h1
    split at h1
    ·rename_i ob hob
     unfold rdOb2 at h1
     split at h1
     ·rename_i gr st cs
      rcases ite2_ok h1 with ⟨-, h2⟩ | ⟨h0, h2⟩
      ·cases h2
      ·rcases ite2_ok h2 with ⟨h3, h4⟩ | ⟨-, h4⟩
       ·have h4 := (fcLs_eq _ _).symm.trans h4
        refine ⟨_, h, load_step hc hob ?_, h4⟩
        unfold loadA cellsAt
        simp only [ht, hn, Option.bind_some]
        rw [if_pos ⟨(fun e => by subst e; cases h0), by simpa using h3⟩]
        rfl
       ·cases h4
     ·cases h1
    ·cases h1
   ·cases hn
  ·exact hg F S hS g h t k r h1
 ·exact hg
theorem st_ok {ty : TypeId} {x y : Operand} (hz : one1 C.P ty = true) {gen : BO} (hg : gen.ok C (.store ty x y)) : (stO gen (oV x) (oV y)).ok C (.store ty x y) := fun F S hS g h t k r hr => by
 rcases ifP_ok hr with ⟨id, o, hv, h1⟩ | h1
 ·have hc : evF t x = .ptr (some (id, o)) := by rw [← oV_eq, hv]; rfl
  rw [fcV_eq] at h1
  rcases ite2_ok h1 with ⟨ho, h2⟩ | ⟨-, h2⟩
  ·have ho' : (evF t y).one = true := by
    rw [← oV_eq]
    revert ho
    cases (oV y).f t <;> simp [FV.one, FV.toA, AVal.one]
   unfold wrAt at h2
   rw [hget_eq] at h2
   split at h2
   ·rename_i ob hob
    unfold wrOb at h2
    split at h2
    ·rename_i gr st cs
     rcases ite2_ok h2 with ⟨hb, h3⟩ | ⟨-, h3⟩
     ·rw [Bool.and_eq_true, Nat.beq_eq] at hb
      obtain ⟨rfl, hm⟩ := hb
      obtain ⟨h4, h5⟩ := setLK_ok h3
      rw [hset_eq] at h5
      refine ⟨_, _, ?_, h5⟩
      rw [stepE_no C rfl]
      unfold opAE
      rw [show clsOf C.P (.store ty x y) = 3 from rfl]
      have hs : szOf C.P ty = some 1 := by
       unfold one1 at hz
       split at hz
       ·assumption
       ·cases hz
      rw [oV_eq]
      simp only [opWE, hc]
      unfold storeA
      have hcl : (evF t y).cells? = some [evF t y] := by
       revert ho'
       cases evF t y <;> simp [AVal.one, AVal.cells?]
      simp only [hcl, hs]
      rw [if_pos (show [evF t y].length = 1 from rfl)]
      unfold storeCellsA
      simp only [hob]
      rw [if_pos ⟨hm, by simp; omega, by simp [ho']⟩]
      have e : splice cs o [evF t y] = cs.set o (evF t y) := by
       unfold splice
       rw [List.set_eq_take_append_cons_drop, if_pos h4]
       simp
      rw [e]
      rfl
     ·cases h3
    ·cases h2
   ·cases h2
  ·exact hg F S hS g h t k r h2
 ·exact hg F S hS g h t k r h1
theorem fd_ok {s : TypeId} {x : Operand} {f : Nat} {gen : BO} (hg : gen.ok C (.fieldAddr s x f)) : (fdO gen (offOf C.P s f) (oV x)).ok C (.fieldAddr s x f) := by
 unfold fdO
 split
 ·rename_i c hc0
  intro F S hS g h t k r hr
  rcases ifP_ok hr with ⟨id, o, hv, h1⟩ | h1
  ·have hc : evF t x = .ptr (some (id, o)) := by rw [← oV_eq, hv]; rfl
   rw [fcN_eq] at h1
   refine ⟨_, h, pure_ok C rfl rfl ?_, h1⟩
   simp only [opPE, hc]
   unfold offOf at hc0
   unfold fieldAddrA
   split at hc0
   ·rename_i fs hu
    split at hc0
    ·rename_i fd hfd
     split at hc0
     ·rename_i z hz
      injection hc0 with hc0
      subst hc0
      simp only [hu, hfd, hz]
      rfl
     ·cases hc0
    ·cases hc0
   ·cases hc0
  ·exact hg F S hS g h t k r h1
 ·exact hg
theorem cv_ok {s d : TypeId} {x : Operand} {gen : BO} (hg : gen.ok C (.convert s d x)) : (cvO gen (convK C.P s d) (oV x)).ok C (.convert s d x) := by
 unfold cvO
 split
 ·rename_i k0 hk
  intro F S hS g h t k r hr
  rcases ifI_ok hr with ⟨k1, a, hx, h1⟩ | h1
  ·have hc : evF t x = .int k1 a := by rw [← oV_eq, hx]; rfl
   rw [fcI_eq] at h1
   unfold convK intK at hk
   split at hk
   ·rename_i u hu
    split at hk
    ·rename_i k2 hd
     injection hk with hk
     subst hk
     refine ⟨_, h, pure_ok C rfl ?_ ?_, h1⟩
     ·unfold clsOf
      simp only [hu, hd]
     ·simp only [opPE, hc, convP, hu, hd, wrB_eq]; rfl
    ·cases hk
   ·cases hk
  ·exact hg F S hS g h t k r h1
 ·exact hg
theorem ixa_ok {ty : TypeId} {x i : Operand} {n z : Nat} {e : TypeId} (hu : C.P.underlying ty = some (.array n e)) (hz : szOf C.P e = some z) {gen : BO} (hg : gen.ok C (.indexAddr ty x i)) : (ixaO gen n z (oV x) (oV i)).ok C (.indexAddr ty x i) := fun F S hS g h t k r hr => by
 rcases ifP_ok hr with ⟨id, o, hv, h1⟩ | h1
 ·have hc : evF t x = .ptr (some (id, o)) := by rw [← oV_eq, hv]; rfl
  rcases ifI_ok h1 with ⟨k1, a, hx, h2⟩ | h2
  ·have hi : evF t i = .int k1 a := by rw [← oV_eq, hx]; rfl
   rcases natI_ok h2 with ⟨m, rfl, h3⟩ | h3
   ·rcases ite2_ok h3 with ⟨hm, h4⟩ | ⟨-, h4⟩
    ·rw [Nat.blt_eq] at hm
     rw [fcN_eq] at h4
     refine ⟨_, h, pure_ok C rfl rfl ?_, h4⟩
     simp only [opPE, hc, hi, indexAddrA, hu, hz, Option.map_some]
     rw [if_pos ⟨Int.natCast_nonneg _, by exact_mod_cast hm⟩]
     rfl
    ·cases h4
   ·cases h3
  ·cases h2
 ·exact hg F S hS g h t k r h1
theorem ixs_ok {ty : TypeId} {x i : Operand} {z : Nat} {e : TypeId} (hu : C.P.underlying ty = some (.slice e)) (hz : szOf C.P e = some z) {gen : BO} (hg : gen.ok C (.indexAddr ty x i)) : (ixsO gen z (oV x) (oV i)).ok C (.indexAddr ty x i) := fun F S hS g h t k r hr => by
 rcases ifO_ok hr with ⟨v, hv, h1⟩ | h1
 ·unfold slK at h1
  split at h1
  ·rename_i id o n
   have hc : evF t x = .slice (some (id, o)) n := by rw [← oV_eq, hv]; rfl
   rcases ifI_ok h1 with ⟨k1, a, hx, h2⟩ | h2
   ·have hi : evF t i = .int k1 a := by rw [← oV_eq, hx]; rfl
    rcases natI_ok h2 with ⟨m, rfl, h3⟩ | h3
    ·rcases ite2_ok h3 with ⟨hm, h4⟩ | ⟨-, h4⟩
     ·rw [Nat.blt_eq] at hm
      rw [fcN_eq] at h4
      refine ⟨_, h, pure_ok C rfl rfl ?_, h4⟩
      simp only [opPE, hc, hi, indexAddrA, hu, hz, Option.map_some]
      rw [if_pos ⟨Int.natCast_nonneg _, by exact_mod_cast hm⟩]
      rfl
     ·cases h4
    ·cases h3
   ·cases h2
  ·exact hg F S hS g h t k r h1
 ·exact hg F S hS g h t k r h1
theorem ix_ok {ty : TypeId} {x i : Operand} {gen : BO} (hg : gen.ok C (.indexAddr ty x i)) : (ixO gen (ixT C.P ty) (oV x) (oV i)).ok C (.indexAddr ty x i) := by
 unfold ixT
 split
 ·rename_i n e hu
  split
  ·rename_i z hz; exact ixa_ok hu hz hg
  ·exact hg
 ·rename_i e hu
  split
  ·rename_i z hz; exact ixs_ok hu hz hg
  ·exact hg
 ·exact hg
theorem ixv_ok {ty : TypeId} {x i : Operand} {gen : BO} (hg : gen.ok C (.index ty x i)) : (ixV1 C.P gen ty (oV x) (oV i)).ok C (.index ty x i) := by
 unfold ixV1
 split
 ·rename_i hu
  intro F S hS g h t k r hr
  rcases ifO_ok hr with ⟨v, hv, h1⟩ | h1
  ·unfold stK at h1
   split at h1
   ·rename_i s
    have hc : evF t x = .str s := by rw [← oV_eq, hv]; rfl
    rcases ifI_ok h1 with ⟨k1, a, hx, h2⟩ | h2
    ·have hi : evF t i = .int k1 a := by rw [← oV_eq, hx]; rfl
     rcases natI_ok h2 with ⟨m, rfl, h3⟩ | h3
     ·obtain ⟨c, h4, h5⟩ := nthK_ok h3
      rw [fcN_eq] at h5
      refine ⟨_, h, pure_ok C rfl rfl ?_, h5⟩
      simp only [opPE, hc, hi, indexA, hu]
      rw [if_pos (Int.natCast_nonneg _), Int.toNat_natCast, h4]
      rfl
     ·cases h3
    ·cases h2
   ·exact hg F S hS g h t k r h1
  ·exact hg F S hS g h t k r h1
 ·rename_i n e hu
  cases hb : single C.P e && one1 C.P e with
  | false => exact hg
  | true =>
   rw [Bool.and_eq_true] at hb
   have hz : szOf C.P e = some 1 := by
    have := hb.2
    unfold one1 at this
    split at this
    ·assumption
    ·cases this
   have ht : isAggT C.P e = some false := by
    have := hb.1
    unfold single at this
    split at this
    ·assumption
    ·cases this
   intro F S hS g h t k r hr
   rcases ifO_ok hr with ⟨v, hv, h1⟩ | h1
   ·unfold agK at h1
    split at h1
    ·rename_i s
     have hc : evF t x = .agg s := by rw [← oV_eq, hv]; rfl
     rcases ifI_ok h1 with ⟨k1, a, hx, h2⟩ | h2
     ·have hi : evF t i = .int k1 a := by rw [← oV_eq, hx]; rfl
      rcases natI_ok h2 with ⟨m, rfl, h3⟩ | h3
      ·rcases ite2_ok h3 with ⟨hm, h3⟩ | ⟨-, h3⟩
       ·rw [Nat.blt_eq] at hm
        obtain ⟨c, h4, h5⟩ := nthK_ok h3
        obtain ⟨y, h6, h7⟩ := ofA_ok h5
        refine ⟨_, h, pure_ok C rfl rfl ?_, h7⟩
        simp only [opPE, hc, hi, indexA, hu, hz, Option.bind_some]
        rw [if_pos ⟨Int.natCast_nonneg _, by exact_mod_cast hm⟩, Int.toNat_natCast, Nat.mul_one]
        unfold partA
        simp only [ht, h4, h6]
       ·cases h3
      ·cases h3
     ·cases h2
    ·exact hg F S hS g h t k r h1
   ·exact hg F S hS g h t k r h1
 ·exact hg
theorem map_cst (l : List AVal) : (l.map cst).map FV.toA = l := by
 rw [List.map_map]
 conv => rhs; rw [← List.map_id l]
 exact List.map_congr_left fun x _ => cst_eq x
theorem cl_ok {c : Call} {x : Operand} (hcl : c.callee = .value x) : (clO (oV x) (oL c.args.toList)).ok C (.call c) := fun F S hS g h t k r hr => by
 rcases c with ⟨cl, as, ats⟩
 obtain rfl : cl = .value x := hcl
 rcases ifO_ok hr with ⟨v, hv, h1⟩ | h1
 ·have hc : evF t x = v := by rw [← oV_eq, hv]; rfl
  unfold fnK at h1
  split at h1
  ·rename_i fn a b
   split at h1
   ·rename_i q
    obtain ⟨y, h', h2, h3⟩ := hS _ _ _ _ _ _ h1
    refine ⟨y, h', ?_, h3⟩
    unfold stepE
    simp only [hc]
    rw [← h2, List.map_append, List.map_append, map_cst, map_cst, oL_eq]
   ·cases h1
  ·cases h1
 ·cases h1
theorem call_ok {c : Call} {x : Operand} (hcl : c.callee = .value x) : (callO x (oL c.args.toList)).ok C (.call c) := by
 unfold callO
 split
 ·rename_i f
  intro F S hS g h t k r hr
  rcases c with ⟨cl, as, ats⟩
  obtain rfl : cl = .value (.func f) := hcl
  obtain ⟨y, h', h2, h3⟩ := hS _ _ _ _ _ _ hr
  refine ⟨y, h', ?_, h3⟩
  unfold stepE
  simp only [evF]
  rw [← h2, oL_eq, List.nil_append, List.append_nil]
 ·exact cl_ok hcl
theorem pO_ok {op : Op} {f : FT → Option AVal} (hn : noCall op = true) (hc : clsOf C.P op = 0) (hf : ∀ t, opPE C.P (evF t) op = f t) : (pO f).ok C op := fun F S hS g h t k r hr => by
 obtain ⟨x, h1, h2⟩ := outP_ok hr
 exact ⟨x, h, pure_ok C hn hc (by rw [hf, h1]), h2⟩
theorem nw_ok {op : Op} {n : AHeap → FT → Option New} (hn : noCall op = true) (hc : clsOf C.P op = 2) (hf : ∀ h t, opNE C.P (evF t) op = n h t) {F : CallF} {S : CallS} {g : Gd} {h : AHeap} {t : FT} {k : FV → AHeap → OV} {r : AVal × AHeap} (hr : nwK h (n h t) k = some r) :
  ∃ x h', stepE C S g h (evF t) op = some (FV.toA x, h') ∧ k x h' = some r := by
 unfold nwK at hr
 split at hr
 ·rename_i a b hab
  rw [fcH_eq] at hr
  obtain ⟨x, h1, h2⟩ := ofA_ok hr
  refine ⟨x, _, ?_, h2⟩
  rw [stepE_no C hn]
  unfold opAE
  rw [hc]
  simp only [hf h, hab, Option.map_some, h1]
 ·cases hr
theorem nc_ok {x : Operand} {gen : BO} (hg : gen.ok C (.nilCheck x)) : (ncO gen (oV x)).ok C (.nilCheck x) := fun F S hS g h t k r hr => by
 rcases ifP_ok hr with ⟨id, o, hv, h1⟩ | h1
 ·have hc : evF t x = .ptr (some (id, o)) := by rw [← oV_eq, hv]; rfl
  exact ⟨_, h, pure_ok C rfl rfl (by simp only [opPE, hc]; rfl), h1⟩
 ·exact hg F S hS g h t k r h1
theorem blt_ok {c : Call} {b : Go.Builtin} (hcl : c.callee = .builtin b) {gen : BO} (hg : gen.ok C (.call c)) : (blt C.P gen b c.args.toList c.argTypes).ok C (.call c) := by
 rcases c with ⟨cl, as, ts⟩
 obtain rfl : cl = .builtin b := hcl
 unfold blt
 split
 ·split
  ·rename_i x has
   have has : as.toList = [x] := has
   show (lnO gen (lnT C.P ts) (oV x)).ok C _
   unfold lnT
   split
   ·exact hg
   ·rename_i ty hty
    split
    ·rename_i hu
     intro F S hS g h t k r hr
     rcases ifO_ok hr with ⟨v, hv, h1⟩ | h1
     ·have hc : evF t x = v := by rw [← oV_eq, hv]; rfl
      unfold lnS at h1
      split at h1
      ·rename_i s
       rw [fcN_eq] at h1
       refine ⟨_, h, pure_ok C rfl ?_ ?_, h1⟩
       ·unfold clsOf; simp only [hty, hu]
       ·simp only [opPE, has, List.map_cons, List.map_nil, hc, lenP, hty, hu]; rfl
      ·exact hg F S hS g h t k r h1
     ·exact hg F S hS g h t k r h1
    ·rename_i e hu
     intro F S hS g h t k r hr
     rcases ifO_ok hr with ⟨v, hv, h1⟩ | h1
     ·have hc : evF t x = v := by rw [← oV_eq, hv]; rfl
      unfold lnR at h1
      split at h1
      ·rename_i n
       rw [fcN_eq] at h1
       refine ⟨_, h, pure_ok C rfl ?_ ?_, h1⟩
       ·unfold clsOf; simp only [hty, hu]
       ·simp only [opPE, has, List.map_cons, List.map_nil, hc, lenP, hty, hu]; rfl
      ·rename_i n
       rw [fcN_eq] at h1
       refine ⟨_, h, pure_ok C rfl ?_ ?_, h1⟩
       ·unfold clsOf; simp only [hty, hu]
       ·simp only [opPE, has, List.map_cons, List.map_nil, hc, lenP, hty, hu]; rfl
      ·exact hg F S hS g h t k r h1
     ·exact hg F S hS g h t k r h1
    ·exact hg
  ·exact hg
 ·split
  ·rename_i x y has
   have has : as.toList = [x, y] := has
   intro F S hS g h t k r hr
   obtain ⟨v, h', h1, h2⟩ := outK_ok hr
   refine ⟨v, h', ?_, h2⟩
   rw [stepE_no C rfl]
   unfold opAE
   rw [show clsOf C.P (.call ⟨.builtin .append, as, ts⟩) = 3 from rfl]
   simp only [opWE, has, List.map_cons, List.map_nil]
   rw [← oV_eq, ← oV_eq]
   exact h1
  ·exact hg
 ·exact hg
theorem cOp_ok (op : Op) : (cOp C op).ok C op := by
 unfold cOp
 split
 ·exact mv_ok _ _ (.inl rfl)
 ·exact mv_ok _ _ (.inr rfl)
 ·exact pk_ok _ _ _
 ·exact binC_ok _ (gO_ok C rfl)
 ·split
  ·exact not_ok (gO_ok C rfl)
  ·exact gO_ok C rfl
 ·exact ex_ok _ _
 ·cases hs : single C.P _ with
  | true => exact ld_ok hs (gO_ok C rfl)
  | false => exact lda_ok (gO_ok C rfl)
 ·cases hz : one1 C.P _ with
  | true => exact st_ok hz (gO_ok C rfl)
  | false => exact gO_ok C rfl
 ·exact fd_ok (gO_ok C rfl)
 ·exact ix_ok (gO_ok C rfl)
 ·exact ixv_ok (gO_ok C rfl)
 ·exact cv_ok (gO_ok C rfl)
 ·exact fun F S hS g h t k r hr => nw_ok (n := fun _ _ => (zeroA C.P _).bind newVarA) (F := F) rfl rfl (fun _ _ => rfl) hr
 ·rename_i c
  split
  ·rename_i x hx; exact call_ok hx
  ·rename_i b hb
   refine blt_ok hb (gO_ok C ?_)
   rcases c with ⟨cl, _⟩
   obtain rfl : cl = _ := hb
   rfl
  ·rename_i h1 h2
   refine gO_ok C ?_
   rcases c with ⟨cl, _⟩
   cases cl with
   | value x => exact absurd rfl (h1 x)
   | _ => rfl
 ·exact pO_ok rfl rfl fun t => by simp only [opPE, vA, oV_eq]
 ·split
  ·cases hs : isStr C.P _ with
   | true =>
    refine pO_ok rfl ?_ fun t => ?_
    ·unfold isStr at hs
     split at hs
     ·rename_i hu; unfold clsOf; simp only [hu]
     ·cases hs
    ·rename_i lo hi _
     simp only [opPE, vA, oV_eq]
     cases lo <;> cases hi <;> simp only [vAs, vA, oV_eq, Option.map_some, Option.map_none]
   | false => exact gO_ok C rfl
  ·exact gO_ok C rfl
 ·exact pO_ok rfl rfl fun t => by simp only [opPE, vA, oV_eq]
 ·exact pO_ok rfl rfl fun t => by simp only [opPE, oL_eq]
 ·exact nc_ok (gO_ok C rfl)
 ·exact fun F S hS g h t k r hr => nw_ok (n := fun _ t => newVarA (vA _ t)) (F := F) rfl rfl (fun _ t => by simp only [opNE, vA, oV_eq]) hr
 ·refine gO_ok C ?_
  cases op <;> first | rfl | (exfalso; simp_all; done)
def FRel (N : Nat) (fr : Fr) (t : FT) : Prop := fr.length = N ∧ ∀ i, nth fr i = (look t i).toA
theorem FRel.ev {N : Nat} {fr : Fr} {t : FT} (h : FRel N fr t) : evF t = Go.Av.ev fr := by
 funext x
 cases x with
 | tmp i => exact (h.2 i).symm
 | _ => rfl
theorem look_u (t : FT) (v : FV) (d j : Nat) (hd : d < 256) : look ((slot d).u t v) j = if d = j then v else look t j := by
 unfold look
 by_cases hj : j < 256
 ·have e : Nat.blt j 256 = true := by rw [Nat.blt_eq]; exact hj
  simp only [e, cond_true]
  exact slot_su _ _ _ _ hd hj
 ·have e : Nat.blt j 256 = false := by
   cases hb : Nat.blt j 256 with
   | true => rw [Nat.blt_eq] at hb; omega
   | false => rfl
  simp only [e, cond_false]
  rw [if_neg (by omega)]
theorem pt_ok {N : Nat} {dst : Option Tmp} {t : FT} {v : FV} {k : FT → OV} {r : AVal × AHeap} {fr : Fr} (hR : FRel N fr t) (h : (ptB N dst).f t v k = some r) : ∃ t', FRel N (put fr dst v.toA) t' ∧ k t' = some r := by
 unfold ptB at h
 split at h
 ·rename_i d
  cases hb : Nat.blt d N && Nat.blt d 256 with
  | false => rw [hb] at h; cases h
  | true =>
   rw [hb] at h
   simp only [Bool.and_eq_true, Nat.blt_eq] at hb
   refine ⟨(slot d).u t v, ⟨by simp [put, hR.1], fun i => ?_⟩, (fcF_eq _ _).symm.trans h⟩
   show nth (fr.set d v.toA) i = _
   rw [nth_set, look_u _ _ _ _ hb.2, hR.1]
   by_cases hd : d = i
   ·rw [if_pos ⟨hd, hb.1⟩, if_pos hd]
   ·rw [if_neg (fun h => hd h.1), if_neg hd, hR.2]
 ·exact ⟨t, hR, h⟩
theorem wantedE_eq (ops : Array Oper) (fr : Fr) (o : Oper) : wantedE ops (ev fr) o = wantedA ops fr o := rfl
theorem touchesE_eq (P : Program) (h : AHeap) (fr : Fr) (i : Nat) (op : Op) (tch : List (Nat × Nat)) : touchesE P h (ev fr) i op tch = touches P h fr i op tch := by
 simp only [touchesE, touches, touchAE_eq]
 rfl
theorem reOk1E_eq (ops : Array Oper) (fr : Fr) (h : AHeap) (i : Nat) : reOk1E C ops fr.length (ev fr) h i = reOk1 C ops fr h i := by
 unfold reOk1E reOk1
 simp only [wantedE_eq, touchAE_eq, opRE_eq]
 rfl
theorem reOkE_eq (ops : Array Oper) (U : List Nat) (fr : Fr) (h : AHeap) : reOkE C ops U fr.length (ev fr) h = reOk C ops U fr h := by
 unfold reOkE reOk
 refine congrArg (U.all ·) (funext fun u => ?_)
 rw [reOk1E_eq]
theorem gd_ok {ops : Array Oper} {o : Oper} {gd : BG} (hg : gdB ops o = some gd) {t : FT} {fr : Fr} {N : Nat} (hR : FRel N fr t) {kt kf : OV} {r : AVal × AHeap} (h : gd.f t kt kf = some r) : (wantedA ops fr o = some true ∧ kt = some r) ∨ (wantedA ops fr o = some false ∧ kf = some r) := by
 unfold gdB at hg
 unfold wantedA
 split at hg
 ·cases hg
 ·rename_i j want hgd
  simp only [hgd]
  split at hg
  ·rename_i hd
   injection hg with hg
   subst hg
   simp only [hd]
   exact .inr ⟨trivial, h⟩
  ·rename_i d hd
   injection hg with hg
   subst hg
   simp only [hd]
   have h : gdK want ((oV (.tmp d)).f t) kt kf = some r := h
   rw [oV_tmp] at h
   rw [hR.2 d]
   revert h
   cases look t d with
   | i k n => intro h; exact .inr ⟨rfl, h⟩
   | p a b => intro h; exact .inr ⟨rfl, h⟩
   | b b =>
    intro h
    rcases ite2_ok (x := kt) (y := kf) h with ⟨h1, h2⟩ | ⟨h1, h2⟩
    ·exact .inl ⟨congrArg some h1, h2⟩
    ·exact .inr ⟨congrArg some h1, h2⟩
   | o a =>
    intro h
    cases a <;> first | exact .inr ⟨rfl, h⟩ | cases h
theorem gd_none {ops : Array Oper} {o : Oper} (hg : gdB ops o = none) (fr : Fr) : wantedA ops fr o = some true := by
 unfold gdB at hg
 unfold wantedA
 split at hg
 ·rename_i h; rw [h]
 ·split at hg <;> cases hg
def ans (e : AExit) (t : FT) (h : AHeap) (kn : KN) (kx : Nat → KN) (kr : KN) : OV :=
 match e with
 | .normal => kn t h
 | .exit i => kx i t h
 | .ret => kr t h
structure SelfRel (F : SelfF) (S : Self) : Prop where
 call : CallRel F.call S.call
 loop : ∀ N f c g t h kn kx kr r fr, FRel N fr t → F.loop N f c g t h kn kx kr = some r → ∃ e fr' t' h', S.loop g f c fr h = some (e, fr', h') ∧ FRel N fr' t' ∧ ans e t' h' kn kx kr = some r
theorem op_step {F : SelfF} {S : Self} (hS : SelfRel F S) {op : Op} {b : BO} (hb : b.ok C op) {g : Gd} {h : AHeap} {t : FT} {fr : Fr} {N : Nat} (hR : FRel N fr t) {k : FV → AHeap → OV} {r : AVal × AHeap} (hr : b.f F.call g h t k = some r) :
  ∃ x h', stepA C S g h fr op = some (FV.toA x, h') ∧ k x h' = some r := by
 obtain ⟨x, h', h1, h2⟩ := hb F.call S.call hS.call g h t k r hr
 rw [hR.ev] at h1
 exact ⟨x, h', stepE_A h1, h2⟩
theorem regB_ok {F : SelfF} {S : Self} (hS : SelfRel F S) {N : Nat} {ops : Array Oper} {g : Gd} : ∀ (l : List Oper) {t : FT} {h : AHeap} {kn : KN} {r : AVal × AHeap} {fr : Fr}, FRel N fr t → (regB C N ops l).f F g t h kn = some r →
  ∃ fr' t' h', runOps C S g ops l fr h = some (fr', h') ∧ FRel N fr' t' ∧ kn t' h' = some r
 | [], t, h, kn, r, fr, hR, hr => ⟨fr, t, h, rfl, hR, hr⟩
 | o :: rest, t, h, kn, r, fr, hR, hr => by
  have yes : ∀ {t : FT} {h : AHeap}, FRel N fr t → wantedA ops fr o = some true → (opRg (cOp C o.op) (ptB N o.dst) (regB C N ops rest)).f F g t h kn = some r → ∃ fr' t' h', runOps C S g ops (o :: rest) fr h = some (fr', h') ∧ FRel N fr' t' ∧ kn t' h' = some r := fun {t h} hR hw hr => by
   obtain ⟨x, h1, h2, h3⟩ := op_step hS (cOp_ok o.op) hR hr
   obtain ⟨t2, h4, h5⟩ := pt_ok hR h3
   obtain ⟨fr', t', h', h6, h7, h8⟩ := regB_ok hS rest h4 h5
   exact ⟨fr', t', h', by rw [runOps, hw]; simp only [h2]; exact h6, h7, h8⟩
  have hr : (opRg1 (gdB ops o) (cOp C o.op) (ptB N o.dst) (regB C N ops rest)).f F g t h kn = some r := hr
  unfold opRg1 at hr
  split at hr
  ·rename_i hg; exact yes hR (gd_none hg fr) hr
  ·rename_i gd hg
   rcases gd_ok hg hR hr with ⟨hw, h1⟩ | ⟨hw, h1⟩
   ·exact yes hR hw h1
   ·obtain ⟨t2, h4, h5⟩ := pt_ok hR h1
    obtain ⟨fr', t', h', h6, h7, h8⟩ := regB_ok hS rest h4 h5
    exact ⟨fr', t', h', by rw [runOps, hw]; exact h6, h7, h8⟩
theorem planB_ok {F : SelfF} {S : Self} (hS : SelfRel F S) {N : Nat} {ops : Array Oper} {g : Gd} : ∀ (l : List (Nat × List Nat)) {tch : List (Nat × Nat)} {t : FT} {h : AHeap} {kn : KN} {r : AVal × AHeap} {fr : Fr}, FRel N fr t → (planB C N ops l).f tch F g t h kn = some r →
  ∃ fr' t' h', runPlan C S g ops l tch fr h = some (fr', h') ∧ FRel N fr' t' ∧ kn t' h' = some r
 | [], tch, t, h, kn, r, fr, hR, hr => ⟨fr, t, h, rfl, hR, hr⟩
 | (i, U) :: rest, tch, t, h, kn, r, fr, hR, hr => by
  unfold planB at hr
  split at hr
  ·cases hr
  ·rename_i o ho
   have yes : wantedA ops fr o = some true → (opPlU C N ops i U o.op (cOp C o.op) (ptB N o.dst) (planB C N ops rest)).f tch F g t h kn = some r → ∃ fr' t' h', runPlan C S g ops ((i, U) :: rest) tch fr h = some (fr', h') ∧ FRel N fr' t' ∧ kn t' h' = some r := fun hw hr => by
    unfold opPlU at hr
    split at hr
    ·obtain ⟨x, h1, h2, h3⟩ := op_step hS (cOp_ok o.op) hR hr
     obtain ⟨t2, h4, h5⟩ := pt_ok hR h3
     rw [hR.ev, touchesE_eq] at h5
     obtain ⟨fr', t', h', h6, h7, h8⟩ := planB_ok hS rest h4 h5
     refine ⟨fr', t', h', ?_, h7, h8⟩
     rw [runPlan, ho]
     simp only [hw, protOf_nil, List.nil_append]
     rw [h2]
     simp only [show reOk C ops [] (put fr o.dst x.toA) h1 = true from rfl, cond_true]
     exact h6
    ·rename_i u U
     obtain ⟨x, h1, h2, h3⟩ := op_step hS (cOp_ok o.op) hR hr
     obtain ⟨t2, h4, h5⟩ := pt_ok hR h3
     rcases ite2_ok h5 with ⟨hre, h5⟩ | ⟨-, h5⟩
     ·rw [hR.ev, touchesE_eq] at h5
      rw [h4.ev, ← h4.1, reOkE_eq] at hre
      obtain ⟨fr', t', h', h6, h7, h8⟩ := planB_ok hS rest h4 h5
      refine ⟨fr', t', h', ?_, h7, h8⟩
      rw [runPlan, ho]
      simp only [hw]
      rw [h2]
      simp only [hre, cond_true]
      exact h6
     ·cases h5
   unfold opP1 at hr
   split at hr
   ·rename_i hg; exact yes (gd_none hg fr) hr
   ·rename_i gd hg
    rcases gd_ok hg hR hr with ⟨hw, h1⟩ | ⟨hw, h1⟩
    ·exact yes hw h1
    ·obtain ⟨t2, h4, h5⟩ := pt_ok hR h1
     obtain ⟨fr', t', h', h6, h7, h8⟩ := planB_ok hS rest h4 h5
     exact ⟨fr', t', h', by rw [runPlan, ho]; simp only [hw]; exact h6, h7, h8⟩
theorem exB_ok {F : SelfF} {S : Self} (hS : SelfRel F S) {N : Nat} {f : FuncId} {g : Gd} : ∀ (c : Code) {t : FT} {h : AHeap} {kn : KN} {kx : Nat → KN} {kr : KN} {r : AVal × AHeap} {fr : Fr}, FRel N fr t → (exB C N f c).f F g t h kn kx kr = some r →
  ∃ e fr' t' h', execA C S f g c fr h = some (e, fr', h') ∧ FRel N fr' t' ∧ ans e t' h' kn kx kr = some r := by
 intro c
 induction c with
 | skip => intro t h kn kx kr r fr hR hr; exact ⟨.normal, fr, t, h, rfl, hR, hr⟩
 | label l => intro t h kn kx kr r fr hR hr; exact ⟨.normal, fr, t, h, rfl, hR, hr⟩
 | exit id => intro t h kn kx kr r fr hR hr; exact ⟨.exit id, fr, t, h, rfl, hR, hr⟩
 | ret => intro t h kn kx kr r fr hR hr; exact ⟨.ret, fr, t, h, rfl, hR, hr⟩
 | region id ops draw =>
  intro t h kn kx kr r fr hR hr
  unfold exB at hr
  cases draw with
  | true =>
   obtain ⟨fr', t', h', h1, h2, h3⟩ := planB_ok hS _ hR hr
   exact ⟨.normal, fr', t', h', by simp only [execA, cond_true, h1], h2, h3⟩
  | false =>
   obtain ⟨fr', t', h', h1, h2, h3⟩ := regB_ok hS _ hR hr
   exact ⟨.normal, fr', t', h', by simp only [execA, cond_false, h1], h2, h3⟩
 | seq a b iha ihb =>
  intro t h kn kx kr r fr hR hr
  obtain ⟨e, fr1, t1, h1, h2, h3, h4⟩ := iha hR (show (exB C N f a).f F g t h (fun t h => (exB C N f b).f F g t h kn kx kr) kx kr = some r from hr)
  cases e with
  | normal =>
   obtain ⟨e, fr2, t2, h5, h6, h7, h8⟩ := ihb h3 h4
   exact ⟨e, fr2, t2, h5, by simp only [execA, h2, h6], h7, h8⟩
  | exit i => exact ⟨.exit i, fr1, t1, h1, by simp only [execA, h2], h3, h4⟩
  | ret => exact ⟨.ret, fr1, t1, h1, by simp only [execA, h2], h3, h4⟩
 | cond x a b iha ihb =>
  intro t h kn kx kr r fr hR hr
  rcases ifB_ok (show ifB ((oV x).f t) (fun v => ite2 v ((exB C N f a).f F g t h kn kx kr) ((exB C N f b).f F g t h kn kx kr)) none = some r from hr) with ⟨v, hv, h1⟩ | h1
  ·have hc : ev fr x = .bool v := by rw [← hR.ev, ← oV_eq, hv]; rfl
   rcases ite2_ok h1 with ⟨rfl, h2⟩ | ⟨rfl, h2⟩
   ·obtain ⟨e, fr1, t1, h1, h3, h4, h5⟩ := iha hR h2
    exact ⟨e, fr1, t1, h1, by simp only [execA, hc, h3], h4, h5⟩
   ·obtain ⟨e, fr1, t1, h1, h3, h4, h5⟩ := ihb hR h2
    exact ⟨e, fr1, t1, h1, by simp only [execA, hc, h3], h4, h5⟩
  ·cases h1
 | block id c ih =>
  intro t h kn kx kr r fr hR hr
  obtain ⟨e, fr1, t1, h1, h2, h3, h4⟩ := ih hR (show (exB C N f c).f F g t h kn (fun i t h => ite2 (Nat.beq i id) (kn t h) (kx i t h)) kr = some r from hr)
  cases e with
  | normal => exact ⟨.normal, fr1, t1, h1, by simp only [execA, h2], h3, h4⟩
  | ret => exact ⟨.ret, fr1, t1, h1, by simp only [execA, h2], h3, h4⟩
  | exit i =>
   rcases ite2_ok (show ite2 (Nat.beq i id) (kn t1 h1) (kx i t1 h1) = some r from h4) with ⟨hb, h5⟩ | ⟨hb, h5⟩
   ·exact ⟨.normal, fr1, t1, h1, by simp only [execA, h2, hb, cond_true], h3, h5⟩
   ·exact ⟨.exit i, fr1, t1, h1, by simp only [execA, h2, hb, cond_false], h3, h5⟩
 | loop c ih =>
  intro t h kn kx kr r fr hR hr
  obtain ⟨e, fr1, t1, h1, h2, h3, h4⟩ := ih hR (show (exB C N f c).f F g t h (fun t h => F.loop N f c g t h kn kx kr) kx kr = some r from hr)
  cases e with
  | normal =>
   obtain ⟨e, fr2, t2, h5, h6, h7, h8⟩ := hS.loop N f c g t1 h1 kn kx kr r fr1 h3 h4
   exact ⟨e, fr2, t2, h5, by simp only [execA, h2, h6], h7, h8⟩
  | exit i => exact ⟨.exit i, fr1, t1, h1, by simp only [execA, h2], h3, h4⟩
  | ret => exact ⟨.ret, fr1, t1, h1, by simp only [execA, h2], h3, h4⟩
 | scope c ih =>
  intro t h kn kx kr r fr hR hr
  obtain ⟨e, fr1, t1, h1, h2, h3, h4⟩ := ih hR (show (exB C N f c).f F g t h kn kx kr = some r from hr)
  exact ⟨e, fr1, t1, h1, by simp only [execA, h2], h3, h4⟩
 | _ => intro t h kn kx kr r fr hR hr; cases hr
theorem exS_ok {F : SelfF} {S : Self} (hS : SelfRel F S) {N : Nat} {f : FuncId} {g : Gd} : ∀ (c : Code) {t : FT} {h : AHeap} {kn : KN} {kx : Nat → KN} {kr : KN} {r : AVal × AHeap} {fr : Fr}, FRel N fr t → (exS C N f c).f F g t h kn kx kr = some r →
  ∃ e fr' t' h', execS C S f g c fr h = some (e, fr', h') ∧ FRel N fr' t' ∧ ans e t' h' kn kx kr = some r := by
 have base : ∀ (c : Code), (∀ fr h, execS C S f g c fr h = bif isSel c then runSel C S g c fr h else execA C S f g c fr h) → exS C N f c = (bif isSel c then selB C N c else exB C N f c) → ∀ {t : FT} {h : AHeap} {kn : KN} {kx : Nat → KN} {kr : KN} {r : AVal × AHeap} {fr : Fr}, FRel N fr t → (exS C N f c).f F g t h kn kx kr = some r →
  ∃ e fr' t' h', execS C S f g c fr h = some (e, fr', h') ∧ FRel N fr' t' ∧ ans e t' h' kn kx kr = some r := by
  intro c h1 h2 t h kn kx kr r fr hR hr
  rw [h2] at hr
  rw [h1]
  cases hs : isSel c with
  | false =>
   rw [hs] at hr
   exact exB_ok hS c hR hr
  | true =>
   rw [hs] at hr
   simp only [cond_true] at hr ⊢
   unfold selB at hr
   split at hr
   ·rename_i id ops draw
    split at hr
    ·rename_i o rest hops
     have hr : (opRg (selO C o.op) (ptB N o.dst) (regB C N ops rest)).f F g t h kn = some r := hr
     obtain ⟨x, h3, h4, h5⟩ := outK_ok (q := selAE C.P g h (evF t) o.op) hr
     obtain ⟨t2, h6, h7⟩ := pt_ok hR h5
     obtain ⟨fr', t', h', h8, h9, h10⟩ := regB_ok hS rest h6 h7
     have e : selAE C.P g h (ev fr) o.op = selA C.P g h fr o.op := by cases o.op <;> rfl
     rw [hR.ev, e] at h4
     exact ⟨.normal, fr', t', h', by simp only [runSel, hops, h4, h8], h9, h10⟩
    ·cases hr
   ·cases hr
 intro c
 induction c with
 | seq a b iha ihb =>
  intro t h kn kx kr r fr hR hr
  obtain ⟨e, fr1, t1, h1, h2, h3, h4⟩ := iha hR (show (exS C N f a).f F g t h (fun t h => (exS C N f b).f F g t h kn kx kr) kx kr = some r from hr)
  cases e with
  | normal =>
   obtain ⟨e, fr2, t2, h5, h6, h7, h8⟩ := ihb h3 h4
   exact ⟨e, fr2, t2, h5, by simp only [execS, h2, h6], h7, h8⟩
  | exit i => exact ⟨.exit i, fr1, t1, h1, by simp only [execS, h2], h3, h4⟩
  | ret => exact ⟨.ret, fr1, t1, h1, by simp only [execS, h2], h3, h4⟩
 | _ => intro t h kn kx kr r fr hR hr; exact base _ (fun _ _ => rfl) rfl hR hr
theorem res_ok {N : Nat} {fn : Func} {fr : Fr} {t : FT} (hR : FRel N fr t) {h : AHeap} {k : FV → AHeap → OV} {r : AVal × AHeap} (hr : (resB C.P fn.results.toList).f t h k = some r) : ∃ x, resultsA C.P fn fr h = some (FV.toA x) ∧ k x h = some r := by
 have e1 : ∀ rv, res1 C.P t h rv = result1 C.P fr h rv := fun rv => by
  cases rv with
  | tmp i => exact congrArg some (hR.2 i).symm
  | cell a ty => simp only [res1, result1, hR.2 a]; rfl
 unfold resB at hr
 split at hr
 ·rename_i i hi
  have hr : fcV ((oV (.tmp i)).f t) (fun v => k v h) = some r := hr
  rw [fcV_eq, oV_tmp] at hr
  refine ⟨_, ?_, hr⟩
  unfold resultsA
  rw [hi]
  exact congrArg some (hR.2 i)
 ·obtain ⟨x, h1, h2⟩ := outP_ok hr
  refine ⟨x, ?_, h2⟩
  rw [← h1]
  unfold resultsA resG
  rw [show res1 C.P t h = result1 C.P fr h from funext e1]
  rfl
theorem arg_ok {k : FT → OV} {r : AVal × AHeap} : ∀ {as : List FV} {i : Nat} {t : FT}, i + as.length ≤ 256 → argK as i t k = some r → ∃ t', k t' = some r ∧ ∀ j, look t' j = if i ≤ j then (as[j - i]?).getD (look t j) else look t j
 | [], i, t, _, h => ⟨t, h, fun j => by simp⟩
 | v :: vs, i, t, hl, h => by
  have h : fcV v (fun v => fcF ((slot i).u t v) fun t => fcN (i + 1) fun i => argK vs i t k) = some r := h
  rw [fcV_eq, fcF_eq, fcN_eq] at h
  simp only [List.length_cons] at hl
  obtain ⟨t', h1, h2⟩ := arg_ok (by omega) h
  refine ⟨t', h1, fun j => ?_⟩
  rw [h2 j, look_u _ _ _ _ (by omega)]
  by_cases h3 : i + 1 ≤ j
  ·rw [if_pos h3, if_neg (show ¬ i = j by omega), if_pos (show i ≤ j by omega)]
   obtain ⟨m, rfl⟩ : ∃ m, j = i + 1 + m := ⟨j - (i + 1), by omega⟩
   rw [show i + 1 + m - i = m + 1 by omega, show i + 1 + m - (i + 1) = m by omega, List.getElem?_cons_succ]
  ·rw [if_neg h3]
   by_cases h4 : i = j
   ·subst h4
    rw [if_pos rfl, if_pos (Nat.le_refl _), Nat.sub_self]
    rfl
   ·rw [if_neg h4, if_neg (by omega)]
theorem look_new (j : Nat) : look FT.new j = .o (.tuple []) := by
 unfold look
 cases Nat.blt j 256
 ·rfl
 ·exact slot_new j
theorem body_ok {F : SelfF} {S : Self} (hS : SelfRel F S) {sel : Bool} {f : FuncId} {g : Gd} {h : AHeap} {as : List FV} {k : FV → AHeap → OV} {r : AVal × AHeap} (hr : (bodyB C sel f).f F g h as k = some r) :
  ∃ x h', (bif sel then bodyS C S g h f (as.map FV.toA) else bodyA C S g h f (as.map FV.toA)) = some (FV.toA x, h') ∧ k x h' = some r := by
 unfold bodyB at hr
 split at hr
 ·cases hr
 ·rename_i fn hfn
  split at hr
  ·cases hr
  ·rename_i c hc
   cases hN : Nat.blt 256 fn.ntmps with
   | true => rw [hN] at hr; cases hr
   | false =>
    rw [hN] at hr
    have hN : fn.ntmps ≤ 256 := by
     have : ¬ (256 < fn.ntmps) := fun h => by rw [← Nat.blt_eq] at h; rw [h] at hN; cases hN
     omega
    have hr : ite2 (Nat.blt fn.ntmps as.length) none (argK as 0 FT.new fun t => (bif sel then exS C fn.ntmps f c else exB C fn.ntmps f c).f F g t h (fun t h => (resB C.P fn.results.toList).f t h k) (fun _ _ _ => none) (fun t h => (resB C.P fn.results.toList).f t h k)) = some r := hr
    rcases ite2_ok hr with ⟨-, h1⟩ | ⟨hb, h1⟩
    ·cases h1
    ·have hl : as.length ≤ fn.ntmps := by
      have : ¬ (fn.ntmps < as.length) := fun h => by rw [← Nat.blt_eq] at h; rw [h] at hb; cases hb
      omega
     obtain ⟨t, h2, h3⟩ := arg_ok (by omega) h1
     have hR : FRel fn.ntmps (as.map FV.toA ++ List.replicate (fn.ntmps - (as.map FV.toA).length) (.tuple [])) t := by
      refine ⟨by simp; omega, fun j => ?_⟩
      rw [h3 j, if_pos (Nat.zero_le _), Nat.sub_zero, look_new, nth_eq, List.getD_eq_getElem?_getD, List.getElem?_append, List.length_map]
      by_cases hj : j < as.length
      ·rw [if_pos hj, List.getElem?_map, List.getElem?_eq_getElem hj]; rfl
      ·rw [if_neg hj, List.getElem?_eq_none (by omega : as.length ≤ j), List.getElem?_replicate]
       split <;> rfl
     cases sel with
     | false =>
      obtain ⟨e, fr', t', h', h4, h5, h6⟩ := exB_ok hS c hR h2
      cases e with
      | exit i => cases h6
      | normal =>
       obtain ⟨x, h7, h8⟩ := res_ok h5 h6
       refine ⟨x, h', ?_, h8⟩
       simp only [cond_false, bodyA, hfn, hc, h4, h7, Option.map_some]
      | ret =>
       obtain ⟨x, h7, h8⟩ := res_ok h5 h6
       refine ⟨x, h', ?_, h8⟩
       simp only [cond_false, bodyA, hfn, hc, h4, h7, Option.map_some]
     | true =>
      obtain ⟨e, fr', t', h', h4, h5, h6⟩ := exS_ok hS c hR h2
      cases e with
      | exit i => cases h6
      | normal =>
       obtain ⟨x, h7, h8⟩ := res_ok h5 h6
       refine ⟨x, h', ?_, h8⟩
       simp only [cond_true, bodyS, hfn, hc, h4, h7, Option.map_some]
      | ret =>
       obtain ⟨x, h7, h8⟩ := res_ok h5 h6
       refine ⟨x, h', ?_, h8⟩
       simp only [cond_true, bodyS, hfn, hc, h4, h7, Option.map_some]
theorem canV_eq (v : FV) : (canV v).toA = can2 v.toA := by cases v <;> rfl
theorem canF_eq : ∀ (bs : List Bool) (vs : List FV), (canF bs vs).map FV.toA = canL bs (vs.map FV.toA)
 | true :: bs, v :: vs => by
  show (canV v).toA :: (canF bs vs).map FV.toA = _
  rw [canV_eq, canF_eq bs vs]; rfl
 | false :: bs, v :: vs => by
  show v.toA :: (canF bs vs).map FV.toA = _
  rw [canF_eq bs vs]; rfl
 | [], vs => by cases vs <;> rfl
 | true :: _, [] => rfl
 | false :: _, [] => rfl
theorem still_f (l : List Bool) (b : BF) (S : SelfF) (g : Gd) (h : AHeap) (as : List FV) (k : FV → AHeap → OV) : (stillB l b).f S g h as k = b.f S g h (canF l as) k := by
 unfold stillB
 split
 ·cases as <;> rfl
 ·rfl
theorem fn_ok {F : SelfF} {S : Self} (hS : SelfRel F S) : CallRel (fun g h f as k => (fnB C f).f F g h as k) (callA C S) := by
 intro g h f as k r hr
 have plain : ∀ {sel : Bool} {k : FV → AHeap → OV}, (stillB (C.still f) (bodyB C sel f)).f F g h as k = some r → ∃ x h', (bif sel then bodyS C S g h f (canL (C.still f) (as.map FV.toA)) else bodyA C S g h f (canL (C.still f) (as.map FV.toA))) = some (FV.toA x, h') ∧ k x h' = some r := fun {sel k} hr => by
  rw [still_f] at hr
  obtain ⟨x, h', h1, h2⟩ := body_ok hS hr
  rw [canF_eq] at h1
  exact ⟨x, h', h1, h2⟩
 dsimp only at hr
 unfold fnB at hr
 unfold callA
 split at hr
 ·rename_i hk
  obtain ⟨x, h', h1, h2⟩ := plain (sel := false) hr
  exact ⟨x, h', by simp only [hk]; exact h1, h2⟩
 ·rename_i hk
  obtain ⟨x, h', h1, h2⟩ := body_ok (sel := false) hS hr
  rcases ite2_ok h2 with ⟨hf, h3⟩ | ⟨-, h3⟩
  ·have h1 : bodyA C S ⟨h.size, []⟩ h f (as.map FV.toA) = some (FV.toA x, h') := h1
   exact ⟨x, h, by simp only [hk, h1, hf, cond_true], h3⟩
  ·cases h3
 ·rename_i hk
  obtain ⟨x, h', h1, h2⟩ := outK_ok hr
  exact ⟨x, h', by simp only [hk, h1], h2⟩
 ·rename_i hk
  rcases ite2_ok hr with ⟨ha, hr⟩ | ⟨-, hr⟩
  ·obtain ⟨x, h', h1, h2⟩ := body_ok (sel := false) hS hr
   rcases ite2_ok h2 with ⟨hf, h3⟩ | ⟨-, h3⟩
   ·have h1 : bodyA C S ⟨0, []⟩ ⟨0, .leaf⟩ f (as.map FV.toA) = some (FV.toA x, h') := h1
    exact ⟨x, h, by simp only [hk, ha, h1, hf, cond_true], h3⟩
   ·cases h3
  ·cases hr
 ·rename_i hk
  obtain ⟨x, h', h1, h2⟩ := plain (sel := false) hr
  obtain ⟨y, h2', h3, h4⟩ := outK_ok h2
  have h1 : bodyA C S g h f (canL (C.still f) (as.map FV.toA)) = some (FV.toA x, h') := h1
  exact ⟨y, h2', by simp only [hk, h1, h3], h4⟩
 ·rename_i hk
  obtain ⟨x, h', h1, h2⟩ := plain (sel := true) hr
  exact ⟨x, h', by simp only [hk]; exact h1, h2⟩
 ·rename_i hk
  obtain ⟨x, h', h1, h2⟩ := plain (sel := false) hr
  obtain ⟨y, h2', h3, h4⟩ := outK_ok h2
  have h1 : bodyA C S g h f (canL (C.still f) (as.map FV.toA)) = some (FV.toA x, h') := h1
  exact ⟨y, h2', by simp only [hk, h1, h3], h4⟩
 ·cases hr
theorem selfF_ok : ∀ n, SelfRel (selfF C n) (selfN C n)
 | 0 => ⟨fun g h f as k r hr => (by cases hr), fun N f c g t h kn kx kr r fr _ hr => (by cases hr)⟩
 | n + 1 => ⟨fn_ok (selfF_ok n), fun N f c g t h kn kx kr r fr hR hr => exB_ok (selfF_ok n) (.loop c) hR hr⟩
theorem closedF {f : FuncId} {v : AVal} (n : Nat) (hr : (bodyB C false f).f (selfF C n) ⟨0, []⟩ ⟨0, .leaf⟩ [] (fun x _ => some (x.toA, ⟨0, .leaf⟩)) = some (v, ⟨0, .leaf⟩)) : ∃ h', Bodies C ⟨0, []⟩ ⟨0, .leaf⟩ f [] v h' := by
 obtain ⟨x, h', h1, h2⟩ := body_ok (selfF_ok n) hr
 have e : x.toA = v := congrArg Prod.fst (Option.some.inj h2)
 exact ⟨h', n, by rw [← e]; exact h1⟩
end
end
end Go.Av
