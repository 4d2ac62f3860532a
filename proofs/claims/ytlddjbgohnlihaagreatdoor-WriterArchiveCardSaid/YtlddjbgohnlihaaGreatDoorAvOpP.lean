/-
 A part.
-/
import Derived.Test.YtlddjbgohnlihaaGreatDoorAvEq
set_option linter.unusedSimpArgs false
namespace Go.Av
open Go.RowKit
section
variable {P:Program} {m:BD} (w:World)
theorem VR.B1{k:IntKind}{n:Int}{v:Value}(h:VR m (.int k n) v):v=.int k n:=by cases h;rfl
theorem VR.KT{b:Bool}{v:Value}(h:VR m (.bool b) v):v=.bool b:=by cases h;rfl
theorem Ka{op:BinOp}{t:TypeId}{k:IntKind}{a b:Int}{v:AB}(h:NA op k a b=some v):
  ∃v',(binOp op t (.int k a) (.int k b)).run P w=.ok v' w∧VR m v v':=by
 cases op<;>simp[NA]at h
 case quo=>obtain⟨G,rfl⟩:=h;exact⟨_,by simp[binOp,Op.intDiv,G],.int _ _⟩
 case rem=>obtain⟨G,rfl⟩:=h;exact⟨_,by simp[binOp,Op.intDiv,G],.int _ _⟩
 all_goals subst h
 case add=>exact⟨_,by simp[binOp,Op.intArith],.int _ _⟩
 case sub=>exact⟨_,by simp[binOp,Op.intArith],.int _ _⟩
 case mul=>exact⟨_,by simp[binOp,Op.intArith],.int _ _⟩
 case and=>exact⟨.int k (k.wrap (BitVec.ofInt k.bits a &&& BitVec.ofInt k.bits b).toNat),by simp[binOp,Op.intBits],by simpa using VR.int (m:=m) k _⟩
 case or=>exact⟨.int k (k.wrap (BitVec.ofInt k.bits a ||| BitVec.ofInt k.bits b).toNat),by simp[binOp,Op.intBits],by simpa using VR.int (m:=m) k _⟩
 case xor=>exact⟨.int k (k.wrap (BitVec.ofInt k.bits a ^^^ BitVec.ofInt k.bits b).toNat),by simp[binOp,Op.intBits],by simpa using VR.int (m:=m) k _⟩
 case andNot=>exact⟨.int k (k.wrap (BitVec.ofInt k.bits a &&& ~~~BitVec.ofInt k.bits b).toNat),by simp[binOp,Op.intBits],by simpa using VR.int (m:=m) k _⟩
 all_goals exact⟨_,by simp[binOp,Op.intCmp];rfl,by first|exact .bool _|simpa using VR.bool (m:=m) _⟩
theorem Na{op:BinOp}{t:TypeId}{k yk:IntKind}{a b:Int}{v:AB}(h:SE op k a b=some v):
  ∃v',(binOp op t (.int k a) (.int yk b)).run P w=.ok v' w∧VR m v v':=by
 unfold SE at h;split at h
 ·cases h
 ·rename_i G;cases op<;>simp at h
  case shl=>subst h;exact⟨_,by simp[binOp,Op.shift,G],.int _ _⟩
  case shr=>subst h;exact⟨_,by simp[binOp,Op.shift,G],.int _ _⟩
theorem Rk{op:BinOp}{t:TypeId}{a b:List UInt8}{v:AB}(h:SL op a b=some v):
  ∃v',(binOp op t (.string ⟨⟨a⟩⟩) (.string ⟨⟨b⟩⟩)).run P w=.ok v' w∧VR m v v':=by
 have ea:ByteArray.toList ⟨⟨a⟩⟩=a:=by rw[ByteArray.toList_eq]
 have eb:ByteArray.toList ⟨⟨b⟩⟩=b:=by rw[ByteArray.toList_eq]
 cases op<;>simp[SL]at h
 case add=>
  obtain⟨T,rfl⟩:=h;refine⟨.string (⟨⟨a⟩⟩++⟨⟨b⟩⟩),?_,?_⟩
  ·have:¬((9223372036854775807:Int)<((⟨⟨a⟩⟩:ByteArray).size:Int)+((⟨⟨b⟩⟩:ByteArray).size:Int)):=by
    simp[ByteArray.size];omega
   simp[binOp,Op.stringOp,this]
  ·have:=VR.str (m:=m) (⟨⟨a⟩⟩++⟨⟨b⟩⟩);simpa[ByteArray.append,ByteArray.data_append]using this
 all_goals subst h;exact⟨_,by simp[binOp,Op.stringOp,ea,eb];rfl,by first|exact .bool _|simpa using VR.bool (m:=m) _⟩
theorem E5{op:BinOp}{t:TypeId}{ox oy:Operand}{x y:Value}{v:Value}(Q:(eqGuard op t ox oy x y).run P w=.ok () w)(h:(binOp op t x y).run P w=.ok v w):
  (do eqGuard op t ox oy x y;binOp op t x y:Sem Value).run P w=.ok v w:=by
 rw[Sem.run_bind,Q];exact h
theorem Hs{op:BinOp}{t:TypeId}{ox oy:Operand}{x y:Value}(B:∀a,x≠.agg a)(hn:x≠.nilIface):(eqGuard op t ox oy x y).run P w=.ok () w:=by
 cases x<;>first|exact absurd rfl hn|exact absurd rfl (B _)|(cases op<;>simp[eqGuard])
theorem GM{op:BinOp}{t:TypeId}{x y:Value}{b:Bool}(hi:∀k n,x≠.int k n)(I:∀s,x≠.string s)(D:∀k n,x≠.float k n)(hc:∀k a b,x≠.complex k a b)
  (hop:op=.eql∨op=.neq) (h:(Op.equalIn 10000 t x y).run P w=.ok b w):(binOp op t x y).run P w=.ok (.bool (if op=.eql then b else !b)) w:=by
 rcases hop with rfl|rfl<;>cases x<;>
  first
   |exact absurd rfl (hi _ _)|exact absurd rfl (I _)|exact absurd rfl (D _ _)|exact absurd rfl (hc _ _ _)
   |simp[binOp,Op.equal,Op.maxDepth,h]
theorem Ue{op:BinOp}{t:TypeId}{ox oy:Operand}{x y:AB}{x' y':Value}{v:AB}(B:VR m x x')(J:VR m y y')(h:SG P op t x y=some v):
  ∃v',(do eqGuard op t ox oy x' y';binOp op t x' y':Sem Value).run P w=.ok v' w∧VR m v v':=by
 unfold SG at h;split at h
 ·-- int, int
  rename_i k a k' b;have:=B.B1;subst this;have:=J.B1;subst this;have Q:=Hs (P:=P) w (op:=op) (t:=t) (ox:=ox) (oy:=oy) (x:=.int k a) (y:=.int k' b) (fun a h=>by cases h) (fun h=>by cases h);split at h
  ·obtain⟨v',h1,h2⟩:=Na (P:=P) (m:=m) (t:=t) (yk:=k') w h;exact⟨v',E5 w Q h1,h2⟩
  ·obtain⟨v',h1,h2⟩:=Na (P:=P) (m:=m) (t:=t) (yk:=k') w h;exact⟨v',E5 w Q h1,h2⟩
  ·split at h
   ·rename_i hk;subst hk;obtain⟨v',h1,h2⟩:=Ka (P:=P) (m:=m) (t:=t) w h;exact⟨v',E5 w Q h1,h2⟩
   ·cases h
 ·rename_i a b;have:=B.EZ;subst this;have:=J.EZ;subst this;have Q:=Hs (P:=P) w (op:=op) (t:=t) (ox:=ox) (oy:=oy) (x:=.string ⟨⟨a⟩⟩) (y:=.string ⟨⟨b⟩⟩) (fun a h=>by cases h) (fun h=>by cases h);obtain⟨v',h1,h2⟩:=Rk (P:=P) (m:=m) (t:=t) w h;exact⟨v',E5 w Q h1,h2⟩
 ·rename_i xs ys;obtain⟨xs',rfl,vx⟩:=B.GS;obtain⟨ys',rfl,vy⟩:=J.GS;split at h
  ·cases h
  ·rename_i hgt;have Q:=run_eqGuard_agg (P:=P) w op t ox oy xs' ys' (by simpa using hgt);split at h
   ·cases he:HT P 10000 t (.agg xs) (.agg ys)with
    |none=>simp[he]at h
    |some b=>
     simp only[he,zj,zd]at h;subst h;exact⟨_,E5 w Q (GM w (by simp) (by simp) (by simp) (by simp) (.inl rfl) (Jo w _ _ _ _ _ _ _ B J he)),by simpa using VR.bool (m:=m) b⟩
   ·cases he:HT P 10000 t (.agg xs) (.agg ys)with
    |none=>simp[he]at h
    |some b=>
     simp only[he,zj,zd]at h;subst h;exact⟨_,E5 w Q (GM w (by simp) (by simp) (by simp) (by simp) (.inr rfl) (Jo w _ _ _ _ _ _ _ B J he)),by simpa using VR.bool (m:=m) (!b)⟩
   ·cases h
 ·split at h
  ·rename_i S;have hne:(∀k n,x'≠.int k n)∧(∀s,x'≠.string s)∧(∀k n,x'≠.float k n)∧(∀k a b,x'≠.complex k a b)∧(∀a,x'≠.agg a)∧x'≠.nilIface:=by
    cases B<;>simp[Yt]at S<;>simp
   obtain⟨a1,a2,a3,a4,a5,a6⟩:=hne;split at h
   ·cases he:HT P 10000 t x y with
    |none=>simp[he]at h
    |some b=>
     simp only[he,zj,zd]at h;subst h;exact⟨_,E5 w (Hs w a5 a6) (GM w a1 a2 a3 a4 (.inl rfl) (Jo w _ _ _ _ _ _ _ B J he)),by simpa using VR.bool (m:=m) b⟩
   ·cases he:HT P 10000 t x y with
    |none=>simp[he]at h
    |some b=>
     simp only[he,zj,zd]at h;subst h;exact⟨_,E5 w (Hs w a5 a6) (GM w a1 a2 a3 a4 (.inr rfl) (Jo w _ _ _ _ _ _ _ B J he)),by simpa using VR.bool (m:=m) (!b)⟩
   ·cases h
  ·cases h
theorem UW{op:BinOp}{t:TypeId}{ox oy:Operand}{x y:AB}{x' y':Value}{v:AB}(B:VR m x x')(J:VR m y y')(h:Rp P op t (bC ox||bC oy) x y=some v):
  ∃v',(do eqGuard op t ox oy x' y';binOp op t x' y':Sem Value).run P w=.ok v' w∧VR m v v':=by
 unfold Rp at h;split at h
 ·cases B;cases J;unfold cm at h;split at h
  ·rename_i ms hu;cases hc:(bC ox||bC oy)with
   |false=>rw[hc]at h;cases h
   | true=>
    rw[hc]at h;have Q:(eqGuard op t ox oy .nilIface .nilIface).run P w=.ok () w:=by
     cases ox<;>cases oy<;>simp[bC]at hc<;>cases op<;>simp[eqGuard]
    have hd:∀d,(Op.equalIn (d+1) t .nilIface .nilIface).run P w=.ok true w:=by
     intro d;simp[Op.equalIn,Al w hu]
    have he:(Op.equalIn 10000 t .nilIface .nilIface).run P w=.ok true w:=hd 9999;simp only[zW]at h;split at h
    ·injection h with h;subst h;exact⟨_,E5 w Q (GM w (by simp) (by simp) (by simp) (by simp) (.inl rfl) he),by simpa using VR.bool (m:=m) true⟩
    ·injection h with h;subst h;exact⟨_,E5 w Q (GM w (by simp) (by simp) (by simp) (by simp) (.inr rfl) he),by simpa using VR.bool (m:=m) false⟩
    ·cases h
  ·cases h
 ·exact Ue w B J h
theorem Wz{op:UnOp}{x:AB}{x':Value}{v:AB}(B:VR m x x')(h:eF op x=some v):∃v',(Op.unary op x').run P w=.ok v' w∧VR m v v':=by
 unfold eF at h;split at h
 ·have:=B.B1;subst this;obtain⟨v',h1,h2⟩:=Ka (P:=P) (m:=m) (t:=0) w h;exact⟨v',by simpa[Op.unary,binOp]using h1,h2⟩
 ·have:=B.B1;subst this;obtain⟨v',h1,h2⟩:=Ka (P:=P) (m:=m) (t:=0) w h;exact⟨v',by simpa[Op.unary,binOp]using h1,h2⟩
 ·have:=B.KT;subst this;injection h with h;subst h;exact⟨_,by simp[Op.unary],.bool _⟩
 ·cases h
theorem UM{src dst:TypeId}{x:AB}{x':Value}{v:AB}(B:VR m x x')(h:YH P src dst x=some v):∃v',(convert src dst x').run P w=.ok v' w∧VR m v v':=by
 unfold YH at h;split at h
 ·rename_i d k k' n I hd;have:=B.B1;subst this;injection h with h;subst h;exact⟨_,by simp[convert,Al w I,Al w hd,Conv.intToInt],.int _ _⟩
 ·rename_i d s I hd;have:=B.EZ;subst this;injection h with h;subst h;exact⟨.string ⟨⟨s⟩⟩,by simp[convert,Al w I,Al w hd],.str ⟨⟨s⟩⟩⟩
 ·rename_i d k n I hd;have:=B.B1;subst this;injection h with h;subst h;exact⟨.string (Utf8.encode n),by simp[convert,Al w I,Al w hd,Conv.intToString],.str _⟩
 ·cases h
def b9(m:BD):Option AB→Option Value→Prop
 |none,none=>True
 |some a,some v=>VR m a v
 |_,_=>False
theorem Hv{k:IntKind}{n:Int}{y:Nat}{c:BoundsCode}(h0:0≤n)(h1:n≤y):(Instr.sliceBound (.int k n) y c).run P w=.ok n.toNat w:=by
 simp[Instr.sliceBound,asIntOf,h0,h1]
theorem Fm{n c:Nat}{lo hi:Option AB}{lo' O:Option Value}{l u:Nat}(isS:Bool)(N:b9 m lo lo')(U:b9 m hi O)(hc:n≤c)(h:FA n lo hi=some (l,u)):
  (Instr.sliceBounds isS n c lo' O none).run P w=.ok (l,u,c) w∧l≤u∧u≤n:=by
 unfold FA at h;split at h
 ·rename_i k a;cases O with
  |none=>exact U.elim
  | some v=>
   have:v=.int k a:=VR.B1 U;subst this;split at h
   ·rename_i G;obtain⟨b0,b1⟩:=G;split at h
    ·rename_i k2 b;cases lo' with
     |none=>exact N.elim
     | some v=>
      have:v=.int k2 b:=VR.B1 N;subst this;split at h
      ·rename_i W;injection h with h;injection h with h1 h2;subst h1;subst h2;refine⟨?_,by omega,by omega⟩;simp[Instr.sliceBounds,Hv (P:=P) w b0 (show a≤(c:Int) by omega),Hv (P:=P) w W.1 (show b≤(a.toNat:Int) by omega)]
      ·cases h
    ·cases h
    ·cases lo' with
     |some v=>exact N.elim
     |none=>
      injection h with h;injection h with h1 h2;subst h1;subst h2;refine⟨?_,by omega,by omega⟩;simp[Instr.sliceBounds,Hv (P:=P) w b0 (show a≤(c:Int) by omega)]
   ·cases h
 ·cases h
 ·cases O with
  |some v=>exact U.elim
  | none=>
   split at h
   ·rename_i k2 b;cases lo' with
    |none=>exact N.elim
    | some v=>
     have:v=.int k2 b:=VR.B1 N;subst this;split at h
     ·rename_i W;injection h with h;injection h with h1 h2;subst h1;subst h2;refine⟨?_,by omega,by omega⟩;simp[Instr.sliceBounds,Hv (P:=P) w W.1 W.2]
     ·cases h
   ·cases h
   ·cases lo' with
    |some v=>exact N.elim
    |none=>
     injection h with h;injection h with h1 h2;subst h1;subst h2;exact⟨by simp[Instr.sliceBounds],by omega,by omega⟩
theorem MV(s:List UInt8)(l u:Nat):(⟨⟨s⟩⟩:ByteArray).extract l u=⟨⟨(s.drop l).take (u - l)⟩⟩:=by
 apply ByteArray.ext;rw[ByteArray.data_extract];apply Array.ext';simp[List.extract_eq_take_drop]
theorem SK{t:TypeId}{x:AB}{x':Value}{lo hi:Option AB}{lo' O:Option Value}{v:AB}(B:VR m x x')(N:b9 m lo lo')(U:b9 m hi O)(h:SD P t x lo hi=some v):
  ∃v',(Instr.sliceAt t x' lo' O none).run P w=.ok v' w∧VR m v v':=by
 unfold SD at h;split at h
 ·rename_i s hu;have:=B.EZ;subst this;cases G:FA s.length lo hi with
  |none=>simp[G]at h
  |some lu=>
   obtain⟨l,u⟩:=lu;simp only[G,zj,zd]at h;subst h;have hbs:=(Fm (P:=P) w (c:=s.length) false N U (zC _) G).1;refine⟨.string ⟨⟨(s.drop l).take (u - l)⟩⟩,?_,.str ⟨⟨(s.drop l).take (u - l)⟩⟩⟩;simp only[Instr.sliceAt,Instr.slice,Sem.run_bind,Al w hu,Result.andThen_ok];simp[show(⟨⟨s⟩⟩:ByteArray).size=s.length from rfl,hbs,MV]
 ·cases h
theorem OS{t:TypeId}{x:AB}{x':Value}{f:Nat}{v:AB}(B:VR m x x')(h:M9 P t x f=some v):
  ∃v',(Instr.fieldAt t x' f).run P w=.ok v' w∧VR m v v':=by
 unfold M9 at h;split at h
 ·rename_i fs id o hu;cases B with
  | ptr _ _ E hE=>
   split at h
   ·rename_i fd D;split at h
    ·cases h
    ·rename_i z F H;injection h with h;subst h;have K:z≠0:=F;refine⟨.pointer (some ⟨E.g,E.base+(o+fd.offset),none⟩),?_,.ptr _ _ E hE⟩;simp[Instr.fieldAt,Al w hu,D,Instr.sureAddr,fieldPlace,run_sizeOf w H,K,Addr.add_lit,yI]
    ·cases h
   ·cases h
 ·rename_i fs g o hu;cases B with
  | Jw _ _=>
   split at h
   ·rename_i fd D;split at h
    ·cases h
    ·rename_i z F H;injection h with h;subst h;have K:z≠0:=F;refine⟨.pointer (some ⟨g,o+fd.offset,none⟩),?_,.Jw _ _⟩;simp[Instr.fieldAt,Al w hu,D,Instr.sureAddr,fieldPlace,run_sizeOf w H,K,Addr.add_lit]
    ·cases h
   ·cases h
 ·rename_i fs cs hu;cases B with
  | A0 g o _ c V R=>
   split at h
   ·rename_i fd D;split at h
    ·cases h
    ·rename_i z F H;injection h with h;subst h;have K:z≠0:=F;refine⟨.pointer (some ⟨g,o+fd.offset,none⟩),?_,VR.L8 V R _⟩;simp[Instr.fieldAt,Al w hu,D,Instr.sureAddr,fieldPlace,run_sizeOf w H,K,Addr.add_lit]
    ·cases h
   ·cases h
 ·cases h
theorem SI{t:TypeId}{x:AB}{x':Value}{f:Nat}{v:AB}(B:VR m x x')(h:VJ P t x f=some v):
  ∃v',(Instr.field t x' f).run P w=.ok v' w∧VR m v v':=by
 unfold VJ at h;split at h
 ·rename_i fs cs hu;obtain⟨ds,rfl,vd⟩:=B.GS;split at h
  ·rename_i fd D;obtain⟨y,h1,h2⟩:=Hy (P:=P) w vd h;exact⟨y,by simp[Instr.field,Al w hu,D,asAgg,h1],h2⟩
  ·cases h
 ·cases h
theorem OB{t:TypeId}{x i:AB}{x' i':Value}{v:AB}(B:VR m x x')(hi:VR m i i')(h:I1 P t x i=some v):
  ∃v',(Instr.indexAt t x' i').run P w=.ok v' w∧VR m v v':=by
 unfold I1 at h;split at h
 ·rename_i n e id o k i hu;have:=hi.B1;subst this;cases B with
  | ptr _ _ E hE=>
   split at h
   ·rename_i G;cases F:CP P e with
    |none=>simp[F]at h
    |some z=>
     simp only[F,zj,zd]at h;subst h;refine⟨.pointer (some ⟨E.g,E.base+(o+i.toNat*z),none⟩),?_,.ptr _ _ E hE⟩;simp[Instr.indexAt,Al w hu,asIntOf,Instr.sureAddr,G,run_sizeOf w F,Addr.add_lit,yI]
   ·cases h
 ·rename_i e id o n k i hu;have:=hi.B1;subst this;cases B with
  | slice _ _ _ cap E a hE T hc=>
   split at h
   ·rename_i G;obtain⟨ha,_⟩:=hc (by omega);subst ha;cases F:CP P e with
    |none=>simp[F]at h
    |some z=>
     simp only[F,zj,zd]at h;subst h;refine⟨.pointer (some ⟨E.g,E.base+(o+i.toNat*z),none⟩),?_,.ptr _ _ E hE⟩;simp[Instr.indexAt,Al w hu,asIntOf,G,run_sizeOf w F,Addr.add_lit,yI]
   ·cases h
 ·rename_i n e g o k i hu;have:=hi.B1;subst this;cases B with
  | Jw _ _=>
   split at h
   ·rename_i G;cases F:CP P e with
    |none=>simp[F]at h
    |some z=>
     simp only[F,zj,zd]at h;subst h;refine⟨.pointer (some ⟨g,o+i.toNat*z,none⟩),?_,.Jw _ _⟩;simp[Instr.indexAt,Al w hu,asIntOf,Instr.sureAddr,G,run_sizeOf w F,Addr.add_lit]
   ·cases h
 ·rename_i n e cs k i hu;have:=hi.B1;subst this;cases B with
  | A0 g o _ c V R=>
   split at h
   ·rename_i G;cases F:CP P e with
    |none=>simp[F]at h
    |some z=>
     simp only[F,zj,zd]at h;subst h;refine⟨.pointer (some ⟨g,o+i.toNat*z,none⟩),?_,VR.L8 V R _⟩;simp[Instr.indexAt,Al w hu,asIntOf,Instr.sureAddr,G,run_sizeOf w F,Addr.add_lit]
   ·cases h
 ·rename_i e n cs k i hu;have:=hi.B1;subst this;split at h
  ·rename_i G;cases B with
   |KQ=>omega
   | HU _ cap g o _ c hc V R=>
    cases F:CP P e with
    |none=>simp[F]at h
    | some z=>
     simp only[F,za]at h;split at h
     ·injection h with h;subst h;refine⟨.pointer (some ⟨g,o+i.toNat*z,none⟩),?_,VR.Q1 (VR.L8 V R _) _⟩;simp[Instr.indexAt,Al w hu,asIntOf,G,run_sizeOf w F,Addr.add_lit]
     ·cases h
  ·cases h
 ·cases h
theorem Ri{t:TypeId}{x i:AB}{x' i':Value}{v:AB}(B:VR m x x')(hi:VR m i i')(h:Nv P t x i=some v):
  ∃v',(Instr.index t x' i').run P w=.ok v' w∧VR m v v':=by
 unfold Nv at h;split at h
 ·rename_i n e cs k i hu;have:=hi.B1;subst this;obtain⟨ds,rfl,vd⟩:=B.GS;split at h
  ·rename_i G;cases F:CP P e with
   |none=>simp[F]at h
   |some z=>
    simp only[F,za]at h;obtain⟨y,h1,h2⟩:=Hy (P:=P) w vd h;exact⟨y,by simp[Instr.index,Al w hu,asIntOf,G,run_sizeOf w F,h1],h2⟩
  ·cases h
 ·rename_i s k i hu;have:=hi.B1;subst this;have:=B.EZ;subst this;split at h
  ·rename_i G;cases I:s[i.toNat]? with
   |none=>simp[I]at h
   | some b=>
    simp only[I,zj,zd]at h;subst h;have hs':(⟨⟨s⟩⟩:ByteArray)[i.toNat]?=some b:=by
     obtain⟨hlt,e⟩:=List.getElem?_eq_some_iff.1 I;rw[getElem?_pos (⟨⟨s⟩⟩:ByteArray) i.toNat (by simpa[ByteArray.size]using hlt)];exact congrArg some e
    exact⟨.int .u8 b.toNat,by simp[Instr.index,Al w hu,asIntOf,G,hs'],.int _ _⟩
  ·cases h
 ·cases h
theorem Uc{ts:Array TypeId}{ty:TypeId}{x:AB}{x':Value}{v:AB}(B:VR m x x')(h:bW P ts x=some v):
  ∃v',(Builtin.len_ ts ty #[x']).run P w=.ok v' w∧VR m v v':=by
 unfold bW at h;split at h
 ·cases h
 ·rename_i t ht;split at h
  ·rename_i s hu;have:=B.EZ;subst this;injection h with h;subst h;exact⟨.int .i64 s.length,by simp[Builtin.len_,ht,Al w hu,goInt,show(⟨⟨s⟩⟩:ByteArray).size=s.length from rfl],.int _ _⟩
  ·rename_i n e y hu;injection h with h;subst h;exact⟨_,by simp[Builtin.len_,ht,Al w hu,goInt],.int _ _⟩
  ·rename_i e r n hu;injection h with h;subst h;cases B<;>exact⟨_,by simp[Builtin.len_,ht,Al w hu,goInt];try rfl,.int _ _⟩
  ·rename_i e n cs hu;injection h with h;subst h;cases B<;>exact⟨_,by simp[Builtin.len_,ht,Al w hu,goInt];try rfl,.int _ _⟩
  ·cases h
theorem J7(mx:Bool):∀(r:List AB) (r':List Value) (x:AB) (x':Value) (v:AB),VR m x x'→CM m r r'→MB mx x r=some v→
  ∃v',(r'.foldlM (if mx then Builtin.max2 else Builtin.min2) x').run P w=.ok v' w∧VR m v v'
 |[],r',x,x',v,B,M,h=>by
  have:r'=[]:=zy (by simpa using M.1.symm);subst this;simp[MB]at h;subst h;exact⟨x',by simp,B⟩
 |y::r,[],x,x',v,B,M,h=>by simp[CM]at M
 | y::r,y'::r',x,x',v,B,M,h=>by
  have J:VR m y y':=M.2 0 y y' rfl rfl;have hr':CM m r r':=⟨by simpa using M.1,fun i a b ha G=>M.2 (i+1) a b (by simpa using ha) (by simpa using G)⟩;unfold MB at h;split at h
  ·rename_i heq;cases heq
  ·rename_i k a k' b r2 heq;injection heq with e1 e2;subst e1;subst e2;have:=B.B1;subst this;have:=J.B1;subst this;split at h
   ·rename_i hk;subst hk;obtain⟨v',h1,h2⟩:=J7 mx r r' _ _ v (.int k _) hr' h;refine⟨v',?_,h2⟩;cases mx<;>simpa[Builtin.max2,Builtin.min2]using h1
   ·cases h
  ·cases h
theorem P9(off:Nat):∀(l:List Value) (k:Nat) (cs:Array Value),off+k+l.length≤cs.size→
  (l.zipIdx k).foldl (fun(cs:Array Value) (x:Value×Nat)=>cs.setIfInBounds (off+x.2) x.1) cs=⟨cs.toList.take (off+k)++(l++cs.toList.drop (off+k+l.length))⟩
 |[],k,cs,h=>by simp
 | v::l,k,cs,h=>by
  simp only[List.zipIdx_cons,yR];simp only[zt]at h;rw[P9 off l (k+1) _ (by simp;omega)];generalize hL:cs.toList=L;have hlen:L.length=cs.size:=by rw[←hL];simp
  have e:(cs.setIfInBounds (off+k) v).toList=L.take (off+k)++v::L.drop (off+k+1):=by
   rw[xv,hL,yH,zm (by omega)]
  have T:(L.take (off+k)).length=off+k:=by simp;omega
  rw[e,show off+(k+1)+l.length=(L.take (off+k)).length+(1+l.length) by omega,yi,
   show off+(k+1)=(L.take (off+k)).length+1 by omega,qk,zw,show 1+l.length=l.length+1 by omega,yZ,qm]
  simp only[qc,y7,y5,ye,zt];rw[show off+k+1+l.length=off+k+(l.length+1) by omega]
theorem Jm{place:Nat→Option (Nat×Nat)}:∀(parts:List (Nat×AB)) (parts':List (Nat×Value)) (cs:List AB) (ds:Array Value) (r:List AB),
  parts.length=parts'.length→(∀(j i i':Nat) (x:AB) (y:Value),parts[j]?=some (i,x)→parts'[j]?=some (i',y)→i=i'∧VR m x y)→CM m cs ds.toList→Ku place cs parts=some r→
  ∃ds',Instr.fill place ds parts'=some ds'∧CM m r ds'.toList
 |[],parts',cs,ds,r,T,_,hc,h=>by
  have:parts'=[]:=zy T.symm;subst this;simp[Ku]at h;subst h;exact⟨ds,rfl,hc⟩
 |(i,x)::parts,[],_,_,_,T,_,_,_=>by simp at T
 | (i,x)::parts,(i',y)::parts',cs,ds,r,T,hp,hc,h=>by
  obtain⟨rfl,hxy⟩:=hp 0 i i' x y rfl rfl;unfold Ku at h;split at h
  ·rename_i off size new hpl hnew;split at h
   ·rename_i G;have R:=hxy.cells hnew;have hsz:y.cells.size=size:=by rw[←G.1,R.1];simp
    have hds:cs.length=ds.size:=by rw[hc.1];simp
    obtain⟨ds',h1,h2⟩:=Jm parts parts' _ ⟨ds.toList.take off++(y.cells.toList++ds.toList.drop (off+y.cells.toList.length))⟩ r (by simpa using T)
     (fun j a b u v hu R=>hp (j+1) a b u v (by simpa using hu) (by simpa using R)) (hc.Ev R off) h
    refine⟨ds',?_,h2⟩;have hcond:(y.cells.size≠size||off+y.cells.size>ds.size)=false:=by simp[hsz];omega
    have D:=P9 off y.cells.toList 0 ds (by simp[hsz];omega);simp only[yU]at D;rw[←h1];simp only[Instr.fill,hpl];rw[zk (by simpa using hcond)];congr 1;rw[←D,←Array.foldl_toList,Array.toList_zipIdx]
   ·cases h
  ·cases h
theorem IF{t:TypeId}{v:AB}(h:JE P t=some v):∃i z,P.info? t=some i∧i.zero=some z∧VR m v z:=by
 unfold JE at h;cases hi:P.info? t with
 |none=>simp[hi]at h
 | some i=>
  simp only[hi]at h;cases F:i.zero with
  |none=>simp[F]at h
  |some z=>
   simp only[F,zj,zd]at h;subst h;exact⟨i,z,rfl,F,VR.ZL m z⟩
theorem SV{t:TypeId}{parts:List (Nat×AB)}{parts':List (Nat×Value)}{v:AB}(T:parts.length=parts'.length)
  (hp:∀(j i i':Nat) (x:AB) (y:Value),parts[j]?=some (i,x)→parts'[j]?=some (i',y)→i=i'∧VR m x y) (h:U9 P t parts=some v):
  ∃cells,P.built t parts'=some cells∧VR m v (.agg cells):=by
 unfold U9 at h;split at h
 ·rename_i n e z hu F;cases H:JE P t with
  |none=>simp[H]at F
  | some zv=>
   simp only[H,za]at F;obtain⟨i,zz,hi,Y,X⟩:=IF (m:=m) H;cases I:CP P e with
   |none=>simp[I]at h
   | some n'=>
    simp only[I,za]at h;cases D:Ku (fun i=>some (i*n',n')) z parts with
    |none=>simp[D]at h
    | some r=>
     simp only[D,zj,zd]at h;subst h;obtain⟨ds',h1,h2⟩:=Jm (m:=m) parts parts' z zz.cells r T hp (X.cells F) D;unfold CP at I;cases Z:P.info? e with
     |none=>simp[Z]at I
     |some ie=>
      simp[Z]at I;subst I;exact⟨ds',by simp[Program.built,hi,hu,Y,Z,h1],CM.agg h2⟩
 ·rename_i fs z hu F;cases H:JE P t with
  |none=>simp[H]at F
  | some zv=>
   simp only[H,za]at F;obtain⟨i,zz,hi,Y,X⟩:=IF (m:=m) H;cases I:SU P fs.toList with
   |none=>simp[I]at h
   | some ps=>
    simp only[I,za]at h;cases D:Ku (ps[·]?) z parts with
    |none=>simp[D]at h
    |some r=>
     simp only[D,zj,zd]at h;subst h;obtain⟨ds',h1,h2⟩:=Jm (m:=m) parts parts' z zz.cells r T hp (X.cells F) D;unfold SU at I;exact⟨ds',by simp[Program.built,hi,hu,Y,I,h1],CM.agg h2⟩
 ·cases h
theorem Vl{fr:Fr}{a:Act}(D:FR m fr a)(x:Option Operand):b9 m (x.map (ev fr)) (x.map a.eval):=by
 cases x with
 |none=>trivial
 |some x=>exact D.ev x
theorem Qo{fr:Fr}{a:Act}(D:FR m fr a){o:Oper}{v:AB}(h:It P fr o.op=some v):∃v',(execOp a.eval o).run P w=.ok (.value v') w∧VR m v v':=by
 obtain⟨dst,op,ty,pos,aft,gd⟩:=o;simp only at h;have lift:∀{s:Sem Value} {u:AB},(∃v',s.run P w=.ok v' w∧VR m u v')→∃v',(do pure (.value (←s)):Sem Next).run P w=.ok (.value v') w∧VR m u v':=by
  rintro s u ⟨v',h1,h2⟩;exact⟨v',by simp[h1],h2⟩
 cases op with
 |move x=>simp only[It,zd]at h;subst h;exact⟨_,rfl,D.ev x⟩
 |assign x=>simp only[It,zd]at h;subst h;exact⟨_,rfl,D.ev x⟩
 | pick c x y=>
  simp only[It]at h;split at h
  ·rename_i b G;have hc:=D.ev c;rw[G]at hc;have hc:=hc.KT;injection h with h;subst h;cases b
   ·exact⟨a.eval y,by simp[execOp,asBool,hc],D.ev y⟩
   ·exact⟨a.eval x,by simp[execOp,asBool,hc],D.ev x⟩
  ·cases h
 | build t parts=>
  simp only[It]at h
  obtain⟨cells,h1,h2⟩:=SV (m:=m) (parts':=(parts.map fun(i,x)=>(i,a.eval x)).toList) (by simp) (fun j i i' x y B J=>by
   simp only[List.getElem?_map,qO]at B J;cases hj:parts.toList[j]? with
   |none=>simp[hj]at B
   |some p=>
    simp only[hj,zj,zd,zg]at B J;obtain⟨rfl,rfl⟩:=B;obtain⟨rfl,rfl⟩:=J
    exact⟨rfl,D.ev p.2⟩) h
  exact lift ⟨_,run_build w t _ cells h1,h2⟩
 | nilCheck x=>
  simp only[It]at h;split at h
  ·rename_i r M;have B:=D.ev x;rw[M]at B;injection h with h;subst h;cases he:a.eval x<;>rw[he]at B<;>try (cases B;done)
   rename_i p;cases p with
   |none=>cases B
   |some p=>exact⟨.pointer (some p),by simp[execOp,he],B⟩
  ·rename_i g o M;have B:=D.ev x;rw[M]at B;injection h with h;subst h;cases he:a.eval x<;>rw[he]at B<;>try (cases B;done)
   rename_i p;cases p with
   |none=>cases B
   |some p=>exact⟨.pointer (some p),by simp[execOp,he],B⟩
  ·rename_i cs M;have B:=D.ev x;rw[M]at B;injection h with h;subst h;cases he:a.eval x<;>rw[he]at B<;>try (cases B;done)
   rename_i p;cases p with
   |none=>cases B
   |some p=>exact⟨.pointer (some p),by simp[execOp,he],B⟩
  ·rename_i f b c M;have B:=D.ev x;rw[M]at B;injection h with h;subst h;cases he:a.eval x<;>rw[he]at B<;>try (cases B;done)
   rename_i fn c d;have:fn=.func f:=by cases B;rfl
   subst this;exact⟨.func (.func f) c d,by simp[execOp,he],B⟩
  ·cases h
 |binOp op t x y yt=>simp only[It]at h;exact lift (UW w (D.ev x) (D.ev y) h)
 |unOp op t x=>simp only[It]at h;exact lift (Wz w (D.ev x) h)
 |convert s d x=>simp only[It]at h;exact lift (UM w (D.ev x) h)
 |makeFunc fn first cap=>
  simp only[It,zd]at h;subst h;refine lift ⟨.func fn (first.map a.eval) (cap.map a.eval),rfl,?_⟩;have h1:=D.cO first.toList;have h2:=D.cO cap.toList;exact .func _ _ _ _ _ (by simp) (fun i x y B J=>h1.2 i x y B (by simpa using J)) (by simp) (fun i x y B J=>h2.2 i x y B (by simpa using J))
 |slice t x lo hi mx=>
  cases mx with
  |some y=>simp[It]at h
  |none=>simp only[It]at h;exact lift (SK w (D.ev x) (Vl D lo) (Vl D hi) h)
 |fieldAddr s x f=>simp only[It]at h;exact lift (OS w (D.ev x) h)
 |field s x f=>simp only[It]at h;exact lift (SI w (D.ev x) h)
 |indexAddr t x i=>simp only[It]at h;exact lift (OB w (D.ev x) (D.ev i) h)
 |index t x i=>simp only[It]at h;exact lift (Ri w (D.ev x) (D.ev i) h)
 | extract x i=>
  simp only[It]at h;split at h
  ·rename_i vs M;have B:=D.ev x;rw[M]at B;obtain⟨c,hc,R⟩:=B.KO;obtain⟨y,J,hvy⟩:=R.at_ h;have hy':c[i]?=some y:=by simpa using J
   exact lift ⟨y,by simp[hc,Instr.extract,hy'],hvy⟩
  ·cases h
 | call c=>
  obtain⟨callee,as,ts⟩:=c;cases callee with
  |value f=>simp[It]at h
  |invoke r mth=>simp[It]at h
  | builtin b=>
   simp only[It]at h;have C:=D.cO as.toList;have hargs:(as.map a.eval).toList=as.toList.map a.eval:=by simp
   have res:∀(w:World),(resolve a.eval {callee:=.builtin b,args:=as,argTypes:=ts} ty).run P w=.ok {target:=.builtin b ts ty (as.map fun| .const _=>true|_=>false),args:=as.map a.eval} w:=fun w=>rfl;split at h
   ·rename_i x heq;obtain⟨x',hx',hvx⟩:∃x',as.map a.eval=#[x']∧VR m x x':=by
     rw[heq]at C;have hlen:(as.toList.map a.eval).length=1:=by rw[←C.1];rfl
     match S:as.toList.map a.eval,hlen with
     |[x'],_=>exact⟨x',Array.ext' (by simpa using S),C.2 0 x x' rfl (by rw[S];rfl)⟩
    obtain⟨v',h1,h2⟩:=Uc (P:=P) (m:=m) (ty:=ty) w hvx h;exact⟨v',by simp[execOp,res,invoke,builtin,hx',h1],h2⟩
   ·rename_i x r heq;rw[heq]at C
    match S:as.toList.map a.eval with
    |[]=>rw[S]at C;simp[CM]at C
    |x'::r'=>
     rw[S]at C;obtain⟨v',h1,h2⟩:=J7 (P:=P) w false r r' x x' v (C.2 0 x x' rfl rfl) ⟨by simpa using C.1,fun i u z hu F=>C.2 (i+1) u z (by simpa using hu) (by simpa using F)⟩ h;refine⟨v',?_,h2⟩;simp only[yu,if_false]at h1;simp[execOp,res,invoke,builtin,Builtin.min_,S,h1]
   ·rename_i x r heq;rw[heq]at C
    match S:as.toList.map a.eval with
    |[]=>rw[S]at C;simp[CM]at C
    |x'::r'=>
     rw[S]at C;obtain⟨v',h1,h2⟩:=J7 (P:=P) w true r r' x x' v (C.2 0 x x' rfl rfl) ⟨by simpa using C.1,fun i u z hu F=>C.2 (i+1) u z (by simpa using hu) (by simpa using F)⟩ h;refine⟨v',?_,h2⟩;simp only[if_true]at h1;simp[execOp,res,invoke,builtin,Builtin.max_,S,h1]
   ·cases h
 |_=>simp[It]at h
end
end Go.Av
