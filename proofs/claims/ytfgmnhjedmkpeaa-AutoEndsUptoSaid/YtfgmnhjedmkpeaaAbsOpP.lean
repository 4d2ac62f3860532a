/-
 A part.
-/
import Derived.Test.YtfgmnhjedmkpeaaAbsEq
set_option linter.unusedSimpArgs false
namespace Go.Abs
open Go.RowKit
section
variable {P:Program} {m:Aj} (w:World)
theorem VR.BS{k:IntKind}{n:Int}{v:Value}(h:VR m (.int k n) v):v=.int k n:=by cases h;rfl
theorem VR.E7{b:Bool}{v:Value}(h:VR m (.bool b) v):v=.bool b:=by cases h;rfl
theorem FQ{op:BinOp}{t:TypeId}{k:IntKind}{a b:Int}{v:AA}(h:GS op k a b=some v):
  ∃v',(binOp op t (.int k a) (.int k b)).run P w=.ok v' w/\VR m v v':=by
 cases op<;>simp[GS]at h
 case quo=>obtain⟨H,rfl⟩:=h;exact⟨_,by simp[binOp,Op.intDiv,H],.int _ _⟩
 case rem=>obtain⟨H,rfl⟩:=h;exact⟨_,by simp[binOp,Op.intDiv,H],.int _ _⟩
 all_goals subst h
 case add=>exact⟨_,by simp[binOp,Op.intArith],.int _ _⟩
 case sub=>exact⟨_,by simp[binOp,Op.intArith],.int _ _⟩
 case mul=>exact⟨_,by simp[binOp,Op.intArith],.int _ _⟩
 case and=>exact⟨.int k (k.wrap (BitVec.ofInt k.bits a &&& BitVec.ofInt k.bits b).toNat),by simp[binOp,Op.intBits],by simpa using VR.int (m:=m) k _⟩
 case or=>exact⟨.int k (k.wrap (BitVec.ofInt k.bits a ||| BitVec.ofInt k.bits b).toNat),by simp[binOp,Op.intBits],by simpa using VR.int (m:=m) k _⟩
 case xor=>exact⟨.int k (k.wrap (BitVec.ofInt k.bits a ^^^ BitVec.ofInt k.bits b).toNat),by simp[binOp,Op.intBits],by simpa using VR.int (m:=m) k _⟩
 case andNot=>exact⟨.int k (k.wrap (BitVec.ofInt k.bits a &&& ~~~BitVec.ofInt k.bits b).toNat),by simp[binOp,Op.intBits],by simpa using VR.int (m:=m) k _⟩
 all_goals exact⟨_,by simp[binOp,Op.intCmp];rfl,by first|exact .bool _|simpa using VR.bool (m:=m) _⟩
theorem Gz{op:BinOp}{t:TypeId}{k yk:IntKind}{a b:Int}{v:AA}(h:Hj op k a b=some v):
  ∃v',(binOp op t (.int k a) (.int yk b)).run P w=.ok v' w/\VR m v v':=by
 unfold Hj at h;split at h
 ·cases h
 ·rename_i H;cases op<;>simp at h
  case shl=>subst h;exact⟨_,by simp[binOp,Op.shift,H],.int _ _⟩
  case shr=>subst h;exact⟨_,by simp[binOp,Op.shift,H],.int _ _⟩
theorem Jk{op:BinOp}{t:TypeId}{a b:List UInt8}{v:AA}(h:LA op a b=some v):
  ∃v',(binOp op t (.string ⟨⟨a⟩⟩) (.string ⟨⟨b⟩⟩)).run P w=.ok v' w/\VR m v v':=by
 have ea:ByteArray.toList ⟨⟨a⟩⟩=a:=by rw[ByteArray.toList_eq]
 have eb:ByteArray.toList ⟨⟨b⟩⟩=b:=by rw[ByteArray.toList_eq]
 cases op<;>simp[LA]at h
 case add=>
  obtain⟨T,rfl⟩:=h;refine⟨.string (⟨⟨a⟩⟩++⟨⟨b⟩⟩),?_,?_⟩
  ·have:¬((9223372036854775807:Int)<((⟨⟨a⟩⟩:ByteArray).size:Int)+((⟨⟨b⟩⟩:ByteArray).size:Int)):=by
    simp[ByteArray.size];omega
   simp[binOp,Op.stringOp,this]
  ·have:=VR.str (m:=m) (⟨⟨a⟩⟩++⟨⟨b⟩⟩);simpa[ByteArray.append,ByteArray.data_append]using this
 all_goals subst h;exact⟨_,by simp[binOp,Op.stringOp,ea,eb];rfl,by first|exact .bool _|simpa using VR.bool (m:=m) _⟩
theorem CL{op:BinOp}{t:TypeId}{ox oy:Operand}{x y:Value}{v:Value}(V:(eqGuard op t ox oy x y).run P w=.ok () w)(h:(binOp op t x y).run P w=.ok v w):
  (do eqGuard op t ox oy x y;binOp op t x y:Sem Value).run P w=.ok v w:=by
 rw[Sem.run_bind,V];exact h
theorem Df{op:BinOp}{t:TypeId}{ox oy:Operand}{x y:Value}(B:∀a,x≠.agg a)(hn:x≠.nilIface):(eqGuard op t ox oy x y).run P w=.ok () w:=by
 cases x<;>first|exact absurd rfl hn|exact absurd rfl (B _)|(cases op<;>simp[eqGuard])
theorem DO{op:BinOp}{t:TypeId}{x y:Value}{b:Bool}(I:∀k n,x≠.int k n)(K:∀s,x≠.string s)(D:∀k n,x≠.float k n)(hc:∀k a b,x≠.complex k a b)
  (hop:op=.eql\/op=.neq) (h:(Op.equalIn 10000 t x y).run P w=.ok b w):(binOp op t x y).run P w=.ok (.bool (if op=.eql then b else !b)) w:=by
 rcases hop with rfl|rfl<;>cases x<;>
  first
   |exact absurd rfl (I _ _)|exact absurd rfl (K _)|exact absurd rfl (D _ _)|exact absurd rfl (hc _ _ _)
   |simp[binOp,Op.equal,Op.maxDepth,h]
theorem LG{op:BinOp}{t:TypeId}{ox oy:Operand}{x y:AA}{x' y':Value}{v:AA}(B:VR m x x')(M:VR m y y')(h:L6 P op t x y=some v):
  ∃v',(do eqGuard op t ox oy x' y';binOp op t x' y':Sem Value).run P w=.ok v' w/\VR m v v':=by
 unfold L6 at h;split at h
 ·-- int, int
  rename_i k a k' b;have:=B.BS;subst this;have:=M.BS;subst this;have V:=Df (P:=P) w (op:=op) (t:=t) (ox:=ox) (oy:=oy) (x:=.int k a) (y:=.int k' b) (λa h=>by cases h) (λh=>by cases h);split at h
  ·obtain⟨v',h1,F⟩:=Gz (P:=P) (m:=m) (t:=t) (yk:=k') w h;exact⟨v',CL w V h1,F⟩
  ·obtain⟨v',h1,F⟩:=Gz (P:=P) (m:=m) (t:=t) (yk:=k') w h;exact⟨v',CL w V h1,F⟩
  ·split at h
   ·rename_i hk;subst hk;obtain⟨v',h1,F⟩:=FQ (P:=P) (m:=m) (t:=t) w h;exact⟨v',CL w V h1,F⟩
   ·cases h
 ·rename_i a b;have:=B.CF;subst this;have:=M.CF;subst this;have V:=Df (P:=P) w (op:=op) (t:=t) (ox:=ox) (oy:=oy) (x:=.string ⟨⟨a⟩⟩) (y:=.string ⟨⟨b⟩⟩) (λa h=>by cases h) (λh=>by cases h);obtain⟨v',h1,F⟩:=Jk (P:=P) (m:=m) (t:=t) w h;exact⟨v',CL w V h1,F⟩
 ·rename_i xs ys;obtain⟨xs',rfl,vx⟩:=B.Cn;obtain⟨ys',rfl,vy⟩:=M.Cn;split at h
  ·cases h
  ·rename_i hgt;have V:=run_eqGuard_agg (P:=P) w op t ox oy xs' ys' (by simpa using hgt);split at h
   ·cases he:GZ P 10000 t (.agg xs) (.agg ys)with
    |none=>simp[he]at h
    |some b=>
     simp only[he,qZ,qV]at h;subst h;exact⟨_,CL w V (DO w (by simp) (by simp) (by simp) (by simp) (.inl rfl) (Ef w _ _ _ _ _ _ _ B M he)),by simpa using VR.bool (m:=m) b⟩
   ·cases he:GZ P 10000 t (.agg xs) (.agg ys)with
    |none=>simp[he]at h
    |some b=>
     simp only[he,qZ,qV]at h;subst h;exact⟨_,CL w V (DO w (by simp) (by simp) (by simp) (by simp) (.inr rfl) (Ef w _ _ _ _ _ _ _ B M he)),by simpa using VR.bool (m:=m) (!b)⟩
   ·cases h
 ·split at h
  ·rename_i R;have hne:(∀k n,x'≠.int k n)/\(∀s,x'≠.string s)/\(∀k n,x'≠.float k n)/\(∀k a b,x'≠.complex k a b)/\(∀a,x'≠.agg a)/\x'≠.nilIface:=by
    cases B<;>simp[Kw]at R<;>simp
   obtain⟨a1,a2,a3,a4,a5,a6⟩:=hne;split at h
   ·cases he:GZ P 10000 t x y with
    |none=>simp[he]at h
    |some b=>
     simp only[he,qZ,qV]at h;subst h;exact⟨_,CL w (Df w a5 a6) (DO w a1 a2 a3 a4 (.inl rfl) (Ef w _ _ _ _ _ _ _ B M he)),by simpa using VR.bool (m:=m) b⟩
   ·cases he:GZ P 10000 t x y with
    |none=>simp[he]at h
    |some b=>
     simp only[he,qZ,qV]at h;subst h;exact⟨_,CL w (Df w a5 a6) (DO w a1 a2 a3 a4 (.inr rfl) (Ef w _ _ _ _ _ _ _ B M he)),by simpa using VR.bool (m:=m) (!b)⟩
   ·cases h
  ·cases h
theorem MM{op:UnOp}{x:AA}{x':Value}{v:AA}(B:VR m x x')(h:T6 op x=some v):∃v',(Op.unary op x').run P w=.ok v' w/\VR m v v':=by
 unfold T6 at h;split at h
 ·have:=B.BS;subst this;obtain⟨v',h1,F⟩:=FQ (P:=P) (m:=m) (t:=0) w h;exact⟨v',by simpa[Op.unary,binOp]using h1,F⟩
 ·have:=B.BS;subst this;obtain⟨v',h1,F⟩:=FQ (P:=P) (m:=m) (t:=0) w h;exact⟨v',by simpa[Op.unary,binOp]using h1,F⟩
 ·have:=B.E7;subst this;injection h with h;subst h;exact⟨_,by simp[Op.unary],.bool _⟩
 ·cases h
theorem J6{src dst:TypeId}{x:AA}{x':Value}{v:AA}(B:VR m x x')(h:LX P src dst x=some v):∃v',(convert src dst x').run P w=.ok v' w/\VR m v v':=by
 unfold LX at h;split at h
 ·rename_i d k k' n K hd;have:=B.BS;subst this;injection h with h;subst h;exact⟨_,by simp[convert,AI w K,AI w hd,Conv.intToInt],.int _ _⟩
 ·rename_i d s K hd;have:=B.CF;subst this;injection h with h;subst h;exact⟨.string ⟨⟨s⟩⟩,by simp[convert,AI w K,AI w hd],.str ⟨⟨s⟩⟩⟩
 ·rename_i d k n K hd;have:=B.BS;subst this;injection h with h;subst h;exact⟨.string (Utf8.encode n),by simp[convert,AI w K,AI w hd,Conv.intToString],.str _⟩
 ·cases h
def QO(m:Aj):Option AA->Option Value->Prop
 |none,none=>True
 |some a,some v=>VR m a v
 |_,_=>False
theorem Dg{k:IntKind}{n:Int}{y:Nat}{c:BoundsCode}(h0:0<=n)(h1:n<=y):(Instr.sliceBound (.int k n) y c).run P w=.ok n.toNat w:=by
 simp[Instr.sliceBound,asIntOf,h0,h1]
theorem Ct{n c:Nat}{lo I:Option AA}{lo' Q:Option Value}{l u:Nat}(isS:Bool)(N:QO m lo lo')(U:QO m I Q)(hc:n<=c)(h:CD n lo I=some (l,u)):
  (Instr.sliceBounds isS n c lo' Q none).run P w=.ok (l,u,c) w/\l<=u/\u<=n:=by
 unfold CD at h;split at h
 ·rename_i k a;cases Q with
  |none=>exact U.elim
  | some v=>
   have:v=.int k a:=VR.BS U;subst this;split at h
   ·rename_i H;obtain⟨b0,b1⟩:=H;split at h
    ·rename_i k2 b;cases lo' with
     |none=>exact N.elim
     | some v=>
      have:v=.int k2 b:=VR.BS N;subst this;split at h
      ·rename_i W;injection h with h;injection h with h1 F;subst h1;subst F;refine⟨?_,by omega,by omega⟩;simp[Instr.sliceBounds,Dg (P:=P) w b0 (show a<=(c:Int) by omega),Dg (P:=P) w W.1 (show b<=(a.toNat:Int) by omega)]
      ·cases h
    ·cases h
    ·cases lo' with
     |some v=>exact N.elim
     |none=>
      injection h with h;injection h with h1 F;subst h1;subst F;refine⟨?_,by omega,by omega⟩;simp[Instr.sliceBounds,Dg (P:=P) w b0 (show a<=(c:Int) by omega)]
   ·cases h
 ·cases h
 ·cases Q with
  |some v=>exact U.elim
  | none=>
   split at h
   ·rename_i k2 b;cases lo' with
    |none=>exact N.elim
    | some v=>
     have:v=.int k2 b:=VR.BS N;subst this;split at h
     ·rename_i W;injection h with h;injection h with h1 F;subst h1;subst F;refine⟨?_,by omega,by omega⟩;simp[Instr.sliceBounds,Dg (P:=P) w W.1 W.2]
     ·cases h
   ·cases h
   ·cases lo' with
    |some v=>exact N.elim
    |none=>
     injection h with h;injection h with h1 F;subst h1;subst F;exact⟨by simp[Instr.sliceBounds],by omega,by omega⟩
theorem GJ(s:List UInt8)(l u:Nat):(⟨⟨s⟩⟩:ByteArray).extract l u=⟨⟨(s.drop l).take (u - l)⟩⟩:=by
 apply ByteArray.ext;rw[ByteArray.data_extract];apply Array.ext';simp[List.extract_eq_take_drop]
theorem Jm{t:TypeId}{x:AA}{x':Value}{lo I:Option AA}{lo' Q:Option Value}{v:AA}(B:VR m x x')(N:QO m lo lo')(U:QO m I Q)(h:Jo P t x lo I=some v):
  ∃v',(Instr.sliceAt t x' lo' Q none).run P w=.ok v' w/\VR m v v':=by
 unfold Jo at h;split at h
 ·rename_i s hu;have:=B.CF;subst this;cases H:CD s.length lo I with
  |none=>simp[H]at h
  |some lu=>
   obtain⟨l,u⟩:=lu;simp only[H,qZ,qV]at h;subst h;have hbs:=(Ct (P:=P) w (c:=s.length) false N U (xe _) H).1;refine⟨.string ⟨⟨(s.drop l).take (u - l)⟩⟩,?_,.str ⟨⟨(s.drop l).take (u - l)⟩⟩⟩;simp only[Instr.sliceAt,Instr.slice,Sem.run_bind,AI w hu,Result.andThen_ok];simp[show(⟨⟨s⟩⟩:ByteArray).size=s.length from rfl,hbs,GJ]
 ·cases h
theorem HK{t:TypeId}{x:AA}{x':Value}{f:Nat}{v:AA}(B:VR m x x')(h:FK P t x f=some v):
  ∃v',(Instr.fieldAt t x' f).run P w=.ok v' w/\VR m v v':=by
 unfold FK at h;split at h
 ·rename_i fs id o hu;cases B with
  | ptr _ _ E hE=>
   split at h
   ·rename_i fd D;split at h
    ·cases h
    ·rename_i z G J;injection h with h;subst h;have S:z≠0:=G;refine⟨.pointer (some ⟨E.g,E.base+(o+fd.offset),none⟩),?_,.ptr _ _ E hE⟩;simp[Instr.fieldAt,AI w hu,D,Instr.sureAddr,fieldPlace,run_sizeOf w J,S,Addr.add_lit,xA]
    ·cases h
   ·cases h
 ·rename_i fs g o hu;cases B with
  | EJ _ _=>
   split at h
   ·rename_i fd D;split at h
    ·cases h
    ·rename_i z G J;injection h with h;subst h;have S:z≠0:=G;refine⟨.pointer (some ⟨g,o+fd.offset,none⟩),?_,.EJ _ _⟩;simp[Instr.fieldAt,AI w hu,D,Instr.sureAddr,fieldPlace,run_sizeOf w J,S,Addr.add_lit]
    ·cases h
   ·cases h
 ·cases h
theorem Jh{t:TypeId}{x:AA}{x':Value}{f:Nat}{v:AA}(B:VR m x x')(h:Jp P t x f=some v):
  ∃v',(Instr.field t x' f).run P w=.ok v' w/\VR m v v':=by
 unfold Jp at h;split at h
 ·rename_i fs cs hu;obtain⟨ds,rfl,vd⟩:=B.Cn;split at h
  ·rename_i fd D;obtain⟨y,h1,F⟩:=Dq (P:=P) w vd h;exact⟨y,by simp[Instr.field,AI w hu,D,asAgg,h1],F⟩
  ·cases h
 ·cases h
theorem HJ{t:TypeId}{x i:AA}{x' i':Value}{v:AA}(B:VR m x x')(I:VR m i i')(h:DJ P t x i=some v):
  ∃v',(Instr.indexAt t x' i').run P w=.ok v' w/\VR m v v':=by
 unfold DJ at h;split at h
 ·rename_i n e id o k i hu;have:=I.BS;subst this;cases B with
  | ptr _ _ E hE=>
   split at h
   ·rename_i H;cases G:BK P e with
    |none=>simp[G]at h
    |some z=>
     simp only[G,qZ,qV]at h;subst h;refine⟨.pointer (some ⟨E.g,E.base+(o+i.toNat*z),none⟩),?_,.ptr _ _ E hE⟩;simp[Instr.indexAt,AI w hu,asIntOf,Instr.sureAddr,H,run_sizeOf w G,Addr.add_lit,xA]
   ·cases h
 ·rename_i e id o n k i hu;have:=I.BS;subst this;cases B with
  | slice _ _ _ cap E a hE T hc=>
   split at h
   ·rename_i H;obtain⟨ha,_⟩:=hc (by omega);subst ha;cases G:BK P e with
    |none=>simp[G]at h
    |some z=>
     simp only[G,qZ,qV]at h;subst h;refine⟨.pointer (some ⟨E.g,E.base+(o+i.toNat*z),none⟩),?_,.ptr _ _ E hE⟩;simp[Instr.indexAt,AI w hu,asIntOf,H,run_sizeOf w G,Addr.add_lit,xA]
   ·cases h
 ·rename_i n e g o k i hu;have:=I.BS;subst this;cases B with
  | EJ _ _=>
   split at h
   ·rename_i H;cases G:BK P e with
    |none=>simp[G]at h
    |some z=>
     simp only[G,qZ,qV]at h;subst h;refine⟨.pointer (some ⟨g,o+i.toNat*z,none⟩),?_,.EJ _ _⟩;simp[Instr.indexAt,AI w hu,asIntOf,Instr.sureAddr,H,run_sizeOf w G,Addr.add_lit]
   ·cases h
 ·cases h
theorem Jb{t:TypeId}{x i:AA}{x' i':Value}{v:AA}(B:VR m x x')(I:VR m i i')(h:Hl P t x i=some v):
  ∃v',(Instr.index t x' i').run P w=.ok v' w/\VR m v v':=by
 unfold Hl at h;split at h
 ·rename_i n e cs k i hu;have:=I.BS;subst this;obtain⟨ds,rfl,vd⟩:=B.Cn;split at h
  ·rename_i H;cases G:BK P e with
   |none=>simp[G]at h
   |some z=>
    simp only[G,qW]at h;obtain⟨y,h1,F⟩:=Dq (P:=P) w vd h;exact⟨y,by simp[Instr.index,AI w hu,asIntOf,H,run_sizeOf w G,h1],F⟩
  ·cases h
 ·rename_i s k i hu;have:=I.BS;subst this;have:=B.CF;subst this;split at h
  ·rename_i H;cases K:s[i.toNat]? with
   |none=>simp[K]at h
   | some b=>
    simp only[K,qZ,qV]at h;subst h;have hs':(⟨⟨s⟩⟩:ByteArray)[i.toNat]?=some b:=by
     obtain⟨hlt,e⟩:=List.getElem?_eq_some_iff.1 K;rw[getElem?_pos (⟨⟨s⟩⟩:ByteArray) i.toNat (by simpa[ByteArray.size]using hlt)];exact congrArg some e
    exact⟨.int .u8 b.toNat,by simp[Instr.index,AI w hu,asIntOf,H,hs'],.int _ _⟩
  ·cases h
 ·cases h
theorem Kv{ts:Array TypeId}{ty:TypeId}{x:AA}{x':Value}{v:AA}(B:VR m x x')(h:M1 P ts x=some v):
  ∃v',(Builtin.len_ ts ty #[x']).run P w=.ok v' w/\VR m v v':=by
 unfold M1 at h;split at h
 ·cases h
 ·rename_i t ht;split at h
  ·rename_i s hu;have:=B.CF;subst this;injection h with h;subst h;exact⟨.int .i64 s.length,by simp[Builtin.len_,ht,AI w hu,goInt,show(⟨⟨s⟩⟩:ByteArray).size=s.length from rfl],.int _ _⟩
  ·rename_i n e y hu;injection h with h;subst h;exact⟨_,by simp[Builtin.len_,ht,AI w hu,goInt],.int _ _⟩
  ·rename_i e r n hu;injection h with h;subst h;cases B<;>exact⟨_,by simp[Builtin.len_,ht,AI w hu,goInt];try rfl,.int _ _⟩
  ·cases h
theorem Ep(mx:Bool):∀(r:List AA) (r':List Value) (x:AA) (x':Value) (v:AA),VR m x x'->BT m r r'->FU mx x r=some v->
  ∃v',(r'.foldlM (if mx then Builtin.max2 else Builtin.min2) x').run P w=.ok v' w/\VR m v v'
 |[],r',x,x',v,B,O,h=>by
  have:r'=[]:=xl (by simpa using O.1.symm);subst this;simp[FU]at h;subst h;exact⟨x',by simp,B⟩
 |y::r,[],x,x',v,B,O,h=>by simp[BT]at O
 | y::r,y'::r',x,x',v,B,O,h=>by
  have M:VR m y y':=O.2 0 y y' rfl rfl;have hr':BT m r r':=⟨by simpa using O.1,λi a b ha H=>O.2 (i+1) a b (by simpa using ha) (by simpa using H)⟩;unfold FU at h;split at h
  ·rename_i heq;cases heq
  ·rename_i k a k' b r2 heq;injection heq with e1 e2;subst e1;subst e2;have:=B.BS;subst this;have:=M.BS;subst this;split at h
   ·rename_i hk;subst hk;obtain⟨v',h1,F⟩:=Ep mx r r' _ _ v (.int k _) hr' h;refine⟨v',?_,F⟩;cases mx<;>simpa[Builtin.max2,Builtin.min2]using h1
   ·cases h
  ·cases h
theorem H9(off:Nat):∀(l:List Value) (k:Nat) (cs:Array Value),off+k+l.length<=cs.size->
  (l.zipIdx k).foldl (λ(cs:Array Value) (x:Value×Nat)=>cs.setIfInBounds (off+x.2) x.1) cs=⟨cs.toList.take (off+k)++(l++cs.toList.drop (off+k+l.length))⟩
 |[],k,cs,h=>by simp
 | v::l,k,cs,h=>by
  simp only[List.zipIdx_cons,List.foldl_cons];simp only[xx]at h;rw[H9 off l (k+1) _ (by simp;omega)];generalize hL:cs.toList=L;have hlen:L.length=cs.size:=by rw[<-hL];simp
  have e:(cs.setIfInBounds (off+k) v).toList=L.take (off+k)++v::L.drop (off+k+1):=by
   rw[ww,hL,xF,xj (by omega)]
  have T:(L.take (off+k)).length=off+k:=by simp;omega
  rw[e,show off+(k+1)+l.length=(L.take (off+k)).length+(1+l.length) by omega,wt,
   show off+(k+1)=(L.take (off+k)).length+1 by omega,wu,wh,show 1+l.length=l.length+1 by omega,List.drop_succ_cons,wx]
  simp only[List.take_succ_cons,List.take_zero,xS,xW,xx];rw[show off+k+1+l.length=off+k+(l.length+1) by omega]
theorem Ek{place:Nat->Option (Nat×Nat)}:∀(parts:List (Nat×AA)) (parts':List (Nat×Value)) (cs:List AA) (ds:Array Value) (r:List AA),
  parts.length=parts'.length->(∀(j i i':Nat) (x:AA) (y:Value),parts[j]?=some (i,x)->parts'[j]?=some (i',y)->i=i'/\VR m x y)->BT m cs ds.toList->Fe place cs parts=some r->
  ∃ds',Instr.fill place ds parts'=some ds'/\BT m r ds'.toList
 |[],parts',cs,ds,r,T,_,hc,h=>by
  have:parts'=[]:=xl T.symm;subst this;simp[Fe]at h;subst h;exact⟨ds,rfl,hc⟩
 |(i,x)::parts,[],_,_,_,T,_,_,_=>by simp at T
 | (i,x)::parts,(i',y)::parts',cs,ds,r,T,hp,hc,h=>by
  obtain⟨rfl,hxy⟩:=hp 0 i i' x y rfl rfl;unfold Fe at h;split at h
  ·rename_i off size new hpl hnew;split at h
   ·rename_i H;have hv:=hxy.cells hnew;have hsz:y.cells.size=size:=by rw[<-H.1,hv.1];simp
    have hds:cs.length=ds.size:=by rw[hc.1];simp
    obtain⟨ds',h1,F⟩:=Ek parts parts' _ ⟨ds.toList.take off++(y.cells.toList++ds.toList.drop (off+y.cells.toList.length))⟩ r (by simpa using T)
     (λj a b u v hu hv=>hp (j+1) a b u v (by simpa using hu) (by simpa using hv)) (hc.CN hv off) h
    refine⟨ds',?_,F⟩;have hcond:(y.cells.size≠size||off+y.cells.size>ds.size)=false:=by simp[hsz];omega
    have D:=H9 off y.cells.toList 0 ds (by simp[hsz];omega);simp only[wB]at D;rw[<-h1];simp only[Instr.fill,hpl];rw[xg (by simpa using hcond)];congr 1;rw[<-D,<-Array.foldl_toList,Array.toList_zipIdx]
   ·cases h
  ·cases h
theorem DU{t:TypeId}{v:AA}(h:Ew P t=some v):∃i z,P.info? t=some i/\i.zero=some z/\VR m v z:=by
 unfold Ew at h;cases I:P.info? t with
 |none=>simp[I]at h
 | some i=>
  simp only[I]at h;cases G:i.zero with
  |none=>simp[G]at h
  |some z=>
   simp only[G,qZ,qV]at h;subst h;exact⟨i,z,rfl,G,VR.NC m z⟩
theorem Jj{t:TypeId}{parts:List (Nat×AA)}{parts':List (Nat×Value)}{v:AA}(T:parts.length=parts'.length)
  (hp:∀(j i i':Nat) (x:AA) (y:Value),parts[j]?=some (i,x)->parts'[j]?=some (i',y)->i=i'/\VR m x y) (h:JX P t parts=some v):
  ∃cells,P.built t parts'=some cells/\VR m v (.agg cells):=by
 unfold JX at h;split at h
 ·rename_i n e z hu G;cases J:Ew P t with
  |none=>simp[J]at G
  | some zv=>
   simp only[J,qW]at G;obtain⟨i,zz,I,Y,X⟩:=DU (m:=m) J;cases K:BK P e with
   |none=>simp[K]at h
   | some n'=>
    simp only[K,qW]at h;cases D:Fe (λi=>some (i*n',n')) z parts with
    |none=>simp[D]at h
    | some r=>
     simp only[D,qZ,qV]at h;subst h;obtain⟨ds',h1,F⟩:=Ek (m:=m) parts parts' z zz.cells r T hp (X.cells G) D;unfold BK at K;cases Z:P.info? e with
     |none=>simp[Z]at K
     |some ie=>
      simp[Z]at K;subst K;exact⟨ds',by simp[Program.built,I,hu,Y,Z,h1],BT.agg F⟩
 ·rename_i fs z hu G;cases J:Ew P t with
  |none=>simp[J]at G
  | some zv=>
   simp only[J,qW]at G;obtain⟨i,zz,I,Y,X⟩:=DU (m:=m) J;cases K:Jl P fs.toList with
   |none=>simp[K]at h
   | some ps=>
    simp only[K,qW]at h;cases D:Fe (ps[·]?) z parts with
    |none=>simp[D]at h
    |some r=>
     simp only[D,qZ,qV]at h;subst h;obtain⟨ds',h1,F⟩:=Ek (m:=m) parts parts' z zz.cells r T hp (X.cells G) D;unfold Jl at K;exact⟨ds',by simp[Program.built,I,hu,Y,K,h1],BT.agg F⟩
 ·cases h
theorem Lq{fr:Fr}{a:Act}(D:FR m fr a)(x:Option Operand):QO m (x.map (ev fr)) (x.map a.eval):=by
 cases x with
 |none=>trivial
 |some x=>exact D.ev x
theorem JP{fr:Fr}{a:Act}(D:FR m fr a){o:Oper}{v:AA}(h:FA P fr o.op=some v):∃v',(execOp a.eval o).run P w=.ok (.value v') w/\VR m v v':=by
 obtain⟨dst,op,ty,pos,aft,gd⟩:=o;simp only at h;have lift:∀{s:Sem Value} {u:AA},(∃v',s.run P w=.ok v' w/\VR m u v')->∃v',(do pure (.value (<-s)):Sem Next).run P w=.ok (.value v') w/\VR m u v':=by
  rintro s u ⟨v',h1,F⟩;exact⟨v',by simp[h1],F⟩
 cases op with
 |move x=>simp only[FA,qV]at h;subst h;exact⟨_,rfl,D.ev x⟩
 |assign x=>simp only[FA,qV]at h;subst h;exact⟨_,rfl,D.ev x⟩
 | pick c x y=>
  simp only[FA]at h;split at h
  ·rename_i b H;have hc:=D.ev c;rw[H]at hc;have hc:=hc.E7;injection h with h;subst h;cases b
   ·exact⟨a.eval y,by simp[execOp,asBool,hc],D.ev y⟩
   ·exact⟨a.eval x,by simp[execOp,asBool,hc],D.ev x⟩
  ·cases h
 | build t parts=>
  simp only[FA]at h
  obtain⟨cells,h1,F⟩:=Jj (m:=m) (parts':=(parts.map λ(i,x)=>(i,a.eval x)).toList) (by simp) (λj i i' x y B M=>by
   simp only[List.getElem?_map,xT]at B M;cases hj:parts.toList[j]? with
   |none=>simp[hj]at B
   |some p=>
    simp only[hj,qZ,qV,qY]at B M;obtain⟨rfl,rfl⟩:=B;obtain⟨rfl,rfl⟩:=M
    exact⟨rfl,D.ev p.2⟩) h
  exact lift ⟨_,run_build w t _ cells h1,F⟩
 | nilCheck x=>
  simp only[FA]at h;split at h
  ·rename_i r O;have B:=D.ev x;rw[O]at B;injection h with h;subst h;cases he:a.eval x<;>rw[he]at B<;>try (cases B;done)
   rename_i p;cases p with
   |none=>cases B
   |some p=>exact⟨.pointer (some p),by simp[execOp,he],B⟩
  ·rename_i g o O;have B:=D.ev x;rw[O]at B;injection h with h;subst h;cases he:a.eval x<;>rw[he]at B<;>try (cases B;done)
   rename_i p;cases p with
   |none=>cases B
   |some p=>exact⟨.pointer (some p),by simp[execOp,he],B⟩
  ·rename_i f b c O;have B:=D.ev x;rw[O]at B;injection h with h;subst h;cases he:a.eval x<;>rw[he]at B<;>try (cases B;done)
   rename_i fn c d;have:fn=.func f:=by cases B;rfl
   subst this;exact⟨.func (.func f) c d,by simp[execOp,he],B⟩
  ·cases h
 |binOp op t x y yt=>simp only[FA]at h;exact lift (LG w (D.ev x) (D.ev y) h)
 |unOp op t x=>simp only[FA]at h;exact lift (MM w (D.ev x) h)
 |convert s d x=>simp only[FA]at h;exact lift (J6 w (D.ev x) h)
 |makeFunc fn first cap=>
  simp only[FA,qV]at h;subst h;refine lift ⟨.func fn (first.map a.eval) (cap.map a.eval),rfl,?_⟩;have h1:=D.SC first.toList;have F:=D.SC cap.toList;exact .func _ _ _ _ _ (by simp) (λi x y B M=>h1.2 i x y B (by simpa using M)) (by simp) (λi x y B M=>F.2 i x y B (by simpa using M))
 |slice t x lo I mx=>
  cases mx with
  |some y=>simp[FA]at h
  |none=>simp only[FA]at h;exact lift (Jm w (D.ev x) (Lq D lo) (Lq D I) h)
 |fieldAddr s x f=>simp only[FA]at h;exact lift (HK w (D.ev x) h)
 |field s x f=>simp only[FA]at h;exact lift (Jh w (D.ev x) h)
 |indexAddr t x i=>simp only[FA]at h;exact lift (HJ w (D.ev x) (D.ev i) h)
 |index t x i=>simp only[FA]at h;exact lift (Jb w (D.ev x) (D.ev i) h)
 | extract x i=>
  simp only[FA]at h;split at h
  ·rename_i vs O;have B:=D.ev x;rw[O]at B;obtain⟨c,hc,hv⟩:=B.G8;obtain⟨y,M,hvy⟩:=hv.at_ h;have hy':c[i]?=some y:=by simpa using M
   exact lift ⟨y,by simp[hc,Instr.extract,hy'],hvy⟩
  ·cases h
 | call c=>
  obtain⟨callee,asE9,ts⟩:=c;cases callee with
  |value f=>simp[FA]at h
  |invoke r mth=>simp[FA]at h
  | builtin b=>
   simp only[FA]at h;have C:=D.SC asE9.toList;have hargs:(asE9.map a.eval).toList=asE9.toList.map a.eval:=by simp
   have res:∀(w:World),(resolve a.eval {callee:=.builtin b,args:=asE9,argTypes:=ts} ty).run P w=.ok {target:=.builtin b ts ty (asE9.map fun| .const _=>true|_=>false),args:=asE9.map a.eval} w:=λw=>rfl;split at h
   ·rename_i x heq;obtain⟨x',hx',hvx⟩:∃x',asE9.map a.eval=#[x']/\VR m x x':=by
     rw[heq]at C;have hlen:(asE9.toList.map a.eval).length=1:=by rw[<-C.1];rfl
     match R:asE9.toList.map a.eval,hlen with
     |[x'],_=>exact⟨x',Array.ext' (by simpa using R),C.2 0 x x' rfl (by rw[R];rfl)⟩
    obtain⟨v',h1,F⟩:=Kv (P:=P) (m:=m) (ty:=ty) w hvx h;exact⟨v',by simp[execOp,res,invoke,builtin,hx',h1],F⟩
   ·rename_i x r heq;rw[heq]at C
    match R:asE9.toList.map a.eval with
    |[]=>rw[R]at C;simp[BT]at C
    |x'::r'=>
     rw[R]at C;obtain⟨v',h1,F⟩:=Ep (P:=P) w false r r' x x' v (C.2 0 x x' rfl rfl) ⟨by simpa using C.1,λi u z hu G=>C.2 (i+1) u z (by simpa using hu) (by simpa using G)⟩ h;refine⟨v',?_,F⟩;simp only[xo,if_false]at h1;simp[execOp,res,invoke,builtin,Builtin.min_,R,h1]
   ·rename_i x r heq;rw[heq]at C
    match R:asE9.toList.map a.eval with
    |[]=>rw[R]at C;simp[BT]at C
    |x'::r'=>
     rw[R]at C;obtain⟨v',h1,F⟩:=Ep (P:=P) w true r r' x x' v (C.2 0 x x' rfl rfl) ⟨by simpa using C.1,λi u z hu G=>C.2 (i+1) u z (by simpa using hu) (by simpa using G)⟩ h;refine⟨v',?_,F⟩;simp only[if_true]at h1;simp[execOp,res,invoke,builtin,Builtin.max_,R,h1]
   ·cases h
 |_=>simp[FA]at h
end
end Go.Abs
