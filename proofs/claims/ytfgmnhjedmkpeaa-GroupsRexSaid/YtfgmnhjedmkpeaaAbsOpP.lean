/-
 A part.
-/
import Derived.Test.YtfgmnhjedmkpeaaAbsEq
set_option linter.unusedSimpArgs false
namespace Go.Abs
open Go.RowKit
section
variable {P:Program} {m:BU} (w:World)
theorem VR.CG{k:IntKind}{n:Int}{v:Value}(h:VR m (.int k n) v):v=.int k n:=by cases h;rfl
theorem VR.Gl{b:Bool}{v:Value}(h:VR m (.bool b) v):v=.bool b:=by cases h;rfl
theorem Ga{op:BinOp}{t:TypeId}{k:IntKind}{a b:Int}{v:AD}(h:KD op k a b=some v):
  ∃v',(binOp op t (.int k a) (.int k b)).run P w=.ok v' w/\VR m v v':=by
 cases op<;>simp[KD]at h
 case quo=>obtain⟨I,rfl⟩:=h;exact⟨_,by simp[binOp,Op.intDiv,I],.int _ _⟩
 case rem=>obtain⟨I,rfl⟩:=h;exact⟨_,by simp[binOp,Op.intDiv,I],.int _ _⟩
 all_goals subst h
 case add=>exact⟨_,by simp[binOp,Op.intArith],.int _ _⟩
 case sub=>exact⟨_,by simp[binOp,Op.intArith],.int _ _⟩
 case mul=>exact⟨_,by simp[binOp,Op.intArith],.int _ _⟩
 case and=>exact⟨.int k (k.wrap (BitVec.ofInt k.bits a &&& BitVec.ofInt k.bits b).toNat),by simp[binOp,Op.intBits],by simpa using VR.int (m:=m) k _⟩
 case or=>exact⟨.int k (k.wrap (BitVec.ofInt k.bits a ||| BitVec.ofInt k.bits b).toNat),by simp[binOp,Op.intBits],by simpa using VR.int (m:=m) k _⟩
 case xor=>exact⟨.int k (k.wrap (BitVec.ofInt k.bits a ^^^ BitVec.ofInt k.bits b).toNat),by simp[binOp,Op.intBits],by simpa using VR.int (m:=m) k _⟩
 case andNot=>exact⟨.int k (k.wrap (BitVec.ofInt k.bits a &&& ~~~BitVec.ofInt k.bits b).toNat),by simp[binOp,Op.intBits],by simpa using VR.int (m:=m) k _⟩
 all_goals exact⟨_,by simp[binOp,Op.intCmp];rfl,by first|exact .bool _|simpa using VR.bool (m:=m) _⟩
theorem IL{op:BinOp}{t:TypeId}{k yk:IntKind}{a b:Int}{v:AD}(h:LQ op k a b=some v):
  ∃v',(binOp op t (.int k a) (.int yk b)).run P w=.ok v' w/\VR m v v':=by
 unfold LQ at h;split at h
 ·cases h
 ·rename_i I;cases op<;>simp at h
  case shl=>subst h;exact⟨_,by simp[binOp,Op.shift,I],.int _ _⟩
  case shr=>subst h;exact⟨_,by simp[binOp,Op.shift,I],.int _ _⟩
theorem LS{op:BinOp}{t:TypeId}{a b:List UInt8}{v:AD}(h:L6 op a b=some v):
  ∃v',(binOp op t (.string ⟨⟨a⟩⟩) (.string ⟨⟨b⟩⟩)).run P w=.ok v' w/\VR m v v':=by
 have ea:ByteArray.toList ⟨⟨a⟩⟩=a:=by rw[ByteArray.toList_eq]
 have eb:ByteArray.toList ⟨⟨b⟩⟩=b:=by rw[ByteArray.toList_eq]
 cases op<;>simp[L6]at h
 case add=>
  obtain⟨Q,rfl⟩:=h;refine⟨.string (⟨⟨a⟩⟩++⟨⟨b⟩⟩),?_,?_⟩
  ·have:¬((9223372036854775807:Int)<((⟨⟨a⟩⟩:ByteArray).size:Int)+((⟨⟨b⟩⟩:ByteArray).size:Int)):=by
    simp[ByteArray.size];omega
   simp[binOp,Op.stringOp,this]
  ·have:=VR.str (m:=m) (⟨⟨a⟩⟩++⟨⟨b⟩⟩);simpa[ByteArray.append,ByteArray.data_append]using this
 all_goals subst h;exact⟨_,by simp[binOp,Op.stringOp,ea,eb];rfl,by first|exact .bool _|simpa using VR.bool (m:=m) _⟩
theorem Cr{op:BinOp}{t:TypeId}{ox oy:Operand}{x y:Value}{v:Value}(R:(eqGuard op t ox oy x y).run P w=.ok () w)(h:(binOp op t x y).run P w=.ok v w):
  (do eqGuard op t ox oy x y;binOp op t x y:Sem Value).run P w=.ok v w:=by
 rw[Sem.run_bind,R];exact h
theorem Ec{op:BinOp}{t:TypeId}{ox oy:Operand}{x y:Value}(B:∀a,x≠.agg a)(hn:x≠.nilIface):(eqGuard op t ox oy x y).run P w=.ok () w:=by
 cases x<;>first|exact absurd rfl hn|exact absurd rfl (B _)|(cases op<;>simp[eqGuard])
theorem D7{op:BinOp}{t:TypeId}{x y:Value}{b:Bool}(hi:∀k n,x≠.int k n)(J:∀s,x≠.string s)(D:∀k n,x≠.float k n)(hc:∀k a b,x≠.complex k a b)
  (hop:op=.eql\/op=.neq) (h:(Op.equalIn 10000 t x y).run P w=.ok b w):(binOp op t x y).run P w=.ok (.bool (if op=.eql then b else !b)) w:=by
 rcases hop with rfl|rfl<;>cases x<;>
  first
   |exact absurd rfl (hi _ _)|exact absurd rfl (J _)|exact absurd rfl (D _ _)|exact absurd rfl (hc _ _ _)
   |simp[binOp,Op.equal,Op.maxDepth,h]
theorem M0{op:BinOp}{t:TypeId}{ox oy:Operand}{x y:AD}{x' y':Value}{v:AD}(B:VR m x x')(K:VR m y y')(h:Nt P op t x y=some v):
  ∃v',(do eqGuard op t ox oy x' y';binOp op t x' y':Sem Value).run P w=.ok v' w/\VR m v v':=by
 unfold Nt at h;split at h
 ·-- int, int
  rename_i k a k' b;have:=B.CG;subst this;have:=K.CG;subst this;have R:=Ec (P:=P) w (op:=op) (t:=t) (ox:=ox) (oy:=oy) (x:=.int k a) (y:=.int k' b) (λa h=>by cases h) (λh=>by cases h);split at h
  ·obtain⟨v',h1,G⟩:=IL (P:=P) (m:=m) (t:=t) (yk:=k') w h;exact⟨v',Cr w R h1,G⟩
  ·obtain⟨v',h1,G⟩:=IL (P:=P) (m:=m) (t:=t) (yk:=k') w h;exact⟨v',Cr w R h1,G⟩
  ·split at h
   ·rename_i Z;subst Z;obtain⟨v',h1,G⟩:=Ga (P:=P) (m:=m) (t:=t) w h;exact⟨v',Cr w R h1,G⟩
   ·cases h
 ·rename_i a b;have:=B.C3;subst this;have:=K.C3;subst this;have R:=Ec (P:=P) w (op:=op) (t:=t) (ox:=ox) (oy:=oy) (x:=.string ⟨⟨a⟩⟩) (y:=.string ⟨⟨b⟩⟩) (λa h=>by cases h) (λh=>by cases h);obtain⟨v',h1,G⟩:=LS (P:=P) (m:=m) (t:=t) w h;exact⟨v',Cr w R h1,G⟩
 ·rename_i xs ys;obtain⟨xs',rfl,vx⟩:=B.D1;obtain⟨ys',rfl,vy⟩:=K.D1;split at h
  ·cases h
  ·rename_i hgt;have R:=run_eqGuard_agg (P:=P) w op t ox oy xs' ys' (by simpa using hgt);split at h
   ·cases he:Hb P 10000 t (.agg xs) (.agg ys)with
    |none=>simp[he]at h
    |some b=>
     simp only[he,q8,qU]at h;subst h;exact⟨_,Cr w R (D7 w (by simp) (by simp) (by simp) (by simp) (.inl rfl) (G2 w _ _ _ _ _ _ _ B K he)),by simpa using VR.bool (m:=m) b⟩
   ·cases he:Hb P 10000 t (.agg xs) (.agg ys)with
    |none=>simp[he]at h
    |some b=>
     simp only[he,q8,qU]at h;subst h;exact⟨_,Cr w R (D7 w (by simp) (by simp) (by simp) (by simp) (.inr rfl) (G2 w _ _ _ _ _ _ _ B K he)),by simpa using VR.bool (m:=m) (!b)⟩
   ·cases h
 ·split at h
  ·rename_i N;have hne:(∀k n,x'≠.int k n)/\(∀s,x'≠.string s)/\(∀k n,x'≠.float k n)/\(∀k a b,x'≠.complex k a b)/\(∀a,x'≠.agg a)/\x'≠.nilIface:=by
    cases B<;>simp[M7]at N<;>simp
   obtain⟨a1,a2,a3,a4,a5,a6⟩:=hne;split at h
   ·cases he:Hb P 10000 t x y with
    |none=>simp[he]at h
    |some b=>
     simp only[he,q8,qU]at h;subst h;exact⟨_,Cr w (Ec w a5 a6) (D7 w a1 a2 a3 a4 (.inl rfl) (G2 w _ _ _ _ _ _ _ B K he)),by simpa using VR.bool (m:=m) b⟩
   ·cases he:Hb P 10000 t x y with
    |none=>simp[he]at h
    |some b=>
     simp only[he,q8,qU]at h;subst h;exact⟨_,Cr w (Ec w a5 a6) (D7 w a1 a2 a3 a4 (.inr rfl) (G2 w _ _ _ _ _ _ _ B K he)),by simpa using VR.bool (m:=m) (!b)⟩
   ·cases h
  ·cases h
theorem OI{op:UnOp}{x:AD}{x':Value}{v:AD}(B:VR m x x')(h:Wn op x=some v):∃v',(Op.unary op x').run P w=.ok v' w/\VR m v v':=by
 unfold Wn at h;split at h
 ·have:=B.CG;subst this;obtain⟨v',h1,G⟩:=Ga (P:=P) (m:=m) (t:=0) w h;exact⟨v',by simpa[Op.unary,binOp]using h1,G⟩
 ·have:=B.CG;subst this;obtain⟨v',h1,G⟩:=Ga (P:=P) (m:=m) (t:=0) w h;exact⟨v',by simpa[Op.unary,binOp]using h1,G⟩
 ·have:=B.Gl;subst this;injection h with h;subst h;exact⟨_,by simp[Op.unary],.bool _⟩
 ·cases h
theorem I6(s:List UInt8)(l u:Nat):(⟨⟨s⟩⟩:ByteArray).extract l u=⟨⟨(s.drop l).take (u - l)⟩⟩:=by
 apply ByteArray.ext;rw[ByteArray.data_extract];apply Array.ext';simp[List.extract_eq_take_drop]
theorem I2{t:TypeId}{x:AD}{x':Value}{f:Nat}{v:AD}(B:VR m x x')(h:Hu P t x f=some v):
  ∃v',(Instr.fieldAt t x' f).run P w=.ok v' w/\VR m v v':=by
 unfold Hu at h;split at h
 ·rename_i fs id o hu;cases B with
  | ptr _ _ E hE=>
   split at h
   ·rename_i fd D;split at h
    ·cases h
    ·rename_i z F H;injection h with h;subst h;have O:z≠0:=F;refine⟨.pointer (some ⟨E.g,E.base+(o+fd.offset),none⟩),?_,.ptr _ _ E hE⟩;simp[Instr.fieldAt,Ah w hu,D,Instr.sureAddr,fieldPlace,run_sizeOf w H,O,Addr.add_lit,xK]
    ·cases h
   ·cases h
 ·rename_i fs g o hu;cases B with
  | GM _ _=>
   split at h
   ·rename_i fd D;split at h
    ·cases h
    ·rename_i z F H;injection h with h;subst h;have O:z≠0:=F;refine⟨.pointer (some ⟨g,o+fd.offset,none⟩),?_,.GM _ _⟩;simp[Instr.fieldAt,Ah w hu,D,Instr.sureAddr,fieldPlace,run_sizeOf w H,O,Addr.add_lit]
    ·cases h
   ·cases h
 ·cases h
theorem Ll{t:TypeId}{x:AD}{x':Value}{f:Nat}{v:AD}(B:VR m x x')(h:NI P t x f=some v):
  ∃v',(Instr.field t x' f).run P w=.ok v' w/\VR m v v':=by
 unfold NI at h;split at h
 ·rename_i fs cs hu;obtain⟨ds,rfl,vd⟩:=B.D1;split at h
  ·rename_i fd D;obtain⟨y,h1,G⟩:=FL (P:=P) w vd h;exact⟨y,by simp[Instr.field,Ah w hu,D,asAgg,h1],G⟩
  ·cases h
 ·cases h
theorem Iu{t:TypeId}{x i:AD}{x' i':Value}{v:AD}(B:VR m x x')(hi:VR m i i')(h:Fa P t x i=some v):
  ∃v',(Instr.indexAt t x' i').run P w=.ok v' w/\VR m v v':=by
 unfold Fa at h;split at h
 ·rename_i n e id o k i hu;have:=hi.CG;subst this;cases B with
  | ptr _ _ E hE=>
   split at h
   ·rename_i I;cases F:B9 P e with
    |none=>simp[F]at h
    |some z=>
     simp only[F,q8,qU]at h;subst h;refine⟨.pointer (some ⟨E.g,E.base+(o+i.toNat*z),none⟩),?_,.ptr _ _ E hE⟩;simp[Instr.indexAt,Ah w hu,asIntOf,Instr.sureAddr,I,run_sizeOf w F,Addr.add_lit,xK]
   ·cases h
 ·rename_i e id o n k i hu;have:=hi.CG;subst this;cases B with
  | slice _ _ _ cap E a hE Q hc=>
   split at h
   ·rename_i I;obtain⟨ha,_⟩:=hc (by omega);subst ha;cases F:B9 P e with
    |none=>simp[F]at h
    |some z=>
     simp only[F,q8,qU]at h;subst h;refine⟨.pointer (some ⟨E.g,E.base+(o+i.toNat*z),none⟩),?_,.ptr _ _ E hE⟩;simp[Instr.indexAt,Ah w hu,asIntOf,I,run_sizeOf w F,Addr.add_lit,xK]
   ·cases h
 ·rename_i n e g o k i hu;have:=hi.CG;subst this;cases B with
  | GM _ _=>
   split at h
   ·rename_i I;cases F:B9 P e with
    |none=>simp[F]at h
    |some z=>
     simp only[F,q8,qU]at h;subst h;refine⟨.pointer (some ⟨g,o+i.toNat*z,none⟩),?_,.GM _ _⟩;simp[Instr.indexAt,Ah w hu,asIntOf,Instr.sureAddr,I,run_sizeOf w F,Addr.add_lit]
   ·cases h
 ·cases h
theorem LM{t:TypeId}{x i:AD}{x' i':Value}{v:AD}(B:VR m x x')(hi:VR m i i')(h:Lh P t x i=some v):
  ∃v',(Instr.index t x' i').run P w=.ok v' w/\VR m v v':=by
 unfold Lh at h;split at h
 ·rename_i n e cs k i hu;have:=hi.CG;subst this;obtain⟨ds,rfl,vd⟩:=B.D1;split at h
  ·rename_i I;cases F:B9 P e with
   |none=>simp[F]at h
   |some z=>
    simp only[F,qQ]at h;obtain⟨y,h1,G⟩:=FL (P:=P) w vd h;exact⟨y,by simp[Instr.index,Ah w hu,asIntOf,I,run_sizeOf w F,h1],G⟩
  ·cases h
 ·rename_i s k i hu;have:=hi.CG;subst this;have:=B.C3;subst this;split at h
  ·rename_i I;cases J:s[i.toNat]? with
   |none=>simp[J]at h
   | some b=>
    simp only[J,q8,qU]at h;subst h;have hs':(⟨⟨s⟩⟩:ByteArray)[i.toNat]?=some b:=by
     obtain⟨hlt,e⟩:=List.getElem?_eq_some_iff.1 J;rw[getElem?_pos (⟨⟨s⟩⟩:ByteArray) i.toNat (by simpa[ByteArray.size]using hlt)];exact congrArg some e
    exact⟨.int .u8 b.toNat,by simp[Instr.index,Ah w hu,asIntOf,I,hs'],.int _ _⟩
  ·cases h
 ·cases h
theorem NA{ts:Array TypeId}{ty:TypeId}{x:AD}{x':Value}{v:AD}(B:VR m x x')(h:SJ P ts x=some v):
  ∃v',(Builtin.len_ ts ty #[x']).run P w=.ok v' w/\VR m v v':=by
 unfold SJ at h;split at h
 ·cases h
 ·rename_i t Y;split at h
  ·rename_i s hu;have:=B.C3;subst this;injection h with h;subst h;exact⟨.int .i64 s.length,by simp[Builtin.len_,Y,Ah w hu,goInt,show(⟨⟨s⟩⟩:ByteArray).size=s.length from rfl],.int _ _⟩
  ·rename_i n e y hu;injection h with h;subst h;exact⟨_,by simp[Builtin.len_,Y,Ah w hu,goInt],.int _ _⟩
  ·rename_i e r n hu;injection h with h;subst h;cases B<;>exact⟨_,by simp[Builtin.len_,Y,Ah w hu,goInt];try rfl,.int _ _⟩
  ·cases h
theorem F1(mx:Bool):∀(r:List AD) (r':List Value) (x:AD) (x':Value) (v:AD),VR m x x'->B5 m r r'->HX mx x r=some v->
  ∃v',(r'.foldlM (if mx then Builtin.max2 else Builtin.min2) x').run P w=.ok v' w/\VR m v v'
 |[],r',x,x',v,B,M,h=>by
  have:r'=[]:=xi (by simpa using M.1.symm);subst this;simp[HX]at h;subst h;exact⟨x',by simp,B⟩
 |y::r,[],x,x',v,B,M,h=>by simp[B5]at M
 | y::r,y'::r',x,x',v,B,M,h=>by
  have K:VR m y y':=M.2 0 y y' rfl rfl;have hr':B5 m r r':=⟨by simpa using M.1,λi a b ha I=>M.2 (i+1) a b (by simpa using ha) (by simpa using I)⟩;unfold HX at h;split at h
  ·rename_i heq;cases heq
  ·rename_i k a k' b r2 heq;injection heq with e1 e2;subst e1;subst e2;have:=B.CG;subst this;have:=K.CG;subst this;split at h
   ·rename_i Z;subst Z;obtain⟨v',h1,G⟩:=F1 mx r r' _ _ v (.int k _) hr' h;refine⟨v',?_,G⟩;cases mx<;>simpa[Builtin.max2,Builtin.min2]using h1
   ·cases h
  ·cases h
theorem J9(off:Nat):∀(l:List Value) (k:Nat) (cs:Array Value),off+k+l.length<=cs.size->
  (l.zipIdx k).foldl (λ(cs:Array Value) (x:Value×Nat)=>cs.setIfInBounds (off+x.2) x.1) cs=⟨cs.toList.take (off+k)++(l++cs.toList.drop (off+k+l.length))⟩
 |[],k,cs,h=>by simp
 | v::l,k,cs,h=>by
  simp only[List.zipIdx_cons,List.foldl_cons];simp only[xo]at h;rw[J9 off l (k+1) _ (by simp;omega)];generalize hL:cs.toList=L;have hlen:L.length=cs.size:=by rw[<-hL];simp
  have e:(cs.setIfInBounds (off+k) v).toList=L.take (off+k)++v::L.drop (off+k+1):=by
   rw[wd,hL,xy,xf (by omega)]
  have Q:(L.take (off+k)).length=off+k:=by simp;omega
  rw[e,show off+(k+1)+l.length=(L.take (off+k)).length+(1+l.length) by omega,xZ,
   show off+(k+1)=(L.take (off+k)).length+1 by omega,wa,xU,show 1+l.length=l.length+1 by omega,List.drop_succ_cons,we]
  simp only[List.take_succ_cons,List.take_zero,xL,xP,xo];rw[show off+k+1+l.length=off+k+(l.length+1) by omega]
theorem GO{place:Nat->Option (Nat×Nat)}:∀(parts:List (Nat×AD)) (parts':List (Nat×Value)) (cs:List AD) (ds:Array Value) (r:List AD),
  parts.length=parts'.length->(∀(j i i':Nat) (x:AD) (y:Value),parts[j]?=some (i,x)->parts'[j]?=some (i',y)->i=i'/\VR m x y)->B5 m cs ds.toList->Hd place cs parts=some r->
  ∃ds',Instr.fill place ds parts'=some ds'/\B5 m r ds'.toList
 |[],parts',cs,ds,r,Q,_,hc,h=>by
  have:parts'=[]:=xi Q.symm;subst this;simp[Hd]at h;subst h;exact⟨ds,rfl,hc⟩
 |(i,x)::parts,[],_,_,_,Q,_,_,_=>by simp at Q
 | (i,x)::parts,(i',y)::parts',cs,ds,r,Q,W,hc,h=>by
  obtain⟨rfl,hxy⟩:=W 0 i i' x y rfl rfl;unfold Hd at h;split at h
  ·rename_i off size new hpl hnew;split at h
   ·rename_i I;have X:=hxy.cells hnew;have V:y.cells.size=size:=by rw[<-I.1,X.1];simp
    have hds:cs.length=ds.size:=by rw[hc.1];simp
    obtain⟨ds',h1,G⟩:=GO parts parts' _ ⟨ds.toList.take off++(y.cells.toList++ds.toList.drop (off+y.cells.toList.length))⟩ r (by simpa using Q)
     (λj a b u v hu X=>W (j+1) a b u v (by simpa using hu) (by simpa using X)) (hc.Cu X off) h
    refine⟨ds',?_,G⟩;have hcond:(y.cells.size≠size||off+y.cells.size>ds.size)=false:=by simp[V];omega
    have D:=J9 off y.cells.toList 0 ds (by simp[V];omega);simp only[Nat.add_zero]at D;rw[<-h1];simp only[Instr.fill,hpl];rw[xd (by simpa using hcond)];congr 1;rw[<-D,<-Array.foldl_toList,Array.toList_zipIdx]
   ·cases h
  ·cases h
theorem Fp{t:TypeId}{v:AD}(h:GN P t=some v):∃i z,P.info? t=some i/\i.zero=some z/\VR m v z:=by
 unfold GN at h;cases hi:P.info? t with
 |none=>simp[hi]at h
 | some i=>
  simp only[hi]at h;cases F:i.zero with
  |none=>simp[F]at h
  |some z=>
   simp only[F,q8,qU]at h;subst h;exact⟨i,z,rfl,F,VR.Pf m z⟩
theorem Ln{t:TypeId}{parts:List (Nat×AD)}{parts':List (Nat×Value)}{v:AD}(Q:parts.length=parts'.length)
  (W:∀(j i i':Nat) (x:AD) (y:Value),parts[j]?=some (i,x)->parts'[j]?=some (i',y)->i=i'/\VR m x y) (h:Mx P t parts=some v):
  ∃cells,P.built t parts'=some cells/\VR m v (.agg cells):=by
 unfold Mx at h;split at h
 ·rename_i n e z hu F;cases H:GN P t with
  |none=>simp[H]at F
  | some zv=>
   simp only[H,qQ]at F;obtain⟨i,zz,hi,T,S⟩:=Fp (m:=m) H;cases J:B9 P e with
   |none=>simp[J]at h
   | some n'=>
    simp only[J,qQ]at h;cases D:Hd (λi=>some (i*n',n')) z parts with
    |none=>simp[D]at h
    | some r=>
     simp only[D,q8,qU]at h;subst h;obtain⟨ds',h1,G⟩:=GO (m:=m) parts parts' z zz.cells r Q W (S.cells F) D;unfold B9 at J;cases U:P.info? e with
     |none=>simp[U]at J
     |some ie=>
      simp[U]at J;subst J;exact⟨ds',by simp[Program.built,hi,hu,T,U,h1],B5.agg G⟩
 ·rename_i fs z hu F;cases H:GN P t with
  |none=>simp[H]at F
  | some zv=>
   simp only[H,qQ]at F;obtain⟨i,zz,hi,T,S⟩:=Fp (m:=m) H;cases J:LY P fs.toList with
   |none=>simp[J]at h
   | some ps=>
    simp only[J,qQ]at h;cases D:Hd (ps[·]?) z parts with
    |none=>simp[D]at h
    |some r=>
     simp only[D,q8,qU]at h;subst h;obtain⟨ds',h1,G⟩:=GO (m:=m) parts parts' z zz.cells r Q W (S.cells F) D;unfold LY at J;exact⟨ds',by simp[Program.built,hi,hu,T,J,h1],B5.agg G⟩
 ·cases h
theorem Kn{fr:Fr}{a:Act}(D:FR m fr a){o:Oper}{v:AD}(h:Gj P fr o.op=some v):∃v',(execOp a.eval o).run P w=.ok (.value v') w/\VR m v v':=by
 obtain⟨dst,op,ty,pos,aft,gd⟩:=o;simp only at h;have lift:∀{s:Sem Value} {u:AD},(∃v',s.run P w=.ok v' w/\VR m u v')->∃v',(do pure (.value (<-s)):Sem Next).run P w=.ok (.value v') w/\VR m u v':=by
  rintro s u ⟨v',h1,G⟩;exact⟨v',by simp[h1],G⟩
 cases op with
 |move x=>simp only[Gj,qU]at h;subst h;exact⟨_,rfl,D.ev x⟩
 |assign x=>simp only[Gj,qU]at h;subst h;exact⟨_,rfl,D.ev x⟩
 | pick c x y=>
  simp only[Gj]at h;split at h
  ·rename_i b I;have hc:=D.ev c;rw[I]at hc;have hc:=hc.Gl;injection h with h;subst h;cases b
   ·exact⟨a.eval y,by simp[execOp,asBool,hc],D.ev y⟩
   ·exact⟨a.eval x,by simp[execOp,asBool,hc],D.ev x⟩
  ·cases h
 | build t parts=>
  simp only[Gj]at h
  obtain⟨cells,h1,G⟩:=Ln (m:=m) (parts':=(parts.map λ(i,x)=>(i,a.eval x)).toList) (by simp) (λj i i' x y B K=>by
   simp only[List.getElem?_map,xW]at B K;cases hj:parts.toList[j]? with
   |none=>simp[hj]at B
   |some p=>
    simp only[hj,q8,qU,qW]at B K;obtain⟨rfl,rfl⟩:=B;obtain⟨rfl,rfl⟩:=K
    exact⟨rfl,D.ev p.2⟩) h
  exact lift ⟨_,run_build w t _ cells h1,G⟩
 | nilCheck x=>
  simp only[Gj]at h;split at h
  ·rename_i r M;have B:=D.ev x;rw[M]at B;injection h with h;subst h;cases he:a.eval x<;>rw[he]at B<;>try (cases B;done)
   rename_i p;cases p with
   |none=>cases B
   |some p=>exact⟨.pointer (some p),by simp[execOp,he],B⟩
  ·rename_i g o M;have B:=D.ev x;rw[M]at B;injection h with h;subst h;cases he:a.eval x<;>rw[he]at B<;>try (cases B;done)
   rename_i p;cases p with
   |none=>cases B
   |some p=>exact⟨.pointer (some p),by simp[execOp,he],B⟩
  ·rename_i f b c M;have B:=D.ev x;rw[M]at B;injection h with h;subst h;cases he:a.eval x<;>rw[he]at B<;>try (cases B;done)
   rename_i fn c d;have:fn=.func f:=by cases B;rfl
   subst this;exact⟨.func (.func f) c d,by simp[execOp,he],B⟩
  ·cases h
 |binOp op t x y yt=>simp only[Gj]at h;exact lift (M0 w (D.ev x) (D.ev y) h)
 |unOp op t x=>simp only[Gj]at h;exact lift (OI w (D.ev x) h)
 |fieldAddr s x f=>simp only[Gj]at h;exact lift (I2 w (D.ev x) h)
 |field s x f=>simp only[Gj]at h;exact lift (Ll w (D.ev x) h)
 |indexAddr t x i=>simp only[Gj]at h;exact lift (Iu w (D.ev x) (D.ev i) h)
 |index t x i=>simp only[Gj]at h;exact lift (LM w (D.ev x) (D.ev i) h)
 | call c=>
  obtain⟨callee,asE9,ts⟩:=c;cases callee with
  |value f=>simp[Gj]at h
  |invoke r mth=>simp[Gj]at h
  | builtin b=>
   simp only[Gj]at h;have C:=D.U1 asE9.toList;have hargs:(asE9.map a.eval).toList=asE9.toList.map a.eval:=by simp
   have res:∀(w:World),(resolve a.eval {callee:=.builtin b,args:=asE9,argTypes:=ts} ty).run P w=.ok {target:=.builtin b ts ty (asE9.map fun| .const _=>true|_=>false),args:=asE9.map a.eval} w:=λw=>rfl;split at h
   ·rename_i x heq;obtain⟨x',hx',hvx⟩:∃x',asE9.map a.eval=#[x']/\VR m x x':=by
     rw[heq]at C;have hlen:(asE9.toList.map a.eval).length=1:=by rw[<-C.1];rfl
     match N:asE9.toList.map a.eval,hlen with
     |[x'],_=>exact⟨x',Array.ext' (by simpa using N),C.2 0 x x' rfl (by rw[N];rfl)⟩
    obtain⟨v',h1,G⟩:=NA (P:=P) (m:=m) (ty:=ty) w hvx h;exact⟨v',by simp[execOp,res,invoke,builtin,hx',h1],G⟩
   ·rename_i x r heq;rw[heq]at C
    match N:asE9.toList.map a.eval with
    |[]=>rw[N]at C;simp[B5]at C
    |x'::r'=>
     rw[N]at C;obtain⟨v',h1,G⟩:=F1 (P:=P) w false r r' x x' v (C.2 0 x x' rfl rfl) ⟨by simpa using C.1,λi u z hu F=>C.2 (i+1) u z (by simpa using hu) (by simpa using F)⟩ h;refine⟨v',?_,G⟩;simp only[xw,if_false]at h1;simp[execOp,res,invoke,builtin,Builtin.min_,N,h1]
   ·rename_i x r heq;rw[heq]at C
    match N:asE9.toList.map a.eval with
    |[]=>rw[N]at C;simp[B5]at C
    |x'::r'=>
     rw[N]at C;obtain⟨v',h1,G⟩:=F1 (P:=P) w true r r' x x' v (C.2 0 x x' rfl rfl) ⟨by simpa using C.1,λi u z hu F=>C.2 (i+1) u z (by simpa using hu) (by simpa using F)⟩ h;refine⟨v',?_,G⟩;simp only[if_true]at h1;simp[execOp,res,invoke,builtin,Builtin.max_,N,h1]
   ·cases h
 |_=>simp[Gj]at h
end
end Go.Abs
