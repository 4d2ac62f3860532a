/-
 A part.
-/
import Derived.Test.YthhonebaoidfgaaGreatDoorAvEq
set_option linter.unusedSimpArgs false
namespace Go.Av
open Go.RowKit
section
variable {P:Program} {m:Bk} (w:World)
theorem VR.C9{k:IntKind}{n:Int}{v:Value}(h:VR m (.int k n) v):v=.int k n:=by cases h;rfl
theorem VR.Ll{b:Bool}{v:Value}(h:VR m (.bool b) v):v=.bool b:=by cases h;rfl
theorem MP{op:BinOp}{t:TypeId}{k:IntKind}{a b:Int}{v:AD}(h:QH op k a b=some v):
  ∃v',(binOp op t (.int k a) (.int k b)).run P w=.ok v' w/\VR m v v':=by
 cases op<;>simp[QH]at h
 case quo=>obtain⟨G,rfl⟩:=h;exact⟨_,by simp[binOp,Op.intDiv,G],.int _ _⟩
 case rem=>obtain⟨G,rfl⟩:=h;exact⟨_,by simp[binOp,Op.intDiv,G],.int _ _⟩
 all_goals subst h
 case add=>exact⟨_,by simp[binOp,Op.intArith],.int _ _⟩
 case sub=>exact⟨_,by simp[binOp,Op.intArith],.int _ _⟩
 case mul=>exact⟨_,by simp[binOp,Op.intArith],.int _ _⟩
 case and=>exact⟨.int k (k.wrap (BitVec.ofInt k.bits a &&& BitVec.ofInt k.bits b).toNat),by simp[binOp,Op.intBits],by simpa using VR.int (m:=m) k _⟩
 case or=>exact⟨.int k (k.wrap (BitVec.ofInt k.bits a ||| BitVec.ofInt k.bits b).toNat),by simp[binOp,Op.intBits],by simpa using VR.int (m:=m) k _⟩
 case xor=>exact⟨.int k (k.wrap (BitVec.ofInt k.bits a ^^^ BitVec.ofInt k.bits b).toNat),by simp[binOp,Op.intBits],by simpa using VR.int (m:=m) k _⟩
 case andNot=>exact⟨.int k (k.wrap (BitVec.ofInt k.bits a &&& ~~~BitVec.ofInt k.bits b).toNat),by simp[binOp,Op.intBits],by simpa using VR.int (m:=m) k _⟩
 all_goals exact⟨_,by simp[binOp,Op.intCmp];rfl,by first|exact .bool _|simpa using VR.bool (m:=m) _⟩
theorem PK{op:BinOp}{t:TypeId}{k yk:IntKind}{a b:Int}{v:AD}(h:Un op k a b=some v):
  ∃v',(binOp op t (.int k a) (.int yk b)).run P w=.ok v' w/\VR m v v':=by
 unfold Un at h;split at h
 ·cases h
 ·rename_i G;cases op<;>simp at h
  case shl=>subst h;exact⟨_,by simp[binOp,Op.shift,G],.int _ _⟩
  case shr=>subst h;exact⟨_,by simp[binOp,Op.shift,G],.int _ _⟩
theorem VT{op:BinOp}{t:TypeId}{a b:List UInt8}{v:AD}(h:Uu op a b=some v):
  ∃v',(binOp op t (.string ⟨⟨a⟩⟩) (.string ⟨⟨b⟩⟩)).run P w=.ok v' w/\VR m v v':=by
 have ea:ByteArray.toList ⟨⟨a⟩⟩=a:=by rw[ByteArray.toList_eq]
 have eb:ByteArray.toList ⟨⟨b⟩⟩=b:=by rw[ByteArray.toList_eq]
 cases op<;>simp[Uu]at h
 case add=>
  obtain⟨T,rfl⟩:=h;refine⟨.string (⟨⟨a⟩⟩++⟨⟨b⟩⟩),?_,?_⟩
  ·have:¬((9223372036854775807:Int)<((⟨⟨a⟩⟩:ByteArray).size:Int)+((⟨⟨b⟩⟩:ByteArray).size:Int)):=by
    simp[ByteArray.size];omega
   simp[binOp,Op.stringOp,this]
  ·have:=VR.str (m:=m) (⟨⟨a⟩⟩++⟨⟨b⟩⟩);simpa[ByteArray.append,ByteArray.data_append]using this
 all_goals subst h;exact⟨_,by simp[binOp,Op.stringOp,ea,eb];rfl,by first|exact .bool _|simpa using VR.bool (m:=m) _⟩
theorem GQ{op:BinOp}{t:TypeId}{ox oy:Operand}{x y:Value}{v:Value}(Q:(eqGuard op t ox oy x y).run P w=.ok () w)(h:(binOp op t x y).run P w=.ok v w):
  (do eqGuard op t ox oy x y;binOp op t x y:Sem Value).run P w=.ok v w:=by
 rw[Sem.run_bind,Q];exact h
theorem JX{op:BinOp}{t:TypeId}{ox oy:Operand}{x y:Value}(B:∀a,x≠.agg a)(hn:x≠.nilIface):(eqGuard op t ox oy x y).run P w=.ok () w:=by
 cases x<;>first|exact absurd rfl hn|exact absurd rfl (B _)|(cases op<;>simp[eqGuard])
theorem Hn{op:BinOp}{t:TypeId}{x y:Value}{b:Bool}(hi:∀k n,x≠.int k n)(I:∀s,x≠.string s)(D:∀k n,x≠.float k n)(hc:∀k a b,x≠.complex k a b)
  (hop:op=.eql\/op=.neq) (h:(Op.equalIn 10000 t x y).run P w=.ok b w):(binOp op t x y).run P w=.ok (.bool (if op=.eql then b else !b)) w:=by
 rcases hop with rfl|rfl<;>cases x<;>
  first
   |exact absurd rfl (hi _ _)|exact absurd rfl (I _)|exact absurd rfl (D _ _)|exact absurd rfl (hc _ _ _)
   |simp[binOp,Op.equal,Op.maxDepth,h]
theorem XF{op:BinOp}{t:TypeId}{ox oy:Operand}{x y:AD}{x' y':Value}{v:AD}(B:VR m x x')(J:VR m y y')(h:W6 P op t x y=some v):
  ∃v',(do eqGuard op t ox oy x' y';binOp op t x' y':Sem Value).run P w=.ok v' w/\VR m v v':=by
 unfold W6 at h;split at h
 ·-- int, int
  rename_i k a k' b;have:=B.C9;subst this;have:=J.C9;subst this;have Q:=JX (P:=P) w (op:=op) (t:=t) (ox:=ox) (oy:=oy) (x:=.int k a) (y:=.int k' b) (λa h=>by cases h) (λh=>by cases h);split at h
  ·obtain⟨v',h1,h2⟩:=PK (P:=P) (m:=m) (t:=t) (yk:=k') w h;exact⟨v',GQ w Q h1,h2⟩
  ·obtain⟨v',h1,h2⟩:=PK (P:=P) (m:=m) (t:=t) (yk:=k') w h;exact⟨v',GQ w Q h1,h2⟩
  ·split at h
   ·rename_i hk;subst hk;obtain⟨v',h1,h2⟩:=MP (P:=P) (m:=m) (t:=t) w h;exact⟨v',GQ w Q h1,h2⟩
   ·cases h
 ·rename_i a b;have:=B.Em;subst this;have:=J.Em;subst this;have Q:=JX (P:=P) w (op:=op) (t:=t) (ox:=ox) (oy:=oy) (x:=.string ⟨⟨a⟩⟩) (y:=.string ⟨⟨b⟩⟩) (λa h=>by cases h) (λh=>by cases h);obtain⟨v',h1,h2⟩:=VT (P:=P) (m:=m) (t:=t) w h;exact⟨v',GQ w Q h1,h2⟩
 ·rename_i xs ys;obtain⟨xs',rfl,vx⟩:=B.Hf;obtain⟨ys',rfl,vy⟩:=J.Hf;split at h
  ·cases h
  ·rename_i hgt;have Q:=run_eqGuard_agg (P:=P) w op t ox oy xs' ys' (by simpa using hgt);split at h
   ·cases he:Il P 10000 t (.agg xs) (.agg ys)with
    |none=>simp[he]at h
    |some b=>
     simp only[he,zh,zb]at h;subst h;exact⟨_,GQ w Q (Hn w (by simp) (by simp) (by simp) (by simp) (.inl rfl) (LA w _ _ _ _ _ _ _ B J he)),by simpa using VR.bool (m:=m) b⟩
   ·cases he:Il P 10000 t (.agg xs) (.agg ys)with
    |none=>simp[he]at h
    |some b=>
     simp only[he,zh,zb]at h;subst h;exact⟨_,GQ w Q (Hn w (by simp) (by simp) (by simp) (by simp) (.inr rfl) (LA w _ _ _ _ _ _ _ B J he)),by simpa using VR.bool (m:=m) (!b)⟩
   ·cases h
 ·split at h
  ·rename_i S;have hne:(∀k n,x'≠.int k n)/\(∀s,x'≠.string s)/\(∀k n,x'≠.float k n)/\(∀k a b,x'≠.complex k a b)/\(∀a,x'≠.agg a)/\x'≠.nilIface:=by
    cases B<;>simp[dK]at S<;>simp
   obtain⟨a1,a2,a3,a4,a5,a6⟩:=hne;split at h
   ·cases he:Il P 10000 t x y with
    |none=>simp[he]at h
    |some b=>
     simp only[he,zh,zb]at h;subst h;exact⟨_,GQ w (JX w a5 a6) (Hn w a1 a2 a3 a4 (.inl rfl) (LA w _ _ _ _ _ _ _ B J he)),by simpa using VR.bool (m:=m) b⟩
   ·cases he:Il P 10000 t x y with
    |none=>simp[he]at h
    |some b=>
     simp only[he,zh,zb]at h;subst h;exact⟨_,GQ w (JX w a5 a6) (Hn w a1 a2 a3 a4 (.inr rfl) (LA w _ _ _ _ _ _ _ B J he)),by simpa using VR.bool (m:=m) (!b)⟩
   ·cases h
  ·cases h
theorem XI{op:BinOp}{t:TypeId}{ox oy:Operand}{x y:AD}{x' y':Value}{v:AD}(B:VR m x x')(J:VR m y y')(h:Vu P op t (iH ox||iH oy) x y=some v):
  ∃v',(do eqGuard op t ox oy x' y';binOp op t x' y':Sem Value).run P w=.ok v' w/\VR m v v':=by
 unfold Vu at h;split at h
 ·cases B;cases J;unfold jW at h;split at h
  ·rename_i ms hu;cases hc:(iH ox||iH oy)with
   |false=>rw[hc]at h;cases h
   | true=>
    rw[hc]at h;have Q:(eqGuard op t ox oy .nilIface .nilIface).run P w=.ok () w:=by
     cases ox<;>cases oy<;>simp[iH]at hc<;>cases op<;>simp[eqGuard]
    have hd:∀d,(Op.equalIn (d+1) t .nilIface .nilIface).run P w=.ok true w:=by
     intro d;simp[Op.equalIn,BE w hu]
    have he:(Op.equalIn 10000 t .nilIface .nilIface).run P w=.ok true w:=hd 9999;simp only[zL]at h;split at h
    ·injection h with h;subst h;exact⟨_,GQ w Q (Hn w (by simp) (by simp) (by simp) (by simp) (.inl rfl) he),by simpa using VR.bool (m:=m) true⟩
    ·injection h with h;subst h;exact⟨_,GQ w Q (Hn w (by simp) (by simp) (by simp) (by simp) (.inr rfl) he),by simpa using VR.bool (m:=m) false⟩
    ·cases h
  ·cases h
 ·exact XF w B J h
theorem Zr{op:UnOp}{x:AD}{x':Value}{v:AD}(B:VR m x x')(h:lJ op x=some v):∃v',(Op.unary op x').run P w=.ok v' w/\VR m v v':=by
 unfold lJ at h;split at h
 ·have:=B.C9;subst this;obtain⟨v',h1,h2⟩:=MP (P:=P) (m:=m) (t:=0) w h;exact⟨v',by simpa[Op.unary,binOp]using h1,h2⟩
 ·have:=B.C9;subst this;obtain⟨v',h1,h2⟩:=MP (P:=P) (m:=m) (t:=0) w h;exact⟨v',by simpa[Op.unary,binOp]using h1,h2⟩
 ·have:=B.Ll;subst this;injection h with h;subst h;exact⟨_,by simp[Op.unary],.bool _⟩
 ·cases h
theorem Wj{src dst:TypeId}{x:AD}{x':Value}{v:AD}(B:VR m x x')(h:a8 P src dst x=some v):∃v',(convert src dst x').run P w=.ok v' w/\VR m v v':=by
 unfold a8 at h;split at h
 ·rename_i d k k' n I hd;have:=B.C9;subst this;injection h with h;subst h;exact⟨_,by simp[convert,BE w I,BE w hd,Conv.intToInt],.int _ _⟩
 ·rename_i d s I hd;have:=B.Em;subst this;injection h with h;subst h;exact⟨.string ⟨⟨s⟩⟩,by simp[convert,BE w I,BE w hd],.str ⟨⟨s⟩⟩⟩
 ·rename_i d k n I hd;have:=B.C9;subst this;injection h with h;subst h;exact⟨.string (Utf8.encode n),by simp[convert,BE w I,BE w hd,Conv.intToString],.str _⟩
 ·cases h
def iE(m:Bk):Option AD->Option Value->Prop
 |none,none=>True
 |some a,some v=>VR m a v
 |_,_=>False
theorem JU{k:IntKind}{n:Int}{y:Nat}{c:BoundsCode}(h0:0<=n)(h1:n<=y):(Instr.sliceBound (.int k n) y c).run P w=.ok n.toNat w:=by
 simp[Instr.sliceBound,asIntOf,h0,h1]
theorem HF{n c:Nat}{lo hi:Option AD}{lo' O:Option Value}{l u:Nat}(isS:Bool)(N:iE m lo lo')(U:iE m hi O)(hc:n<=c)(h:GW n lo hi=some (l,u)):
  (Instr.sliceBounds isS n c lo' O none).run P w=.ok (l,u,c) w/\l<=u/\u<=n:=by
 unfold GW at h;split at h
 ·rename_i k a;cases O with
  |none=>exact U.elim
  | some v=>
   have:v=.int k a:=VR.C9 U;subst this;split at h
   ·rename_i G;obtain⟨b0,b1⟩:=G;split at h
    ·rename_i k2 b;cases lo' with
     |none=>exact N.elim
     | some v=>
      have:v=.int k2 b:=VR.C9 N;subst this;split at h
      ·rename_i W;injection h with h;injection h with h1 h2;subst h1;subst h2;refine⟨?_,by omega,by omega⟩;simp[Instr.sliceBounds,JU (P:=P) w b0 (show a<=(c:Int) by omega),JU (P:=P) w W.1 (show b<=(a.toNat:Int) by omega)]
      ·cases h
    ·cases h
    ·cases lo' with
     |some v=>exact N.elim
     |none=>
      injection h with h;injection h with h1 h2;subst h1;subst h2;refine⟨?_,by omega,by omega⟩;simp[Instr.sliceBounds,JU (P:=P) w b0 (show a<=(c:Int) by omega)]
   ·cases h
 ·cases h
 ·cases O with
  |some v=>exact U.elim
  | none=>
   split at h
   ·rename_i k2 b;cases lo' with
    |none=>exact N.elim
    | some v=>
     have:v=.int k2 b:=VR.C9 N;subst this;split at h
     ·rename_i W;injection h with h;injection h with h1 h2;subst h1;subst h2;refine⟨?_,by omega,by omega⟩;simp[Instr.sliceBounds,JU (P:=P) w W.1 W.2]
     ·cases h
   ·cases h
   ·cases lo' with
    |some v=>exact N.elim
    |none=>
     injection h with h;injection h with h1 h2;subst h1;subst h2;exact⟨by simp[Instr.sliceBounds],by omega,by omega⟩
theorem Ob(s:List UInt8)(l u:Nat):(⟨⟨s⟩⟩:ByteArray).extract l u=⟨⟨(s.drop l).take (u - l)⟩⟩:=by
 apply ByteArray.ext;rw[ByteArray.data_extract];apply Array.ext';simp[xC]
theorem VE{t:TypeId}{x:AD}{x':Value}{lo hi:Option AD}{lo' O:Option Value}{v:AD}(B:VR m x x')(N:iE m lo lo')(U:iE m hi O)(h:U4 P t x lo hi=some v):
  ∃v',(Instr.sliceAt t x' lo' O none).run P w=.ok v' w/\VR m v v':=by
 unfold U4 at h;split at h
 ·rename_i s hu;have:=B.Em;subst this;cases G:GW s.length lo hi with
  |none=>simp[G]at h
  |some lu=>
   obtain⟨l,u⟩:=lu;simp only[G,zh,zb]at h;subst h;have hbs:=(HF (P:=P) w (c:=s.length) false N U (zw _) G).1;refine⟨.string ⟨⟨(s.drop l).take (u - l)⟩⟩,?_,.str ⟨⟨(s.drop l).take (u - l)⟩⟩⟩;simp only[Instr.sliceAt,Instr.slice,Sem.run_bind,BE w hu,Result.andThen_ok];simp[show(⟨⟨s⟩⟩:ByteArray).size=s.length from rfl,hbs,Ob]
 ·cases h
theorem Qd{t:TypeId}{x:AD}{x':Value}{f:Nat}{v:AD}(B:VR m x x')(h:O5 P t x f=some v):
  ∃v',(Instr.fieldAt t x' f).run P w=.ok v' w/\VR m v v':=by
 unfold O5 at h;split at h
 ·rename_i fs id o hu;cases B with
  | ptr _ _ E hE=>
   split at h
   ·rename_i fd D;split at h
    ·cases h
    ·rename_i z F H;injection h with h;subst h;have K:z≠0:=F;refine⟨.pointer (some ⟨E.g,E.base+(o+fd.offset),none⟩),?_,.ptr _ _ E hE⟩;simp[Instr.fieldAt,BE w hu,D,Instr.sureAddr,fieldPlace,run_sizeOf w H,K,Addr.add_lit,yG]
    ·cases h
   ·cases h
 ·rename_i fs g o hu;cases B with
  | LV _ _=>
   split at h
   ·rename_i fd D;split at h
    ·cases h
    ·rename_i z F H;injection h with h;subst h;have K:z≠0:=F;refine⟨.pointer (some ⟨g,o+fd.offset,none⟩),?_,.LV _ _⟩;simp[Instr.fieldAt,BE w hu,D,Instr.sureAddr,fieldPlace,run_sizeOf w H,K,Addr.add_lit]
    ·cases h
   ·cases h
 ·rename_i fs cs hu;cases B with
  | Aw g o _ c V R=>
   split at h
   ·rename_i fd D;split at h
    ·cases h
    ·rename_i z F H;injection h with h;subst h;have K:z≠0:=F;refine⟨.pointer (some ⟨g,o+fd.offset,none⟩),?_,VR.OJ V R _⟩;simp[Instr.fieldAt,BE w hu,D,Instr.sureAddr,fieldPlace,run_sizeOf w H,K,Addr.add_lit]
    ·cases h
   ·cases h
 ·cases h
theorem VY{t:TypeId}{x:AD}{x':Value}{f:Nat}{v:AD}(B:VR m x x')(h:XM P t x f=some v):
  ∃v',(Instr.field t x' f).run P w=.ok v' w/\VR m v v':=by
 unfold XM at h;split at h
 ·rename_i fs cs hu;obtain⟨ds,rfl,vd⟩:=B.Hf;split at h
  ·rename_i fd D;obtain⟨y,h1,h2⟩:=Ja (P:=P) w vd h;exact⟨y,by simp[Instr.field,BE w hu,D,asAgg,h1],h2⟩
  ·cases h
 ·cases h
theorem QV{t:TypeId}{x i:AD}{x' i':Value}{v:AD}(B:VR m x x')(hi:VR m i i')(h:Kq P t x i=some v):
  ∃v',(Instr.indexAt t x' i').run P w=.ok v' w/\VR m v v':=by
 unfold Kq at h;split at h
 ·rename_i n e id o k i hu;have:=hi.C9;subst this;cases B with
  | ptr _ _ E hE=>
   split at h
   ·rename_i G;cases F:DK P e with
    |none=>simp[F]at h
    |some z=>
     simp only[F,zh,zb]at h;subst h;refine⟨.pointer (some ⟨E.g,E.base+(o+i.toNat*z),none⟩),?_,.ptr _ _ E hE⟩;simp[Instr.indexAt,BE w hu,asIntOf,Instr.sureAddr,G,run_sizeOf w F,Addr.add_lit,yG]
   ·cases h
 ·rename_i e id o n k i hu;have:=hi.C9;subst this;cases B with
  | slice _ _ _ cap E a hE T hc=>
   split at h
   ·rename_i G;obtain⟨ha,_⟩:=hc om;subst ha;cases F:DK P e with
    |none=>simp[F]at h
    |some z=>
     simp only[F,zh,zb]at h;subst h;refine⟨.pointer (some ⟨E.g,E.base+(o+i.toNat*z),none⟩),?_,.ptr _ _ E hE⟩;simp[Instr.indexAt,BE w hu,asIntOf,G,run_sizeOf w F,Addr.add_lit,yG]
   ·cases h
 ·rename_i n e g o k i hu;have:=hi.C9;subst this;cases B with
  | LV _ _=>
   split at h
   ·rename_i G;cases F:DK P e with
    |none=>simp[F]at h
    |some z=>
     simp only[F,zh,zb]at h;subst h;refine⟨.pointer (some ⟨g,o+i.toNat*z,none⟩),?_,.LV _ _⟩;simp[Instr.indexAt,BE w hu,asIntOf,Instr.sureAddr,G,run_sizeOf w F,Addr.add_lit]
   ·cases h
 ·rename_i n e cs k i hu;have:=hi.C9;subst this;cases B with
  | Aw g o _ c V R=>
   split at h
   ·rename_i G;cases F:DK P e with
    |none=>simp[F]at h
    |some z=>
     simp only[F,zh,zb]at h;subst h;refine⟨.pointer (some ⟨g,o+i.toNat*z,none⟩),?_,VR.OJ V R _⟩;simp[Instr.indexAt,BE w hu,asIntOf,Instr.sureAddr,G,run_sizeOf w F,Addr.add_lit]
   ·cases h
 ·rename_i e n cs k i hu;have:=hi.C9;subst this;split at h
  ·rename_i G;cases B with
   |L0=>omega
   | Im _ cap g o _ c hc V R=>
    cases F:DK P e with
    |none=>simp[F]at h
    | some z=>
     simp only[F,za]at h;split at h
     ·injection h with h;subst h;refine⟨.pointer (some ⟨g,o+i.toNat*z,none⟩),?_,VR.UM (VR.OJ V R _) _⟩;simp[Instr.indexAt,BE w hu,asIntOf,G,run_sizeOf w F,Addr.add_lit]
     ·cases h
  ·cases h
 ·cases h
theorem VU{t:TypeId}{x i:AD}{x' i':Value}{v:AD}(B:VR m x x')(hi:VR m i i')(h:QE P t x i=some v):
  ∃v',(Instr.index t x' i').run P w=.ok v' w/\VR m v v':=by
 unfold QE at h;split at h
 ·rename_i n e cs k i hu;have:=hi.C9;subst this;obtain⟨ds,rfl,vd⟩:=B.Hf;split at h
  ·rename_i G;cases F:DK P e with
   |none=>simp[F]at h
   |some z=>
    simp only[F,za]at h;obtain⟨y,h1,h2⟩:=Ja (P:=P) w vd h;exact⟨y,by simp[Instr.index,BE w hu,asIntOf,G,run_sizeOf w F,h1],h2⟩
  ·cases h
 ·rename_i s k i hu;have:=hi.C9;subst this;have:=B.Em;subst this;split at h
  ·rename_i G;cases I:s[i.toNat]? with
   |none=>simp[I]at h
   | some b=>
    simp only[I,zh,zb]at h;subst h;have hs':(⟨⟨s⟩⟩:ByteArray)[i.toNat]?=some b:=by
     obtain⟨hlt,e⟩:=List.getElem?_eq_some_iff.1 I;rw[getElem?_pos (⟨⟨s⟩⟩:ByteArray) i.toNat (by simpa[ByteArray.size]using hlt)];exact congrArg some e
    exact⟨.int .u8 b.toNat,by simp[Instr.index,BE w hu,asIntOf,G,hs'],.int _ _⟩
  ·cases h
 ·cases h
theorem Xs{ts:Array TypeId}{ty:TypeId}{x:AD}{x':Value}{v:AD}(B:VR m x x')(h:hD P ts x=some v):
  ∃v',(Builtin.len_ ts ty #[x']).run P w=.ok v' w/\VR m v v':=by
 unfold hD at h;split at h
 ·cases h
 ·rename_i t ht;split at h
  ·rename_i s hu;have:=B.Em;subst this;injection h with h;subst h;exact⟨.int .i64 s.length,by simp[Builtin.len_,ht,BE w hu,goInt,show(⟨⟨s⟩⟩:ByteArray).size=s.length from rfl],.int _ _⟩
  ·rename_i n e y hu;injection h with h;subst h;exact⟨_,by simp[Builtin.len_,ht,BE w hu,goInt],.int _ _⟩
  ·rename_i e r n hu;injection h with h;subst h;cases B<;>exact⟨_,by simp[Builtin.len_,ht,BE w hu,goInt];try rfl,.int _ _⟩
  ·rename_i e n cs hu;injection h with h;subst h;cases B<;>exact⟨_,by simp[Builtin.len_,ht,BE w hu,goInt];try rfl,.int _ _⟩
  ·cases h
theorem LX(mx:Bool):∀(r:List AD) (r':List Value) (x:AD) (x':Value) (v:AD),VR m x x'->DD m r r'->OG mx x r=some v->
  ∃v',(r'.foldlM (if mx then Builtin.max2 else Builtin.min2) x').run P w=.ok v' w/\VR m v v'
 |[],r',x,x',v,B,M,h=>by
  have:r'=[]:=zx (by simpa using M.1.symm);subst this;simp[OG]at h;subst h;exact⟨x',by simp,B⟩
 |y::r,[],x,x',v,B,M,h=>by simp[DD]at M
 | y::r,y'::r',x,x',v,B,M,h=>by
  have J:VR m y y':=M.2 0 y y' rfl rfl;have hr':DD m r r':=⟨by simpa using M.1,λi a b ha G=>M.2 (i+1) a b (by simpa using ha) (by simpa using G)⟩;unfold OG at h;split at h
  ·rename_i heq;cases heq
  ·rename_i k a k' b r2 heq;injection heq with e1 e2;subst e1;subst e2;have:=B.C9;subst this;have:=J.C9;subst this;split at h
   ·rename_i hk;subst hk;obtain⟨v',h1,h2⟩:=LX mx r r' _ _ v (.int k _) hr' h;refine⟨v',?_,h2⟩;cases mx<;>simpa[Builtin.max2,Builtin.min2]using h1
   ·cases h
  ·cases h
theorem Su(off:Nat):∀(l:List Value) (k:Nat) (cs:Array Value),off+k+l.length<=cs.size->
  (l.zipIdx k).foldl (λ(cs:Array Value) (x:Value×Nat)=>cs.setIfInBounds (off+x.2) x.1) cs=⟨cs.toList.take (off+k)++(l++cs.toList.drop (off+k+l.length))⟩
 |[],k,cs,h=>by simp
 | v::l,k,cs,h=>by
  simp only[List.zipIdx_cons,qd];simp only[zG]at h;rw[Su off l (k+1) _ (by simp;omega)];generalize hL:cs.toList=L;have hlen:L.length=cs.size:=by rw[<-hL];simp
  have e:(cs.setIfInBounds (off+k) v).toList=L.take (off+k)++v::L.drop (off+k+1):=by
   rw[xw,hL,yV,zl om]
  have T:(L.take (off+k)).length=off+k:=by simp;omega
  rw[e,show off+(k+1)+l.length=(L.take (off+k)).length+(1+l.length) by omega,qg,
   show off+(k+1)=(L.take (off+k)).length+1 by omega,qh,zC,show 1+l.length=l.length+1 by omega,qn,qr]
  simp only[qo,qE,yL,ye,zG];rw[show off+k+1+l.length=off+k+(l.length+1) by omega]
theorem K3{place:Nat->Option (Nat×Nat)}:∀(parts:List (Nat×AD)) (parts':List (Nat×Value)) (cs:List AD) (ds:Array Value) (r:List AD),
  parts.length=parts'.length->(∀(j i i':Nat) (x:AD) (y:Value),parts[j]?=some (i,x)->parts'[j]?=some (i',y)->i=i'/\VR m x y)->DD m cs ds.toList->Mi place cs parts=some r->
  ∃ds',Instr.fill place ds parts'=some ds'/\DD m r ds'.toList
 |[],parts',cs,ds,r,T,_,hc,h=>by
  have:parts'=[]:=zx T.symm;subst this;simp[Mi]at h;subst h;exact⟨ds,rfl,hc⟩
 |(i,x)::parts,[],_,_,_,T,_,_,_=>by simp at T
 | (i,x)::parts,(i',y)::parts',cs,ds,r,T,hp,hc,h=>by
  obtain⟨rfl,hxy⟩:=hp 0 i i' x y rfl rfl;unfold Mi at h;split at h
  ·rename_i off size new hpl hnew;split at h
   ·rename_i G;have R:=hxy.cells hnew;have hsz:y.cells.size=size:=by rw[<-G.1,R.1];simp
    have hds:cs.length=ds.size:=by rw[hc.1];simp
    obtain⟨ds',h1,h2⟩:=K3 parts parts' _ ⟨ds.toList.take off++(y.cells.toList++ds.toList.drop (off+y.cells.toList.length))⟩ r (by simpa using T)
     (λj a b u v hu R=>hp (j+1) a b u v (by simpa using hu) (by simpa using R)) (hc.FY R off) h
    refine⟨ds',?_,h2⟩;have hcond:(y.cells.size≠size||off+y.cells.size>ds.size)=false:=by simp[hsz];omega
    have D:=Su off y.cells.toList 0 ds (by simp[hsz];omega);simp only[yQ]at D;rw[<-h1];simp only[Instr.fill,hpl];rw[zj (by simpa using hcond)];congr 1;rw[<-D,<-Array.foldl_toList,Array.toList_zipIdx]
   ·cases h
  ·cases h
theorem Ie{t:TypeId}{v:AD}(h:Is P t=some v):∃i z,P.info? t=some i/\i.zero=some z/\VR m v z:=by
 unfold Is at h;cases hi:P.info? t with
 |none=>simp[hi]at h
 | some i=>
  simp only[hi]at h;cases F:i.zero with
  |none=>simp[F]at h
  |some z=>
   simp only[F,zh,zb]at h;subst h;exact⟨i,z,rfl,F,VR.dm m z⟩
theorem VO{t:TypeId}{parts:List (Nat×AD)}{parts':List (Nat×Value)}{v:AD}(T:parts.length=parts'.length)
  (hp:∀(j i i':Nat) (x:AD) (y:Value),parts[j]?=some (i,x)->parts'[j]?=some (i',y)->i=i'/\VR m x y) (h:Xp P t parts=some v):
  ∃cells,P.built t parts'=some cells/\VR m v (.agg cells):=by
 unfold Xp at h;split at h
 ·rename_i n e z hu F;cases H:Is P t with
  |none=>simp[H]at F
  | some zv=>
   simp only[H,za]at F;obtain⟨i,zz,hi,Y,X⟩:=Ie (m:=m) H;cases I:DK P e with
   |none=>simp[I]at h
   | some n'=>
    simp only[I,za]at h;cases D:Mi (λi=>some (i*n',n')) z parts with
    |none=>simp[D]at h
    | some r=>
     simp only[D,zh,zb]at h;subst h;obtain⟨ds',h1,h2⟩:=K3 (m:=m) parts parts' z zz.cells r T hp (X.cells F) D;unfold DK at I;cases Z:P.info? e with
     |none=>simp[Z]at I
     |some ie=>
      simp[Z]at I;subst I;exact⟨ds',by simp[Program.built,hi,hu,Y,Z,h1],DD.agg h2⟩
 ·rename_i fs z hu F;cases H:Is P t with
  |none=>simp[H]at F
  | some zv=>
   simp only[H,za]at F;obtain⟨i,zz,hi,Y,X⟩:=Ie (m:=m) H;cases I:Ux P fs.toList with
   |none=>simp[I]at h
   | some ps=>
    simp only[I,za]at h;cases D:Mi (ps[·]?) z parts with
    |none=>simp[D]at h
    |some r=>
     simp only[D,zh,zb]at h;subst h;obtain⟨ds',h1,h2⟩:=K3 (m:=m) parts parts' z zz.cells r T hp (X.cells F) D;unfold Ux at I;exact⟨ds',by simp[Program.built,hi,hu,Y,I,h1],DD.agg h2⟩
 ·cases h
theorem Yu{fr:Fr}{a:Act}(D:FR m fr a)(x:Option Operand):iE m (x.map (ev fr)) (x.map a.eval):=by
 cases x with
 |none=>trivial
 |some x=>exact D.ev x
theorem T0{fr:Fr}{a:Act}(D:FR m fr a){o:Oper}{v:AD}(h:Ku P fr o.op=some v):∃v',(execOp a.eval o).run P w=.ok (.value v') w/\VR m v v':=by
 obtain⟨dst,op,ty,pos,aft,gd⟩:=o;simp only at h;have lift:∀{s:Sem Value} {u:AD},(∃v',s.run P w=.ok v' w/\VR m u v')->∃v',(do pure (.value (<-s)):Sem Next).run P w=.ok (.value v') w/\VR m u v':=by
  rintro s u ⟨v',h1,h2⟩;exact⟨v',by simp[h1],h2⟩
 cases op with
 |move x=>simp only[Ku,zb]at h;subst h;exact⟨_,rfl,D.ev x⟩
 |assign x=>simp only[Ku,zb]at h;subst h;exact⟨_,rfl,D.ev x⟩
 | pick c x y=>
  simp only[Ku]at h;split at h
  ·rename_i b G;have hc:=D.ev c;rw[G]at hc;have hc:=hc.Ll;injection h with h;subst h;cases b
   ·exact⟨a.eval y,by simp[execOp,asBool,hc],D.ev y⟩
   ·exact⟨a.eval x,by simp[execOp,asBool,hc],D.ev x⟩
  ·cases h
 | build t parts=>
  simp only[Ku]at h
  obtain⟨cells,h1,h2⟩:=VO (m:=m) (parts':=(parts.map λ(i,x)=>(i,a.eval x)).toList) (by simp) (λj i i' x y B J=>by
   simp only[List.getElem?_map,qO]at B J;cases hj:parts.toList[j]? with
   |none=>simp[hj]at B
   |some p=>
    simp only[hj,zh,zb,ze]at B J;obtain⟨rfl,rfl⟩:=B;obtain⟨rfl,rfl⟩:=J
    exact⟨rfl,D.ev p.2⟩) h
  exact lift ⟨_,run_build w t _ cells h1,h2⟩
 | nilCheck x=>
  simp only[Ku]at h;split at h
  ·rename_i r M;have B:=D.ev x;rw[M]at B;injection h with h;subst h;cases he:a.eval x<;>rw[he]at B<;>try (cases B;done)
   rename_i p;cases p with
   |none=>cases B
   |some p=>exact⟨.pointer (some p),by simp[execOp,he],B⟩
  ·rename_i g o M;have B:=D.ev x;rw[M]at B;injection h with h;subst h;cases he:a.eval x<;>rw[he]at B<;>try (cases B;done)
   rename_i p;cases p with
   |none=>cases B
   |some p=>exact⟨.pointer (some p),by simp[execOp,he],B⟩
  ·rename_i cs M;have B:=D.ev x;rw[M]at B;injection h with h;subst h;cases he:a.eval x<;>rw[he]at B<;>try (cases B;done)
   rename_i p;cases p with
   |none=>cases B
   |some p=>exact⟨.pointer (some p),by simp[execOp,he],B⟩
  ·rename_i f b c M;have B:=D.ev x;rw[M]at B;injection h with h;subst h;cases he:a.eval x<;>rw[he]at B<;>try (cases B;done)
   rename_i fn c d;have:fn=.func f:=by cases B;rfl
   subst this;exact⟨.func (.func f) c d,by simp[execOp,he],B⟩
  ·cases h
 |binOp op t x y yt=>simp only[Ku]at h;exact lift (XI w (D.ev x) (D.ev y) h)
 |unOp op t x=>simp only[Ku]at h;exact lift (Zr w (D.ev x) h)
 |convert s d x=>simp only[Ku]at h;exact lift (Wj w (D.ev x) h)
 |makeFunc fn first cap=>
  simp only[Ku,zb]at h;subst h;refine lift ⟨.func fn (first.map a.eval) (cap.map a.eval),rfl,?_⟩;have h1:=D.KH first.toList;have h2:=D.KH cap.toList;exact .func _ _ _ _ _ (by simp) (λi x y B J=>h1.2 i x y B (by simpa using J)) (by simp) (λi x y B J=>h2.2 i x y B (by simpa using J))
 |slice t x lo hi mx=>
  cases mx with
  |some y=>simp[Ku]at h
  |none=>simp only[Ku]at h;exact lift (VE w (D.ev x) (Yu D lo) (Yu D hi) h)
 |fieldAddr s x f=>simp only[Ku]at h;exact lift (Qd w (D.ev x) h)
 |field s x f=>simp only[Ku]at h;exact lift (VY w (D.ev x) h)
 |indexAddr t x i=>simp only[Ku]at h;exact lift (QV w (D.ev x) (D.ev i) h)
 |index t x i=>simp only[Ku]at h;exact lift (VU w (D.ev x) (D.ev i) h)
 | extract x i=>
  simp only[Ku]at h;split at h
  ·rename_i vs M;have B:=D.ev x;rw[M]at B;obtain⟨c,hc,R⟩:=B.L4;obtain⟨y,J,hvy⟩:=R.at_ h;have hy':c[i]?=some y:=by simpa using J
   exact lift ⟨y,by simp[hc,Instr.extract,hy'],hvy⟩
  ·cases h
 | call c=>
  obtain⟨callee,asE9,ts⟩:=c;cases callee with
  |value f=>simp[Ku]at h
  |invoke r mth=>simp[Ku]at h
  | builtin b=>
   simp only[Ku]at h;have C:=D.KH asE9.toList;have hargs:(asE9.map a.eval).toList=asE9.toList.map a.eval:=by simp
   have res:∀(w:World),(resolve a.eval {callee:=.builtin b,args:=asE9,argTypes:=ts} ty).run P w=.ok {target:=.builtin b ts ty (asE9.map fun| .const _=>true|_=>false),args:=asE9.map a.eval} w:=λw=>rfl;split at h
   ·rename_i x heq;obtain⟨x',hx',hvx⟩:∃x',asE9.map a.eval=#[x']/\VR m x x':=by
     rw[heq]at C;have hlen:(asE9.toList.map a.eval).length=1:=by rw[<-C.1];rfl
     match S:asE9.toList.map a.eval,hlen with
     |[x'],_=>exact⟨x',Array.ext' (by simpa using S),C.2 0 x x' rfl (by rw[S];rfl)⟩
    obtain⟨v',h1,h2⟩:=Xs (P:=P) (m:=m) (ty:=ty) w hvx h;exact⟨v',by simp[execOp,res,invoke,builtin,hx',h1],h2⟩
   ·rename_i x r heq;rw[heq]at C
    match S:asE9.toList.map a.eval with
    |[]=>rw[S]at C;simp[DD]at C
    |x'::r'=>
     rw[S]at C;obtain⟨v',h1,h2⟩:=LX (P:=P) w false r r' x x' v (C.2 0 x x' rfl rfl) ⟨by simpa using C.1,λi u z hu F=>C.2 (i+1) u z (by simpa using hu) (by simpa using F)⟩ h;refine⟨v',?_,h2⟩;simp only[yM,if_false]at h1;simp[execOp,res,invoke,builtin,Builtin.min_,S,h1]
   ·rename_i x r heq;rw[heq]at C
    match S:asE9.toList.map a.eval with
    |[]=>rw[S]at C;simp[DD]at C
    |x'::r'=>
     rw[S]at C;obtain⟨v',h1,h2⟩:=LX (P:=P) w true r r' x x' v (C.2 0 x x' rfl rfl) ⟨by simpa using C.1,λi u z hu F=>C.2 (i+1) u z (by simpa using hu) (by simpa using F)⟩ h;refine⟨v',?_,h2⟩;simp only[if_true]at h1;simp[execOp,res,invoke,builtin,Builtin.max_,S,h1]
   ·cases h
 |_=>simp[Ku]at h
end
end Go.Av
