/-
 A part.
-/
import Derived.Test.YtgkbpgefomapgaaGreatDoorAvEq
set_option linter.unusedSimpArgs false
namespace Go.Av
open Go.RowKit
section
variable {P:Program} {m:CU} (w:World)
theorem VR.EN{k:IntKind}{n:Int}{v:Value}(h:VR m (.int k n) v):v=.int k n:=by cases h;rfl
theorem VR.K6{b:Bool}{v:Value}(h:VR m (.bool b) v):v=.bool b:=by cases h;rfl
theorem Ls{op:BinOp}{t:TypeId}{k:IntKind}{a b:Int}{v:AE}(h:QX op k a b=some v):
  ∃v',(binOp op t (.int k a) (.int k b)).run P w=.ok v' w/\VR m v v':=by
 cases op<;>simp[QX]at h
 case quo=>obtain⟨H,rfl⟩:=h;exact⟨_,by simp[binOp,Op.intDiv,H],.int _ _⟩
 case rem=>obtain⟨H,rfl⟩:=h;exact⟨_,by simp[binOp,Op.intDiv,H],.int _ _⟩
 all_goals subst h
 case add=>exact⟨_,by simp[binOp,Op.intArith],.int _ _⟩
 case sub=>exact⟨_,by simp[binOp,Op.intArith],.int _ _⟩
 case mul=>exact⟨_,by simp[binOp,Op.intArith],.int _ _⟩
 case and=>exact⟨.int k (k.wrap (BitVec.ofInt k.bits a &&& BitVec.ofInt k.bits b).toNat),by simp[binOp,Op.intBits],by simpa using VR.int (m:=m) k _⟩
 case or=>exact⟨.int k (k.wrap (BitVec.ofInt k.bits a ||| BitVec.ofInt k.bits b).toNat),by simp[binOp,Op.intBits],by simpa using VR.int (m:=m) k _⟩
 case xor=>exact⟨.int k (k.wrap (BitVec.ofInt k.bits a ^^^ BitVec.ofInt k.bits b).toNat),by simp[binOp,Op.intBits],by simpa using VR.int (m:=m) k _⟩
 case andNot=>exact⟨.int k (k.wrap (BitVec.ofInt k.bits a &&& ~~~BitVec.ofInt k.bits b).toNat),by simp[binOp,Op.intBits],by simpa using VR.int (m:=m) k _⟩
 all_goals exact⟨_,by simp[binOp,Op.intCmp];rfl,by first|exact .bool _|simpa using VR.bool (m:=m) _⟩
theorem Og{op:BinOp}{t:TypeId}{k yk:IntKind}{a b:Int}{v:AE}(h:Qz op k a b=some v):
  ∃v',(binOp op t (.int k a) (.int yk b)).run P w=.ok v' w/\VR m v v':=by
 unfold Qz at h;split at h
 ·cases h
 ·rename_i H;cases op<;>simp at h
  case shl=>subst h;exact⟨_,by simp[binOp,Op.shift,H],.int _ _⟩
  case shr=>subst h;exact⟨_,by simp[binOp,Op.shift,H],.int _ _⟩
theorem SP{op:BinOp}{t:TypeId}{a b:List UInt8}{v:AE}(h:S0 op a b=some v):
  ∃v',(binOp op t (.string ⟨⟨a⟩⟩) (.string ⟨⟨b⟩⟩)).run P w=.ok v' w/\VR m v v':=by
 have ea:ByteArray.toList ⟨⟨a⟩⟩=a:=by rw[ByteArray.toList_eq]
 have eb:ByteArray.toList ⟨⟨b⟩⟩=b:=by rw[ByteArray.toList_eq]
 cases op<;>simp[S0]at h
 case add=>
  obtain⟨U,rfl⟩:=h;refine⟨.string (⟨⟨a⟩⟩++⟨⟨b⟩⟩),?_,?_⟩
  ·have:¬((9223372036854775807:Int)<((⟨⟨a⟩⟩:ByteArray).size:Int)+((⟨⟨b⟩⟩:ByteArray).size:Int)):=by
    simp[ByteArray.size];omega
   simp[binOp,Op.stringOp,this]
  ·have:=VR.str (m:=m) (⟨⟨a⟩⟩++⟨⟨b⟩⟩);simpa[ByteArray.append,ByteArray.data_append]using this
 all_goals subst h;exact⟨_,by simp[binOp,Op.stringOp,ea,eb];rfl,by first|exact .bool _|simpa using VR.bool (m:=m) _⟩
theorem GU{op:BinOp}{t:TypeId}{ox oy:Operand}{x y:Value}{v:Value}(R:(eqGuard op t ox oy x y).run P w=.ok () w)(h:(binOp op t x y).run P w=.ok v w):
  (do eqGuard op t ox oy x y;binOp op t x y:Sem Value).run P w=.ok v w:=by
 rw[Sem.run_bind,R];exact h
theorem JD{op:BinOp}{t:TypeId}{ox oy:Operand}{x y:Value}(B:∀a,x≠.agg a)(hn:x≠.nilIface):(eqGuard op t ox oy x y).run P w=.ok () w:=by
 cases x<;>first|exact absurd rfl hn|exact absurd rfl (B _)|(cases op<;>simp[eqGuard])
theorem Hl{op:BinOp}{t:TypeId}{x y:Value}{b:Bool}(hi:∀k n,x≠.int k n)(J:∀s,x≠.string s)(D:∀k n,x≠.float k n)(hc:∀k a b,x≠.complex k a b)
  (hop:op=.eql\/op=.neq) (h:(Op.equalIn 10000 t x y).run P w=.ok b w):(binOp op t x y).run P w=.ok (.bool (if op=.eql then b else !b)) w:=by
 rcases hop with rfl|rfl<;>cases x<;>
  first
   |exact absurd rfl (hi _ _)|exact absurd rfl (J _)|exact absurd rfl (D _ _)|exact absurd rfl (hc _ _ _)
   |simp[binOp,Op.equal,Op.maxDepth,h]
theorem UU{op:BinOp}{t:TypeId}{ox oy:Operand}{x y:AE}{x' y':Value}{v:AE}(B:VR m x x')(K:VR m y y')(h:Ug P op t x y=some v):
  ∃v',(do eqGuard op t ox oy x' y';binOp op t x' y':Sem Value).run P w=.ok v' w/\VR m v v':=by
 unfold Ug at h;split at h
 ·-- int, int
  rename_i k a k' b;have:=B.EN;subst this;have:=K.EN;subst this;have R:=JD (P:=P) w (op:=op) (t:=t) (ox:=ox) (oy:=oy) (x:=.int k a) (y:=.int k' b) (λa h=>by cases h) (λh=>by cases h);split at h
  ·obtain⟨v',h1,G⟩:=Og (P:=P) (m:=m) (t:=t) (yk:=k') w h;exact⟨v',GU w R h1,G⟩
  ·obtain⟨v',h1,G⟩:=Og (P:=P) (m:=m) (t:=t) (yk:=k') w h;exact⟨v',GU w R h1,G⟩
  ·split at h
   ·rename_i hk;subst hk;obtain⟨v',h1,G⟩:=Ls (P:=P) (m:=m) (t:=t) w h;exact⟨v',GU w R h1,G⟩
   ·cases h
 ·rename_i a b;have:=B.Ff;subst this;have:=K.Ff;subst this;have R:=JD (P:=P) w (op:=op) (t:=t) (ox:=ox) (oy:=oy) (x:=.string ⟨⟨a⟩⟩) (y:=.string ⟨⟨b⟩⟩) (λa h=>by cases h) (λh=>by cases h);obtain⟨v',h1,G⟩:=SP (P:=P) (m:=m) (t:=t) w h;exact⟨v',GU w R h1,G⟩
 ·rename_i xs ys;obtain⟨xs',rfl,vx⟩:=B.Hn;obtain⟨ys',rfl,vy⟩:=K.Hn;split at h
  ·cases h
  ·rename_i hgt;have R:=run_eqGuard_agg (P:=P) w op t ox oy xs' ys' (by simpa using hgt);split at h
   ·cases he:Jc P 10000 t (.agg xs) (.agg ys)with
    |none=>simp[he]at h
    |some b=>
     simp only[he,zf,zd]at h;subst h;exact⟨_,GU w R (Hl w (by simp) (by simp) (by simp) (by simp) (.inl rfl) (Ka w _ _ _ _ _ _ _ B K he)),by simpa using VR.bool (m:=m) b⟩
   ·cases he:Jc P 10000 t (.agg xs) (.agg ys)with
    |none=>simp[he]at h
    |some b=>
     simp only[he,zf,zd]at h;subst h;exact⟨_,GU w R (Hl w (by simp) (by simp) (by simp) (by simp) (.inr rfl) (Ka w _ _ _ _ _ _ _ B K he)),by simpa using VR.bool (m:=m) (!b)⟩
   ·cases h
 ·split at h
  ·rename_i T;have hne:(∀k n,x'≠.int k n)/\(∀s,x'≠.string s)/\(∀k n,x'≠.float k n)/\(∀k a b,x'≠.complex k a b)/\(∀a,x'≠.agg a)/\x'≠.nilIface:=by
    cases B<;>simp[XR]at T<;>simp
   obtain⟨a1,a2,a3,a4,a5,a6⟩:=hne;split at h
   ·cases he:Jc P 10000 t x y with
    |none=>simp[he]at h
    |some b=>
     simp only[he,zf,zd]at h;subst h;exact⟨_,GU w (JD w a5 a6) (Hl w a1 a2 a3 a4 (.inl rfl) (Ka w _ _ _ _ _ _ _ B K he)),by simpa using VR.bool (m:=m) b⟩
   ·cases he:Jc P 10000 t x y with
    |none=>simp[he]at h
    |some b=>
     simp only[he,zf,zd]at h;subst h;exact⟨_,GU w (JD w a5 a6) (Hl w a1 a2 a3 a4 (.inr rfl) (Ka w _ _ _ _ _ _ _ B K he)),by simpa using VR.bool (m:=m) (!b)⟩
   ·cases h
  ·cases h
theorem VL{op:BinOp}{t:TypeId}{ox oy:Operand}{x y:AE}{x' y':Value}{v:AE}(B:VR m x x')(K:VR m y y')(h:VF P op t (Zr ox||Zr oy) x y=some v):
  ∃v',(do eqGuard op t ox oy x' y';binOp op t x' y':Sem Value).run P w=.ok v' w/\VR m v v':=by
 unfold VF at h;split at h
 ·cases B;cases K;unfold aq at h;split at h
  ·rename_i ms hu;cases hc:(Zr ox||Zr oy)with
   |false=>rw[hc]at h;cases h
   | true=>
    rw[hc]at h;have R:(eqGuard op t ox oy .nilIface .nilIface).run P w=.ok () w:=by
     cases ox<;>cases oy<;>simp[Zr]at hc<;>cases op<;>simp[eqGuard]
    have hd:∀d,(Op.equalIn (d+1) t .nilIface .nilIface).run P w=.ok true w:=by
     intro d;simp[Op.equalIn,BJ w hu]
    have he:(Op.equalIn 10000 t .nilIface .nilIface).run P w=.ok true w:=hd 9999;simp only[zY]at h;split at h
    ·injection h with h;subst h;exact⟨_,GU w R (Hl w (by simp) (by simp) (by simp) (by simp) (.inl rfl) he),by simpa using VR.bool (m:=m) true⟩
    ·injection h with h;subst h;exact⟨_,GU w R (Hl w (by simp) (by simp) (by simp) (by simp) (.inr rfl) he),by simpa using VR.bool (m:=m) false⟩
    ·cases h
  ·cases h
 ·exact UU w B K h
theorem Wb{op:UnOp}{x:AE}{x':Value}{v:AE}(B:VR m x x')(h:bx op x=some v):∃v',(Op.unary op x').run P w=.ok v' w/\VR m v v':=by
 unfold bx at h;split at h
 ·have:=B.EN;subst this;obtain⟨v',h1,G⟩:=Ls (P:=P) (m:=m) (t:=0) w h;exact⟨v',by simpa[Op.unary,binOp]using h1,G⟩
 ·have:=B.EN;subst this;obtain⟨v',h1,G⟩:=Ls (P:=P) (m:=m) (t:=0) w h;exact⟨v',by simpa[Op.unary,binOp]using h1,G⟩
 ·have:=B.K6;subst this;injection h with h;subst h;exact⟨_,by simp[Op.unary],.bool _⟩
 ·cases h
theorem Ta{src dst:TypeId}{x:AE}{x':Value}{v:AE}(B:VR m x x')(h:Xi P src dst x=some v):∃v',(convert src dst x').run P w=.ok v' w/\VR m v v':=by
 unfold Xi at h;split at h
 ·rename_i d k k' n J hd;have:=B.EN;subst this;injection h with h;subst h;exact⟨_,by simp[convert,BJ w J,BJ w hd,Conv.intToInt],.int _ _⟩
 ·rename_i d s J hd;have:=B.Ff;subst this;injection h with h;subst h;exact⟨.string ⟨⟨s⟩⟩,by simp[convert,BJ w J,BJ w hd],.str ⟨⟨s⟩⟩⟩
 ·rename_i d k n J hd;have:=B.EN;subst this;injection h with h;subst h;exact⟨.string (Utf8.encode n),by simp[convert,BJ w J,BJ w hd,Conv.intToString],.str _⟩
 ·cases h
def Zd(m:CU):Option AE->Option Value->Prop
 |none,none=>True
 |some a,some v=>VR m a v
 |_,_=>False
theorem JH{k:IntKind}{n:Int}{y:Nat}{c:BoundsCode}(h0:0<=n)(h1:n<=y):(Instr.sliceBound (.int k n) y c).run P w=.ok n.toNat w:=by
 simp[Instr.sliceBound,asIntOf,h0,h1]
theorem HE{n c:Nat}{lo hi:Option AE}{lo' Q:Option Value}{l u:Nat}(isS:Bool)(O:Zd m lo lo')(V:Zd m hi Q)(hc:n<=c)(h:Fg n lo hi=some (l,u)):
  (Instr.sliceBounds isS n c lo' Q none).run P w=.ok (l,u,c) w/\l<=u/\u<=n:=by
 unfold Fg at h;split at h
 ·rename_i k a;cases Q with
  |none=>exact V.elim
  | some v=>
   have:v=.int k a:=VR.EN V;subst this;split at h
   ·rename_i H;obtain⟨b0,b1⟩:=H;split at h
    ·rename_i k2 b;cases lo' with
     |none=>exact O.elim
     | some v=>
      have:v=.int k2 b:=VR.EN O;subst this;split at h
      ·rename_i X;injection h with h;injection h with h1 G;subst h1;subst G;refine⟨?_,by omega,by omega⟩;simp[Instr.sliceBounds,JH (P:=P) w b0 (show a<=(c:Int) by omega),JH (P:=P) w X.1 (show b<=(a.toNat:Int) by omega)]
      ·cases h
    ·cases h
    ·cases lo' with
     |some v=>exact O.elim
     |none=>
      injection h with h;injection h with h1 G;subst h1;subst G;refine⟨?_,by omega,by omega⟩;simp[Instr.sliceBounds,JH (P:=P) w b0 (show a<=(c:Int) by omega)]
   ·cases h
 ·cases h
 ·cases Q with
  |some v=>exact V.elim
  | none=>
   split at h
   ·rename_i k2 b;cases lo' with
    |none=>exact O.elim
    | some v=>
     have:v=.int k2 b:=VR.EN O;subst this;split at h
     ·rename_i X;injection h with h;injection h with h1 G;subst h1;subst G;refine⟨?_,by omega,by omega⟩;simp[Instr.sliceBounds,JH (P:=P) w X.1 X.2]
     ·cases h
   ·cases h
   ·cases lo' with
    |some v=>exact O.elim
    |none=>
     injection h with h;injection h with h1 G;subst h1;subst G;exact⟨by simp[Instr.sliceBounds],by omega,by omega⟩
theorem NK(s:List UInt8)(l u:Nat):(⟨⟨s⟩⟩:ByteArray).extract l u=⟨⟨(s.drop l).take (u - l)⟩⟩:=by
 apply ByteArray.ext;rw[ByteArray.data_extract];apply Array.ext';simp[List.extract_eq_take_drop]
theorem SG{t:TypeId}{x:AE}{x':Value}{lo hi:Option AE}{lo' Q:Option Value}{v:AE}(B:VR m x x')(O:Zd m lo lo')(V:Zd m hi Q)(h:SS P t x lo hi=some v):
  ∃v',(Instr.sliceAt t x' lo' Q none).run P w=.ok v' w/\VR m v v':=by
 unfold SS at h;split at h
 ·rename_i s hu;have:=B.Ff;subst this;cases H:Fg s.length lo hi with
  |none=>simp[H]at h
  |some lu=>
   obtain⟨l,u⟩:=lu;simp only[H,zf,zd]at h;subst h;have hbs:=(HE (P:=P) w (c:=s.length) false O V (zo _) H).1;refine⟨.string ⟨⟨(s.drop l).take (u - l)⟩⟩,?_,.str ⟨⟨(s.drop l).take (u - l)⟩⟩⟩;simp only[Instr.sliceAt,Instr.slice,Sem.run_bind,BJ w hu,Result.andThen_ok];simp[show(⟨⟨s⟩⟩:ByteArray).size=s.length from rfl,hbs,NK]
 ·cases h
theorem PL{t:TypeId}{x:AE}{x':Value}{f:Nat}{v:AE}(B:VR m x x')(h:Nt P t x f=some v):
  ∃v',(Instr.fieldAt t x' f).run P w=.ok v' w/\VR m v v':=by
 unfold Nt at h;split at h
 ·rename_i fs id o hu;cases B with
  | ptr _ _ E hE=>
   split at h
   ·rename_i fd D;split at h
    ·cases h
    ·rename_i z F I;injection h with h;subst h;have M:z≠0:=F;refine⟨.pointer (some ⟨E.g,E.base+(o+fd.offset),none⟩),?_,.ptr _ _ E hE⟩;simp[Instr.fieldAt,BJ w hu,D,Instr.sureAddr,fieldPlace,run_sizeOf w I,M,Addr.add_lit,zZ]
    ·cases h
   ·cases h
 ·rename_i fs g o hu;cases B with
  | L1 _ _=>
   split at h
   ·rename_i fd D;split at h
    ·cases h
    ·rename_i z F I;injection h with h;subst h;have M:z≠0:=F;refine⟨.pointer (some ⟨g,o+fd.offset,none⟩),?_,.L1 _ _⟩;simp[Instr.fieldAt,BJ w hu,D,Instr.sureAddr,fieldPlace,run_sizeOf w I,M,Addr.add_lit]
    ·cases h
   ·cases h
 ·rename_i fs cs hu;cases B with
  | BL g o _ c W S=>
   split at h
   ·rename_i fd D;split at h
    ·cases h
    ·rename_i z F I;injection h with h;subst h;have M:z≠0:=F;refine⟨.pointer (some ⟨g,o+fd.offset,none⟩),?_,VR.M8 W S _⟩;simp[Instr.fieldAt,BJ w hu,D,Instr.sureAddr,fieldPlace,run_sizeOf w I,M,Addr.add_lit]
    ·cases h
   ·cases h
 ·cases h
theorem S6{t:TypeId}{x:AE}{x':Value}{f:Nat}{v:AE}(B:VR m x x')(h:U6 P t x f=some v):
  ∃v',(Instr.field t x' f).run P w=.ok v' w/\VR m v v':=by
 unfold U6 at h;split at h
 ·rename_i fs cs hu;obtain⟨ds,rfl,vd⟩:=B.Hn;split at h
  ·rename_i fd D;obtain⟨y,h1,G⟩:=JZ (P:=P) w vd h;exact⟨y,by simp[Instr.field,BJ w hu,D,asAgg,h1],G⟩
  ·cases h
 ·cases h
theorem Ox{t:TypeId}{x i:AE}{x' i':Value}{v:AE}(B:VR m x x')(hi:VR m i i')(h:IC P t x i=some v):
  ∃v',(Instr.indexAt t x' i').run P w=.ok v' w/\VR m v v':=by
 unfold IC at h;split at h
 ·rename_i n e id o k i hu;have:=hi.EN;subst this;cases B with
  | ptr _ _ E hE=>
   split at h
   ·rename_i H;cases F:Dn P e with
    |none=>simp[F]at h
    |some z=>
     simp only[F,zf,zd]at h;subst h;refine⟨.pointer (some ⟨E.g,E.base+(o+i.toNat*z),none⟩),?_,.ptr _ _ E hE⟩;simp[Instr.indexAt,BJ w hu,asIntOf,Instr.sureAddr,H,run_sizeOf w F,Addr.add_lit,zZ]
   ·cases h
 ·rename_i e id o n k i hu;have:=hi.EN;subst this;cases B with
  | slice _ _ _ cap E a hE U hc=>
   split at h
   ·rename_i H;obtain⟨ha,_⟩:=hc (by omega);subst ha;cases F:Dn P e with
    |none=>simp[F]at h
    |some z=>
     simp only[F,zf,zd]at h;subst h;refine⟨.pointer (some ⟨E.g,E.base+(o+i.toNat*z),none⟩),?_,.ptr _ _ E hE⟩;simp[Instr.indexAt,BJ w hu,asIntOf,H,run_sizeOf w F,Addr.add_lit,zZ]
   ·cases h
 ·rename_i n e g o k i hu;have:=hi.EN;subst this;cases B with
  | L1 _ _=>
   split at h
   ·rename_i H;cases F:Dn P e with
    |none=>simp[F]at h
    |some z=>
     simp only[F,zf,zd]at h;subst h;refine⟨.pointer (some ⟨g,o+i.toNat*z,none⟩),?_,.L1 _ _⟩;simp[Instr.indexAt,BJ w hu,asIntOf,Instr.sureAddr,H,run_sizeOf w F,Addr.add_lit]
   ·cases h
 ·rename_i n e cs k i hu;have:=hi.EN;subst this;cases B with
  | BL g o _ c W S=>
   split at h
   ·rename_i H;cases F:Dn P e with
    |none=>simp[F]at h
    |some z=>
     simp only[F,zf,zd]at h;subst h;refine⟨.pointer (some ⟨g,o+i.toNat*z,none⟩),?_,VR.M8 W S _⟩;simp[Instr.indexAt,BJ w hu,asIntOf,Instr.sureAddr,H,run_sizeOf w F,Addr.add_lit]
   ·cases h
 ·rename_i e n cs k i hu;have:=hi.EN;subst this;split at h
  ·rename_i H;cases B with
   |ND=>omega
   | Jd _ cap g o _ c hc W S=>
    cases F:Dn P e with
    |none=>simp[F]at h
    | some z=>
     simp only[F,za]at h;split at h
     ·injection h with h;subst h;refine⟨.pointer (some ⟨g,o+i.toNat*z,none⟩),?_,VR.R5 (VR.M8 W S _) _⟩;simp[Instr.indexAt,BJ w hu,asIntOf,H,run_sizeOf w F,Addr.add_lit]
     ·cases h
  ·cases h
 ·cases h
theorem Si{t:TypeId}{x i:AE}{x' i':Value}{v:AE}(B:VR m x x')(hi:VR m i i')(h:Sa P t x i=some v):
  ∃v',(Instr.index t x' i').run P w=.ok v' w/\VR m v v':=by
 unfold Sa at h;split at h
 ·rename_i n e cs k i hu;have:=hi.EN;subst this;obtain⟨ds,rfl,vd⟩:=B.Hn;split at h
  ·rename_i H;cases F:Dn P e with
   |none=>simp[F]at h
   |some z=>
    simp only[F,za]at h;obtain⟨y,h1,G⟩:=JZ (P:=P) w vd h;exact⟨y,by simp[Instr.index,BJ w hu,asIntOf,H,run_sizeOf w F,h1],G⟩
  ·cases h
 ·rename_i s k i hu;have:=hi.EN;subst this;have:=B.Ff;subst this;split at h
  ·rename_i H;cases J:s[i.toNat]? with
   |none=>simp[J]at h
   | some b=>
    simp only[J,zf,zd]at h;subst h;have hs':(⟨⟨s⟩⟩:ByteArray)[i.toNat]?=some b:=by
     obtain⟨hlt,e⟩:=List.getElem?_eq_some_iff.1 J;rw[getElem?_pos (⟨⟨s⟩⟩:ByteArray) i.toNat (by simpa[ByteArray.size]using hlt)];exact congrArg some e
    exact⟨.int .u8 b.toNat,by simp[Instr.index,BJ w hu,asIntOf,H,hs'],.int _ _⟩
  ·cases h
 ·cases h
theorem U0{ts:Array TypeId}{ty:TypeId}{x:AE}{x':Value}{v:AE}(B:VR m x x')(h:ZV P ts x=some v):
  ∃v',(Builtin.len_ ts ty #[x']).run P w=.ok v' w/\VR m v v':=by
 unfold ZV at h;split at h
 ·cases h
 ·rename_i t ht;split at h
  ·rename_i s hu;have:=B.Ff;subst this;injection h with h;subst h;exact⟨.int .i64 s.length,by simp[Builtin.len_,ht,BJ w hu,goInt,show(⟨⟨s⟩⟩:ByteArray).size=s.length from rfl],.int _ _⟩
  ·rename_i n e y hu;injection h with h;subst h;exact⟨_,by simp[Builtin.len_,ht,BJ w hu,goInt],.int _ _⟩
  ·rename_i e r n hu;injection h with h;subst h;cases B<;>exact⟨_,by simp[Builtin.len_,ht,BJ w hu,goInt];try rfl,.int _ _⟩
  ·rename_i e n cs hu;injection h with h;subst h;cases B<;>exact⟨_,by simp[Builtin.len_,ht,BJ w hu,goInt];try rfl,.int _ _⟩
  ·cases h
theorem Kz(mx:Bool):∀(r:List AE) (r':List Value) (x:AE) (x':Value) (v:AE),VR m x x'->Dt m r r'->M6 mx x r=some v->
  ∃v',(r'.foldlM (if mx then Builtin.max2 else Builtin.min2) x').run P w=.ok v' w/\VR m v v'
 |[],r',x,x',v,B,N,h=>by
  have:r'=[]:=zt (by simpa using N.1.symm);subst this;simp[M6]at h;subst h;exact⟨x',by simp,B⟩
 |y::r,[],x,x',v,B,N,h=>by simp[Dt]at N
 | y::r,y'::r',x,x',v,B,N,h=>by
  have K:VR m y y':=N.2 0 y y' rfl rfl;have hr':Dt m r r':=⟨by simpa using N.1,λi a b ha H=>N.2 (i+1) a b (by simpa using ha) (by simpa using H)⟩;unfold M6 at h;split at h
  ·rename_i heq;cases heq
  ·rename_i k a k' b r2 heq;injection heq with e1 e2;subst e1;subst e2;have:=B.EN;subst this;have:=K.EN;subst this;split at h
   ·rename_i hk;subst hk;obtain⟨v',h1,G⟩:=Kz mx r r' _ _ v (.int k _) hr' h;refine⟨v',?_,G⟩;cases mx<;>simpa[Builtin.max2,Builtin.min2]using h1
   ·cases h
  ·cases h
theorem Qh(off:Nat):∀(l:List Value) (k:Nat) (cs:Array Value),off+k+l.length<=cs.size->
  (l.zipIdx k).foldl (λ(cs:Array Value) (x:Value×Nat)=>cs.setIfInBounds (off+x.2) x.1) cs=⟨cs.toList.take (off+k)++(l++cs.toList.drop (off+k+l.length))⟩
 |[],k,cs,h=>by simp
 | v::l,k,cs,h=>by
  simp only[List.zipIdx_cons,qE];simp only[zD]at h;rw[Qh off l (k+1) _ (by simp;omega)];generalize hL:cs.toList=L;have hlen:L.length=cs.size:=by rw[<-hL];simp
  have e:(cs.setIfInBounds (off+k) v).toList=L.take (off+k)++v::L.drop (off+k+1):=by
   rw[qK,hL,yc,zk (by omega)]
  have U:(L.take (off+k)).length=off+k:=by simp;omega
  rw[e,show off+(k+1)+l.length=(L.take (off+k)).length+(1+l.length) by omega,yA,
   show off+(k+1)=(L.take (off+k)).length+1 by omega,yU,zO,show 1+l.length=l.length+1 by omega,qo,yB]
  simp only[yD,qL,yl,ye,zD];rw[show off+k+1+l.length=off+k+(l.length+1) by omega]
theorem Kd{place:Nat->Option (Nat×Nat)}:∀(parts:List (Nat×AE)) (parts':List (Nat×Value)) (cs:List AE) (ds:Array Value) (r:List AE),
  parts.length=parts'.length->(∀(j i i':Nat) (x:AE) (y:Value),parts[j]?=some (i,x)->parts'[j]?=some (i',y)->i=i'/\VR m x y)->Dt m cs ds.toList->L6 place cs parts=some r->
  ∃ds',Instr.fill place ds parts'=some ds'/\Dt m r ds'.toList
 |[],parts',cs,ds,r,U,_,hc,h=>by
  have:parts'=[]:=zt U.symm;subst this;simp[L6]at h;subst h;exact⟨ds,rfl,hc⟩
 |(i,x)::parts,[],_,_,_,U,_,_,_=>by simp at U
 | (i,x)::parts,(i',y)::parts',cs,ds,r,U,hp,hc,h=>by
  obtain⟨rfl,hxy⟩:=hp 0 i i' x y rfl rfl;unfold L6 at h;split at h
  ·rename_i off size new hpl hnew;split at h
   ·rename_i H;have S:=hxy.cells hnew;have hsz:y.cells.size=size:=by rw[<-H.1,S.1];simp
    have hds:cs.length=ds.size:=by rw[hc.1];simp
    obtain⟨ds',h1,G⟩:=Kd parts parts' _ ⟨ds.toList.take off++(y.cells.toList++ds.toList.drop (off+y.cells.toList.length))⟩ r (by simpa using U)
     (λj a b u v hu S=>hp (j+1) a b u v (by simpa using hu) (by simpa using S)) (hc.Fz S off) h
    refine⟨ds',?_,G⟩;have hcond:(y.cells.size≠size||off+y.cells.size>ds.size)=false:=by simp[hsz];omega
    have D:=Qh off y.cells.toList 0 ds (by simp[hsz];omega);simp only[yV]at D;rw[<-h1];simp only[Instr.fill,hpl];rw[zm (by simpa using hcond)];congr 1;rw[<-D,<-Array.foldl_toList,Array.toList_zipIdx]
   ·cases h
  ·cases h
theorem JS{t:TypeId}{v:AE}(h:I2 P t=some v):∃i z,P.info? t=some i/\i.zero=some z/\VR m v z:=by
 unfold I2 at h;cases hi:P.info? t with
 |none=>simp[hi]at h
 | some i=>
  simp only[hi]at h;cases F:i.zero with
  |none=>simp[F]at h
  |some z=>
   simp only[F,zf,zd]at h;subst h;exact⟨i,z,rfl,F,VR.YC m z⟩
theorem Sm{t:TypeId}{parts:List (Nat×AE)}{parts':List (Nat×Value)}{v:AE}(U:parts.length=parts'.length)
  (hp:∀(j i i':Nat) (x:AE) (y:Value),parts[j]?=some (i,x)->parts'[j]?=some (i',y)->i=i'/\VR m x y) (h:Um P t parts=some v):
  ∃cells,P.built t parts'=some cells/\VR m v (.agg cells):=by
 unfold Um at h;split at h
 ·rename_i n e z hu F;cases I:I2 P t with
  |none=>simp[I]at F
  | some zv=>
   simp only[I,za]at F;obtain⟨i,zz,hi,Z,Y⟩:=JS (m:=m) I;cases J:Dn P e with
   |none=>simp[J]at h
   | some n'=>
    simp only[J,za]at h;cases D:L6 (λi=>some (i*n',n')) z parts with
    |none=>simp[D]at h
    | some r=>
     simp only[D,zf,zd]at h;subst h;obtain⟨ds',h1,G⟩:=Kd (m:=m) parts parts' z zz.cells r U hp (Y.cells F) D;unfold Dn at J;cases hie:P.info? e with
     |none=>simp[hie]at J
     |some ie=>
      simp[hie]at J;subst J;exact⟨ds',by simp[Program.built,hi,hu,Z,hie,h1],Dt.agg G⟩
 ·rename_i fs z hu F;cases I:I2 P t with
  |none=>simp[I]at F
  | some zv=>
   simp only[I,za]at F;obtain⟨i,zz,hi,Z,Y⟩:=JS (m:=m) I;cases J:Sf P fs.toList with
   |none=>simp[J]at h
   | some ps=>
    simp only[J,za]at h;cases D:L6 (ps[·]?) z parts with
    |none=>simp[D]at h
    |some r=>
     simp only[D,zf,zd]at h;subst h;obtain⟨ds',h1,G⟩:=Kd (m:=m) parts parts' z zz.cells r U hp (Y.cells F) D;unfold Sf at J;exact⟨ds',by simp[Program.built,hi,hu,Z,J,h1],Dt.agg G⟩
 ·cases h
theorem Vz{fr:Fr}{a:Act}(D:FR m fr a)(x:Option Operand):Zd m (x.map (ev fr)) (x.map a.eval):=by
 cases x with
 |none=>trivial
 |some x=>exact D.ev x
theorem SF{fr:Fr}{a:Act}(D:FR m fr a){o:Oper}{v:AE}(h:KZ P fr o.op=some v):∃v',(execOp a.eval o).run P w=.ok (.value v') w/\VR m v v':=by
 obtain⟨dst,op,ty,pos,P4,gd⟩:=o;simp only at h;have lift:∀{s:Sem Value} {u:AE},(∃v',s.run P w=.ok v' w/\VR m u v')->∃v',(do pure (.value (<-s)):Sem Next).run P w=.ok (.value v') w/\VR m u v':=by
  rintro s u ⟨v',h1,G⟩;exact⟨v',by simp[h1],G⟩
 cases op with
 |move x=>simp only[KZ,zd]at h;subst h;exact⟨_,rfl,D.ev x⟩
 |assign x=>simp only[KZ,zd]at h;subst h;exact⟨_,rfl,D.ev x⟩
 | pick c x y=>
  simp only[KZ]at h;split at h
  ·rename_i b H;have hc:=D.ev c;rw[H]at hc;have hc:=hc.K6;injection h with h;subst h;cases b
   ·exact⟨a.eval y,by simp[execOp,asBool,hc],D.ev y⟩
   ·exact⟨a.eval x,by simp[execOp,asBool,hc],D.ev x⟩
  ·cases h
 | build t parts=>
  simp only[KZ]at h
  obtain⟨cells,h1,G⟩:=Sm (m:=m) (parts':=(parts.map λ(i,x)=>(i,a.eval x)).toList) (by simp) (λj i i' x y B K=>by
   simp only[List.getElem?_map,qd]at B K;cases hj:parts.toList[j]? with
   |none=>simp[hj]at B
   |some p=>
    simp only[hj,zf,zd,ze]at B K;obtain⟨rfl,rfl⟩:=B;obtain⟨rfl,rfl⟩:=K
    exact⟨rfl,D.ev p.2⟩) h
  exact lift ⟨_,run_build w t _ cells h1,G⟩
 | nilCheck x=>
  simp only[KZ]at h;split at h
  ·rename_i r N;have B:=D.ev x;rw[N]at B;injection h with h;subst h;cases he:a.eval x<;>rw[he]at B<;>try (cases B;done)
   rename_i p;cases p with
   |none=>cases B
   |some p=>exact⟨.pointer (some p),by simp[execOp,he],B⟩
  ·rename_i g o N;have B:=D.ev x;rw[N]at B;injection h with h;subst h;cases he:a.eval x<;>rw[he]at B<;>try (cases B;done)
   rename_i p;cases p with
   |none=>cases B
   |some p=>exact⟨.pointer (some p),by simp[execOp,he],B⟩
  ·rename_i cs N;have B:=D.ev x;rw[N]at B;injection h with h;subst h;cases he:a.eval x<;>rw[he]at B<;>try (cases B;done)
   rename_i p;cases p with
   |none=>cases B
   |some p=>exact⟨.pointer (some p),by simp[execOp,he],B⟩
  ·rename_i f b c N;have B:=D.ev x;rw[N]at B;injection h with h;subst h;cases he:a.eval x<;>rw[he]at B<;>try (cases B;done)
   rename_i fn c d;have:fn=.func f:=by cases B;rfl
   subst this;exact⟨.func (.func f) c d,by simp[execOp,he],B⟩
  ·cases h
 |binOp op t x y yt=>simp only[KZ]at h;exact lift (VL w (D.ev x) (D.ev y) h)
 |unOp op t x=>simp only[KZ]at h;exact lift (Wb w (D.ev x) h)
 |convert s d x=>simp only[KZ]at h;exact lift (Ta w (D.ev x) h)
 |makeFunc fn first cap=>
  simp only[KZ,zd]at h;subst h;refine lift ⟨.func fn (first.map a.eval) (cap.map a.eval),rfl,?_⟩;have h1:=D.aC first.toList;have G:=D.aC cap.toList;exact .func _ _ _ _ _ (by simp) (λi x y B K=>h1.2 i x y B (by simpa using K)) (by simp) (λi x y B K=>G.2 i x y B (by simpa using K))
 |slice t x lo hi mx=>
  cases mx with
  |some y=>simp[KZ]at h
  |none=>simp only[KZ]at h;exact lift (SG w (D.ev x) (Vz D lo) (Vz D hi) h)
 |fieldAddr s x f=>simp only[KZ]at h;exact lift (PL w (D.ev x) h)
 |field s x f=>simp only[KZ]at h;exact lift (S6 w (D.ev x) h)
 |indexAddr t x i=>simp only[KZ]at h;exact lift (Ox w (D.ev x) (D.ev i) h)
 |index t x i=>simp only[KZ]at h;exact lift (Si w (D.ev x) (D.ev i) h)
 | extract x i=>
  simp only[KZ]at h;split at h
  ·rename_i vs N;have B:=D.ev x;rw[N]at B;obtain⟨c,hc,S⟩:=B.PB;obtain⟨y,K,hvy⟩:=S.at_ h;have hy':c[i]?=some y:=by simpa using K
   exact lift ⟨y,by simp[hc,Instr.extract,hy'],hvy⟩
  ·cases h
 | call c=>
  obtain⟨callee,as,ts⟩:=c;cases callee with
  |value f=>simp[KZ]at h
  |invoke r mth=>simp[KZ]at h
  | builtin b=>
   simp only[KZ]at h;have C:=D.aC as.toList;have hargs:(as.map a.eval).toList=as.toList.map a.eval:=by simp
   have res:∀(w:World),(resolve a.eval {callee:=.builtin b,args:=as,argTypes:=ts} ty).run P w=.ok {target:=.builtin b ts ty (as.map fun| .const _=>true|_=>false),args:=as.map a.eval} w:=λw=>rfl;split at h
   ·rename_i x heq;obtain⟨x',hx',hvx⟩:∃x',as.map a.eval=#[x']/\VR m x x':=by
     rw[heq]at C;have hlen:(as.toList.map a.eval).length=1:=by rw[<-C.1];rfl
     match T:as.toList.map a.eval,hlen with
     |[x'],_=>exact⟨x',Array.ext' (by simpa using T),C.2 0 x x' rfl (by rw[T];rfl)⟩
    obtain⟨v',h1,G⟩:=U0 (P:=P) (m:=m) (ty:=ty) w hvx h;exact⟨v',by simp[execOp,res,invoke,builtin,hx',h1],G⟩
   ·rename_i x r heq;rw[heq]at C
    match T:as.toList.map a.eval with
    |[]=>rw[T]at C;simp[Dt]at C
    |x'::r'=>
     rw[T]at C;obtain⟨v',h1,G⟩:=Kz (P:=P) w false r r' x x' v (C.2 0 x x' rfl rfl) ⟨by simpa using C.1,λi u z hu F=>C.2 (i+1) u z (by simpa using hu) (by simpa using F)⟩ h;refine⟨v',?_,G⟩;simp only[yx,if_false]at h1;simp[execOp,res,invoke,builtin,Builtin.min_,T,h1]
   ·rename_i x r heq;rw[heq]at C
    match T:as.toList.map a.eval with
    |[]=>rw[T]at C;simp[Dt]at C
    |x'::r'=>
     rw[T]at C;obtain⟨v',h1,G⟩:=Kz (P:=P) w true r r' x x' v (C.2 0 x x' rfl rfl) ⟨by simpa using C.1,λi u z hu F=>C.2 (i+1) u z (by simpa using hu) (by simpa using F)⟩ h;refine⟨v',?_,G⟩;simp only[if_true]at h1;simp[execOp,res,invoke,builtin,Builtin.max_,T,h1]
   ·cases h
 |_=>simp[KZ]at h
end
end Go.Av
