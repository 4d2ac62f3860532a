/-
  Several texts in one.
-/
import Derived.Test.YtgkbpgefomapgaaGreatDoorDfaE
/-
 A part.
-/
section
namespace Go.Av.L
open IntKind (i64)
open Go.Av Go.Lib
set_option linter.unusedVariables false
set_option linter.unusedSimpArgs false
structure Z6(a:Ay)(todo:List (List Int))(bs:List UInt8)(d:Co):Prop where
 n:todo.length<=4096
 c:bs.length<=256
 bl:d.BF=bs.length
 cI:∀b:Nat,b<256->Qb a.l_ bs b (d.BX b)
 ends:d.B1=todo.map λs=>decide ((0:Int)∈cl a.l_ false false s)
 last:d.B3=todo.map λs=>decide ((0:Int)∈cl a.l_ false true s)
 next:∀(k j:Nat) (s:List Int) (y:UInt8),todo[k]?=some s->bs[j]?=some y->∃v,d.CA[k*bs.length+j]?=some v/\Pv todo (Xv a.l_ s y.toNat) v
 first:Pv todo (cl a.l_ true false [a.AY]) d.AY
 later:Pv todo (cl a.l_ false false [a.AY]) d.Bw
 empty:d.BZ=decide ((0:Int)∈cl a.l_ true true [a.AY])
def PY(a:Ay)(todo:List (List Int))(bs:List UInt8)(i:Nat)(nx:List Int):Prop:=
 ∀(k j:Nat) (s:List Int) (y:UInt8),k<i->todo[k]?=some s->bs[j]?=some y->∃v,nx[k*bs.length+j]?=some v/\Pv todo (Xv a.l_ s y.toNat) v
theorem PY.up{a:Ay}{todo:List (List Int)}{bs:List UInt8}{i:Nat}{nx:List Int}(h:PY a todo bs i nx)(hi:i<=todo.length)(z:List (List Int))(w:List Int):PY a (todo++z) bs i (nx++w):=by
 intro k j s y V O Y;rw[List.getElem?_append_left (by omega)]at O;obtain⟨v,X,J⟩:=h k j s y V O Y;exact⟨v,by rw[List.getElem?_append_left (List.getElem?_eq_some_iff.1 X).1];exact X,J.up z⟩
theorem UQ{t:AO}{a:Ay}(h:PT t a.l_){n:Nat}(J:n<=4096)(d:Co)(bs:List UInt8)(K:bs.length<=256)(x7 x14:Int)(i:Nat)(nx:List Int)(en la:List Bool)(se:List (List UInt8×Int))(todo:List (List Int))(hi:i<todo.length)(T:Yx a todo se en la)(hl:todo.length<=n)(hx:nx.length=i*bs.length)(R:PY a todo bs i nx):
  W (loop (Gw (n:Int) a d bs x7 x14 (i:Int)) (nx,en,la,se,todo,(0:Int))) λo=>match o with
   | .inl (nx',en',la',se',todo')=>(∃z,todo'=todo++z)/\Yx a todo' se' en' la'/\todo'.length<=n/\nx'.length=(i+1)*bs.length/\PY a todo' bs (i+1) nx'
   | .inr (_,_,_,_,_,e)=>e=7/\n<2^a.l_.length:=by
 let P:(List Int×List Bool×List Bool×List (List UInt8×Int)×List (List Int))->Nat->Prop:=λs j=>
  (∃z,s.2.2.2.2=todo++z)/\Yx a s.2.2.2.2 s.2.2.2.1 s.2.1 s.2.2.1/\s.2.2.2.2.length<=n/\s.1.length=i*bs.length+j/\PY a s.2.2.2.2 bs i s.1/\
  ∀(q:Nat) (u:List Int) (y:UInt8),q<j->s.2.2.2.2[i]?=some u->bs[q]?=some y->∃v,s.1[i*bs.length+q]?=some v/\Pv s.2.2.2.2 (Xv a.l_ u y.toNat) v
 have him:i*bs.length<=4096*256:=Nat.mul_le_mul (by omega) K;refine W.list (l:=bs) (λs (j:Nat)=>(s.1,s.2.1,s.2.2.1,s.2.2.2.1,s.2.2.2.2,(j:Int))) P ?_ ?_ (nx,en,la,se,todo) ⟨⟨[],by simp⟩,T,hl,hx,R,λq u y G=>by omega⟩
 ·rintro⟨x1,x2,x3,x4,x5⟩ ⟨p1,p2,p3,p4,p5,p6⟩;unfold Gw;have p4:x1.length=i*bs.length+bs.length:=p4;refine Be (λh=>by omega) λ_=>AB ⟨p1,p2,p3,?_,?_⟩
  ·rw[yh];omega
  ·intro k j s y V O Y;by_cases e:k=i
   ·subst e;exact p6 j s y (List.getElem?_eq_some_iff.1 Y).1 O Y
   ·exact p5 k j s y (by omega) O Y
 ·rintro⟨x1,x2,x3,x4,x5⟩ j hj ⟨⟨z0,hz0⟩,p2,p3,p4,p5,p6⟩;simp only at hz0 p2 p3 p4 p5 p6;have F:i<x5.length:=by rw[hz0,zq];omega
  unfold Gw;refine Be (λ_=>?_) λh=>by omega
  have O:=(p2.set i _ (List.getElem?_eq_getElem F)).1;rw[CR hj,za,CR F,za,step_ok h O (Kh _),za];refine AJ ((Qm (m:=⟨a,⟨d.BX,d.BF,x1,x2,x3,x7,x14,d.BZ⟩,(n:Int),bs,x4,x5⟩) h p2 rfl J p3 (s:=Xv a.l_ x5[i] (bs[j].toNat:Int)) (TV h) (UZ _ _ _ _)).mono ?_);rintro⟨v,ok,en',la',se',todo'⟩ ⟨q1,⟨z,q2⟩,q3,q4,q5⟩;simp only at q1 q2 q3 q4 q5⊢;refine Am (λZ=>AB ⟨rfl,q5 (by simpa using Z)⟩) λS=>?_;have X:=q4 (by simpa using S);refine Ce (DL (by simp;omega) (by simp;omega)) (AB ⟨(x1++[v],en',la',se',todo'),by simp only;rw[Ee (by omega)],⟨z0++z,by simp only;rw[q2,hz0,zO]⟩,q1,q3,by simp;omega,?_,?_⟩)
  ·simp only;rw[q2];exact p5.up (by omega) z [v]
  ·intro q u y G hu Y;simp only at hu⊢;have hu5:x5[i]?=some u:=by rw[q2,List.getElem?_append_left F]at hu;exact hu
   by_cases e:q=j
   ·subst e;refine⟨v,by rw[List.getElem?_append_right (by omega),p4,yy];rfl,?_⟩;rw[List.getElem?_eq_getElem F]at hu5;rw[List.getElem?_eq_getElem hj]at Y;cases hu5;cases Y;exact X
   ·obtain⟨v',a1,a2⟩:=p6 q u y (by omega) hu5 Y;exact⟨v',by rw[List.getElem?_append_left (List.getElem?_eq_some_iff.1 a1).1];exact a1,by rw[q2];exact a2.up z⟩
def bm(n:Nat)(w:Option Ay)(r:Option Co×Int):Prop:=match w with
 |none=>r=(none,7)
 |some a=>(r=(none,7)/\n<2^a.l_.length)\/∃d todo bs,r=(some d,0)/\todo.length<=n/\Z6 a todo bs d
theorem U4(t:AO)(B:B7 t=some true){n:Nat}(h1:1<=n)(J:n<=4096){w:Option Ay}{e:Int}(K:GR t 4096=some (w,e)):
  W (GW t n) (bm n w):=by
 obtain⟨r0,e0,hB⟩:=T4 t B;rw[K]at e0;cases e0;unfold GW;refine Am (λh=>?_) λ_=>?_
 ·simp only[zW,zx]at h;omega
 rw[K,za];cases w with
 |none=>
  simp only at hB⊢;subst hB;exact AB rfl
 | some a=>
  simp only at hB⊢;obtain⟨rfl,A⟩:=hB;rw[Gi,zk rfl,Wy A,za];have ee:decide ((((if(0:Int)∈cl a.l_ true true [a.AY]then[0]else[]):List Int).length:Int)>(0:Int))=decide ((0:Int)∈cl a.l_ true true [a.AY]):=by
   split
   ·rename_i E;simp[E]
   ·rename_i E;simp[E]
  rw[ee];refine AJ ((X9 (m:=⟨a,⟨UT,0,[],[],[],0,0,decide ((0:Int)∈cl a.l_ true true [a.AY])⟩,(n:Int),[],[],[]⟩) A.l rfl).mono ?_);rintro⟨x4,x5⟩ ⟨s1,s2,s3,s4,s5,s6⟩;simp only at s1 s2 s3 s4 s5 s6⊢;rw[QO A,za];have T0:Yx a [] [] [] []:=⟨λk s h=>by simp at h,λx v h=>(by cases h),rfl,rfl,λs O=>by cases O⟩;refine AJ ((Qm (m:=⟨a,⟨x4.BX,x4.BF,[],[],[],x4.AY,x4.Bw,x4.BZ⟩,(n:Int),x5,[],[]⟩) A.l T0 rfl J (zS _) (s:=cl a.l_ true false [a.AY]) (TV A.l) (UZ _ _ _ _)).mono ?_);rintro⟨x7,x8,x9,x10,x11,x12⟩ ⟨T1,⟨z1,_⟩,l1,f1,g1⟩;simp only at T1 l1 f1 g1⊢;rw[QO A,za];refine AJ ((Qm (m:=⟨a,⟨x4.BX,x4.BF,[],x9,x10,x7,x4.Bw,x4.BZ⟩,(n:Int),x5,x11,x12⟩) A.l T1 rfl J l1 (s:=cl a.l_ false false [a.AY]) (TV A.l) (UZ _ _ _ _)).mono ?_);rintro⟨x14,x15,x16,x17,x18,x19⟩ ⟨T2,⟨z2,e2⟩,l2,f2,g2⟩;simp only at T2 e2 l2 f2 g2⊢;refine Am (λZ=>AB (.inl ⟨rfl,?_⟩)) λS=>?_
  ·cases h8:x8 with
   |false=>exact g1 h8
   |true=>cases h15:x15 with
    |false=>exact g2 h15
    |true=>rw[h8,h15]at Z;cases Z
  simp only[zG,yg]at S;have F1:Pv x19 (cl a.l_ true false [a.AY]) x7:=by rw[e2];exact(f1 S.1).up z2
  have F2:=f2 S.2
  let I:(List Int×List Bool×List Bool×List (List UInt8×Int)×List (List Int))->Prop:=λs=>(∃z,s.2.2.2.2=x19++z)/\Yx a s.2.2.2.2 s.2.2.2.1 s.2.1 s.2.2.1/\s.2.2.2.2.length<=n
  refine AJ (W.mono (W.loop (λs=>I (s.1,s.2.1,s.2.2.1,s.2.2.2.1,s.2.2.2.2.1)/\∃i:Nat,s.2.2.2.2.2=(i:Int)/\i<=s.2.2.2.2.1.length/\s.1.length=i*x5.length/\PY a s.2.2.2.2.1 x5 i s.1) (λs=>(n - s.2.2.2.2.2).toNat) ⟨⟨⟨[],by simp⟩,T2,l2⟩,0,rfl,zS _,by simp,λk j s y V=>by omega⟩ ?_ (Q:=λo=>match o with
   | .inl s=>I s/\PY a s.2.2.2.2 x5 s.2.2.2.2.length s.1
   | .inr s=>s.2.2.2.2.2=7/\n<2^a.l_.length)) ?_)
  ·rintro⟨y1,y2,y3,y4,y5,y6⟩ ⟨⟨⟨z,E⟩,p2,p3⟩,i,hi,p4,p5,p6⟩;simp only at E p2 p3 hi p4 p5 p6;subst hi;unfold I6;refine Be (λhlt=>?_) λhge=>AB ?_
   ·refine AJ ((UQ A.l J x4 x5 s2 x7 x14 i y1 y2 y3 y4 y5 (by omega) p2 p3 p5 p6).mono ?_);rintro o C;cases o with
    |inl s=>
     obtain⟨v1,v2,v3,v4,v5⟩:=s;obtain⟨⟨z',hz'⟩,q2,q3,q4,q5⟩:=C;refine AB ⟨⟨⟨⟨z++z',by simp only;rw[hz',E,zO]⟩,q2,q3⟩,i+1,by simp only;exact Ee (by omega),?_,q4,q5⟩,?_⟩
     ·simp only;rw[hz',zq];omega
     ·simp only;rw[Ee (by omega)];omega
    |inr s=>
     obtain⟨v1,v2,v3,v4,v5,v6⟩:=s;exact AB C
   ·obtain rfl:i=y5.length:=by omega
    exact⟨⟨⟨z,E⟩,p2,p3⟩,p6⟩
  ·intro o C;cases o with
   |inr s=>
    obtain⟨v1,v2,v3,v4,v5,v6⟩:=s;obtain⟨C,hlt⟩:=C;simp only at C;subst C;exact AB (.inl ⟨rfl,hlt⟩)
   |inl s=>
    obtain⟨v1,v2,v3,v4,v5⟩:=s;obtain⟨⟨⟨z,E⟩,q2,q3⟩,q4⟩:=C;simp only at E q2 q3 q4⊢;refine AB (.inr ⟨_,v5,x5,rfl,q3,⟨by omega,s2,s3,s1,q2.ends,q2.last,λk j s y V hj=>q4 k j s y (List.getElem?_eq_some_iff.1 V).1 V hj,by rw[E];exact F1.up z,by rw[E];exact F2.up z,s6⟩⟩)
def KV(g:List Int)(p:Int×Bool):Int×Bool:=match g.getLast? with
 |some x=>(x,true)
 |none=>p
theorem UL(p:Int×Bool):KV [] p=p:=rfl
theorem RH(g h:List Int)(p:Int×Bool):KV (g++h) p=KV h (KV g p):=by
 unfold KV;rw[List.getLast?_append];cases h.getLast?<;>cases g.getLast?<;>rfl
theorem Ws{a:Ay}{todo:List (List Int)}{bs:List UInt8}{d:Co}(D:Z6 a todo bs d)(s:List UInt8)(J:s.length<=1073741824):∀(k i:Nat) (set:List Int) (now best:Int) (sm:Bool),i+k=s.length->Pv todo set now->
  W (loop (EM d s) (now,best,sm,(i:Int))) λr=>r=KV (PH a.l_ set (s.drop i) i) (best,sm):=by
 have at_:∀{k:Nat} {set:List Int} (f:List Int->Bool),todo[k]?=some set->FT (todo.map f) (k:Int)=some (f set):=by
  intro k set f V;refine G4 ?_;rw[List.getElem?_map,V];rfl
 intro k
 induction k with
 | zero=>
  intro i set now best sm hi X;obtain rfl:i=s.length:=by omega
  refine W.U5 ?_;unfold EM;rcases X with⟨rfl,rfl⟩|⟨q,rfl,G⟩
  ·refine Be (λh=>absurd h (by decide)) λ_=>AB ?_;simp only[OG];rw[RA];rfl
  ·refine Be (λ_=>?_) λh=>by omega
   rw[Fw,zi rfl,Bd,D.last,at_ _ G,za,List.drop_length];refine Be (λh0=>AB ?_) λh0=>AB ?_
   ·simp only[OG,PH];rw[zk h0];rfl
   ·simp only[OG,PH];rw[zm h0];rfl
 | succ k ih=>
  intro i set now best sm hi X;have F:i<s.length:=by omega
  refine W.U5 ?_;rw[EM];rcases X with⟨rfl,rfl⟩|⟨q,rfl,G⟩
  ·refine Be (λh=>absurd h (by decide)) λ_=>AB ?_;simp only[OG];rw[RA];rfl
  ·refine Be (λ_=>?_) λh=>by omega
   have K:=Kh s[i];obtain⟨j,y,ec,hj,hap⟩:=D.cI s[i].toNat (by omega);obtain⟨v,hnx,hnv⟩:=D.next q j set y G hj;have hq1:q<4096:=by have:=(List.getElem?_eq_some_iff.1 G).1;have:=D.n;omega
   have hj1:j<256:=by have:=(List.getElem?_eq_some_iff.1 hj).1;have:=D.c;omega
   have hm:q*bs.length<=4096*256:=Nat.mul_le_mul (by omega) D.c;have ex:WY 256 d.BX (s[i].toNat:Int)=some (j:Int):=by unfold WY;rw[zk ⟨by omega,by omega⟩,zl,ec]
   have ei:i64.wrap ((i64.wrap ((i64.wrap (q:Int))*d.BF))+(i64.wrap (j:Int)))=((q*bs.length+j:Nat):Int):=by
    rw[D.bl,Ht (x:=(q:Int)) (by omega) (by omega),Ht (x:=(j:Int)) (by omega) (by omega),show(q:Int)*(bs.length:Int)=((q*bs.length:Nat):Int) from(Int.natCast_mul _ _).symm,Ht (x:=((q*bs.length:Nat):Int)) (by omega) (by omega),Ht (by omega) (by omega)];omega
   rw[Fw,zh (by omega),Az,D.ends,at_ _ G,za];have key:∀(x9:Int) (x10:Bool),(x9,x10)=KV (if(0:Int)∈cl a.l_ false false set then[(i:Int)]else[]) (best,sm)->W ((IA s (i:Int)).bind λx12=>(WY 256 d.BX x12).bind λx13=>(FT d.CA (i64.wrap ((i64.wrap ((i64.wrap (q:Int))*d.BF))+(i64.wrap x13)))).bind λx14=>some (Sum.inl (x14,x9,x10,i64.wrap ((i:Int)+(1:Int))):(Int×Int×Bool×Int)⊕(Int×Bool))) (OG (EM d s) λr=>r=KV (PH a.l_ set (s.drop i) i) (best,sm)):=by
    intro x9 x10 H;rw[Kj F,za,ex,za,ei,G4 hnx,za];refine AB ?_;simp only[OG];rw[Ee (by omega)];refine(ih (i+1) (Xv a.l_ set y.toNat) v x9 x10 (by omega) hnv).mono λr B=>?_;rw[B,H,drop_cons F,PH,RH,XT hap]
   refine AJ (Be (λh0=>AB (key _ _ ?_)) λh0=>AB (key _ _ ?_))
   ·rw[zk h0];rfl
   ·rw[zm h0];rfl
noncomputable def KI(a:Ay)(s:List UInt8)(i:Nat):List Int:=if i=0/\s=[]then(if(0:Int)∈cl a.l_ true true [a.AY]then[0]else[])else PH a.l_ (cl a.l_ (decide (i=0)) false [a.AY]) (s.drop i) i
theorem Ux{a:Ay}{todo:List (List Int)}{bs:List UInt8}{d:Co}(D:Z6 a todo bs d)(s:List UInt8)(J:s.length<=1073741824)(i:Nat)(hi:i<=s.length):GG d s (i:Int)=some (KV (KI a s i) (0,false)):=by
 refine W.eq ?_;unfold GG KI;refine Am (λK=>?_) λ_=>?_
 ·simp only[zW,zx]at K;omega
 rw[show((i:Int)==0)=decide (i=0) from Fw i 0,show(s==([]:List UInt8))=decide (s=[]) from by cases s<;>simp];refine Be (λh0=>?_) λh0=>?_
 ·subst h0;obtain rfl:i=0:=by simpa using hi
  rw[zk ⟨rfl,rfl⟩,D.empty];refine AB ?_;split
  ·rename_i E;rw[zi E];rfl
  ·rename_i E;rw[zh E];rfl
 ·rw[zm (λe=>h0 e.2)];refine AJ (W.mono (Q:=λv=>Pv todo (cl a.l_ (decide (i=0)) false [a.AY]) v) (Be (λe=>AB ?_) λe=>AB ?_) λv X=>?_)
  ·rw[zi e];exact D.first
  ·rw[zh e];exact D.later
  ·refine AJ ((Ws D s J (s.length - i) i _ v 0 false (by omega) X).mono ?_);rintro⟨x6,x7⟩ B;exact AB B
theorem UC{g:List Int}(h:g≠[])(p:Int×Bool):KV g p=(g.getLast h,true):=by
 unfold KV;rw[List.getLast?_eq_some_getLast h]
theorem Yr{a:Ay}{todo:List (List Int)}{bs:List UInt8}{d:Co}(D:Z6 a todo bs d)(s:List UInt8)(J:s.length<=1073741824)(from_:Int):
  W (Hg d s from_) λr=>(r=(0,0,false)/\∀k:Nat,mx from_ 0<=k->k<=s.length->KI a s k=[])\/
   (∃(k:Nat) (h:KI a s k≠[]),r=((k:Int),(KI a s k).getLast h,true)/\mx from_ 0<=k/\k<=s.length/\∀q:Nat,mx from_ 0<=q->q<k->KI a s q=[]):=by
 have h0:0<=mx from_ 0:=by unfold mx;split<;>omega
 unfold Hg
 refine AJ (W.mono (W.loop (λx=>∃k:Nat,x=(k:Int)/\mx from_ 0<=k/\∀q:Nat,mx from_ 0<=q->q<k->KI a s q=[]) (λx=>((s.length:Int)+1 - x).toNat) ⟨(mx from_ 0).toNat,by omega,by omega,λq h1 M=>by omega⟩ ?_ (Q:=λo=>match o with
  | .inl _=>∀k:Nat,mx from_ 0<=k->k<=s.length->KI a s k=[]
  | .inr r=>∃(k:Nat) (h:KI a s k≠[]),r=((k:Int),(KI a s k).getLast h,true)/\mx from_ 0<=k/\k<=s.length/\∀q:Nat,mx from_ 0<=q->q<k->KI a s q=[])) λo C=>?_)
 ·rintro _ ⟨k,rfl,h1,M⟩;unfold Ib;refine Be (λhle=>?_) λhgt=>AB λq h3 h4=>M q h3 (by omega);have V:k<=s.length:=by omega
  rw[Ux D s J k V,za];by_cases he:KI a s k=[]
  ·rw[he,UL];refine AB ⟨⟨k+1,Ee (by omega),by omega,λq h3 h4=>?_⟩,by rw[Ee (by omega)];omega⟩;by_cases e:q=k
   ·subst e;exact he
   ·exact M q h3 (by omega)
  ·rw[UC he];exact AB ⟨k,he,rfl,h1,V,M⟩
 ·cases o with
  |inl _=>exact AB (.inl ⟨rfl,C⟩)
  |inr r=>
   obtain⟨x2,x3,x4⟩:=r;exact AB (.inr C)
end Go.Av.L
end
/-
 A part.
-/
section
namespace Go.Av.L
open IntKind (i64)
open Go.Av Go.Lib
set_option linter.unusedVariables false
set_option linter.unusedSimpArgs false
set_option maxRecDepth 10000
theorem WE:∀c:Fin 256,∃r:Nat,HL (c.val:Int)=some (r:Int)/\r<256:=by
 have:∀c:Fin 256,((HL (c.val:Int)).map λr=>decide (0<=r/\r<256))=some true:=by decide+kernel
 intro c;have h:=this c;cases B:HL (c.val:Int)with
 |none=>rw[B]at h;cases h
 |some r=>
  rw[B]at h;have M:=of_decide_eq_true (zw h);exact⟨r.toNat,by congr 1;omega,by omega⟩
theorem We(c:UInt8)(m:Int):∃d:UInt8,(Gs (c.toNat:Int) m).bind Oj=some d:=by
 have hc:=c.toNat_lt;unfold Gs;have self:((some (c.toNat:Int)).bind Oj)=some (UInt8.ofNat c.toNat):=by
  show Oj (c.toNat:Int)=_;unfold Oj;simp;omega
 by_cases h:((((m==2)||(m==5))&&((decide ((c.toNat:Int)>=97))&&(decide ((c.toNat:Int)<=122))))||(((m==3)||(m==6))&&((decide ((c.toNat:Int)>=65))&&(decide ((c.toNat:Int)<=90)))))=true
 ·rw[h,Bd];obtain⟨r,B,hr2⟩:=WE ⟨c.toNat,by omega⟩;rw[show(((⟨c.toNat,by omega⟩:Fin 256).val:Nat):Int)=(c.toNat:Int) from rfl]at B;rw[B,za,za];refine⟨UInt8.ofNat r,?_⟩;unfold Oj;simp;omega
 ·rw[Bool.not_eq_true]at h;rw[h,Az];exact⟨_,self⟩
theorem Vv(out:List UInt8)(al nx:Int)(s:List UInt8)(h:out.length+s.length<=1000000000000):W (DX ⟨out,al,nx⟩ s) λr=>r.2.length=out.length+s.length:=by
 unfold DX;dsimp only;refine AJ (W.mono (W.list (l:=s) (λ(u:Int×List UInt8) (i:Nat)=>(u.1,u.2,(i:Int))) (λu i=>u.2.length=out.length+i) ?_ ?_ (nx,out) rfl (Q:=λr=>r.2.length=out.length+s.length)) λr B=>AB B)
 ·rintro⟨x,o⟩ C;unfold EY;dsimp only at *;rw[zh (by omega),Az];exact AB C
 ·rintro⟨x,o⟩ i hi C;unfold EY;dsimp only at *;rw[zi (by omega),Bd];refine AJ (W.mono (Q:=λ_=>True) (Am (λ_=>AB trivial) λ_=>AB trivial) λy _=>?_);obtain⟨y1,y2⟩:=y;rw[Kj hi,za];obtain⟨d,hd⟩:=We s[i] y2;cases hl:Gs (s[i].toNat:Int) y2 with
  |none=>rw[hl]at hd;cases hd
  |some v=>
   rw[hl]at hd;have hd:Oj v=some d:=hd;rw[za,hd,za];refine Ce (DL (by simp;omega) (by simp;omega)) (AB ⟨(y1,o++[d]),by rw[Ee (by omega)],by simp;omega⟩)
theorem Wo(s:List UInt8)(x:Ao):W (H7 s x) λr=>r.length<=s.length:=by
 unfold H7;refine Am (λ_=>AB (by simp)) λh=>?_;simp only[zG,zB]at h;obtain⟨⟨⟨_,h1⟩,M⟩,h3⟩:=h;obtain⟨a,ha⟩:=zn (show 0<=x.Lv by omega);obtain⟨b,K⟩:=zn (show 0<=x.To by omega);rw[ha,K,HF (by omega) (by omega),za];exact AB (by rw[zP,zL];omega)
structure bY(l:List Af):Prop where
 len:l.length<=100
 cG:∀p∈l,p.Bytes.length<=100
theorem U7{l:List Af}(P:bY l)(s:List UInt8)(O:s.length<=100000)(sp:List Ao):W (Fc l s sp) λr=>r.length<=20000000:=by
 have hl:=P.len;unfold Fc;refine AJ (W.mono (W.list (l:=l) (λ(u:List UInt8×Int×Int) (i:Nat)=>(u.1,u.2.1,u.2.2,(i:Int))) (λu i=>u.1.length<=i*100100) ?_ ?_ ([],4,0) (by simp) (Q:=λr=>r.1.length<=20000000)) λr B=>AB B)
 ·rintro⟨o,a,n⟩ C;unfold Fo;dsimp only at *;rw[zh (by omega),Az];refine AB ?_;dsimp only;omega
 ·rintro⟨o,a,n⟩ i hi C;unfold Fo;dsimp only at *;have K:=P.cG _ (zX hi);rw[zi (by omega),Bd,CR hi,za];generalize l[i]=p at K;obtain⟨N,hN⟩:∃N,N=(i+1)*100100:=⟨_,rfl⟩;rw[<-hN];refine AJ (W.mono (Q:=λr=>r.1.length<=N) ?_ λr B=>AB ⟨(r.1,r.2.1,r.2.2),by rw[Ee (by omega)],B⟩);refine Am (λ_=>?_) λ_=>Am (λ_=>?_) λ_=>?_
  ·exact AJ ((Vv o a n p.Bytes (by omega)).mono λr B=>AB (by dsimp only;omega))
  ·refine Am (λhg=>?_) λ_=>AB (by dsimp only;omega);rw[zj,zx,zx]at hg;obtain⟨g,hgn⟩:=zn hg.1;rw[hgn,CR (show g<sp.length by omega),za];refine AJ ((Wo s _).mono λx hx=>?_);exact AJ ((Vv o a n x (by omega)).mono λr B=>AB (by dsimp only;omega))
  ·refine AJ (W.mono (Q:=λ_=>True) (Am (λ_=>AB trivial) λ_=>Am (λ_=>AB trivial) λ_=>AB trivial) λx _=>Am (λ_=>AB (by dsimp only;omega)) λ_=>?_);exact AJ (W.mono (Q:=λ_=>True) (Am (λ_=>AB trivial) λ_=>AB trivial) λx _=>Am (λ_=>AB (by dsimp only;omega)) λ_=>AB (by dsimp only;omega))
theorem TW(l:List Af)(hl:l.length<=100000):W (HB l) λ_=>True:=by
 unfold HB;refine AJ (W.mono (W.list (l:=l) (λ(u:Int) (i:Nat)=>(u,(i:Int))) (λ_ _=>True) ?_ ?_ 0 trivial (Q:=λ_=>True)) λr B=>AB B)
 ·intro u _;unfold G1;dsimp only;rw[zh (by omega),Az];exact AB trivial
 ·intro u i hi _;unfold G1;dsimp only;rw[zi (by omega),Bd,CR hi,za];exact AJ (W.mono (Q:=λ_=>True) (Am (λ_=>AB trivial) λ_=>AB trivial) λv _=>AB ⟨v,by rw[Ee (by omega)],trivial⟩)
theorem SX(l:List Af)(hl:l.length<=100000):W (F6 l) λ_=>True:=by
 unfold F6;refine AJ (W.mono (W.list (l:=l) (λ(u:Int) (i:Nat)=>(u,(i:Int))) (λ_ _=>True) ?_ ?_ 0 trivial (Q:=λ_=>True)) λr B=>AB B)
 ·intro u _;unfold F7;dsimp only;rw[zh (by omega),Az];exact AB trivial
 ·intro u i hi _;unfold F7;dsimp only;rw[zi (by omega),Bd,CR hi,za];exact AJ (W.mono (Q:=λ_=>True) (Am (λ_=>AB trivial) λ_=>AB trivial) λv _=>AB ⟨v,by rw[Ee (by omega)],trivial⟩)
def Pn(n:Nat)(l:List Af):Prop:=l.length<=n/\∀p∈l,p.Bytes.length<=n
theorem Pn.snoc{n:Nat}{l:List Af}(h:Pn n l){p:Af}(H:p.Bytes.length<=n+1):Pn (n+1) (l++[p]):=by
 refine⟨by rw[zq,zy];have:=h.1;omega,λq G=>?_⟩;rcases zp.1 G with M|M
 ·have:=h.2 q M;omega
 ·rw[zH.1 M];exact H
theorem Pn.up{n m:Nat}{l:List Af}(h:Pn n l)(hm:n<=m):Pn m l:=⟨by have:=h.1;omega,λq G=>by have:=h.2 q G;omega⟩
theorem ZN(c:UInt8):Oj (c.toNat:Int)=some c:=by
 have hc:=c.toNat_lt;unfold Oj;simp;omega
theorem Vo{n:Nat}{l:List Af}(h:Pn n l)(J:n<=10000)(c:UInt8):W (GD l (c.toNat:Int)) (Pn (n+1)):=by
 have hl:=h.1;unfold GD;have new:W ((Oj (c.toNat:Int)).bind λx6=>Ds (J5 32 (l.length+([(⟨(0:Int),(0:Int),([x6]:List UInt8)⟩:Af)]:List Af).length))<|some (l++([(⟨(0:Int),(0:Int),([x6]:List UInt8)⟩:Af)]:List Af))) (Pn (n+1)):=by
  rw[ZN,za];exact Ce (DL (by simp;omega) (by simp;omega)) (AB (h.snoc (by simp)))
 by_cases h0:0<l.length
 ·have U:l.length - 1<l.length:=by omega
  have e1:i64.wrap ((l.length:Int) - 1)=((l.length - 1:Nat):Int):=by rw[Ht (by omega) (by omega)];omega
  rw[zi (by omega),Bd,e1,CR U,za,za];refine Am (λ_=>?_) λ_=>new;rw[za,ZN,za];have K:=h.2 _ (zX U);refine Ce (zi (by simp;omega)) ?_;rw[za,zl];refine AB ⟨by rw[zr];omega,λq G=>?_⟩;rcases yZ G with M|rfl
  ·have:=h.2 q M;omega
  ·simp;omega
 ·rw[zh (by omega),Az,za,Az];exact new
theorem WJ(s:List UInt8)(O:s.length<=90):W (Hy s) λr=>bY r.1:=by
 unfold Hy;refine Am (λ_=>AB ⟨by simp,by simp⟩) λ_=>?_;refine AJ (W.mono (W.loop (λu=>∃i:Nat,u.2=(i:Int)/\i<=s.length/\Pn i u.1) (λu=>(s.length - u.2).toNat) ⟨0,rfl,by omega,by unfold Pn;simp⟩ ?_ (Q:=λo=>match o with| .inl l=>Pn s.length l| .inr _=>True)) λo C=>?_)
 ·rintro⟨l,_⟩ ⟨i,rfl,hi,H⟩;dsimp only at H;have hl:=H.1;unfold I7;dsimp only;refine Be (λhlt=>?_) λhge=>AB (H.up (by omega));have hi2:i<s.length:=by omega
  refine AJ (W.mono (Q:=λo:(List Af×Int)⊕(Int×Int)=>match o with| .inl (l',x)=>∃k:Nat,x=(k:Int)/\i<=k/\k<s.length/\Pn (k+1) l'| .inr _=>True) ?_ λo C=>?_)
  ·rw[Kj hi2,za];refine Am (λ_=>Ce (DL (by simp;omega) (by simp;omega)) (AB ⟨i,rfl,zo _,hi2,H.snoc (by simp)⟩)) λ_=>Am (λ_=>?_) λ_=>?_
   ·exact AJ ((Vo H (by omega) _).mono λr B=>AB ⟨i,rfl,zo _,hi2,B⟩)
   ·rw[Ee (by omega)];refine Am (λ_=>AB trivial) λhne=>?_;have hne2:¬i+1=s.length:=λe=>by rw[e]at hne;simp at hne
    have hi3:i+1<s.length:=by omega
    rw[Kj hi3,za];refine AJ (W.mono (Q:=λr:Af×Bool=>r.1.Bytes=[]) ?_ λr B=>?_)
    ·unfold Jz;exact Am (λ_=>AB rfl) λ_=>AB rfl
    obtain⟨p,b⟩:=r;dsimp only at B⊢;refine AJ (W.mono (Q:=λo:(List Af)⊕(Int×Int)=>match o with| .inl l'=>Pn (i+1) l'| .inr _=>True) ?_ λo C=>?_)
    ·refine Am (λ_=>Ce (DL (by simp;omega) (by simp;omega)) (AB (H.snoc (by rw[B];simp)))) λ_=>Am (λ_=>?_) λ_=>AB trivial;exact AJ ((Vo H (by omega) _).mono λr B=>AB B)
    ·rcases o with l'|⟨_,_⟩
     ·exact AB ⟨i+1,rfl,by omega,hi3,Pn.up C (by omega)⟩
     ·exact AB trivial
  ·rcases o with⟨l',x⟩|⟨_,_⟩
   ·obtain⟨k,rfl,k1,k2,k3⟩:=C;dsimp only;rw[Ee (by omega)];exact AB ⟨⟨k+1,rfl,by omega,k3⟩,by dsimp only;omega⟩
   ·exact AB trivial
 ·rcases o with l|⟨_,_⟩
  ·exact AB ⟨by have:=C.1;dsimp only;omega,λp H=>by have:=C.2 p H;omega⟩
  ·exact AB ⟨by simp,by simp⟩
end Go.Av.L
end
