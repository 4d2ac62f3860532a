/-
  Several texts in one.
-/
import Derived.Test.YtfgmnhjedmkpeaaAvMap
set_option linter.unusedSimpArgs false
/-
 A part.
-/
section
namespace Go.Av
set_option linter.unusedVariables false
set_option linter.unusedSimpArgs false
section
variable {α:Type} {g:Gd} {h:AE} {L F:List Ck}
theorem SI{ws:List α}{i:Int}{x:α}(Y:Fy ws i=some x):0<=i/\i.toNat<ws.length/\ws[i.toNat]?=some x:=by
 unfold Fy at Y;split at Y
 ·exact⟨by omega,(List.getElem?_eq_some_iff.1 Y).1,Y⟩
 ·cases Y
theorem Jy{ws:List α}{i:Int}{x:α}(Y:Fy ws i=some x)(a:Nat×Nat)(z:Nat){n:Nat}(T:ws.length=n):SR a n z i=some (a.1,a.2+i.toNat*z):=by
 obtain⟨h1,W,_⟩:=SI Y;unfold SR;rw[zj ⟨h1,by omega⟩]
theorem HH.WE(a:HH g h L F)(k:Nat){id:Nat}{gr:Option TypeId}{cs:List AD}(J:L[k]?=some (.obj id (.cells gr 2 cs)))(off:Nat)(f:α->AD)(ws:List α)(hcs:(cs.drop off).take ws.length=ws.map f){i:Int}{x:α}(Y:Fy ws i=some x):Av.Ma h (id,off+i.toNat*1)=some (f x):=by
 obtain⟨h1,W,h3⟩:=SI Y;refine a.Ma k J ?_;have:=congrArg (·[i.toNat]?) hcs;simp only[List.getElem?_take,W,if_true,List.getElem?_drop,List.getElem?_map,h3,zf]at this;rw[Nat.mul_one];exact this
def SB:List α->Int->α->List α
 |[],_,_=>[]
 |w::r,i,y=>(bif i==0 then y else w)::SB r (i - 1) y
theorem SZ(y:α):∀(ws:List α) (i:Int),0<=i->SB ws i y=ws.set i.toNat y
 |[],i,_=>by simp[SB]
 | w ::r,i,h=>by
  rw[SB];by_cases h0:i=0
  ·subst h0;have e:∀(r:List α) (j:Int),j<0->SB r j y=r:=by
    intro r
    induction r with
    |nil=>intro j _;rfl
    |cons w r ih=>
     intro j hj;have:(j==0)=false:=by simp;omega
     rw[SB,this,yh,ih (j - 1) (by omega)]
   rw[e r (0 - 1) (by omega)];simp
  ·have e1:(i==0)=false:=by simpa using h0
   obtain⟨m,hm⟩:∃m:Nat,i.toNat=m+1:=⟨i.toNat - 1,by omega⟩;rw[e1,yh,SZ y r (i - 1) (by omega),hm,show(i - 1).toNat=m by omega];simp
theorem Q8(pre mid post:List AD)(j:Nat)(v:AD)(hj:j<mid.length):Cu (pre++(mid++post)) (pre.length+j) [v]=pre++(mid.set j v++post):=by
 unfold Cu;have e1:(pre++(mid++post)).take (pre.length+j)=pre++mid.take j:=by
  rw[List.take_append,zM (by omega),show pre.length+j - pre.length=j by omega,qy (by omega)]
 have e2:(pre++(mid++post)).drop (pre.length+j+[v].length)=mid.drop (j+1)++post:=by
  rw[List.drop_append,List.drop_of_length_le (by simp;omega),z8,show pre.length+j+[v].length - pre.length=j+1 by simp;omega,qz (by omega)]
 rw[e1,e2,yd,zj hj];simp
theorem HH.X3(a:HH g h L F)(k:Nat){id:Nat}{gr:Option TypeId}{cs ds:List AD}(J:L[k]?=some (.obj id (.cells gr 2 cs)))(off:Nat)(f:α->AD)(ws:List α){i:Int}{x:α}(y:α)(hcs:(cs.drop off).take ws.length=ws.map f)(Y:Fy ws i=some x)(h1:(f y).one=true)
  (X:cs.take off++((SB ws i y).map f++cs.drop (off+ws.length))=ds):∃h',Av.st g h (id,off+i.toNat*1) [f y]=some h'/\HH g h' (L.set k (.obj id (.cells gr 2 ds))) F:=by
 obtain⟨W,h3,h4⟩:=SI Y;have hl:ws.length<=cs.length - off:=by
  have:=congrArg List.length hcs;simp only[yp,ya,yn]at this;omega
 refine a.st k J (o:=off+i.toNat*1) (by simp;omega) (by simpa using h1) ?_;subst X;rw[SZ y ws i W,Nat.mul_one];have e:cs=cs.take off++(ws.map f++cs.drop (off+ws.length)):=by
  conv=>lhs;rw[<-zD off cs,<-zD ws.length (cs.drop off),hcs,yU]
 have ht:(cs.take off).length=off:=by rw[yp];omega
 have:=Q8 (cs.take off) (ws.map f) (cs.drop (off+ws.length)) i.toNat (f y) (by simpa using h3);rw[<-e,ht]at this;rw[this,qL]
end
end Go.Av
end
/-
 A part.
-/
section
namespace Go.Av
set_option linter.unusedVariables false
set_option linter.unusedSimpArgs false
def Tm(P:Program)(fr:Fr):Op->Option (Option (Nat×Nat)×Nat×Nat×Option AD×Option AD)
 | .slice t x lo hi none=>
  match P.underlying t,ev fr x with
  |some (.slice e),.slice r n=>(B9 P e).map λz=>(r,n,z,lo.map (ev fr),hi.map (ev fr))
  |_,_=>none
 |_=>none
section
variable {α:Type} {e:α->List AD} {z:Nat} {g:Gd} {h:AE} {L F:List Ck}
theorem HH.Yj(a:HH g h L F)(k:Nat){r:Option Nat}{t:TypeId}{xs:List α}(J:L[k]?=some (.Af r t (Af e xs))):HH g h (L.set k (.Af r t (Af e (xs++[])))) F:=by
 rw[yR,LA J,<-IP J];exact a
theorem HH.YJ(a:HH g h L F)(k:Nat){r:Option Nat}{t:TypeId}{xs tl ys:List α}{u:Int}(J:L[k]?=some (.Af r t (Af e (xs++tl))))(D:Pe xs none (some u)=some ys):∃tl',HH g h (L.set k (.Af r t (Af e (ys++tl')))) F:=by
 refine⟨xs.drop u.toNat++tl,?_⟩;unfold Pe Qn at D;simp only at D;split at D
 ·simp only[zf,yw,qr,zd]at D;rw[<-D,<-zR,zD,LA J,<-IP J];exact a
 ·cases D
theorem HH.Yk(E:Ml e z)(hz:z≠0)(a:HH g h L F)(k:Nat){r:Option Nat}{t:TypeId}{xs tl:List α}(J:L[k]?=some (.Af r t (Af e (xs++tl)))){i:Int}{x:α}(hi:Fy xs i=some x):
  ∃id,r=some id/\h.get id=some (.cells (some t) 2 (Af e (xs++tl)))/\Jp (DM r xs.length) z i=some (id,i.toNat*z)/\(xs++tl)[i.toNat]?=some x:=by
 unfold Fy at hi;split at hi
 ·rename_i h0;have hlt:=(List.getElem?_eq_some_iff.1 hi).1;have hi2:(xs++tl)[i.toNat]?=some x:=by rw[List.getElem?_append_left hlt];exact hi
  cases r with
  |none=>
   have T:Af e (xs++tl)=[]:=a.mem J;exfalso;have h1:=E.K9 (xs++tl);rw[T]at h1;have W:(xs++tl).length*z=0:=by simpa using h1.symm
   rcases ym.1 W with h|h
   ·rw[zH]at h;omega
   ·exact hz h
  |some id=>
   refine⟨id,rfl,a.mem J,?_,hi2⟩;simp only[DM,zf,Jp];rw[SR,zj ⟨h0,by omega⟩];simp
 ·cases hi
theorem Rz(a:HH g h L F)(k:Nat){r:Option Nat}{e:TypeId}{cs tl:List AD}(J:L[k]?=some (.Af r e (cs++tl))){n z:Nat}(T:cs.length=n*z)(hz:z≠0):Ch h z n (AR r n)=some cs:=by
 have hok:=a.mem J;unfold AR Ch;cases r with
 | none=>
  have:cs++tl=[]:=hok;have hcs:cs=[]:=(List.append_eq_nil_iff.1 this).1;subst hcs;have h0:n=0:=by
   have:n*z=0:=by simpa using T.symm
   rcases ym.1 this with h|h
   ·exact h
   ·exact absurd h hz
  subst h0;simp
 | some id=>
  have hg:h.get id=some (.cells (some e) 2 (cs++tl)):=hok;simp only[zf];by_cases h0:n=0
  ·subst h0;rw[zj rfl];have:cs=[]:=zw (by simpa using T);rw[this]
  ·rw[zk h0];unfold B2;simp only[hg];rw[zj ⟨by simp,by rw[zH];omega⟩,yw,<-T,qh]
theorem HH.XI(a:HH g h L F)(k:Nat){r:Option Nat}{e:TypeId}{cs tl new new':List AD}{z bytes n m:Nat}{x:AD}(J:L[k]?=some (.Af r e (cs++tl)))(T:cs.length=n*z)(hz:z≠0)(Y:Ch h z m x=some new)(hc:new.map IG=new')(hm:new'.length=m*z)(hm0:m≠0)
  (hb:n+m<=1099511627776/\(n+m)*bytes<=1099511627776) (h1:cs.all AD.one=true) (W:new'.all AD.one=true):
  ∃r' h',Av.app e z bytes g h (DM r n) m x=some (DM r' (n+m),h')/\HH g h' (L.set k (.Af r' e (cs++new'))) F:=by
 have hfo:Ch h z n (AR r n)=some cs:=Rz a k J T hz;unfold Av.app;rw[zk hm0,zj (show(DM r n).n+m<=1099511627776/\((DM r n).n+m)*bytes<=1099511627776 from hb)];simp only[DM,Y,zf,hc];rw[show Ch h z n (.slice (r.map λi=>(i,0)) n)=some cs from hfo];simp only;rw[zj (by rw[qC,h1,W];rfl)];cases r with
 |none=>
  refine⟨some h.size,_,rfl,?_⟩;exact a.Q7 J (by simp) (λi hi _=>h.Cc _ hi) (h.Bh _) (λi hi=>by simp[Ck.ids]at hi;omega) (λi hi=>by simp[Ck.ids]at hi;rw[hi];exact a.new)
 | some id=>
  have hg:h.get id=some (.cells (some e) 2 (cs++tl)):=a.mem J;have hid:=h.BZ hg;simp only[zf,hg];rw[zj ⟨a.Pc J (by simp[Ck.ids]),trivial⟩];refine⟨some h.size,_,rfl,?_⟩;refine a.Q7 J (by simp) (λi hi T=>?_) ?_ (λi hi=>by simp[Ck.ids]at hi;omega) (λi hi=>by simp[Ck.ids]at hi;rw[hi];exact a.new)
  ·rw[AE.Cc _ _ (by simpa using hi)];exact h.Cj _ hid (by simpa[Ck.ids]using T)
  ·have:=AE.Bh (h.set id (.cells (some e) 0 [])) (.cells (some e) 2 (cs++new'));exact this
theorem HH.Vf(E:Ml e z)(hz:z≠0)(a:HH g h L F)(k:Nat){r:Option Nat}{t:TypeId}{xs tl ys:List α}{new:List AD}{bytes m:Nat}{x:AD}(J:L[k]?=some (.Af r t (Af e (xs++tl))))(Y:Ch h z m x=some new)(hc:new.map IG=Af e ys)(hm:m=ys.length)(hb:Pb bytes (xs.length+m)=true):
  ∃r' tl' h',Av.app t z bytes g h (DM r xs.length) m x=some (DM r' (xs++ys).length,h')/\HH g h' (L.set k (.Af r' t (Af e ((xs++ys)++tl')))) F:=by
 subst hm;have e0:Af e (xs++tl)=Af e xs++Af e tl:=by simp[Af]
 cases ys with
 |nil=>
  refine⟨r,tl,h,?_,?_⟩
  ·simp[Av.app,DM]
  ·rw[yR,LA J,<-IP J];exact a
 |cons y ys=>
  obtain⟨r',h',h1,W⟩:=a.XI k (by rw[J,e0]) (E.K9 xs) hz Y hc (E.K9 (y::ys)) (by simp) (of_decide_eq_true hb) (E.VJ xs) (E.VJ (y::ys));refine⟨r',[],h',by rw[h1,zH],?_⟩;have:Af e ((xs++(y::ys))++[])=Af e xs++Af e (y::ys):=by simp[Af]
  rw[this];exact W
theorem Wa{C:Gf}{S:Self}{fr:Fr}{op:Op}(E:Ml e z)(hz:z≠0)(a:HH g h L F)(k:Nat){r:Option Nat}{t:TypeId}{xs tl ys:List α}{k':IntKind}{u:Int}(J:L[k]?=some (.Af r t (Af e (xs++tl))))
  (D:Tm C.P fr op=some ((DM r xs.length).r,xs.length,z,none,some (.int k' u))) (ht:B9 C.P t=some z) (hl:Pe xs none (some u)=some ys):BI C S g h fr op=some (AR r ys.length,h):=by
 unfold Tm at D;split at D
 ·rename_i t0 x lo hi;split at D
  ·rename_i el r0 n hu Y;obtain⟨z',hz',he⟩:=zh.1 D;simp only[ze]at he;obtain⟨rfl,rfl,rfl,e1,e2⟩:=he;unfold Pe Qn at hl;simp only at hl;split at hl
   ·rename_i hb;simp only[zf,yw,qr,zd]at hl;have hyl:ys.length=u.toNat:=by rw[<-hl,yp];omega
    have hc:As C.P (.slice t0 x lo hi none)=1:=by simp only[As,hu]
    have hbd:Di xs.length (lo.map (ev fr)) (hi.map (ev fr))=some (0,u.toNat):=by rw[e1,e2];simp only[Di];rw[zj hb]
    show Gn C.P C.C4 g h fr (.slice t0 x lo hi none)=_;cases r with
    | none=>
     have T:Af e (xs++tl)=[]:=a.mem J;have h1:=E.K9 (xs++tl);rw[T]at h1;have W:(xs++tl).length*z'=0:=by simpa using h1.symm
     have h3:xs=[]:=by
      rcases ym.1 W with h|h
      ·rw[zH]at h;exact zw (by omega)
      ·exact absurd h hz
     subst h3;have hys:ys=[]:=by rw[<-hl];simp
     subst hys;have hx':ev fr x=.slice none 0:=by rw[Y];rfl
     simp only[Gn,hc,Cm,hx',EN,Iq,OG,hu,hz',za];rw[show Di 0 (lo.map (ev fr)) (hi.map (ev fr))=some (0,u.toNat) from hbd];rfl
    |some id=>
     have hg:h.get id=some (.cells (some t) 2 (Af e (xs++tl))):=a.mem J;have hx':ev fr x=.slice (some (id,0)) xs.length:=by rw[Y];rfl
     simp only[Gn,hc,Cm,hx',EN,hg,Iq,OG,hu,hz',ht,if_true,hbd,zf,Nat.zero_mul,qa,qr,AR,hyl]
   ·cases hl
  ·cases D
 ·cases D
end
end Go.Av
end
/-
 A part.
-/
section
namespace Go.Av
set_option linter.unusedVariables false
set_option linter.unusedSimpArgs false
def JK(d:Nat):List (Nat×AD)->Bool
 |[]=>true
 |(i,_)::r=>bif Nat.beq i d then false else JK d r
theorem LF{d:Nat}:∀{l:List (Nat×AD)},JK d l=true->∀p∈l,p.1≠d
 |[],_,p,G=>by cases G
 | (i,v)::r,h,p,G=>by
  unfold JK at h;rw[GS]at h;by_cases e:i=d
  ·rw[zj e]at h;cases h
  ·rw[zk e]at h;cases G with
   |head=>exact e
   |tail _ G=>exact LF h p G
def Je(ops:Array Oper)(i:Nat)(l:List (Nat×AD)):Bool:=
 match Gw ops i with
 |none=>true
 |some d=>JK d l
section
variable {C:Gf} {f:FuncId} {g:Gd} {ops:Array Oper} {tch:List (Nat×Nat)} {fr:Fr} {h h1:AE} {K:Fr->AE->Prop} {N:Nat} {l:List (Nat×AD)} {i r:Nat}
theorem JN{l:List (Nat×AD)}(X:Je ops i l=true)(v:AD):∀p∈l,nth (put fr (Gw ops i) v) p.1=nth fr p.1:=by
 intro p G;unfold Je at X;split at X
 ·rename_i e;rw[e];rfl
 ·rename_i d e;rw[e];exact LZ fr v (λe=>LF X p G (zW e).symm)
variable {Q:DF->Fr->AE->Prop} {c:Code}
def L8:Code->Nat->Bool
 | .region _ ops draw,n=> !draw&&Nat.beq ops.size n
 |_,_=>false
theorem Cb(n:Nat)(V:AT C g (opsOf c) (Hm 0 n) [] fr h (λfr' h'=>Q .normal fr' h'))(D:L8 c n=true:=by kernel_rfl):AW C f g c fr h Q:=by
 cases c with
 |region id ops draw=>
  simp only[L8,zg,zu]at D;obtain⟨rfl,e⟩:=D;obtain rfl:=zE e;exact BS (id:=id) _ rfl rfl V
 |_=>cases D
theorem Ag(V:AW C f g (left c) fr h (MA (λfr h=>AW C f g (right c) fr h Q) Q))(D:shape c=.seq:=by kernel_rfl):AW C f g c fr h Q:=BM D V
theorem Has.ls{out:List (Nat×AD)}(H:Has fr N l)(h:∀fr,out.map (λp=>nth (Cy N l fr) p.1)=out.map (·.2):=by intro _;kernel_rfl):Has fr N out:=H.less out h
theorem Al(d:Nat){b:Bool}{α:Type}{x y:Option α}{r:α}(H:Has fr N l)(hm:Aj b x y=some r)(h1:b=true->x=some r->Has fr N (Oq l d (.bool true))->AW C f g (left c) fr h Q)(W:b=false->y=some r->Has fr N (Oq l d (.bool false))->AW C f g (right c) fr h Q)
  (X:MR l d=some (.bool b):=by kernel_rfl) (D:shape c=.cond (.tmp d):=by kernel_rfl):AW C f g c fr h Q:=by
 have e:nth fr d=.bool b:=H.2 _ (Js X);cases c<;>simp[shape]at D;subst D;rcases Ay hm with⟨hb,hm⟩|⟨hb,hm⟩
 ·obtain⟨n,e',fr',h',q1,q2⟩:=(h1 hb hm (H.EL d hb X)).ex;rw[hb]at e;exact⟨⟨n,e',fr',h',by simp only[BF,ev,e];exact q1,q2⟩⟩
 ·obtain⟨n,e',fr',h',q1,q2⟩:=(W hb hm (H.EL d hb X)).ex;rw[hb]at e;exact⟨⟨n,e',fr',h',by simp only[BF,ev,e];exact q1,q2⟩⟩
def Fc(ops:Array Oper)(l:List (Nat×AD)):List Nat->Bool
 |[]=>true
 |i::r=>Je ops i l&&Fc ops l r
theorem JA{P:Program}{l:List (Nat×AD)}:∀(is:List Nat) (fr fr1:Fr),Fc ops l is=true->Fk P ops is fr=some fr1->∀p∈l,nth fr1 p.1=nth fr p.1
 |[],fr,fr1,_,D,p,G=>by
  simp only[Fk,zd]at D;rw[D]
 | i::is,fr,fr1,X,D,p,G=>by
  simp only[Fc,zg]at X;simp only[Fk]at D;split at D
  ·cases D
  ·rename_i o ho;have e2:Gw ops i=o.dst:=by simp[Gw,ho]
   have J:=λfr v=>JN (fr:=fr) X.1 v p G;rw[e2]at J;split at D
   ·split at D
    ·rw[JA is _ _ X.2 D p G,J]
    ·cases D
   ·rw[JA is _ _ X.2 D p G,J]
   ·cases D
variable {pl:List (Nat×List Nat)} {U:List Nat}
theorem AO(k:Nat)(nw:List (Nat×AD))(H:Has fr N l)(T:∀fr',Has fr' N (List.append nw l)->AT C g ops (pl.drop k) tch fr' h K)
  (J:∀fr,(PO (pl.take k),Fc ops l (EM (pl.take k)),(Fk C.P ops (EM (pl.take k)) (Cy N l fr)).map (λx=>nw.map (λp=>nth x p.1)))=(true,true,some (nw.map (·.2))):=by intro _;kernel_rfl):
  AT C g ops pl tch fr h K:=by
 have B:=J fr;rw[EB H]at B;simp only[ze]at B;obtain⟨hu,X,B⟩:=B;cases R:Fk C.P ops (EM (pl.take k)) fr with
 |none=>rw[R]at B;cases B
 |some fr1=>
  rw[R]at B;simp only[zf,zd]at B;have e:pl=pl.take k++pl.drop k:=(zD k pl).symm;rw[e];refine KJ _ _ fr fr1 (F7 hu) R (T fr1 ?_);have h1:=Has.of_map ((FI _ _ _ R).trans H.1) B;refine⟨h1.1,λp G=>?_⟩;rcases zo.1 G with G|G
  ·exact h1.2 p G
  ·rw[JA _ fr fr1 X R p G];exact H.2 p G
theorem Az(d:Nat)(v:AD)(h1:AE)(H:Has fr N l)(D:∀fr,Steps C g h (Cy N l fr) (Mi ops i) v h1)
  (T:∀fr' t,Has fr' N ((d,v)::l)->AT C g ops pl t fr' h1 K)
  (hw:∀fr,(runs ops (Cy N l fr) i,Gw ops i,Nat.blt d N,JK d l)=(true,some d,true,true):=by intro _;kernel_rfl):AT C g ops ((i,[])::pl) tch fr h K:=by
 have O:=hw fr;have M:=D fr;rw[EB H]at O M;simp only[ze]at O;obtain⟨w1,w2,w3,w4⟩:=O;refine Hk (v:=v) w1 (by rw[HQ,z8];exact M) rfl (T _ _ ⟨by simp[H.1],λp G=>?_⟩);rw[w2];show nth (fr.set d v) p.1=p.2;cases G with
 |head=>
  rw[yI]at w3;rw[GR,zj ⟨rfl,by rw[H.1];exact w3⟩]
 |tail _ G=>
  rw[GR,zk (λe=>LF w4 p G e.1.symm)];exact H.2 p G
theorem SY(v:AD)(h1:AE)(H:Has fr N l)(D:∀fr,Steps C g h (Cy N l fr) (Mi ops i) v h1)
  (T:∀fr' t,Has fr' N l->AT C g ops pl t fr' h1 K)
  (hw:∀fr,(runs ops (Cy N l fr) i,Je ops i l)=(true,true):=by intro _;kernel_rfl):AT C g ops ((i,[])::pl) tch fr h K:=by
 have O:=hw fr;have M:=D fr;rw[EB H]at O M;simp only[ze]at O;obtain⟨w1,w2⟩:=O;refine Hk (v:=v) w1 (by rw[HQ,z8];exact M) rfl (T _ _ ⟨by simp[H.1],λp G=>?_⟩);rw[JN w2 v p G];exact H.2 p G
theorem CN(d:Nat)(v:AD)(h1:AE)(tch':List (Nat×Nat))(pr:List Nat)(H:Has fr N l)(D:∀fr,Steps C ⟨g.floor,pr⟩ h (Cy N l fr) (Mi ops i) v h1)
  (T:∀fr',Has fr' N ((d,v)::l)->AT C g ops pl tch' fr' h1 K)
  (hre:∀fr,Ow C ops U (put (Cy N l fr) (Gw ops i) v) h1=true:=by intro _;kernel_rfl)
  (hw:∀fr,(runs ops (Cy N l fr) i,Gw ops i,Nat.blt d N,JK d l)=(true,some d,true,true):=by intro _;kernel_rfl)
  (G:FQ tch U++g.Bs=pr:=by kernel_rfl) (ht:∀fr,EE C.P h (Cy N l fr) i (Mi ops i) tch=tch':=by intro _;kernel_rfl):AT C g ops ((i,U)::pl) tch fr h K:=by
 have O:=hw fr;have M:=D fr;have Z:=hre fr;have ht':=ht fr;rw[EB H]at O M Z ht';simp only[ze]at O;obtain⟨w1,w2,w3,w4⟩:=O;have V:Has (put fr (Gw ops i) v) N ((d,v)::l):=by
  refine⟨by simp[H.1],λp hq=>?_⟩;rw[w2];show nth (fr.set d v) p.1=p.2;cases hq with
  |head=>
   rw[yI]at w3;rw[GR,zj ⟨rfl,by rw[H.1];exact w3⟩]
  |tail _ hq=>
   rw[GR,zk (λe=>LF w4 p hq e.1.symm)];exact H.2 p hq
 exact Hk (v:=v) w1 (by rw[G];exact M) Z (by rw[ht'];exact T _ V)
theorem MQ(v:AD)(h1:AE)(tch':List (Nat×Nat))(pr:List Nat)(H:Has fr N l)(D:∀fr,Steps C ⟨g.floor,pr⟩ h (Cy N l fr) (Mi ops i) v h1)
  (T:∀fr',Has fr' N l->AT C g ops pl tch' fr' h1 K)
  (hre:∀fr,Ow C ops U (put (Cy N l fr) (Gw ops i) v) h1=true:=by intro _;kernel_rfl)
  (hw:∀fr,(runs ops (Cy N l fr) i,Je ops i l)=(true,true):=by intro _;kernel_rfl)
  (G:FQ tch U++g.Bs=pr:=by kernel_rfl) (ht:∀fr,EE C.P h (Cy N l fr) i (Mi ops i) tch=tch':=by intro _;kernel_rfl):AT C g ops ((i,U)::pl) tch fr h K:=by
 have O:=hw fr;have M:=D fr;have Z:=hre fr;have ht':=ht fr;rw[EB H]at O M Z ht';simp only[ze]at O;obtain⟨w1,w2⟩:=O;have V:Has (put fr (Gw ops i) v) N l:=by
  refine⟨by simp[H.1],λp hq=>?_⟩;rw[JN w2 v p hq];exact H.2 p hq
 exact Hk (v:=v) w1 (by rw[G];exact M) Z (by rw[ht'];exact T _ V)
theorem B6(k:Nat)(out:List (Nat×AD))(H:Has fr N l)(T:∀fr',Has fr' N out->AT C g ops (pl.drop k) tch fr' h K)
  (J:∀fr,(PO (pl.take k),(Fk C.P ops (EM (pl.take k)) (Cy N l fr)).map (λx=>out.map (λp=>nth x p.1)))=(true,some (out.map (·.2))):=by intro _;kernel_rfl):
  AT C g ops pl tch fr h K:=by
 have hu:=J fr;simp only[ze]at hu;have e:pl=pl.take k++pl.drop k:=(zD k pl).symm;rw[e];refine J7 (pl.take k) out H (F7 hu.1) (λfr=>?_) T;have:=J fr;simp only[ze]at this;exact this.2
def Ov(P:Program)(ops:Array Oper)(is:List Nat)(fr:Fr):Fr:=(Fk P ops is fr).getD fr
def ID(pl:List (Nat×List Nat))(k:Nat):Nat:=
 match pl.drop k with
 |(i,_)::_=>i
 |[]=>0
def Pm(pl:List (Nat×List Nat))(k:Nat):Bool:=
 match pl.drop k with
 |(_,[])::_=>true
 |_=>false
theorem SV{pl:List (Nat×List Nat)}{k:Nat}(h:Pm pl k=true):pl.drop k=(ID pl k,[])::pl.drop (k+1):=by
 unfold Pm at h;unfold ID;have e:pl.drop (k+1)=(pl.drop k).drop 1:=by rw[yU]
 split at h
 ·rename_i i r X;rw[e,X];rfl
 ·cases h
theorem Bk(k:Nat)(nw:List (Nat×AD))(d:Nat)(v:AD)(h1:AE)(H:Has fr N l)(D:∀fr,Steps C g h (Ov C.P ops (EM (pl.take k)) (Cy N l fr)) (Mi ops (ID pl k)) v h1)
  (T:∀fr' t,Has fr' N ((d,v)::List.append nw l)->AT C g ops (pl.drop (k+1)) t fr' h1 K)
  (J:∀fr,(Pm pl k&&(PO (pl.take k)&&(Fc ops l (EM (pl.take k))&&(JK d l&&(JK d nw&&Nat.blt d N)))),(Fk C.P ops (EM (pl.take k)) (Cy N l fr)).map (λx=>(runs ops x (ID pl k),Gw ops (ID pl k),nw.map (λp=>nth x p.1))))=(true,some (true,some d,nw.map (·.2))):=by intro _;kernel_rfl):AT C g ops pl tch fr h K:=by
 have B:=J fr;have M:=D fr;rw[EB H]at B M;simp only[ze,zg]at B;obtain⟨⟨a1,a2,a3,a4,a5,a6⟩,B⟩:=B;cases R:Fk C.P ops (EM (pl.take k)) fr with
 |none=>rw[R]at B;cases B
 | some fr1=>
  rw[R]at B;simp only[zf,zd,ze]at B;obtain⟨b1,b2,b3⟩:=B;have hF:Ov C.P ops (EM (pl.take k)) fr=fr1:=by unfold Ov;rw[R];rfl
  rw[hF]at M;have hl1:fr1.length=N:=(FI _ _ _ R).trans H.1;have hH:=Has.of_map hl1 b3;have e:pl=pl.take k++pl.drop k:=(zD k pl).symm;rw[e];refine KJ _ _ fr fr1 (F7 a2) R ?_;rw[SV a1];refine Hk (v:=v) b1 (by rw[HQ,z8];exact M) rfl (T _ _ ⟨by simp[hl1],λp G=>?_⟩);rw[b2];show nth (fr1.set d v) p.1=p.2;cases G with
  |head=>
   rw[yI]at a6;rw[GR,zj ⟨rfl,by rw[hl1];exact a6⟩]
  | tail _ G=>
   rcases zo.1 G with G|G
   ·rw[GR,zk (λe=>LF a5 p G e.1.symm)];exact hH.2 p G
   ·rw[GR,zk (λe=>LF a4 p G e.1.symm),JA _ fr fr1 a3 R p G];exact H.2 p G
theorem Uo(k:Nat)(nw:List (Nat×AD))(v:AD)(h1:AE)(H:Has fr N l)(D:∀fr,Steps C g h (Ov C.P ops (EM (pl.take k)) (Cy N l fr)) (Mi ops (ID pl k)) v h1)
  (T:∀fr' t,Has fr' N (List.append nw l)->AT C g ops (pl.drop (k+1)) t fr' h1 K)
  (J:∀fr,(Pm pl k&&(PO (pl.take k)&&(Fc ops l (EM (pl.take k))&&(Je ops (ID pl k) l&&Je ops (ID pl k) nw))),(Fk C.P ops (EM (pl.take k)) (Cy N l fr)).map (λx=>(runs ops x (ID pl k),nw.map (λp=>nth x p.1))))=(true,some (true,nw.map (·.2))):=by intro _;kernel_rfl):AT C g ops pl tch fr h K:=by
 have B:=J fr;have M:=D fr;rw[EB H]at B M;simp only[ze,zg]at B;obtain⟨⟨a1,a2,a3,a4,a5⟩,B⟩:=B;cases R:Fk C.P ops (EM (pl.take k)) fr with
 |none=>rw[R]at B;cases B
 |some fr1=>
  rw[R]at B;simp only[zf,zd,ze]at B;obtain⟨b1,b3⟩:=B;have hF:Ov C.P ops (EM (pl.take k)) fr=fr1:=by unfold Ov;rw[R];rfl
  rw[hF]at M;have hl1:fr1.length=N:=(FI _ _ _ R).trans H.1;have hH:=Has.of_map hl1 b3;have e:pl=pl.take k++pl.drop k:=(zD k pl).symm;rw[e];refine KJ _ _ fr fr1 (F7 a2) R ?_;rw[SV a1];refine Hk (v:=v) b1 (by rw[HQ,z8];exact M) rfl (T _ _ ⟨by simp[hl1],λp G=>?_⟩);rcases zo.1 G with G|G
  ·rw[JN a5 v p G];exact hH.2 p G
  ·rw[JN a4 v p G,JA _ fr fr1 a3 R p G];exact H.2 p G
theorem Um(k:Nat)(nw:List (Nat×AD))(H:Has fr N l)(hK:∀fr',AW C f g c fr' h Q->K fr' h)(V:∀fr',Has fr' N (List.append nw l)->AW C f g c fr' h Q)
  (J:∀fr,(PO pl,Nat.beq pl.length k,Fc ops l (EM pl),(Fk C.P ops (EM pl) (Cy N l fr)).map (λx=>nw.map (λp=>nth x p.1)))=(true,true,true,some (nw.map (·.2))):=by intro _;kernel_rfl):AT C g ops pl tch fr h K:=by
 have B:=J fr;simp only[ze]at B;have hl:=zE B.2.1;have ht:pl.take k=pl:=zM (by omega);have X:pl.drop k=[]:=qc (by omega);refine AO k nw H (λfr' H'=>?_) (λfr=>?_)
 ·rw[X];exact AY (hK _ (V _ H'))
 ·have:=J fr;simp only[ze]at this;rw[ht];simp only[ze];exact⟨this.1,this.2.2.1,this.2.2.2⟩
theorem XH(k:Nat)(nw:List (Nat×AD))(n:Nat)(H:Has fr N l)(hK:∀fr',AW C f g c fr' h Q->K fr' h)(V:∀fr',Has fr' N (List.append nw l)->AT C g (opsOf c) (Hm 0 n) [] fr' h (λfr' h'=>Q .normal fr' h'))
  (J:∀fr,(PO pl,Nat.beq pl.length k,Fc ops l (EM pl),(Fk C.P ops (EM pl) (Cy N l fr)).map (λx=>nw.map (λp=>nth x p.1)))=(true,true,true,some (nw.map (·.2))):=by intro _;kernel_rfl) (R:L8 c n=true:=by kernel_rfl):AT C g ops pl tch fr h K:=Um k nw H hK (λfr' H'=>Cb n (V fr' H') R) J
theorem XS(k:Nat)(nw:List (Nat×AD))(n:Nat)(H:Has fr N l)(hK:∀fr',AW C f g c fr' h Q->K fr' h)(V:∀fr',Has fr' N (List.append nw l)->AT C g (opsOf (left c)) (Hm 0 n) [] fr' h (λfr' h'=>MA (λfr h=>AW C f g (right c) fr h Q) Q .normal fr' h'))
  (J:∀fr,(PO pl,Nat.beq pl.length k,Fc ops l (EM pl),(Fk C.P ops (EM pl) (Cy N l fr)).map (λx=>nw.map (λp=>nth x p.1)))=(true,true,true,some (nw.map (·.2))):=by intro _;kernel_rfl) (D:shape c=.seq:=by kernel_rfl) (R:L8 (left c) n=true:=by kernel_rfl):AT C g ops pl tch fr h K:=Um k nw H hK (λfr' H'=>Ag (Cb n (V fr' H') R) D) J
theorem Ba(k:Nat)(I:Fr->AE->Prop)(h1:AT C g ops (pl.take k) tch fr h I)(W:∀t fr h,I fr h->AT C g ops (pl.drop k) t fr h K):AT C g ops pl tch fr h K:=by
 have e:pl=pl.take k++pl.drop k:=(zD k pl).symm;rw[e];exact OR _ I h1 W
theorem Fj(id n:Nat)(V:AT C g (opsOf c) (Hm 0 n) [] fr h (λfr' h'=>Q .normal fr' h'))(D:shape c=.region id n true:=by kernel_rfl)(G:C.Ky f id=Hm 0 n:=by kernel_rfl):AW C f g c fr h Q:=NP D _ G V
theorem Kz(id n:Nat)(pl:List (Nat×List Nat))(V:AT C g (opsOf c) pl [] fr h (λfr' h'=>Q .normal fr' h'))(D:shape c=.region id n true:=by kernel_rfl)(G:C.Ky f id=pl:=by kernel_rfl):AW C f g c fr h Q:=NP D _ G V
theorem AM(n:Nat)(V:AT C g (opsOf (left c)) (Hm 0 n) [] fr h (λfr' h'=>MA (λfr h=>AW C f g (right c) fr h Q) Q .normal fr' h'))(D:shape c=.seq:=by kernel_rfl)(R:L8 (left c) n=true:=by kernel_rfl):AW C f g c fr h Q:=BM D (Cb n V R)
theorem BX(hK:AW C f g c fr h Q->K fr h)(V:AW C f g c fr h Q):AT C g ops [] tch fr h K:=AY (hK V)
theorem KP(n:Nat)(hK:AW C f g c fr h Q->K fr h)(V:AT C g (opsOf c) (Hm 0 n) [] fr h (λfr' h'=>Q .normal fr' h'))(R:L8 c n=true:=by kernel_rfl):AT C g ops [] tch fr h K:=AY (hK (Cb n V R))
theorem Ce(n:Nat)(hK:AW C f g c fr h Q->K fr h)(V:AT C g (opsOf (left c)) (Hm 0 n) [] fr h (λfr' h'=>MA (λfr h=>AW C f g (right c) fr h Q) Q .normal fr' h'))(D:shape c=.seq:=by kernel_rfl)(R:L8 (left c) n=true:=by kernel_rfl):AT C g ops [] tch fr h K:=AY (hK (AM n V D R))
theorem Ax(hq:Q .ret fr h)(D:shape c=.ret:=by kernel_rfl):AW C f g c fr h Q:=Kh D hq
theorem DI(hq:Q .normal fr h)(D:shape c=.skip:=by kernel_rfl):AW C f g c fr h Q:=Eg D hq
end
theorem Aw{α:Type}{a x:α}(h:some a=some x):a=x:=zW h
theorem FJ{α β:Type}{a x:α}{b y:β}(h:some (a,b)=some (x,y)):a=x/\b=y:=qA (zW h)
theorem G6{α β γ:Type}{a x:α}{b y:β}{c z:γ}(h:some (a,b,c)=some (x,y,z)):a=x/\b=y/\c=z:=by
 obtain⟨h1,W⟩:=FJ h;exact⟨h1,qA W⟩
theorem RT{α β γ δ:Type}{a x:α}{b y:β}{c z:γ}{d w:δ}(h:some (a,b,c,d)=some (x,y,z,w)):a=x/\b=y/\c=z/\d=w:=by
 obtain⟨h1,W⟩:=FJ h;exact⟨h1,G6 (congrArg some W)⟩
theorem YI{α β γ δ ε:Type}{a x:α}{b y:β}{c z:γ}{d w:δ}{e v:ε}(h:some (a,b,c,d,e)=some (x,y,z,w,v)):a=x/\b=y/\c=z/\d=w/\e=v:=by
 obtain⟨h1,W⟩:=FJ h;exact⟨h1,RT (congrArg some W)⟩
end Go.Av
end
