/-
  Several texts in one.
-/
import Derived.Test.YtgkbpgefomapgaaGreatDoorAvTy
/-
 A part.
-/
section
namespace Go.Av
set_option linter.unusedVariables false
set_option linter.unusedSimpArgs false
section
variable {α:Type} {g:Gd} {h:AS} {L F:List Ck}
theorem Ue{ws:List α}{i:Int}{x:α}(R:FT ws i=some x):0<=i/\i.toNat<ws.length/\ws[i.toNat]?=some x:=by
 unfold FT at R;split at R
 ·exact⟨by omega,(List.getElem?_eq_some_iff.1 R).1,R⟩
 ·cases R
theorem KO{ws:List α}{i:Int}{x:α}(R:FT ws i=some x)(a:Nat×Nat)(z:Nat){n:Nat}(O:ws.length=n):YB a n z i=some (a.1,a.2+i.toNat*z):=by
 obtain⟨h1,W,_⟩:=Ue R;unfold YB;rw[zk ⟨h1,by omega⟩]
theorem HH.Zj(a:HH g h L F)(k:Nat){id:Nat}{gr:Option TypeId}{cs:List AE}(J:L[k]?=some (.obj id (.cells gr 2 cs)))(off:Nat)(f:α->AE)(ws:List α)(hcs:(cs.drop off).take ws.length=ws.map f){i:Int}{x:α}(R:FT ws i=some x):Av.SW h (id,off+i.toNat*1)=some (f x):=by
 obtain⟨h1,W,h3⟩:=Ue R;refine a.SW k J ?_;have:=congrArg (·[i.toNat]?) hcs;simp only[List.getElem?_take,W,if_true,List.getElem?_drop,List.getElem?_map,h3,zf]at this;rw[qD];exact this
def Ub:List α->Int->α->List α
 |[],_,_=>[]
 |w::r,i,y=>(bif i==0 then y else w)::Ub r (i - 1) y
theorem Vk(y:α):∀(ws:List α) (i:Int),0<=i->Ub ws i y=ws.set i.toNat y
 |[],i,_=>by simp[Ub]
 | w ::r,i,h=>by
  rw[Ub];by_cases h0:i=0
  ·subst h0;have e:∀(r:List α) (j:Int),j<0->Ub r j y=r:=by
    intro r
    induction r with
    |nil=>intro j _;rfl
    |cons w r ih=>
     intro j hj;have:(j==0)=false:=by simp;omega
     rw[Ub,this,yf,ih (j - 1) (by omega)]
   rw[e r (0 - 1) (by omega)];simp
  ·have e1:(i==0)=false:=by simpa using h0
   obtain⟨m,hm⟩:∃m:Nat,i.toNat=m+1:=⟨i.toNat - 1,by omega⟩;rw[e1,yf,Vk y r (i - 1) (by omega),hm,show(i - 1).toNat=m by omega];simp
theorem Pe(pre mid post:List AE)(j:Nat)(v:AE)(hj:j<mid.length):Fz (pre++(mid++post)) (pre.length+j) [v]=pre++(mid.set j v++post):=by
 unfold Fz;have e1:(pre++(mid++post)).take (pre.length+j)=pre++mid.take j:=by
  rw[List.take_append,zU (by omega),show pre.length+j - pre.length=j by omega,qC (by omega)]
 have e2:(pre++(mid++post)).drop (pre.length+j+[v].length)=mid.drop (j+1)++post:=by
  rw[List.drop_append,qO (by simp;omega),ye,show pre.length+j+[v].length - pre.length=j+1 by simp;omega,yQ (by omega)]
 rw[e1,e2,yc,zk hj];simp
theorem HH.bF(a:HH g h L F)(k:Nat){id:Nat}{gr:Option TypeId}{cs ds:List AE}(J:L[k]?=some (.obj id (.cells gr 2 cs)))(off:Nat)(f:α->AE)(ws:List α){i:Int}{x:α}(y:α)(hcs:(cs.drop off).take ws.length=ws.map f)(R:FT ws i=some x)(h1:(f y).one=true)
  (hd:cs.take off++((Ub ws i y).map f++cs.drop (off+ws.length))=ds):∃h',Av.st g h (id,off+i.toNat*1) [f y]=some h'/\HH g h' (L.set k (.obj id (.cells gr 2 ds))) F:=by
 obtain⟨W,h3,h4⟩:=Ue R;have hl:ws.length<=cs.length - off:=by
  have:=congrArg List.length hcs;simp only[zP,zL,yq]at this;omega
 refine a.st k J (o:=off+i.toNat*1) (by simp;omega) (by simpa using h1) ?_;subst hd;rw[Vk y ws i W,qD];have e:cs=cs.take off++(ws.map f++cs.drop (off+ws.length)):=by
  conv=>lhs;rw[<-zC off cs,<-zC ws.length (cs.drop off),hcs,yB]
 have ht:(cs.take off).length=off:=by rw[zP];omega
 have:=Pe (cs.take off) (ws.map f) (cs.drop (off+ws.length)) i.toNat (f y) (by simpa using h3);rw[<-e,ht]at this;rw[this,List.map_set]
end
end Go.Av
end
/-
 A part.
-/
section
namespace Go.Av
set_option linter.unusedSimpArgs false
set_option linter.unusedVariables false
def eP{α:Type}(e:α->List AE)(x:α):List AE:=[.BL (e x)]
theorem Wx{α:Type}(e:α->List AE):L9 (eP e) 1:=⟨λ_=>rfl,λ_=>rfl,λ_=>rfl⟩
section
variable {g:Gd} {h:AS} {L F:List Ck}
theorem HH.Zb{id:Nat}{cs:List AE}(a:HH g h (.obj id (.cells none 2 cs)::L) F):∃h1,HH g h1 L F/\∀cs' h',KC (Gy g) cs h1=some (cs',h')->Mt g h (.ptr (some (id,0)))=some (.BL cs',h'):=by
 have J:(Ck.obj id (.cells none 2 cs)::L)[0]?=some (.obj id (.cells none 2 cs)):=rfl;have hg:=a.get 0 J;have hid:=h.D6 hg;refine⟨h.set id (.cells none 0 cs),?_,λcs' h' R=>?_⟩
 ·have b:=a.SV (d:=.AP none 0 []) (h':=h.set id (.cells none 0 cs)) J (by simp) (λi _ hi=>h.EW _ hid (by simpa[Ck.ids]using hi)) rfl (λi hi=>by simp[Ck.ids]at hi) (λi hi=>by simp[Ck.ids]at hi);exact HH.tail (c:=.AP none 0 []) b
 ·simp only[Mt,hg,a.Px J (i:=id) (by simp[Ck.ids]),zY,R,zf]
theorem LI(vs:List AE):Tj g h (.tuple vs)=(KC (Mt g) vs h).map λr=>(.tuple r.1,r.2):=rfl
theorem LP(id:Nat):Tj g h (.ptr (some (id,0)))=Mt g h (.ptr (some (id,0))):=rfl
theorem LU:Mt g h (.ptr none)=some (.ptr none,h):=rfl
theorem LZ(cs:List AE):Mt g h (.agg cs)=(KC (Gy g) cs h).map λr=>(.agg r.1,r.2):=rfl
theorem LJ(r:Option Nat)(n:Nat):Mt g h (AH r n)=Gy g h (AH r n):=rfl
theorem LF(n:Nat)(cs:List AE):Mt g h (.Jd n cs)=some (.Jd n cs,h):=rfl
theorem LB(cs:List AE):Mt g h (.BL cs)=some (.BL cs,h):=rfl
theorem LO(k:IntKind)(n:Int):Mt g h (.int k n)=some (.int k n,h):=rfl
theorem K7(b:Bool):Mt g h (.bool b)=some (.bool b,h):=rfl
theorem K4(s:List UInt8):Mt g h (.str s)=some (.str s,h):=rfl
theorem LM:Mt g h (.slice none 0)=some (.Jd 0 [],h):=rfl
theorem LX(cs:List AE):Gy g h (.BL cs)=some (.BL cs,h):=rfl
theorem K9:Gy g h (.ptr none)=some (.ptr none,h):=rfl
end
end Go.Av
end
/-
 A part.
-/
section
namespace Go.Av
set_option linter.unusedVariables false
set_option linter.unusedSimpArgs false
def XL(P:Program)(fr:Fr):Op->Option (Option (Nat×Nat)×Nat×Nat×Option AE×Option AE)
 | .slice t x lo hi none=>
  match P.underlying t,ev fr x with
  |some (.slice e),.slice r n=>(Dn P e).map λz=>(r,n,z,lo.map (ev fr),hi.map (ev fr))
  |_,_=>none
 |_=>none
theorem Ng{C:J8}{ops:Array Oper}{fr:Fr}{h1:AS}{U:List Nat}{u j:Nat}(hu:u=j+10000)(h:Rn C ops fr h1 j=true)(V:Mr C ops U fr h1=true):Mr C ops (u::U) fr h1=true:=
 WD (by rw[hu,Nat.add_sub_cancel,h,Bool.or_true]) V
section
variable {α:Type} {e:α->List AE} {z:Nat} {g:Gd} {h:AS} {L F:List Ck}
theorem HH.bU(a:HH g h L F)(k:Nat){r:Option Nat}{t:TypeId}{xs:List α}(J:L[k]?=some (.AP r t (AP e xs))):HH g h (L.set k (.AP r t (AP e (xs++[])))) F:=by
 rw[yr,K2 J,<-Ig J];exact a
theorem HH.ZX(a:HH g h L F)(k:Nat){r:Option Nat}{t:TypeId}{xs tl ys:List α}{u:Int}(J:L[k]?=some (.AP r t (AP e (xs++tl))))(B:RN xs none (some u)=some ys):∃tl',HH g h (L.set k (.AP r t (AP e (ys++tl')))) F:=by
 refine⟨xs.drop u.toNat++tl,?_⟩;unfold RN VI at B;simp only at B;split at B
 ·simp only[zf,yn,qw,zd]at B;rw[<-B,<-zO,zC,K2 J,<-Ig J];exact a
 ·cases B
theorem HH.bj(E:L9 e z)(hz:z≠0)(a:HH g h L F)(k:Nat){r:Option Nat}{t:TypeId}{xs tl:List α}(J:L[k]?=some (.AP r t (AP e (xs++tl)))){i:Int}{x:α}(hi:FT xs i=some x):
  ∃id,r=some id/\h.get id=some (.cells (some t) 2 (AP e (xs++tl)))/\aB (Ca r xs.length) z i=some (id,i.toNat*z)/\(xs++tl)[i.toNat]?=some x:=by
 unfold FT at hi;split at hi
 ·rename_i h0;have hlt:=(List.getElem?_eq_some_iff.1 hi).1;have hi2:(xs++tl)[i.toNat]?=some x:=by rw[List.getElem?_append_left hlt];exact hi
  cases r with
  |none=>
   have O:AP e (xs++tl)=[]:=a.mem J;exfalso;have h1:=E.Ij (xs++tl);rw[O]at h1;have W:(xs++tl).length*z=0:=by simpa using h1.symm
   rcases yj.1 W with h|h
   ·rw[zq]at h;omega
   ·exact hz h
  |some id=>
   refine⟨id,rfl,a.mem J,?_,hi2⟩;simp only[Ca,zf,aB];rw[YB,zk ⟨h0,by omega⟩];simp
 ·cases hi
theorem VH(a:HH g h L F)(k:Nat){r:Option Nat}{e:TypeId}{cs tl:List AE}(J:L[k]?=some (.AP r e (cs++tl))){n z:Nat}(O:cs.length=n*z)(hz:z≠0):Du h z n (AH r n)=some cs:=by
 have hok:=a.mem J;unfold AH Du;cases r with
 | none=>
  have:cs++tl=[]:=hok;have hcs:cs=[]:=(List.append_eq_nil_iff.1 this).1;subst hcs;have h0:n=0:=by
   have:n*z=0:=by simpa using O.symm
   rcases yj.1 this with h|h
   ·exact h
   ·exact absurd h hz
  subst h0;simp
 | some id=>
  have hg:h.get id=some (.cells (some e) 2 (cs++tl)):=hok;simp only[zf];by_cases h0:n=0
  ·subst h0;rw[zk rfl];have:cs=[]:=zt (by simpa using O);rw[this]
  ·rw[zm h0];unfold Dy;simp only[hg];rw[zk ⟨by simp,by rw[zq];omega⟩,yn,<-O,yX]
theorem HH.aY(a:HH g h L F)(k:Nat){r:Option Nat}{e:TypeId}{cs tl new new':List AE}{z bytes n m:Nat}{x:AE}(J:L[k]?=some (.AP r e (cs++tl)))(O:cs.length=n*z)(hz:z≠0)(R:Du h z m x=some new)(hc:new.map II=new')(hm:new'.length=m*z)(hm0:m≠0)
  (hb:n+m<=1099511627776/\(n+m)*bytes<=1099511627776) (h1:cs.all AE.one=true) (W:new'.all AE.one=true):
  ∃r' h',Av.app e z bytes g h (Ca r n) m x=some (Ca r' (n+m),h')/\HH g h' (L.set k (.AP r' e (cs++new'))) F:=by
 have hfo:Du h z n (AH r n)=some cs:=VH a k J O hz;unfold Av.app;rw[zm hm0,zk (show(Ca r n).n+m<=1099511627776/\((Ca r n).n+m)*bytes<=1099511627776 from hb)];simp only[Ca,R,zf,hc];rw[show Du h z n (.slice (r.map λi=>(i,0)) n)=some cs from hfo];simp only;rw[zk (by rw[qG,h1,W];rfl)];cases r with
 |none=>
  refine⟨some h.size,_,rfl,?_⟩;exact a.SV J (by simp) (λi hi _=>h.EZ _ hi) (h.ES _) (λi hi=>by simp[Ck.ids]at hi;omega) (λi hi=>by simp[Ck.ids]at hi;rw[hi];exact a.new)
 | some id=>
  have hg:h.get id=some (.cells (some e) 2 (cs++tl)):=a.mem J;have hid:=h.D6 hg;simp only[zf,hg];rw[zk ⟨a.Px J (by simp[Ck.ids]),trivial⟩];refine⟨some h.size,_,rfl,?_⟩;refine a.SV J (by simp) (λi hi O=>?_) ?_ (λi hi=>by simp[Ck.ids]at hi;omega) (λi hi=>by simp[Ck.ids]at hi;rw[hi];exact a.new)
  ·rw[AS.EZ _ _ (by simpa using hi)];exact h.EW _ hid (by simpa[Ck.ids]using O)
  ·have:=AS.ES (h.set id (.cells (some e) 0 [])) (.cells (some e) 2 (cs++new'));exact this
theorem HH.TT(E:L9 e z)(hz:z≠0)(a:HH g h L F)(k:Nat){r:Option Nat}{t:TypeId}{xs tl ys:List α}{new:List AE}{bytes m:Nat}{x:AE}(J:L[k]?=some (.AP r t (AP e (xs++tl))))(R:Du h z m x=some new)(hc:new.map II=AP e ys)(hm:m=ys.length)(hb:J5 bytes (xs.length+m)=true):
  ∃r' tl' h',Av.app t z bytes g h (Ca r xs.length) m x=some (Ca r' (xs++ys).length,h')/\HH g h' (L.set k (.AP r' t (AP e ((xs++ys)++tl')))) F:=by
 subst hm;have e0:AP e (xs++tl)=AP e xs++AP e tl:=by simp[AP]
 cases ys with
 |nil=>
  refine⟨r,tl,h,?_,?_⟩
  ·simp[Av.app,Ca]
  ·rw[yr,K2 J,<-Ig J];exact a
 |cons y ys=>
  obtain⟨r',h',h1,W⟩:=a.aY k (by rw[J,e0]) (E.Ij xs) hz R hc (E.Ij (y::ys)) (by simp) (of_decide_eq_true hb) (E.X2 xs) (E.X2 (y::ys));refine⟨r',[],h',by rw[h1,zq],?_⟩;have:AP e ((xs++(y::ys))++[])=AP e xs++AP e (y::ys):=by simp[AP]
  rw[this];exact W
theorem Uj{C:J8}{S:Self}{fr:Fr}{op:Op}(E:L9 e z)(hz:z≠0)(a:HH g h L F)(k:Nat){r:Option Nat}{t:TypeId}{xs tl ys:List α}{k':IntKind}{u:Int}(J:L[k]?=some (.AP r t (AP e (xs++tl))))
  (B:XL C.P fr op=some ((Ca r xs.length).r,xs.length,z,none,some (.int k' u))) (ht:Dn C.P t=some z) (hl:RN xs none (some u)=some ys):CC C S g h fr op=some (AH r ys.length,h):=by
 unfold XL at B;split at B
 ·rename_i t0 x lo hi;split at B
  ·rename_i el r0 n hu R;obtain⟨z',hz',he⟩:=zg.1 B;simp only[ze]at he;obtain⟨rfl,rfl,rfl,e1,e2⟩:=he;unfold RN VI at hl;simp only at hl;split at hl
   ·rename_i hb;simp only[zf,yn,qw,zd]at hl;have hyl:ys.length=u.toNat:=by rw[<-hl,zP];omega
    have hc:Br C.P (.slice t0 x lo hi none)=1:=by simp only[Br,hu]
    have hbd:Fg xs.length (lo.map (ev fr)) (hi.map (ev fr))=some (0,u.toNat):=by rw[e1,e2];simp only[Fg];rw[zk hb]
    show J7 C.P C.GZ g h fr (.slice t0 x lo hi none)=_;cases r with
    | none=>
     have O:AP e (xs++tl)=[]:=a.mem J;have h1:=E.Ij (xs++tl);rw[O]at h1;have W:(xs++tl).length*z'=0:=by simpa using h1.symm
     have h3:xs=[]:=by
      rcases yj.1 W with h|h
      ·rw[zq]at h;exact zt (by omega)
      ·exact absurd h hz
     subst h3;have hys:ys=[]:=by rw[<-hl];simp
     subst hys;have hx':ev fr x=.slice none 0:=by rw[R];rfl
     simp only[J7,hc,Es,hx',Gb,MJ,QJ,hu,hz',za];rw[show Fg 0 (lo.map (ev fr)) (hi.map (ev fr))=some (0,u.toNat) from hbd];rfl
    |some id=>
     have hg:h.get id=some (.cells (some t) 2 (AP e (xs++tl))):=a.mem J;have hx':ev fr x=.slice (some (id,0)) xs.length:=by rw[R];rfl
     simp only[J7,hc,Es,hx',Gb,hg,MJ,QJ,hu,hz',ht,if_true,hbd,zf,Nat.zero_mul,yV,qw,AH,hyl]
   ·cases hl
  ·cases B
 ·cases B
end
end Go.Av
end
/-
 A part.
-/
section
namespace Go.Av
set_option linter.unusedVariables false
set_option linter.unusedSimpArgs false
section
variable {α:Type} {g:Gd} {h:AS} {L F:List Ck}
def Gf(n:Nat)(e:α->AE)(X:Nat->α):List AE:=(List.range n).map λi=>e (X i)
def UT:Nat->Int:=λ_=>0
def SL(X:Nat->α)(i:Nat)(y:α):Nat->α:=λj=>bif Nat.beq j i then y else X j
def WY(n:Nat)(X:Nat->α)(i:Int):Option α:=if 0<=i/\i.toNat<n then some (X i.toNat)else none
theorem OB{n:Nat}{X:Nat->α}{i:Int}{x:α}(R:WY n X i=some x):0<=i/\i.toNat<n/\X i.toNat=x:=by
 unfold WY at R;split at R
 ·rename_i hc;exact⟨hc.1,hc.2,zw R⟩
 ·cases R
theorem Lt(n:Nat)(e:α->AE)(X:Nat->α):(Gf n e X).length=n:=by simp[Gf]
theorem Ry(X:Nat->α)(i:Nat)(y:α):SL X i y i=y:=by
 unfold SL;rw[show Nat.beq i i=true from yL i];rfl
theorem Vh(X:Nat->α){i j:Nat}(y:α)(h:j≠i):SL X i y j=X j:=by
 unfold SL;cases hb:Nat.beq j i with
 |true=>exact absurd (zJ hb) h
 |false=>rfl
theorem YG(n:Nat)(e:α->AE)(X:Nat->α)(i:Nat)(y:α):(Gf n e X).set i (e y)=Gf n e (SL X i y):=by
 unfold Gf;refine qa λj=>?_;rw[List.getElem?_set];simp only[yq,List.length_range,List.getElem?_map];by_cases hj:i=j
 ·subst hj;by_cases O:i<n
  ·simp[O,Ry]
  ·simp[O]
 ·by_cases O:j<n
  ·simp[hj,O,Vh X y (Ne.symm hj)]
  ·simp[hj,O]
theorem XP{n:Nat}(e:α->AE){X:Nat->α}(r:List AE){i:Int}{x:α}(R:WY n X i=some x):∃tl,(Gf n e X++r).drop (i.toNat*1)=[e x]++tl:=by
 obtain⟨h1,W,h3⟩:=OB R;rw[qD];have hl:i.toNat<(Gf n e X++r).length:=by rw[zq,Lt];omega
 refine⟨(Gf n e X++r).drop (i.toNat+1),?_⟩;rw[zE hl,List.getElem_append_left (by rw[Lt];exact W)];simp[Gf,h3]
theorem Ys{n:Nat}{X:Nat->α}{i:Int}{x:α}(R:WY n X i=some x)(a:Nat×Nat)(z:Nat):YB a n z i=some (a.1,a.2+i.toNat*z):=by
 obtain⟨h1,W,_⟩:=OB R;unfold YB;rw[zk ⟨h1,by omega⟩]
theorem HH.cR(a:HH g h L F)(k:Nat){id n:Nat}{gr:Option TypeId}(e:α->AE){X:Nat->α}(pre post:List AE){off:Nat}(J:L[k]?=some (.obj id (.cells gr 2 (pre++(Gf n e X++post)))))(G:pre.length=off){i:Int}{x:α}(y:α)(R:WY n X i=some x)(h1:(e y).one=true):
  ∃h',Av.st g h (id,off+i.toNat*1) [e y]=some h'/\HH g h' (L.set k (.obj id (.cells gr 2 (pre++(Gf n e (SL X i.toNat y)++post))))) F:=by
 obtain⟨W,h3,h4⟩:=OB R;refine a.st k J (o:=off+i.toNat*1) (by simp[Lt];omega) (by simpa using h1) ?_;rw[<-G,qD,Pe _ _ _ _ _ (by rw[Lt];exact h3),YG]
theorem Tw(k:IntKind)(X:Nat->Int)(n:Nat)(r:List AE):KC (Gy g) (Gf n (AE.int k) X++r) h=(KC (Gy g) r h).map λq=>(Gf n (AE.int k) X++q.1,q.2):=by
 unfold Gf;generalize List.range n=l
 induction l with
 |nil=>simp
 |cons i l ih=>
  have e:KC (Gy g) ((AE.int k (X i)::l.map λi=>AE.int k (X i))++r) h=(KC (Gy g) ((l.map λi=>AE.int k (X i))++r) h).map λq:List AE×AS=>(AE.int k (X i)::q.1,q.2):=rfl;rw[yE,e,ih,Option.map_map];rfl
theorem TO(v:AE)(r:List AE):KC (Gy g) ([v]++r) h=KC (Gy g) (v::r) h:=rfl
end
section
variable {C:J8} {S:Self} {g:Gd} {h:AS} {fr:Fr} {op:Op}
def XE(P:Program)(fr:Fr):Op->Option (List AE×Nat×Nat×Int)
 | .indexAddr t x i=>
  match P.underlying t,ev fr x,ev fr i with
  |some (.array n e),.BL cs,.int _ i=>(Dn P e).map λz=>(cs,n,z,i)
  |_,_,_=>none
 |_=>none
theorem ZW{α:Type}{cs ds:List AE}{n z:Nat}{i:Int}{X:Nat->α}{x:α}(B:XE C.P fr op=some (cs,n,z,i))(R:WY n X i=some x)(hd:cs.drop (i.toNat*z)=ds):CC C S g h fr op=some (.BL ds,h):=by
 obtain⟨h1,W,_⟩:=OB R;unfold XE at B;split at B
 ·split at B
  ·rename_i hu hv hi;simp only[zg,ze]at B;obtain⟨m,h3,e1,e2,e3,e4⟩:=B;subst e1 e2 e3 e4;simp[CC,J7,Br,KZ,IC,hu,hv,hi,h3,hd]
   first|done|(refine⟨?_,?_⟩<;>omega)|omega
  ·cases B
 ·cases B
end
end Go.Av
end
/-
 A part.
-/
section
namespace Go.Av
set_option linter.unusedVariables false
set_option linter.unusedSimpArgs false
def JU(d:Nat):List (Nat×AE)->Bool
 |[]=>true
 |(i,_)::r=>bif Nat.beq i d then false else JU d r
theorem LD{d:Nat}:∀{l:List (Nat×AE)},JU d l=true->∀p∈l,p.1≠d
 |[],_,p,G=>by cases G
 | (i,v)::r,h,p,G=>by
  unfold JU at h;rw[Jy]at h;by_cases e:i=d
  ·rw[zk e]at h;cases h
  ·rw[zm e]at h;cases G with
   |head=>exact e
   |tail _ G=>exact LD h p G
def Jp(ops:Array Oper)(i:Nat)(l:List (Nat×AE)):Bool:=
 match I8 ops i with
 |none=>true
 |some d=>JU d l
section
variable {C:J8} {f:FuncId} {g:Gd} {ops:Array Oper} {tch:List (Nat×Nat)} {fr:Fr} {h h1:AS} {K:Fr->AS->Prop} {N:Nat} {l:List (Nat×AE)} {i r:Nat}
theorem JW{l:List (Nat×AE)}(hd:Jp ops i l=true)(v:AE):∀p∈l,nth (put fr (I8 ops i) v) p.1=nth fr p.1:=by
 intro p G;unfold Jp at hd;split at hd
 ·rename_i e;rw[e];rfl
 ·rename_i d e;rw[e];exact Q8 fr v (λe=>LD hd p G (zw e).symm)
variable {Q:HV->Fr->AS->Prop} {c:Code}
def Mw:Code->Nat->Bool
 | .region _ ops draw,n=> !draw&&Nat.beq ops.size n
 |_,_=>false
theorem BY(n:Nat)(Y:AT C g (opsOf c) (Jq 0 n) [] fr h (λfr' h'=>Q .normal fr' h'))(B:Mw c n=true:=by kernel_rfl):AW C f g c fr h Q:=by
 cases c with
 |region id ops draw=>
  simp only[Mw,zj,zK]at B;obtain⟨rfl,e⟩:=B;obtain rfl:=zJ e;exact Zx (id:=id) _ rfl rfl Y
 |_=>cases B
theorem AQ(Y:AW C f g (left c) fr h (N9 (λfr h=>AW C f g (right c) fr h Q) Q))(B:shape c=.seq:=by kernel_rfl):AW C f g c fr h Q:=VC B Y
theorem Has.ls{out:List (Nat×AE)}(H:Has fr N l)(h:∀fr,out.map (λp=>nth (EO N l fr) p.1)=out.map (·.2):=by intro _;kernel_rfl):Has fr N out:=H.less out h
theorem AU(d:Nat){b:Bool}{α:Type}{x y:Option α}{r:α}(H:Has fr N l)(hm:Ae b x y=some r)(h1:b=true->x=some r->Has fr N (Uw l d (.bool true))->AW C f g (left c) fr h Q)(W:b=false->y=some r->Has fr N (Uw l d (.bool false))->AW C f g (right c) fr h Q)
  (hd:RZ l d=some (.bool b):=by kernel_rfl) (B:shape c=.cond (.tmp d):=by kernel_rfl):AW C f g c fr h Q:=by
 have e:nth fr d=.bool b:=H.2 _ (Oz hd);cases c<;>simp[shape]at B;subst B;rcases BS hm with⟨hb,hm⟩|⟨hb,hm⟩
 ·obtain⟨n,e',fr',h',q1,q2⟩:=(h1 hb hm (H.Zo d hb hd)).ex;rw[hb]at e;exact⟨⟨n,e',fr',h',by simp only[CV,ev,e];exact q1,q2⟩⟩
 ·obtain⟨n,e',fr',h',q1,q2⟩:=(W hb hm (H.Zo d hb hd)).ex;rw[hb]at e;exact⟨⟨n,e',fr',h',by simp only[CV,ev,e];exact q1,q2⟩⟩
def GB(ops:Array Oper)(l:List (Nat×AE)):List Nat->Bool
 |[]=>true
 |i::r=>Jp ops i l&&GB ops l r
theorem JY{P:Program}{l:List (Nat×AE)}:∀(is:List Nat) (fr fr1:Fr),GB ops l is=true->Hu P ops is fr=some fr1->∀p∈l,nth fr1 p.1=nth fr p.1
 |[],fr,fr1,_,B,p,G=>by
  simp only[Hu,zd]at B;rw[B]
 | i::is,fr,fr1,hd,B,p,G=>by
  simp only[GB,zj]at hd;simp only[Hu]at B;split at B
  ·cases B
  ·rename_i o ho;have e2:I8 ops i=o.dst:=by simp[I8,ho]
   have J:=λfr v=>JW (fr:=fr) hd.1 v p G;rw[e2]at J;split at B
   ·split at B
    ·rw[JY is _ _ hd.2 B p G,J]
    ·cases B
   ·rw[JY is _ _ hd.2 B p G,J]
   ·cases B
variable {pl:List (Nat×List Nat)} {U:List Nat}
theorem AI(k:Nat)(nw:List (Nat×AE))(H:Has fr N l)(O:∀fr',Has fr' N (List.append nw l)->AT C g ops (pl.drop k) tch fr' h K)
  (J:∀fr,(Sj (pl.take k),GB ops l (Fb (pl.take k)),(Hu C.P ops (Fb (pl.take k)) (EO N l fr)).map (λx=>nw.map (λp=>nth x p.1)))=(true,true,some (nw.map (·.2))):=by intro _;kernel_rfl):
  AT C g ops pl tch fr h K:=by
 have D:=J fr;rw[HU H]at D;simp only[ze]at D;obtain⟨hu,hd,D⟩:=D;cases V:Hu C.P ops (Fb (pl.take k)) fr with
 |none=>rw[V]at D;cases D
 |some fr1=>
  rw[V]at D;simp only[zf,zd]at D;have e:pl=pl.take k++pl.drop k:=(zC k pl).symm;rw[e];refine OX _ _ fr fr1 (OF hu) V (O fr1 ?_);have h1:=Has.of_map ((IP _ _ _ V).trans H.1) D;refine⟨h1.1,λp G=>?_⟩;rcases zp.1 G with G|G
  ·exact h1.2 p G
  ·rw[JY _ fr fr1 hd V p G];exact H.2 p G
theorem Aw(d:Nat)(v:AE)(h1:AS)(H:Has fr N l)(B:∀fr,Steps C g h (EO N l fr) (Pr ops i) v h1)
  (O:∀fr' t,Has fr' N ((d,v)::l)->AT C g ops pl t fr' h1 K)
  (hw:∀fr,(runs ops (EO N l fr) i,I8 ops i,Nat.blt d N,JU d l)=(true,some d,true,true):=by intro _;kernel_rfl):AT C g ops ((i,[])::pl) tch fr h K:=by
 have T:=hw fr;have M:=B fr;rw[HU H]at T M;simp only[ze]at T;obtain⟨w1,w2,w3,w4⟩:=T;refine KN (v:=v) w1 (by rw[KX,ye];exact M) rfl (O _ _ ⟨by simp[H.1],λp G=>?_⟩);rw[w2];show nth (fr.set d v) p.1=p.2;cases G with
 |head=>
  rw[yJ]at w3;rw[Ip,zk ⟨rfl,by rw[H.1];exact w3⟩]
 |tail _ G=>
  rw[Ip,zm (λe=>LD w4 p G e.1.symm)];exact H.2 p G
theorem La(v:AE)(h1:AS)(H:Has fr N l)(B:∀fr,Steps C g h (EO N l fr) (Pr ops i) v h1)
  (O:∀fr' t,Has fr' N l->AT C g ops pl t fr' h1 K)
  (hw:∀fr,(runs ops (EO N l fr) i,Jp ops i l)=(true,true):=by intro _;kernel_rfl):AT C g ops ((i,[])::pl) tch fr h K:=by
 have T:=hw fr;have M:=B fr;rw[HU H]at T M;simp only[ze]at T;obtain⟨w1,w2⟩:=T;refine KN (v:=v) w1 (by rw[KX,ye];exact M) rfl (O _ _ ⟨by simp[H.1],λp G=>?_⟩);rw[JW w2 v p G];exact H.2 p G
theorem Ba(d:Nat)(v:AE)(h1:AS)(tch':List (Nat×Nat))(pr:List Nat)(H:Has fr N l)(B:∀fr,Steps C ⟨g.floor,pr⟩ h (EO N l fr) (Pr ops i) v h1)
  (O:∀fr',Has fr' N ((d,v)::l)->AT C g ops pl tch' fr' h1 K)
  (hre:∀fr,Mr C ops U (put (EO N l fr) (I8 ops i) v) h1=true:=by intro _;kernel_rfl)
  (hw:∀fr,(runs ops (EO N l fr) i,I8 ops i,Nat.blt d N,JU d l)=(true,some d,true,true):=by intro _;kernel_rfl)
  (G:Je tch U++g.Bb=pr:=by kernel_rfl) (ht:∀fr,H9 C.P h (EO N l fr) i (Pr ops i) tch=tch':=by intro _;kernel_rfl):AT C g ops ((i,U)::pl) tch fr h K:=by
 have T:=hw fr;have M:=B fr;have Z:=hre fr;have ht':=ht fr;rw[HU H]at T M Z ht';simp only[ze]at T;obtain⟨w1,w2,w3,w4⟩:=T;have Y:Has (put fr (I8 ops i) v) N ((d,v)::l):=by
  refine⟨by simp[H.1],λp hq=>?_⟩;rw[w2];show nth (fr.set d v) p.1=p.2;cases hq with
  |head=>
   rw[yJ]at w3;rw[Ip,zk ⟨rfl,by rw[H.1];exact w3⟩]
  |tail _ hq=>
   rw[Ip,zm (λe=>LD w4 p hq e.1.symm)];exact H.2 p hq
 exact KN (v:=v) w1 (by rw[G];exact M) Z (by rw[ht'];exact O _ Y)
theorem H5(v:AE)(h1:AS)(tch':List (Nat×Nat))(pr:List Nat)(H:Has fr N l)(B:∀fr,Steps C ⟨g.floor,pr⟩ h (EO N l fr) (Pr ops i) v h1)
  (O:∀fr',Has fr' N l->AT C g ops pl tch' fr' h1 K)
  (hre:∀fr,Mr C ops U (put (EO N l fr) (I8 ops i) v) h1=true:=by intro _;kernel_rfl)
  (hw:∀fr,(runs ops (EO N l fr) i,Jp ops i l)=(true,true):=by intro _;kernel_rfl)
  (G:Je tch U++g.Bb=pr:=by kernel_rfl) (ht:∀fr,H9 C.P h (EO N l fr) i (Pr ops i) tch=tch':=by intro _;kernel_rfl):AT C g ops ((i,U)::pl) tch fr h K:=by
 have T:=hw fr;have M:=B fr;have Z:=hre fr;have ht':=ht fr;rw[HU H]at T M Z ht';simp only[ze]at T;obtain⟨w1,w2⟩:=T;have Y:Has (put fr (I8 ops i) v) N l:=by
  refine⟨by simp[H.1],λp hq=>?_⟩;rw[JW w2 v p hq];exact H.2 p hq
 exact KN (v:=v) w1 (by rw[G];exact M) Z (by rw[ht'];exact O _ Y)
theorem BA(k:Nat)(out:List (Nat×AE))(H:Has fr N l)(O:∀fr',Has fr' N out->AT C g ops (pl.drop k) tch fr' h K)
  (J:∀fr,(Sj (pl.take k),(Hu C.P ops (Fb (pl.take k)) (EO N l fr)).map (λx=>out.map (λp=>nth x p.1)))=(true,some (out.map (·.2))):=by intro _;kernel_rfl):
  AT C g ops pl tch fr h K:=by
 have hu:=J fr;simp only[ze]at hu;have e:pl=pl.take k++pl.drop k:=(zC k pl).symm;rw[e];refine Zh (pl.take k) out H (OF hu.1) (λfr=>?_) O;have:=J fr;simp only[ze]at this;exact this.2
def Ps(P:Program)(ops:Array Oper)(is:List Nat)(fr:Fr):Fr:=(Hu P ops is fr).getD fr
def IX(pl:List (Nat×List Nat))(k:Nat):Nat:=
 match pl.drop k with
 |(i,_)::_=>i
 |[]=>0
def RG(pl:List (Nat×List Nat))(k:Nat):Bool:=
 match pl.drop k with
 |(_,[])::_=>true
 |_=>false
theorem V2{pl:List (Nat×List Nat)}{k:Nat}(h:RG pl k=true):pl.drop k=(IX pl k,[])::pl.drop (k+1):=by
 unfold RG at h;unfold IX;have e:pl.drop (k+1)=(pl.drop k).drop 1:=by rw[yB]
 split at h
 ·rename_i i r hd;rw[e,hd];rfl
 ·cases h
theorem BD(k:Nat)(nw:List (Nat×AE))(d:Nat)(v:AE)(h1:AS)(H:Has fr N l)(B:∀fr,Steps C g h (Ps C.P ops (Fb (pl.take k)) (EO N l fr)) (Pr ops (IX pl k)) v h1)
  (O:∀fr' t,Has fr' N ((d,v)::List.append nw l)->AT C g ops (pl.drop (k+1)) t fr' h1 K)
  (J:∀fr,(RG pl k&&(Sj (pl.take k)&&(GB ops l (Fb (pl.take k))&&(JU d l&&(JU d nw&&Nat.blt d N)))),(Hu C.P ops (Fb (pl.take k)) (EO N l fr)).map (λx=>(runs ops x (IX pl k),I8 ops (IX pl k),nw.map (λp=>nth x p.1))))=(true,some (true,some d,nw.map (·.2))):=by intro _;kernel_rfl):AT C g ops pl tch fr h K:=by
 have D:=J fr;have M:=B fr;rw[HU H]at D M;simp only[ze,zj]at D;obtain⟨⟨a1,a2,a3,a4,a5,a6⟩,D⟩:=D;cases V:Hu C.P ops (Fb (pl.take k)) fr with
 |none=>rw[V]at D;cases D
 | some fr1=>
  rw[V]at D;simp only[zf,zd,ze]at D;obtain⟨b1,b2,b3⟩:=D;have hF:Ps C.P ops (Fb (pl.take k)) fr=fr1:=by unfold Ps;rw[V];rfl
  rw[hF]at M;have hl1:fr1.length=N:=(IP _ _ _ V).trans H.1;have hH:=Has.of_map hl1 b3;have e:pl=pl.take k++pl.drop k:=(zC k pl).symm;rw[e];refine OX _ _ fr fr1 (OF a2) V ?_;rw[V2 a1];refine KN (v:=v) b1 (by rw[KX,ye];exact M) rfl (O _ _ ⟨by simp[hl1],λp G=>?_⟩);rw[b2];show nth (fr1.set d v) p.1=p.2;cases G with
  |head=>
   rw[yJ]at a6;rw[Ip,zk ⟨rfl,by rw[hl1];exact a6⟩]
  | tail _ G=>
   rcases zp.1 G with G|G
   ·rw[Ip,zm (λe=>LD a5 p G e.1.symm)];exact hH.2 p G
   ·rw[Ip,zm (λe=>LD a4 p G e.1.symm),JY _ fr fr1 a3 V p G];exact H.2 p G
theorem Xl(k:Nat)(nw:List (Nat×AE))(v:AE)(h1:AS)(H:Has fr N l)(B:∀fr,Steps C g h (Ps C.P ops (Fb (pl.take k)) (EO N l fr)) (Pr ops (IX pl k)) v h1)
  (O:∀fr' t,Has fr' N (List.append nw l)->AT C g ops (pl.drop (k+1)) t fr' h1 K)
  (J:∀fr,(RG pl k&&(Sj (pl.take k)&&(GB ops l (Fb (pl.take k))&&(Jp ops (IX pl k) l&&Jp ops (IX pl k) nw))),(Hu C.P ops (Fb (pl.take k)) (EO N l fr)).map (λx=>(runs ops x (IX pl k),nw.map (λp=>nth x p.1))))=(true,some (true,nw.map (·.2))):=by intro _;kernel_rfl):AT C g ops pl tch fr h K:=by
 have D:=J fr;have M:=B fr;rw[HU H]at D M;simp only[ze,zj]at D;obtain⟨⟨a1,a2,a3,a4,a5⟩,D⟩:=D;cases V:Hu C.P ops (Fb (pl.take k)) fr with
 |none=>rw[V]at D;cases D
 |some fr1=>
  rw[V]at D;simp only[zf,zd,ze]at D;obtain⟨b1,b3⟩:=D;have hF:Ps C.P ops (Fb (pl.take k)) fr=fr1:=by unfold Ps;rw[V];rfl
  rw[hF]at M;have hl1:fr1.length=N:=(IP _ _ _ V).trans H.1;have hH:=Has.of_map hl1 b3;have e:pl=pl.take k++pl.drop k:=(zC k pl).symm;rw[e];refine OX _ _ fr fr1 (OF a2) V ?_;rw[V2 a1];refine KN (v:=v) b1 (by rw[KX,ye];exact M) rfl (O _ _ ⟨by simp[hl1],λp G=>?_⟩);rcases zp.1 G with G|G
  ·rw[JW a5 v p G];exact hH.2 p G
  ·rw[JW a4 v p G,JY _ fr fr1 a3 V p G];exact H.2 p G
theorem XI(k:Nat)(nw:List (Nat×AE))(H:Has fr N l)(hK:∀fr',AW C f g c fr' h Q->K fr' h)(Y:∀fr',Has fr' N (List.append nw l)->AW C f g c fr' h Q)
  (J:∀fr,(Sj pl,Nat.beq pl.length k,GB ops l (Fb pl),(Hu C.P ops (Fb pl) (EO N l fr)).map (λx=>nw.map (λp=>nth x p.1)))=(true,true,true,some (nw.map (·.2))):=by intro _;kernel_rfl):AT C g ops pl tch fr h K:=by
 have D:=J fr;simp only[ze]at D;have hl:=zJ D.2.1;have ht:pl.take k=pl:=zU (by omega);have hd:pl.drop k=[]:=qg (by omega);refine AI k nw H (λfr' H'=>?_) (λfr=>?_)
 ·rw[hd];exact Aj (hK _ (Y _ H'))
 ·have:=J fr;simp only[ze]at this;rw[ht];simp only[ze];exact⟨this.1,this.2.2.1,this.2.2.2⟩
theorem ai(k:Nat)(nw:List (Nat×AE))(n:Nat)(H:Has fr N l)(hK:∀fr',AW C f g c fr' h Q->K fr' h)(Y:∀fr',Has fr' N (List.append nw l)->AT C g (opsOf c) (Jq 0 n) [] fr' h (λfr' h'=>Q .normal fr' h'))
  (J:∀fr,(Sj pl,Nat.beq pl.length k,GB ops l (Fb pl),(Hu C.P ops (Fb pl) (EO N l fr)).map (λx=>nw.map (λp=>nth x p.1)))=(true,true,true,some (nw.map (·.2))):=by intro _;kernel_rfl) (V:Mw c n=true:=by kernel_rfl):AT C g ops pl tch fr h K:=XI k nw H hK (λfr' H'=>BY n (Y fr' H') V) J
theorem aa(k:Nat)(nw:List (Nat×AE))(n:Nat)(H:Has fr N l)(hK:∀fr',AW C f g c fr' h Q->K fr' h)(Y:∀fr',Has fr' N (List.append nw l)->AT C g (opsOf (left c)) (Jq 0 n) [] fr' h (λfr' h'=>N9 (λfr h=>AW C f g (right c) fr h Q) Q .normal fr' h'))
  (J:∀fr,(Sj pl,Nat.beq pl.length k,GB ops l (Fb pl),(Hu C.P ops (Fb pl) (EO N l fr)).map (λx=>nw.map (λp=>nth x p.1)))=(true,true,true,some (nw.map (·.2))):=by intro _;kernel_rfl) (B:shape c=.seq:=by kernel_rfl) (V:Mw (left c) n=true:=by kernel_rfl):AT C g ops pl tch fr h K:=XI k nw H hK (λfr' H'=>AQ (BY n (Y fr' H') V) B) J
theorem BP(k:Nat)(I:Fr->AS->Prop)(h1:AT C g ops (pl.take k) tch fr h I)(W:∀t fr h,I fr h->AT C g ops (pl.drop k) t fr h K):AT C g ops pl tch fr h K:=by
 have e:pl=pl.take k++pl.drop k:=(zC k pl).symm;rw[e];exact Za _ I h1 W
theorem Ek(id n:Nat)(Y:AT C g (opsOf c) (Jq 0 n) [] fr h (λfr' h'=>Q .normal fr' h'))(B:shape c=.region id n true:=by kernel_rfl)(G:C.NC f id=Jq 0 n:=by kernel_rfl):AW C f g c fr h Q:=VZ B _ G Y
theorem G0(id n:Nat)(pl:List (Nat×List Nat))(Y:AT C g (opsOf c) pl [] fr h (λfr' h'=>Q .normal fr' h'))(B:shape c=.region id n true:=by kernel_rfl)(G:C.NC f id=pl:=by kernel_rfl):AW C f g c fr h Q:=VZ B _ G Y
theorem AD(n:Nat)(Y:AT C g (opsOf (left c)) (Jq 0 n) [] fr h (λfr' h'=>N9 (λfr h=>AW C f g (right c) fr h Q) Q .normal fr' h'))(B:shape c=.seq:=by kernel_rfl)(V:Mw (left c) n=true:=by kernel_rfl):AW C f g c fr h Q:=VC B (BY n Y V)
theorem BK(hK:AW C f g c fr h Q->K fr h)(Y:AW C f g c fr h Q):AT C g ops [] tch fr h K:=Aj (hK Y)
theorem Fu(n:Nat)(hK:AW C f g c fr h Q->K fr h)(Y:AT C g (opsOf c) (Jq 0 n) [] fr h (λfr' h'=>Q .normal fr' h'))(V:Mw c n=true:=by kernel_rfl):AT C g ops [] tch fr h K:=Aj (hK (BY n Y V))
theorem B6(n:Nat)(hK:AW C f g c fr h Q->K fr h)(Y:AT C g (opsOf (left c)) (Jq 0 n) [] fr h (λfr' h'=>N9 (λfr h=>AW C f g (right c) fr h Q) Q .normal fr' h'))(B:shape c=.seq:=by kernel_rfl)(V:Mw (left c) n=true:=by kernel_rfl):AT C g ops [] tch fr h K:=Aj (hK (AD n Y B V))
theorem Ak(hq:Q .ret fr h)(B:shape c=.ret:=by kernel_rfl):AW C f g c fr h Q:=Z2 B hq
theorem Bv(hq:Q .normal fr h)(B:shape c=.skip:=by kernel_rfl):AW C f g c fr h Q:=P6 B hq
end
theorem Ag{α:Type}{a x:α}(h:some a=some x):a=x:=zw h
theorem C1{α β:Type}{a x:α}{b y:β}(h:some (a,b)=some (x,y)):a=x/\b=y:=Prod.mk.inj (zw h)
theorem DG{α β γ:Type}{a x:α}{b y:β}{c z:γ}(h:some (a,b,c)=some (x,y,z)):a=x/\b=y/\c=z:=by
 obtain⟨h1,W⟩:=C1 h;exact⟨h1,Prod.mk.inj W⟩
theorem UX{α β γ δ:Type}{a x:α}{b y:β}{c z:γ}{d w:δ}(h:some (a,b,c,d)=some (x,y,z,w)):a=x/\b=y/\c=z/\d=w:=by
 obtain⟨h1,W⟩:=C1 h;exact⟨h1,DG (congrArg some W)⟩
theorem bd{α β γ δ ε:Type}{a x:α}{b y:β}{c z:γ}{d w:δ}{e v:ε}(h:some (a,b,c,d,e)=some (x,y,z,w,v)):a=x/\b=y/\c=z/\d=w/\e=v:=by
 obtain⟨h1,W⟩:=C1 h;exact⟨h1,UX (congrArg some W)⟩
end Go.Av
end
