/-
  Several texts in one.
-/
import Derived.Test.YtfgmnhjedmkpeaaAvExt
set_option linter.unusedSimpArgs false
/-
 A part.
-/
section
namespace Go.Av
set_option linter.unusedVariables false
set_option linter.unusedSimpArgs false
section
variable {α:Type} {g:Gd} {h:AB} {L F:List Ck}
theorem Tt{ws:List α}{i:Int}{x:α}(X:Iz ws i=some x):0<=i/\i.toNat<ws.length/\ws[i.toNat]?=some x:=by
 unfold Iz at X;split at X
 ·exact⟨by omega,(List.getElem?_eq_some_iff.1 X).1,X⟩
 ·cases X
theorem XG{ws:List α}{i:Int}{x:α}(X:Iz ws i=some x)(a:Nat×Nat)(z:Nat){n:Nat}(V:ws.length=n):Qv a n z i=some (a.1,a.2+i.toNat*z):=by
 obtain⟨h1,h2,_⟩:=Tt X;unfold Qv;rw[zk ⟨h1,by omega⟩]
theorem HH.ag(a:HH g h L F)(k:Nat){id:Nat}{gr:Option TypeId}{cs:List AA}(J:L[k]?=some (.obj id (.cells gr 2 cs)))(off:Nat)(f:α->AA)(ws:List α)(hcs:(cs.drop off).take ws.length=ws.map f){i:Int}{x:α}(X:Iz ws i=some x):Av.Jy h (id,off+i.toNat*1)=some (f x):=by
 obtain⟨h1,h2,h3⟩:=Tt X;refine a.Jy k J ?_;have:=congrArg (·[i.toNat]?) hcs;simp only[List.getElem?_take,h2,if_true,List.getElem?_drop,List.getElem?_map,h3,ze]at this;rw[Nat.mul_one];exact this
end
end Go.Av
end
/-
 A part.
-/
section
namespace Go.Av
set_option linter.unusedSimpArgs false
set_option linter.unusedVariables false
section
variable {g:Gd} {h:AB} {L F:List Ck}
theorem HH.ZL{id:Nat}{cs:List AA}(a:HH g h (.obj id (.cells none 2 cs)::L) F):∃h1,HH g h1 L F/\∀cs' h',KE (HB g) cs h1=some (cs',h')->KJ g h (.ptr (some (id,0)))=some (.Bu cs',h'):=by
 have J:(Ck.obj id (.cells none 2 cs)::L)[0]?=some (.obj id (.cells none 2 cs)):=rfl;have hg:=a.get 0 J;have hid:=h.Ar hg;refine⟨h.set id (.cells none 0 cs),?_,λcs' h' X=>?_⟩
 ·have b:=a.Pj (d:=.Ag none 0 []) (h':=h.set id (.cells none 0 cs)) J (by simp) (λi _ O=>h.Bw _ hid (by simpa[Ck.ids]using O)) rfl (λi O=>by simp[Ck.ids]at O) (λi O=>by simp[Ck.ids]at O);exact HH.tail (c:=.Ag none 0 []) b
 ·simp only[KJ,hg,a.PZ J (i:=id) (by simp[Ck.ids]),zE,X,ze]
theorem Sg(vs:List AA):Ox g h (.tuple vs)=(KE (KJ g) vs h).map λr=>(.tuple r.1,r.2):=rfl
theorem Su(id:Nat):Ox g h (.ptr (some (id,0)))=KJ g h (.ptr (some (id,0))):=rfl
theorem Tx:KJ g h (.ptr none)=some (.ptr none,h):=rfl
theorem T4(cs:List AA):KJ g h (.agg cs)=(KE (HB g) cs h).map λr=>(.agg r.1,r.2):=rfl
theorem Tu(r:Option Nat)(n:Nat):KJ g h (AY r n)=HB g h (AY r n):=rfl
theorem S2(n:Nat)(cs:List AA):KJ g h (.Gi n cs)=some (.Gi n cs,h):=rfl
theorem SP(cs:List AA):KJ g h (.Bu cs)=some (.Bu cs,h):=rfl
theorem Sw(k:IntKind)(n:Int):KJ g h (.int k n)=some (.int k n,h):=rfl
theorem Tc(b:Bool):KJ g h (.bool b)=some (.bool b,h):=rfl
theorem Se(s:List UInt8):KJ g h (.str s)=some (.str s,h):=rfl
theorem Sj:KJ g h (.slice none 0)=some (.Gi 0 [],h):=rfl
theorem TD(cs:List AA):HB g h (.Bu cs)=some (.Bu cs,h):=rfl
theorem SN:HB g h (.ptr none)=some (.ptr none,h):=rfl
end
end Go.Av
end
/-
 A part.
-/
section
namespace Go.Av
set_option linter.unusedVariables false
set_option linter.unusedSimpArgs false
def TH(P:Program)(fr:Fr):Op->Option (Option (Nat×Nat)×Nat×Nat×Option AA×Option AA)
 | .slice t x lo O none=>
  match P.underlying t,ev fr x with
  |some (.slice e),.slice r n=>(BK P e).map λz=>(r,n,z,lo.map (ev fr),O.map (ev fr))
  |_,_=>none
 |_=>none
theorem QC{C:Eu}{ops:Array Oper}{fr:Fr}{h1:AB}{U:List Nat}{u j:Nat}(hu:u=j+10000)(h:MP C ops fr h1 j=true)(T:JG C ops U fr h1=true):JG C ops (u::U) fr h1=true:=
 R5 (by rw[hu,Nat.add_sub_cancel,h,Bool.or_true]) T
section
variable {α:Type} {e:α->List AA} {z:Nat} {g:Gd} {h:AB} {L F:List Ck}
theorem HH.aX(a:HH g h L F)(k:Nat){r:Option Nat}{t:TypeId}{xs:List α}(J:L[k]?=some (.Ag r t (Ag e xs))):HH g h (L.set k (.Ag r t (Ag e (xs++[])))) F:=by
 rw[z9,JM J,<-Gn J];exact a
theorem HH.Zw(a:HH g h L F)(k:Nat){r:Option Nat}{t:TypeId}{xs tl ys:List α}{u:Int}(J:L[k]?=some (.Ag r t (Ag e (xs++tl))))(D:Nr xs none (some u)=some ys):∃tl',HH g h (L.set k (.Ag r t (Ag e (ys++tl')))) F:=by
 refine⟨xs.drop u.toNat++tl,?_⟩;unfold Nr Ry at D;simp only at D;split at D
 ·simp only[ze,yv,y9,za]at D;rw[<-D,<-zU,zG,JM J,<-Gn J];exact a
 ·cases D
theorem HH.YW(E:Kf e z)(hz:z≠0)(a:HH g h L F)(k:Nat){r:Option Nat}{t:TypeId}{xs tl:List α}(J:L[k]?=some (.Ag r t (Ag e (xs++tl)))){i:Int}{x:α}(O:Iz xs i=some x):
  ∃id,r=some id/\h.get id=some (.cells (some t) 2 (Ag e (xs++tl)))/\H0 (Dt r xs.length) z i=some (id,i.toNat*z)/\(xs++tl)[i.toNat]?=some x:=by
 unfold Iz at O;split at O
 ·rename_i h0;have hlt:=(List.getElem?_eq_some_iff.1 O).1;have hi2:(xs++tl)[i.toNat]?=some x:=by rw[List.getElem?_append_left hlt];exact O
  cases r with
  |none=>
   have V:Ag e (xs++tl)=[]:=a.mem J;exfalso;have h1:=E.Jc (xs++tl);rw[V]at h1;have h2:(xs++tl).length*z=0:=by simpa using h1.symm
   rcases yC.1 h2 with h|h
   ·rw[zA]at h;omega
   ·exact hz h
  |some id=>
   refine⟨id,rfl,a.mem J,?_,hi2⟩;simp only[Dt,ze,H0];rw[Qv,zk ⟨h0,by omega⟩];simp
 ·cases O
theorem QG(a:HH g h L F)(k:Nat){r:Option Nat}{e:TypeId}{cs tl:List AA}(J:L[k]?=some (.Ag r e (cs++tl))){n z:Nat}(V:cs.length=n*z)(hz:z≠0):Bv h z n (AY r n)=some cs:=by
 have hok:=a.mem J;unfold AY Bv;cases r with
 | none=>
  have:cs++tl=[]:=hok;have hcs:cs=[]:=(List.append_eq_nil_iff.1 this).1;subst hcs;have h0:n=0:=by
   have:n*z=0:=by simpa using V.symm
   rcases yC.1 this with h|h
   ·exact h
   ·exact absurd h hz
  subst h0;simp
 | some id=>
  have hg:h.get id=some (.cells (some e) 2 (cs++tl)):=hok;simp only[ze];by_cases h0:n=0
  ·subst h0;rw[zk rfl];have:cs=[]:=zi (by simpa using V);rw[this]
  ·rw[zh h0];unfold BQ;simp only[hg];rw[zk ⟨by simp,by rw[zA];omega⟩,yv,<-V,qJ]
theorem HH.X3(a:HH g h L F)(k:Nat){r:Option Nat}{e:TypeId}{cs tl new new':List AA}{z bytes n m:Nat}{x:AA}(J:L[k]?=some (.Ag r e (cs++tl)))(V:cs.length=n*z)(hz:z≠0)(X:Bv h z m x=some new)(hc:new.map GU=new')(hm:new'.length=m*z)(hm0:m≠0)
  (hb:n+m<=1099511627776/\(n+m)*bytes<=1099511627776) (h1:cs.all AA.one=true) (h2:new'.all AA.one=true):
  ∃r' h',Av.app e z bytes g h (Dt r n) m x=some (Dt r' (n+m),h')/\HH g h' (L.set k (.Ag r' e (cs++new'))) F:=by
 have hfo:Bv h z n (AY r n)=some cs:=QG a k J V hz;unfold Av.app;rw[zh hm0,zk (show(Dt r n).n+m<=1099511627776/\((Dt r n).n+m)*bytes<=1099511627776 from hb)];simp only[Dt,X,ze,hc];rw[show Bv h z n (.slice (r.map λi=>(i,0)) n)=some cs from hfo];simp only;rw[zk (by rw[qD,h1,h2];rfl)];cases r with
 |none=>
  refine⟨some h.size,_,rfl,?_⟩;exact a.Pj J (by simp) (λi O _=>h.Bp _ O) (h.A8 _) (λi O=>by simp[Ck.ids]at O;omega) (λi O=>by simp[Ck.ids]at O;rw[O];exact a.new)
 | some id=>
  have hg:h.get id=some (.cells (some e) 2 (cs++tl)):=a.mem J;have hid:=h.Ar hg;simp only[ze,hg];rw[zk ⟨a.PZ J (by simp[Ck.ids]),trivial⟩];refine⟨some h.size,_,rfl,?_⟩;refine a.Pj J (by simp) (λi O V=>?_) ?_ (λi O=>by simp[Ck.ids]at O;omega) (λi O=>by simp[Ck.ids]at O;rw[O];exact a.new)
  ·rw[AB.Bp _ _ (by simpa using O)];exact h.Bw _ hid (by simpa[Ck.ids]using V)
  ·have:=AB.A8 (h.set id (.cells (some e) 0 [])) (.cells (some e) 2 (cs++new'));exact this
theorem HH.YK(E:Kf e z)(hz:z≠0)(a:HH g h L F)(k:Nat){r:Option Nat}{t:TypeId}{xs tl ys:List α}{new:List AA}{bytes m:Nat}{x:AA}(J:L[k]?=some (.Ag r t (Ag e (xs++tl))))(X:Bv h z m x=some new)(hc:new.map GU=Ag e ys)(hm:m=ys.length)(hb:O0 bytes (xs.length+m)=true):
  ∃r' tl' h',Av.app t z bytes g h (Dt r xs.length) m x=some (Dt r' (xs++ys).length,h')/\HH g h' (L.set k (.Ag r' t (Ag e ((xs++ys)++tl')))) F:=by
 subst hm;have e0:Ag e (xs++tl)=Ag e xs++Ag e tl:=by simp[Ag]
 cases ys with
 |nil=>
  refine⟨r,tl,h,?_,?_⟩
  ·simp[Av.app,Dt]
  ·rw[z9,JM J,<-Gn J];exact a
 |cons y ys=>
  obtain⟨r',h',h1,h2⟩:=a.X3 k (by rw[J,e0]) (E.Jc xs) hz X hc (E.Jc (y::ys)) (by simp) (of_decide_eq_true hb) (E.T2 xs) (E.T2 (y::ys));refine⟨r',[],h',by rw[h1,zA],?_⟩;have:Ag e ((xs++(y::ys))++[])=Ag e xs++Ag e (y::ys):=by simp[Ag]
  rw[this];exact h2
theorem Wk{C:Eu}{S:Self}{fr:Fr}{op:Op}(E:Kf e z)(hz:z≠0)(a:HH g h L F)(k:Nat){r:Option Nat}{t:TypeId}{xs tl ys:List α}{k':IntKind}{u:Int}(J:L[k]?=some (.Ag r t (Ag e (xs++tl))))
  (D:TH C.P fr op=some ((Dt r xs.length).r,xs.length,z,none,some (.int k' u))) (ht:BK C.P t=some z) (hl:Nr xs none (some u)=some ys):Ap C S g h fr op=some (AY r ys.length,h):=by
 unfold TH at D;split at D
 ·rename_i t0 x lo O;split at D
  ·rename_i el r0 n hu X;obtain⟨z',hz',he⟩:=zg.1 D;simp only[zb]at he;obtain⟨rfl,rfl,rfl,e1,e2⟩:=he;unfold Nr Ry at hl;simp only at hl;split at hl
   ·rename_i hb;simp only[ze,yv,y9,za]at hl;have hyl:ys.length=u.toNat:=by rw[<-hl,yG];omega
    have hc:AX C.P (.slice t0 x lo O none)=1:=by simp only[AX,hu]
    have hbd:CD xs.length (lo.map (ev fr)) (O.map (ev fr))=some (0,u.toNat):=by rw[e1,e2];simp only[CD];rw[zk hb]
    show Fp C.P C.B6 g h fr (.slice t0 x lo O none)=_;cases r with
    | none=>
     have V:Ag e (xs++tl)=[]:=a.mem J;have h1:=E.Jc (xs++tl);rw[V]at h1;have h2:(xs++tl).length*z'=0:=by simpa using h1.symm
     have h3:xs=[]:=by
      rcases yC.1 h2 with h|h
      ·rw[zA]at h;exact zi (by omega)
      ·exact absurd h hz
     subst h3;have hys:ys=[]:=by rw[<-hl];simp
     subst hys;have hx':ev fr x=.slice none 0:=by rw[X];rfl
     simp only[Fp,hc,B1,hx',CM,Gh,I7,hu,hz',zd];rw[show CD 0 (lo.map (ev fr)) (O.map (ev fr))=some (0,u.toNat) from hbd];rfl
    |some id=>
     have hg:h.get id=some (.cells (some t) 2 (Ag e (xs++tl))):=a.mem J;have hx':ev fr x=.slice (some (id,0)) xs.length:=by rw[X];rfl
     simp only[Fp,hc,B1,hx',CM,hg,Gh,I7,hu,hz',ht,if_true,hbd,ze,qv,yO,y9,AY,hyl]
   ·cases hl
  ·cases D
 ·cases D
end
end Go.Av
end
/-
 A part.
-/
section
namespace Go.Av
set_option linter.unusedVariables false
set_option linter.unusedSimpArgs false
def Hd(d:Nat):List (Nat×AA)->Bool
 |[]=>true
 |(i,_)::r=>bif Nat.beq i d then false else Hd d r
theorem JS{d:Nat}:∀{l:List (Nat×AA)},Hd d l=true->∀p∈l,p.1≠d
 |[],_,p,G=>by cases G
 | (i,v)::r,h,p,G=>by
  unfold Hd at h;rw[F9]at h;by_cases e:i=d
  ·rw[zk e]at h;cases h
  ·rw[zh e]at h;cases G with
   |head=>exact e
   |tail _ G=>exact JS h p G
def JQ(ops:Array Oper)(i:Nat)(l:List (Nat×AA)):Bool:=
 match Fi ops i with
 |none=>true
 |some d=>Hd d l
section
variable {C:Eu} {f:FuncId} {g:Gd} {ops:Array Oper} {tch:List (Nat×Nat)} {fr:Fr} {h h1:AB} {K:Fr->AB->Prop} {N:Nat} {l:List (Nat×AA)} {i r:Nat}
theorem Hi{l:List (Nat×AA)}(Y:JQ ops i l=true)(v:AA):∀p∈l,nth (put fr (Fi ops i) v) p.1=nth fr p.1:=by
 intro p G;unfold JQ at Y;split at Y
 ·rename_i e;rw[e];rfl
 ·rename_i d e;rw[e];exact Jq fr v (λe=>JS Y p G (zK e).symm)
variable {Q:Br->Fr->AB->Prop} {c:Code}
def LY:Code->Nat->Bool
 | .region _ ops draw,n=> !draw&&Nat.beq ops.size n
 |_,_=>false
theorem Ea(n:Nat)(W:AT C g (opsOf c) (Gk 0 n) [] fr h (λfr' h'=>Q .normal fr' h'))(D:LY c n=true:=by kernel_rfl):AW C f g c fr h Q:=by
 cases c with
 |region id ops draw=>
  simp only[LY,zf,zx]at D;obtain⟨rfl,e⟩:=D;obtain rfl:=zD e;exact As (id:=id) _ rfl rfl W
 |_=>cases D
theorem BC(W:AW C f g (left c) fr h (KC (λfr h=>AW C f g (right c) fr h Q) Q))(D:shape c=.seq:=by kernel_rfl):AW C f g c fr h Q:=An D W
theorem Has.ls{out:List (Nat×AA)}(H:Has fr N l)(h:∀fr,out.map (λp=>nth (Cr N l fr) p.1)=out.map (·.2):=by intro _;kernel_rfl):Has fr N out:=H.less out h
theorem BM(d:Nat){b:Bool}{α:Type}{x y:Option α}{r:α}(H:Has fr N l)(hm:A3 b x y=some r)(h1:b=true->x=some r->Has fr N (Mf l d (.bool true))->AW C f g (left c) fr h Q)(h2:b=false->y=some r->Has fr N (Mf l d (.bool false))->AW C f g (right c) fr h Q)
  (Y:KT l d=some (.bool b):=by kernel_rfl) (D:shape c=.cond (.tmp d):=by kernel_rfl):AW C f g c fr h Q:=by
 have e:nth fr d=.bool b:=H.2 _ (H3 Y);cases c<;>simp[shape]at D;subst D;rcases BH hm with⟨hb,hm⟩|⟨hb,hm⟩
 ·obtain⟨n,e',fr',h',q1,q2⟩:=(h1 hb hm (H.DR d hb Y)).ex;rw[hb]at e;exact⟨⟨n,e',fr',h',by simp only[Aa,ev,e];exact q1,q2⟩⟩
 ·obtain⟨n,e',fr',h',q1,q2⟩:=(h2 hb hm (H.DR d hb Y)).ex;rw[hb]at e;exact⟨⟨n,e',fr',h',by simp only[Aa,ev,e];exact q1,q2⟩⟩
def Fc(ops:Array Oper)(l:List (Nat×AA)):List Nat->Bool
 |[]=>true
 |i::r=>JQ ops i l&&Fc ops l r
theorem HZ{P:Program}{l:List (Nat×AA)}:∀(is:List Nat) (fr fr1:Fr),Fc ops l is=true->E1 P ops is fr=some fr1->∀p∈l,nth fr1 p.1=nth fr p.1
 |[],fr,fr1,_,D,p,G=>by
  simp only[E1,za]at D;rw[D]
 | i::is,fr,fr1,Y,D,p,G=>by
  simp only[Fc,zf]at Y;simp only[E1]at D;split at D
  ·cases D
  ·rename_i o ho;have e2:Fi ops i=o.dst:=by simp[Fi,ho]
   have J:=λfr v=>Hi (fr:=fr) Y.1 v p G;rw[e2]at J;split at D
   ·split at D
    ·rw[HZ is _ _ Y.2 D p G,J]
    ·cases D
   ·rw[HZ is _ _ Y.2 D p G,J]
   ·cases D
variable {pl:List (Nat×List Nat)} {U:List Nat}
theorem AR(k:Nat)(nw:List (Nat×AA))(H:Has fr N l)(V:∀fr',Has fr' N (List.append nw l)->AT C g ops (pl.drop k) tch fr' h K)
  (J:∀fr,(Nx (pl.take k),Fc ops l (Dz (pl.take k)),(E1 C.P ops (Dz (pl.take k)) (Cr N l fr)).map (λx=>nw.map (λp=>nth x p.1)))=(true,true,some (nw.map (·.2))):=by intro _;kernel_rfl):
  AT C g ops pl tch fr h K:=by
 have B:=J fr;rw[Dh H]at B;simp only[zb]at B;obtain⟨hu,Y,B⟩:=B;cases T:E1 C.P ops (Dz (pl.take k)) fr with
 |none=>rw[T]at B;cases B
 |some fr1=>
  rw[T]at B;simp only[ze,za]at B;have e:pl=pl.take k++pl.drop k:=(zG k pl).symm;rw[e];refine Ih _ _ fr fr1 (AK hu) T (V fr1 ?_);have h1:=Has.of_map ((EG _ _ _ T).trans H.1) B;refine⟨h1.1,λp G=>?_⟩;rcases zm.1 G with G|G
  ·exact h1.2 p G
  ·rw[HZ _ fr fr1 Y T p G];exact H.2 p G
theorem Bj(d:Nat)(v:AA)(h1:AB)(H:Has fr N l)(D:∀fr,Steps C g h (Cr N l fr) (LI ops i) v h1)
  (V:∀fr' t,Has fr' N ((d,v)::l)->AT C g ops pl t fr' h1 K)
  (hw:∀fr,(runs ops (Cr N l fr) i,Fi ops i,Nat.blt d N,Hd d l)=(true,some d,true,true):=by intro _;kernel_rfl):AT C g ops ((i,[])::pl) tch fr h K:=by
 have R:=hw fr;have M:=D fr;rw[Dh H]at R M;simp only[zb]at R;obtain⟨w1,w2,w3,w4⟩:=R;refine GK (v:=v) w1 (by rw[FP,yg];exact M) rfl (V _ _ ⟨by simp[H.1],λp G=>?_⟩);rw[w2];show nth (fr.set d v) p.1=p.2;cases G with
 |head=>
  rw[yc]at w3;rw[Ey,zk ⟨rfl,by rw[H.1];exact w3⟩]
 |tail _ G=>
  rw[Ey,zh (λe=>JS w4 p G e.1.symm)];exact H.2 p G
theorem VM(v:AA)(h1:AB)(H:Has fr N l)(D:∀fr,Steps C g h (Cr N l fr) (LI ops i) v h1)
  (V:∀fr' t,Has fr' N l->AT C g ops pl t fr' h1 K)
  (hw:∀fr,(runs ops (Cr N l fr) i,JQ ops i l)=(true,true):=by intro _;kernel_rfl):AT C g ops ((i,[])::pl) tch fr h K:=by
 have R:=hw fr;have M:=D fr;rw[Dh H]at R M;simp only[zb]at R;obtain⟨w1,w2⟩:=R;refine GK (v:=v) w1 (by rw[FP,yg];exact M) rfl (V _ _ ⟨by simp[H.1],λp G=>?_⟩);rw[Hi w2 v p G];exact H.2 p G
theorem D4(d:Nat)(v:AA)(h1:AB)(tch':List (Nat×Nat))(pr:List Nat)(H:Has fr N l)(D:∀fr,Steps C ⟨g.floor,pr⟩ h (Cr N l fr) (LI ops i) v h1)
  (V:∀fr',Has fr' N ((d,v)::l)->AT C g ops pl tch' fr' h1 K)
  (hre:∀fr,JG C ops U (put (Cr N l fr) (Fi ops i) v) h1=true:=by intro _;kernel_rfl)
  (hw:∀fr,(runs ops (Cr N l fr) i,Fi ops i,Nat.blt d N,Hd d l)=(true,some d,true,true):=by intro _;kernel_rfl)
  (G:EA tch U++g.B4=pr:=by kernel_rfl) (ht:∀fr,C0 C.P h (Cr N l fr) i (LI ops i) tch=tch':=by intro _;kernel_rfl):AT C g ops ((i,U)::pl) tch fr h K:=by
 have R:=hw fr;have M:=D fr;have Z:=hre fr;have ht':=ht fr;rw[Dh H]at R M Z ht';simp only[zb]at R;obtain⟨w1,w2,w3,w4⟩:=R;have W:Has (put fr (Fi ops i) v) N ((d,v)::l):=by
  refine⟨by simp[H.1],λp hq=>?_⟩;rw[w2];show nth (fr.set d v) p.1=p.2;cases hq with
  |head=>
   rw[yc]at w3;rw[Ey,zk ⟨rfl,by rw[H.1];exact w3⟩]
  |tail _ hq=>
   rw[Ey,zh (λe=>JS w4 p hq e.1.symm)];exact H.2 p hq
 exact GK (v:=v) w1 (by rw[G];exact M) Z (by rw[ht'];exact V _ W)
theorem TR(v:AA)(h1:AB)(tch':List (Nat×Nat))(pr:List Nat)(H:Has fr N l)(D:∀fr,Steps C ⟨g.floor,pr⟩ h (Cr N l fr) (LI ops i) v h1)
  (V:∀fr',Has fr' N l->AT C g ops pl tch' fr' h1 K)
  (hre:∀fr,JG C ops U (put (Cr N l fr) (Fi ops i) v) h1=true:=by intro _;kernel_rfl)
  (hw:∀fr,(runs ops (Cr N l fr) i,JQ ops i l)=(true,true):=by intro _;kernel_rfl)
  (G:EA tch U++g.B4=pr:=by kernel_rfl) (ht:∀fr,C0 C.P h (Cr N l fr) i (LI ops i) tch=tch':=by intro _;kernel_rfl):AT C g ops ((i,U)::pl) tch fr h K:=by
 have R:=hw fr;have M:=D fr;have Z:=hre fr;have ht':=ht fr;rw[Dh H]at R M Z ht';simp only[zb]at R;obtain⟨w1,w2⟩:=R;have W:Has (put fr (Fi ops i) v) N l:=by
  refine⟨by simp[H.1],λp hq=>?_⟩;rw[Hi w2 v p hq];exact H.2 p hq
 exact GK (v:=v) w1 (by rw[G];exact M) Z (by rw[ht'];exact V _ W)
theorem DE(k:Nat)(out:List (Nat×AA))(H:Has fr N l)(V:∀fr',Has fr' N out->AT C g ops (pl.drop k) tch fr' h K)
  (J:∀fr,(Nx (pl.take k),(E1 C.P ops (Dz (pl.take k)) (Cr N l fr)).map (λx=>out.map (λp=>nth x p.1)))=(true,some (out.map (·.2))):=by intro _;kernel_rfl):
  AT C g ops pl tch fr h K:=by
 have hu:=J fr;simp only[zb]at hu;have e:pl=pl.take k++pl.drop k:=(zG k pl).symm;rw[e];refine AQ (pl.take k) out H (AK hu.1) (λfr=>?_) V;have:=J fr;simp only[zb]at this;exact this.2
def NG(P:Program)(ops:Array Oper)(is:List Nat)(fr:Fr):Fr:=(E1 P ops is fr).getD fr
def Hf(pl:List (Nat×List Nat))(k:Nat):Nat:=
 match pl.drop k with
 |(i,_)::_=>i
 |[]=>0
def Oc(pl:List (Nat×List Nat))(k:Nat):Bool:=
 match pl.drop k with
 |(_,[])::_=>true
 |_=>false
theorem Qq{pl:List (Nat×List Nat)}{k:Nat}(h:Oc pl k=true):pl.drop k=(Hf pl k,[])::pl.drop (k+1):=by
 unfold Oc at h;unfold Hf;have e:pl.drop (k+1)=(pl.drop k).drop 1:=by rw[yN]
 split at h
 ·rename_i i r Y;rw[e,Y];rfl
 ·cases h
theorem D3(k:Nat)(nw:List (Nat×AA))(d:Nat)(v:AA)(h1:AB)(H:Has fr N l)(D:∀fr,Steps C g h (NG C.P ops (Dz (pl.take k)) (Cr N l fr)) (LI ops (Hf pl k)) v h1)
  (V:∀fr' t,Has fr' N ((d,v)::List.append nw l)->AT C g ops (pl.drop (k+1)) t fr' h1 K)
  (J:∀fr,(Oc pl k&&(Nx (pl.take k)&&(Fc ops l (Dz (pl.take k))&&(Hd d l&&(Hd d nw&&Nat.blt d N)))),(E1 C.P ops (Dz (pl.take k)) (Cr N l fr)).map (λx=>(runs ops x (Hf pl k),Fi ops (Hf pl k),nw.map (λp=>nth x p.1))))=(true,some (true,some d,nw.map (·.2))):=by intro _;kernel_rfl):AT C g ops pl tch fr h K:=by
 have B:=J fr;have M:=D fr;rw[Dh H]at B M;simp only[zb,zf]at B;obtain⟨⟨a1,a2,a3,a4,a5,a6⟩,B⟩:=B;cases T:E1 C.P ops (Dz (pl.take k)) fr with
 |none=>rw[T]at B;cases B
 | some fr1=>
  rw[T]at B;simp only[ze,za,zb]at B;obtain⟨b1,b2,b3⟩:=B;have hF:NG C.P ops (Dz (pl.take k)) fr=fr1:=by unfold NG;rw[T];rfl
  rw[hF]at M;have hl1:fr1.length=N:=(EG _ _ _ T).trans H.1;have hH:=Has.of_map hl1 b3;have e:pl=pl.take k++pl.drop k:=(zG k pl).symm;rw[e];refine Ih _ _ fr fr1 (AK a2) T ?_;rw[Qq a1];refine GK (v:=v) b1 (by rw[FP,yg];exact M) rfl (V _ _ ⟨by simp[hl1],λp G=>?_⟩);rw[b2];show nth (fr1.set d v) p.1=p.2;cases G with
  |head=>
   rw[yc]at a6;rw[Ey,zk ⟨rfl,by rw[hl1];exact a6⟩]
  | tail _ G=>
   rcases zm.1 G with G|G
   ·rw[Ey,zh (λe=>JS a5 p G e.1.symm)];exact hH.2 p G
   ·rw[Ey,zh (λe=>JS a4 p G e.1.symm),HZ _ fr fr1 a3 T p G];exact H.2 p G
theorem Vg(k:Nat)(nw:List (Nat×AA))(v:AA)(h1:AB)(H:Has fr N l)(D:∀fr,Steps C g h (NG C.P ops (Dz (pl.take k)) (Cr N l fr)) (LI ops (Hf pl k)) v h1)
  (V:∀fr' t,Has fr' N (List.append nw l)->AT C g ops (pl.drop (k+1)) t fr' h1 K)
  (J:∀fr,(Oc pl k&&(Nx (pl.take k)&&(Fc ops l (Dz (pl.take k))&&(JQ ops (Hf pl k) l&&JQ ops (Hf pl k) nw))),(E1 C.P ops (Dz (pl.take k)) (Cr N l fr)).map (λx=>(runs ops x (Hf pl k),nw.map (λp=>nth x p.1))))=(true,some (true,nw.map (·.2))):=by intro _;kernel_rfl):AT C g ops pl tch fr h K:=by
 have B:=J fr;have M:=D fr;rw[Dh H]at B M;simp only[zb,zf]at B;obtain⟨⟨a1,a2,a3,a4,a5⟩,B⟩:=B;cases T:E1 C.P ops (Dz (pl.take k)) fr with
 |none=>rw[T]at B;cases B
 |some fr1=>
  rw[T]at B;simp only[ze,za,zb]at B;obtain⟨b1,b3⟩:=B;have hF:NG C.P ops (Dz (pl.take k)) fr=fr1:=by unfold NG;rw[T];rfl
  rw[hF]at M;have hl1:fr1.length=N:=(EG _ _ _ T).trans H.1;have hH:=Has.of_map hl1 b3;have e:pl=pl.take k++pl.drop k:=(zG k pl).symm;rw[e];refine Ih _ _ fr fr1 (AK a2) T ?_;rw[Qq a1];refine GK (v:=v) b1 (by rw[FP,yg];exact M) rfl (V _ _ ⟨by simp[hl1],λp G=>?_⟩);rcases zm.1 G with G|G
  ·rw[Hi a5 v p G];exact hH.2 p G
  ·rw[Hi a4 v p G,HZ _ fr fr1 a3 T p G];exact H.2 p G
theorem Vc(k:Nat)(nw:List (Nat×AA))(H:Has fr N l)(hK:∀fr',AW C f g c fr' h Q->K fr' h)(W:∀fr',Has fr' N (List.append nw l)->AW C f g c fr' h Q)
  (J:∀fr,(Nx pl,Nat.beq pl.length k,Fc ops l (Dz pl),(E1 C.P ops (Dz pl) (Cr N l fr)).map (λx=>nw.map (λp=>nth x p.1)))=(true,true,true,some (nw.map (·.2))):=by intro _;kernel_rfl):AT C g ops pl tch fr h K:=by
 have B:=J fr;simp only[zb]at B;have hl:=zD B.2.1;have ht:pl.take k=pl:=zV (by omega);have Y:pl.drop k=[]:=qc (by omega);refine AR k nw H (λfr' H'=>?_) (λfr=>?_)
 ·rw[Y];exact Ac (hK _ (W _ H'))
 ·have:=J fr;simp only[zb]at this;rw[ht];simp only[zb];exact⟨this.1,this.2.2.1,this.2.2.2⟩
theorem Xa(k:Nat)(nw:List (Nat×AA))(n:Nat)(H:Has fr N l)(hK:∀fr',AW C f g c fr' h Q->K fr' h)(W:∀fr',Has fr' N (List.append nw l)->AT C g (opsOf (left c)) (Gk 0 n) [] fr' h (λfr' h'=>KC (λfr h=>AW C f g (right c) fr h Q) Q .normal fr' h'))
  (J:∀fr,(Nx pl,Nat.beq pl.length k,Fc ops l (Dz pl),(E1 C.P ops (Dz pl) (Cr N l fr)).map (λx=>nw.map (λp=>nth x p.1)))=(true,true,true,some (nw.map (·.2))):=by intro _;kernel_rfl) (D:shape c=.seq:=by kernel_rfl) (T:LY (left c) n=true:=by kernel_rfl):AT C g ops pl tch fr h K:=Vc k nw H hK (λfr' H'=>BC (Ea n (W fr' H') T) D) J
theorem CE(k:Nat)(I:Fr->AB->Prop)(h1:AT C g ops (pl.take k) tch fr h I)(h2:∀t fr h,I fr h->AT C g ops (pl.drop k) t fr h K):AT C g ops pl tch fr h K:=by
 have e:pl=pl.take k++pl.drop k:=(zG k pl).symm;rw[e];exact MN _ I h1 h2
theorem Pc(id n:Nat)(W:AT C g (opsOf c) (Gk 0 n) [] fr h (λfr' h'=>Q .normal fr' h'))(D:shape c=.region id n true:=by kernel_rfl)(G:C.Iy f id=Gk 0 n:=by kernel_rfl):AW C f g c fr h Q:=Lc D _ G W
theorem M6(id n:Nat)(pl:List (Nat×List Nat))(W:AT C g (opsOf c) pl [] fr h (λfr' h'=>Q .normal fr' h'))(D:shape c=.region id n true:=by kernel_rfl)(G:C.Iy f id=pl:=by kernel_rfl):AW C f g c fr h Q:=Lc D _ G W
theorem AU(n:Nat)(W:AT C g (opsOf (left c)) (Gk 0 n) [] fr h (λfr' h'=>KC (λfr h=>AW C f g (right c) fr h Q) Q .normal fr' h'))(D:shape c=.seq:=by kernel_rfl)(T:LY (left c) n=true:=by kernel_rfl):AW C f g c fr h Q:=An D (Ea n W T)
theorem Da(hK:AW C f g c fr h Q->K fr h)(W:AW C f g c fr h Q):AT C g ops [] tch fr h K:=Ac (hK W)
theorem OL(n:Nat)(hK:AW C f g c fr h Q->K fr h)(W:AT C g (opsOf c) (Gk 0 n) [] fr h (λfr' h'=>Q .normal fr' h'))(T:LY c n=true:=by kernel_rfl):AT C g ops [] tch fr h K:=Ac (hK (Ea n W T))
theorem Jv(n:Nat)(hK:AW C f g c fr h Q->K fr h)(W:AT C g (opsOf (left c)) (Gk 0 n) [] fr h (λfr' h'=>KC (λfr h=>AW C f g (right c) fr h Q) Q .normal fr' h'))(D:shape c=.seq:=by kernel_rfl)(T:LY (left c) n=true:=by kernel_rfl):AT C g ops [] tch fr h K:=Ac (hK (AU n W D T))
theorem Bf(hq:Q .ret fr h)(D:shape c=.ret:=by kernel_rfl):AW C f g c fr h Q:=I1 D hq
theorem Fl(hq:Q .normal fr h)(D:shape c=.skip:=by kernel_rfl):AW C f g c fr h Q:=Dd D hq
end
theorem Bc{α:Type}{a x:α}(h:some a=some x):a=x:=zK h
theorem Ms{α β:Type}{a x:α}{b y:β}(h:some (a,b)=some (x,y)):a=x/\b=y:=qA (zK h)
theorem PF{α β γ:Type}{a x:α}{b y:β}{c z:γ}(h:some (a,b,c)=some (x,y,z)):a=x/\b=y/\c=z:=by
 obtain⟨h1,h2⟩:=Ms h;exact⟨h1,qA h2⟩
end Go.Av
end
