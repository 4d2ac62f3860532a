/-
  Several texts in one.
-/
import Derived.Test.YtlddjbgohnlihaaGreatDoorAvTy
/-
 A part.
-/
section
namespace Go.Av
set_option linter.unusedVariables false
set_option linter.unusedSimpArgs false
section
variable {α:Type} {g:Gd} {h:AI} {L F:List Ck}
theorem Yl{ws:List α}{i:Int}{x:α}(hx:G8 ws i=some x):0≤i∧i.toNat<ws.length∧ws[i.toNat]?=some x:=by
 unfold G8 at hx;split at hx
 ·exact⟨by omega,(List.getElem?_eq_some_iff.1 hx).1,hx⟩
 ·cases hx
end
section
variable {C:Gp} {S:Self} {g:Gd} {h:AI} {fr:Fr} {op:Op}
def XT(P:Program)(fr:Fr):Op→Option (List AB×Nat×Int)
 | .index t x i=>
  match P.underlying t,ev fr x,ev fr i with
  |some (.array n e),.agg cs,.int _ i=>
   match Jx P e,CP P e with
   |some false,some 1=>some (cs,n,i)
   |_,_=>none
  |_,_,_=>none
 |_=>none
theorem bN{α:Type}(f:α→AB)(ws:List α){cs:List AB}{n:Nat}{i:Int}{x:α}(B:XT C.P fr op=some (cs,n,i))(hcs:cs=ws.map f)(V:ws.length=n)(hx:G8 ws i=some x):BC C S g h fr op=some (f x,h):=by
 obtain⟨h1,h2,h3⟩:=Yl hx;unfold XT at B;split at B
 ·split at B
  ·rename_i hu hv hi;split at B
   ·rename_i ha hz;simp only[zd,zg]at B;have e:∀j:Nat,ws[j]?=some x→(ws.map f)[j]?=some (f x):=fun j hj=>by rw[List.getElem?_map,hj];rfl
    obtain⟨e1,e2,e3⟩:=B;subst e1 e2 e3;simp only[BC,IJ,A4,It,Nv,hu,hv,hi,hz,za,Nat.mul_one];rw[zm ⟨h1,by omega⟩];simp only[E9,ha,hcs,e _ h3,zj]
   ·cases B
  ·cases B
 ·cases B
def Vf(P:Program)(fr:Fr):Op→Option (List AB×Nat×Nat×Int)
 | .index t x i=>
  match P.underlying t,ev fr x,ev fr i with
  |some (.array n e),.agg cs,.int _ i=>
   match Jx P e,CP P e with
   |some true,some z=>some (cs,n,z,i)
   |_,_=>none
  |_,_,_=>none
 |_=>none
theorem TU{α:Type}{e:α→List AB}{z:Nat}(E:NB e z):∀(ws:List α) (j:Nat) (x:α),ws[j]?=some x→j*z+z≤(Af e ws).length∧((Af e ws).drop (j*z)).take z=e x
 |[],j,x,h=>by simp at h
 |w::r,0,x,h=>by
  have hw:w=x:=by simpa using h
  subst hw;have hl:=E.len w;have e1:Af e (w::r)=e w++Af e r:=rfl;refine⟨by rw[e1,ze];omega,?_⟩;rw[e1,xL,yl,xp (by omega),zI (by omega)]
 |w::r,j+1,x,h=>by
  obtain⟨h1,h2⟩:=TU E r j x (by simpa using h);have hl:=E.len w;have e1:Af e (w::r)=e w++Af e r:=rfl;have e2:(j+1)*z=z+j*z:=by rw[yC,qC,qT]
  refine⟨by rw[e1,ze,e2];omega,?_⟩;rw[e1,e2,xm,List.drop_of_length_le (by omega),ye,hl,ya];exact h2
theorem NY{α:Type}{e:α→List AB}{z:Nat}(E:NB e z)(ws:List α){cs:List AB}{n:Nat}{i:Int}{x:α}(B:Vf C.P fr op=some (cs,n,z,i))(hcs:cs=Af e ws)(V:ws.length=n)(hx:G8 ws i=some x):BC C S g h fr op=some (.agg (e x),h):=by
 obtain⟨h1,h2,h3⟩:=Yl hx;obtain⟨h4,h5⟩:=TU E ws _ _ h3;unfold Vf at B;split at B
 ·split at B
  ·rename_i hu hv hi;split at B
   ·rename_i ha hz;simp only[zd,zg]at B;obtain⟨e1,e2,e3,e4⟩:=B;subst e1 e2 e3 e4;simp only[BC,IJ,A4,It,Nv,hu,hv,hi,hz,za];rw[zm ⟨h1,by omega⟩];simp only[E9,ha,hz,za,hcs,zm h4,h5,zj]
   ·cases B
  ·cases B
 ·cases B
end
end Go.Av
end
/-
 A part.
-/
section
namespace Go.Av
set_option linter.unusedVariables false
set_option linter.unusedSimpArgs false
section
variable {α:Type} {g:Gd} {h:AI} {L F:List Ck}
def e9(n:Nat)(e:α→AB)(X:Nat→α):List AB:=(List.range n).map fun i=>e (X i)
def eC:Nat→Int:=fun _=>0
end
end Go.Av
end
/-
 A part.
-/
section
namespace Go.Av
set_option linter.unusedVariables false
set_option linter.unusedSimpArgs false
def Hw(d:Nat):List (Nat×AB)→Bool
 |[]=>true
 |(i,_)::r=>bif Nat.beq i d then false else Hw d r
theorem KL{d:Nat}:∀{l:List (Nat×AB)},Hw d l=true→∀p∈l,p.1≠d
 |[],_,p,G=>by cases G
 | (i,v)::r,h,p,G=>by
  unfold Hw at h;rw[Ik]at h;by_cases e:i=d
  ·rw[zm e]at h;cases h
  ·rw[zk e]at h;cases G with
   |head=>exact e
   |tail _ G=>exact KL h p G
def Is(ops:Array Oper)(i:Nat)(l:List (Nat×AB)):Bool:=
 match Hj ops i with
 |none=>true
 |some d=>Hw d l
section
variable {C:Gp} {f:FuncId} {g:Gd} {ops:Array Oper} {tch:List (Nat×Nat)} {fr:Fr} {h h1:AI} {K:Fr→AI→Prop} {N:Nat} {l:List (Nat×AB)} {i r:Nat}
theorem H9{l:List (Nat×AB)}(hd:Is ops i l=true)(v:AB):∀p∈l,nth (put fr (Hj ops i) v) p.1=nth fr p.1:=by
 intro p G;unfold Is at hd;split at hd
 ·rename_i e;rw[e];rfl
 ·rename_i d e;rw[e];exact PZ fr v (fun e=>KL hd p G (zJ e).symm)
variable {Q:CI→Fr→AI→Prop} {c:Code}
def LU:Code→Nat→Bool
 | .region _ ops draw,n=> !draw&&Nat.beq ops.size n
 |_,_=>false
theorem BH(n:Nat)(R:AT C g (opsOf c) (GF 0 n) [] fr h (fun fr' h'=>Q .normal fr' h'))(B:LU c n=true:=by kernel_rfl):AW C f g c fr h Q:=by
 cases c with
 |region id ops draw=>
  simp only[LU,zh,zK]at B;obtain⟨rfl,e⟩:=B;obtain rfl:=zu e;exact cH (id:=id) _ rfl rfl R
 |_=>cases B
theorem AO(R:AW C f g (left c) fr h (Nd (fun fr h=>AW C f g (right c) fr h Q) Q))(B:shape c=.seq:=by kernel_rfl):AW C f g c fr h Q:=Ur B R
theorem Has.ls{out:List (Nat×AB)}(H:Has fr N l)(h:∀fr,out.map (fun p=>nth (C1 N l fr) p.1)=out.map (·.2):=by intro _;kernel_rfl):Has fr N out:=H.less out h
theorem AU(d:Nat){b:Bool}{α:Type}{x y:Option α}{r:α}(H:Has fr N l)(hm:AX b x y=some r)(h1:b=true→x=some r→Has fr N (QL l d (.bool true))→AW C f g (left c) fr h Q)(h2:b=false→y=some r→Has fr N (QL l d (.bool false))→AW C f g (right c) fr h Q)
  (hd:RT l d=some (.bool b):=by kernel_rfl) (B:shape c=.cond (.tmp d):=by kernel_rfl):AW C f g c fr h Q:=by
 have e:nth fr d=.bool b:=H.2 _ (N2 hd);cases c<;>simp[shape]at B;subst B;rcases As hm with⟨hb,hm⟩|⟨hb,hm⟩
 ·obtain⟨n,e',fr',h',q1,q2⟩:=(h1 hb hm (H.bT d hb hd)).ex;rw[hb]at e;exact⟨⟨n,e',fr',h',by simp only[BU,ev,e];exact q1,q2⟩⟩
 ·obtain⟨n,e',fr',h',q1,q2⟩:=(h2 hb hm (H.bT d hb hd)).ex;rw[hb]at e;exact⟨⟨n,e',fr',h',by simp only[BU,ev,e];exact q1,q2⟩⟩
def Et(ops:Array Oper)(l:List (Nat×AB)):List Nat→Bool
 |[]=>true
 |i::r=>Is ops i l&&Et ops l r
theorem H7{P:Program}{l:List (Nat×AB)}:∀(is:List Nat) (fr fr1:Fr),Et ops l is=true→Ga P ops is fr=some fr1→∀p∈l,nth fr1 p.1=nth fr p.1
 |[],fr,fr1,_,B,p,G=>by
  simp only[Ga,zd]at B;rw[B]
 | i::is,fr,fr1,hd,B,p,G=>by
  simp only[Et,zh]at hd;simp only[Ga]at B;split at B
  ·cases B
  ·rename_i o ho;have e2:Hj ops i=o.dst:=by simp[Hj,ho]
   have hk:=fun fr v=>H9 (fr:=fr) hd.1 v p G;rw[e2]at hk;split at B
   ·split at B
    ·rw[H7 is _ _ hd.2 B p G,hk]
    ·cases B
   ·rw[H7 is _ _ hd.2 B p G,hk]
   ·cases B
variable {pl:List (Nat×List Nat)} {U:List Nat}
theorem AG(k:Nat)(nw:List (Nat×AB))(H:Has fr N l)(V:∀fr',Has fr' N (List.append nw l)→AT C g ops (pl.drop k) tch fr' h K)
  (hk:∀fr,(Ro (pl.take k),Et ops l (EX (pl.take k)),(Ga C.P ops (EX (pl.take k)) (C1 N l fr)).map (fun x=>nw.map (fun p=>nth x p.1)))=(true,true,some (nw.map (·.2))):=by intro _;kernel_rfl):
  AT C g ops pl tch fr h K:=by
 have D:=hk fr;rw[Eu H]at D;simp only[zg]at D;obtain⟨hu,hd,D⟩:=D;cases O:Ga C.P ops (EX (pl.take k)) fr with
 |none=>rw[O]at D;cases D
 |some fr1=>
  rw[O]at D;simp only[zj,zd]at D;have e:pl=pl.take k++pl.drop k:=(zM k pl).symm;rw[e];refine NK _ _ fr fr1 (NU hu) O (V fr1 ?_);have h1:=Has.of_map ((G4 _ _ _ O).trans H.1) D;refine⟨h1.1,fun p G=>?_⟩;rcases zB.1 G with G|G
  ·exact h1.2 p G
  ·rw[H7 _ fr fr1 hd O p G];exact H.2 p G
theorem Aa(d:Nat)(v:AB)(h1:AI)(H:Has fr N l)(B:∀fr,Steps C g h (C1 N l fr) (PC ops i) v h1)
  (V:∀fr' t,Has fr' N ((d,v)::l)→AT C g ops pl t fr' h1 K)
  (hw:∀fr,(runs ops (C1 N l fr) i,Hj ops i,Nat.blt d N,Hw d l)=(true,some d,true,true):=by intro _;kernel_rfl):AT C g ops ((i,[])::pl) tch fr h K:=by
 have M:=hw fr;have J:=B fr;rw[Eu H]at M J;simp only[zg]at M;obtain⟨w1,w2,w3,w4⟩:=M;refine I8 (v:=v) w1 (by rw[Hh,ye];exact J) rfl (V _ _ ⟨by simp[H.1],fun p G=>?_⟩);rw[w2];show nth (fr.set d v) p.1=p.2;cases G with
 |head=>
  rw[yY]at w3;rw[FY,zm ⟨rfl,by rw[H.1];exact w3⟩]
 |tail _ G=>
  rw[FY,zk (fun e=>KL w4 p G e.1.symm)];exact H.2 p G
theorem IE(v:AB)(h1:AI)(H:Has fr N l)(B:∀fr,Steps C g h (C1 N l fr) (PC ops i) v h1)
  (V:∀fr' t,Has fr' N l→AT C g ops pl t fr' h1 K)
  (hw:∀fr,(runs ops (C1 N l fr) i,Is ops i l)=(true,true):=by intro _;kernel_rfl):AT C g ops ((i,[])::pl) tch fr h K:=by
 have M:=hw fr;have J:=B fr;rw[Eu H]at M J;simp only[zg]at M;obtain⟨w1,w2⟩:=M;refine I8 (v:=v) w1 (by rw[Hh,ye];exact J) rfl (V _ _ ⟨by simp[H.1],fun p G=>?_⟩);rw[H9 w2 v p G];exact H.2 p G
theorem Du(d:Nat)(v:AB)(h1:AI)(tch':List (Nat×Nat))(pr:List Nat)(H:Has fr N l)(B:∀fr,Steps C ⟨g.floor,pr⟩ h (C1 N l fr) (PC ops i) v h1)
  (V:∀fr',Has fr' N ((d,v)::l)→AT C g ops pl tch' fr' h1 K)
  (hre:∀fr,Oy C ops U (put (C1 N l fr) (Hj ops i) v) h1=true:=by intro _;kernel_rfl)
  (hw:∀fr,(runs ops (C1 N l fr) i,Hj ops i,Nat.blt d N,Hw d l)=(true,some d,true,true):=by intro _;kernel_rfl)
  (G:IK tch U++g.CF=pr:=by kernel_rfl) (ht:∀fr,Gn C.P h (C1 N l fr) i (PC ops i) tch=tch':=by intro _;kernel_rfl):AT C g ops ((i,U)::pl) tch fr h K:=by
 have M:=hw fr;have J:=B fr;have T:=hre fr;have Y:=ht fr;rw[Eu H]at M J T Y;simp only[zg]at M;obtain⟨w1,w2,w3,w4⟩:=M;have R:Has (put fr (Hj ops i) v) N ((d,v)::l):=by
  refine⟨by simp[H.1],fun p Z=>?_⟩;rw[w2];show nth (fr.set d v) p.1=p.2;cases Z with
  |head=>
   rw[yY]at w3;rw[FY,zm ⟨rfl,by rw[H.1];exact w3⟩]
  |tail _ Z=>
   rw[FY,zk (fun e=>KL w4 p Z e.1.symm)];exact H.2 p Z
 exact I8 (v:=v) w1 (by rw[G];exact J) T (by rw[Y];exact V _ R)
theorem XU(v:AB)(h1:AI)(tch':List (Nat×Nat))(pr:List Nat)(H:Has fr N l)(B:∀fr,Steps C ⟨g.floor,pr⟩ h (C1 N l fr) (PC ops i) v h1)
  (V:∀fr',Has fr' N l→AT C g ops pl tch' fr' h1 K)
  (hre:∀fr,Oy C ops U (put (C1 N l fr) (Hj ops i) v) h1=true:=by intro _;kernel_rfl)
  (hw:∀fr,(runs ops (C1 N l fr) i,Is ops i l)=(true,true):=by intro _;kernel_rfl)
  (G:IK tch U++g.CF=pr:=by kernel_rfl) (ht:∀fr,Gn C.P h (C1 N l fr) i (PC ops i) tch=tch':=by intro _;kernel_rfl):AT C g ops ((i,U)::pl) tch fr h K:=by
 have M:=hw fr;have J:=B fr;have T:=hre fr;have Y:=ht fr;rw[Eu H]at M J T Y;simp only[zg]at M;obtain⟨w1,w2⟩:=M;have R:Has (put fr (Hj ops i) v) N l:=by
  refine⟨by simp[H.1],fun p Z=>?_⟩;rw[H9 w2 v p Z];exact H.2 p Z
 exact I8 (v:=v) w1 (by rw[G];exact J) T (by rw[Y];exact V _ R)
theorem Aw(k:Nat)(out:List (Nat×AB))(H:Has fr N l)(V:∀fr',Has fr' N out→AT C g ops (pl.drop k) tch fr' h K)
  (hk:∀fr,(Ro (pl.take k),(Ga C.P ops (EX (pl.take k)) (C1 N l fr)).map (fun x=>out.map (fun p=>nth x p.1)))=(true,some (out.map (·.2))):=by intro _;kernel_rfl):
  AT C g ops pl tch fr h K:=by
 have hu:=hk fr;simp only[zg]at hu;have e:pl=pl.take k++pl.drop k:=(zM k pl).symm;rw[e];refine bo (pl.take k) out H (NU hu.1) (fun fr=>?_) V;have:=hk fr;simp only[zg]at this;exact this.2
def Ot(P:Program)(ops:Array Oper)(is:List Nat)(fr:Fr):Fr:=(Ga P ops is fr).getD fr
def G7(pl:List (Nat×List Nat))(k:Nat):Nat:=
 match pl.drop k with
 |(i,_)::_=>i
 |[]=>0
def QV(pl:List (Nat×List Nat))(k:Nat):Bool:=
 match pl.drop k with
 |(_,[])::_=>true
 |_=>false
theorem Vn{pl:List (Nat×List Nat)}{k:Nat}(h:QV pl k=true):pl.drop k=(G7 pl k,[])::pl.drop (k+1):=by
 unfold QV at h;unfold G7;have e:pl.drop (k+1)=(pl.drop k).drop 1:=by rw[qm]
 split at h
 ·rename_i i r hd;rw[e,hd];rfl
 ·cases h
theorem Aq(k:Nat)(nw:List (Nat×AB))(d:Nat)(v:AB)(h1:AI)(H:Has fr N l)(B:∀fr,Steps C g h (Ot C.P ops (EX (pl.take k)) (C1 N l fr)) (PC ops (G7 pl k)) v h1)
  (V:∀fr' t,Has fr' N ((d,v)::List.append nw l)→AT C g ops (pl.drop (k+1)) t fr' h1 K)
  (hk:∀fr,(QV pl k&&(Ro (pl.take k)&&(Et ops l (EX (pl.take k))&&(Hw d l&&(Hw d nw&&Nat.blt d N)))),(Ga C.P ops (EX (pl.take k)) (C1 N l fr)).map (fun x=>(runs ops x (G7 pl k),Hj ops (G7 pl k),nw.map (fun p=>nth x p.1))))=(true,some (true,some d,nw.map (·.2))):=by intro _;kernel_rfl):AT C g ops pl tch fr h K:=by
 have D:=hk fr;have J:=B fr;rw[Eu H]at D J;simp only[zg,zh]at D;obtain⟨⟨a1,a2,a3,a4,a5,a6⟩,D⟩:=D;cases O:Ga C.P ops (EX (pl.take k)) fr with
 |none=>rw[O]at D;cases D
 | some fr1=>
  rw[O]at D;simp only[zj,zd,zg]at D;obtain⟨b1,b2,b3⟩:=D;have hF:Ot C.P ops (EX (pl.take k)) fr=fr1:=by unfold Ot;rw[O];rfl
  rw[hF]at J;have W:fr1.length=N:=(G4 _ _ _ O).trans H.1;have hH:=Has.of_map W b3;have e:pl=pl.take k++pl.drop k:=(zM k pl).symm;rw[e];refine NK _ _ fr fr1 (NU a2) O ?_;rw[Vn a1];refine I8 (v:=v) b1 (by rw[Hh,ye];exact J) rfl (V _ _ ⟨by simp[W],fun p G=>?_⟩);rw[b2];show nth (fr1.set d v) p.1=p.2;cases G with
  |head=>
   rw[yY]at a6;rw[FY,zm ⟨rfl,by rw[W];exact a6⟩]
  | tail _ G=>
   rcases zB.1 G with G|G
   ·rw[FY,zk (fun e=>KL a5 p G e.1.symm)];exact hH.2 p G
   ·rw[FY,zk (fun e=>KL a4 p G e.1.symm),H7 _ fr fr1 a3 O p G];exact H.2 p G
theorem Xt(k:Nat)(nw:List (Nat×AB))(v:AB)(h1:AI)(H:Has fr N l)(B:∀fr,Steps C g h (Ot C.P ops (EX (pl.take k)) (C1 N l fr)) (PC ops (G7 pl k)) v h1)
  (V:∀fr' t,Has fr' N (List.append nw l)→AT C g ops (pl.drop (k+1)) t fr' h1 K)
  (hk:∀fr,(QV pl k&&(Ro (pl.take k)&&(Et ops l (EX (pl.take k))&&(Is ops (G7 pl k) l&&Is ops (G7 pl k) nw))),(Ga C.P ops (EX (pl.take k)) (C1 N l fr)).map (fun x=>(runs ops x (G7 pl k),nw.map (fun p=>nth x p.1))))=(true,some (true,nw.map (·.2))):=by intro _;kernel_rfl):AT C g ops pl tch fr h K:=by
 have D:=hk fr;have J:=B fr;rw[Eu H]at D J;simp only[zg,zh]at D;obtain⟨⟨a1,a2,a3,a4,a5⟩,D⟩:=D;cases O:Ga C.P ops (EX (pl.take k)) fr with
 |none=>rw[O]at D;cases D
 |some fr1=>
  rw[O]at D;simp only[zj,zd,zg]at D;obtain⟨b1,b3⟩:=D;have hF:Ot C.P ops (EX (pl.take k)) fr=fr1:=by unfold Ot;rw[O];rfl
  rw[hF]at J;have W:fr1.length=N:=(G4 _ _ _ O).trans H.1;have hH:=Has.of_map W b3;have e:pl=pl.take k++pl.drop k:=(zM k pl).symm;rw[e];refine NK _ _ fr fr1 (NU a2) O ?_;rw[Vn a1];refine I8 (v:=v) b1 (by rw[Hh,ye];exact J) rfl (V _ _ ⟨by simp[W],fun p G=>?_⟩);rcases zB.1 G with G|G
  ·rw[H9 a5 v p G];exact hH.2 p G
  ·rw[H9 a4 v p G,H7 _ fr fr1 a3 O p G];exact H.2 p G
theorem ZJ(k:Nat)(nw:List (Nat×AB))(H:Has fr N l)(hK:∀fr',AW C f g c fr' h Q→K fr' h)(R:∀fr',Has fr' N (List.append nw l)→AW C f g c fr' h Q)
  (hk:∀fr,(Ro pl,Nat.beq pl.length k,Et ops l (EX pl),(Ga C.P ops (EX pl) (C1 N l fr)).map (fun x=>nw.map (fun p=>nth x p.1)))=(true,true,true,some (nw.map (·.2))):=by intro _;kernel_rfl):AT C g ops pl tch fr h K:=by
 have D:=hk fr;simp only[zg]at D;have hl:=zu D.2.1;have ht:pl.take k=pl:=zI (by omega);have hd:pl.drop k=[]:=yc (by omega);refine AG k nw H (fun fr' H'=>?_) (fun fr=>?_)
 ·rw[hd];exact at_nil (hK _ (R _ H'))
 ·have:=hk fr;simp only[zg]at this;rw[ht];simp only[zg];exact⟨this.1,this.2.2.1,this.2.2.2⟩
theorem cU(k:Nat)(nw:List (Nat×AB))(n:Nat)(H:Has fr N l)(hK:∀fr',AW C f g c fr' h Q→K fr' h)(R:∀fr',Has fr' N (List.append nw l)→AT C g (opsOf c) (GF 0 n) [] fr' h (fun fr' h'=>Q .normal fr' h'))
  (hk:∀fr,(Ro pl,Nat.beq pl.length k,Et ops l (EX pl),(Ga C.P ops (EX pl) (C1 N l fr)).map (fun x=>nw.map (fun p=>nth x p.1)))=(true,true,true,some (nw.map (·.2))):=by intro _;kernel_rfl) (O:LU c n=true:=by kernel_rfl):AT C g ops pl tch fr h K:=ZJ k nw H hK (fun fr' H'=>BH n (R fr' H') O) hk
theorem cx(k:Nat)(nw:List (Nat×AB))(n:Nat)(H:Has fr N l)(hK:∀fr',AW C f g c fr' h Q→K fr' h)(R:∀fr',Has fr' N (List.append nw l)→AT C g (opsOf (left c)) (GF 0 n) [] fr' h (fun fr' h'=>Nd (fun fr h=>AW C f g (right c) fr h Q) Q .normal fr' h'))
  (hk:∀fr,(Ro pl,Nat.beq pl.length k,Et ops l (EX pl),(Ga C.P ops (EX pl) (C1 N l fr)).map (fun x=>nw.map (fun p=>nth x p.1)))=(true,true,true,some (nw.map (·.2))):=by intro _;kernel_rfl) (B:shape c=.seq:=by kernel_rfl) (O:LU (left c) n=true:=by kernel_rfl):AT C g ops pl tch fr h K:=ZJ k nw H hK (fun fr' H'=>AO (BH n (R fr' H') O) B) hk
theorem Am(k:Nat)(I:Fr→AI→Prop)(h1:AT C g ops (pl.take k) tch fr h I)(h2:∀t fr h,I fr h→AT C g ops (pl.drop k) t fr h K):AT C g ops pl tch fr h K:=by
 have e:pl=pl.take k++pl.drop k:=(zM k pl).symm;rw[e];exact bH _ I h1 h2
theorem Gh(id n:Nat)(R:AT C g (opsOf c) (GF 0 n) [] fr h (fun fr' h'=>Q .normal fr' h'))(B:shape c=.region id n true:=by kernel_rfl)(G:C.MR f id=GF 0 n:=by kernel_rfl):AW C f g c fr h Q:=VX B _ G R
theorem Sr(id n:Nat)(pl:List (Nat×List Nat))(R:AT C g (opsOf c) pl [] fr h (fun fr' h'=>Q .normal fr' h'))(B:shape c=.region id n true:=by kernel_rfl)(G:C.MR f id=pl:=by kernel_rfl):AW C f g c fr h Q:=VX B _ G R
theorem AF(n:Nat)(R:AT C g (opsOf (left c)) (GF 0 n) [] fr h (fun fr' h'=>Nd (fun fr h=>AW C f g (right c) fr h Q) Q .normal fr' h'))(B:shape c=.seq:=by kernel_rfl)(O:LU (left c) n=true:=by kernel_rfl):AW C f g c fr h Q:=Ur B (BH n R O)
theorem A8(hK:AW C f g c fr h Q→K fr h)(R:AW C f g c fr h Q):AT C g ops [] tch fr h K:=at_nil (hK R)
theorem Ee(n:Nat)(hK:AW C f g c fr h Q→K fr h)(R:AT C g (opsOf c) (GF 0 n) [] fr h (fun fr' h'=>Q .normal fr' h'))(O:LU c n=true:=by kernel_rfl):AT C g ops [] tch fr h K:=at_nil (hK (BH n R O))
theorem Be(n:Nat)(hK:AW C f g c fr h Q→K fr h)(R:AT C g (opsOf (left c)) (GF 0 n) [] fr h (fun fr' h'=>Nd (fun fr h=>AW C f g (right c) fr h Q) Q .normal fr' h'))(B:shape c=.seq:=by kernel_rfl)(O:LU (left c) n=true:=by kernel_rfl):AT C g ops [] tch fr h K:=at_nil (hK (AF n R B O))
theorem AY(Z:Q .ret fr h)(B:shape c=.ret:=by kernel_rfl):AW C f g c fr h Q:=bh B Z
theorem Dp(Z:Q .normal fr h)(B:shape c=.skip:=by kernel_rfl):AW C f g c fr h Q:=PK B Z
end
theorem Ac{α:Type}{a x:α}(h:some a=some x):a=x:=zJ h
theorem B3{α β:Type}{a x:α}{b y:β}(h:some (a,b)=some (x,y)):a=x∧b=y:=Prod.mk.inj (zJ h)
theorem Gx{α β γ:Type}{a x:α}{b y:β}{c z:γ}(h:some (a,b,c)=some (x,y,z)):a=x∧b=y∧c=z:=by
 obtain⟨h1,h2⟩:=B3 h;exact⟨h1,Prod.mk.inj h2⟩
end Go.Av
end
