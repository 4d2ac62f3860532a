/-
  Several texts in one.
-/
import Derived.Test.YthhonebaoidfgaaGreatDoorAvTy
set_option linter.unusedSimpArgs false
/-
 A part.
-/
section
namespace Go.Av
set_option linter.unusedVariables false
set_option linter.unusedSimpArgs false
section
variable {α:Type} {g:Gd} {h:AF} {L F:List Ck}
theorem ae{ws:List α}{i:Int}{x:α}(O:Kx ws i=some x):0<=i/\i.toNat<ws.length/\ws[i.toNat]?=some x:=by
 unfold Kx at O;split at O
 ·exact⟨by omega,(List.getElem?_eq_some_iff.1 O).1,O⟩
 ·cases O
end
section
variable {C:Hv} {S:Self} {g:Gd} {h:AF} {fr:Fr} {op:Op}
def dA(P:Program)(fr:Fr):Op->Option (List AD×Nat×Int)
 | .index t x i=>
  match P.underlying t,ev fr x,ev fr i with
  |some (.array n e),.agg cs,.int _ i=>
   match La P e,DK P e with
   |some false,some 1=>some (cs,n,i)
   |_,_=>none
  |_,_,_=>none
 |_=>none
theorem cD{α:Type}(f:α->AD)(ws:List α){cs:List AD}{n:Nat}{i:Int}{x:α}(B:dA C.P fr op=some (cs,n,i))(hcs:cs=ws.map f)(T:ws.length=n)(O:Kx ws i=some x):Bv C S g h fr op=some (f x,h):=by
 obtain⟨h1,h2,h3⟩:=ae O;unfold dA at B;split at B
 ·split at B
  ·rename_i hu hv hi;split at B
   ·rename_i ha hz;simp only[zb,ze]at B;have e:∀j:Nat,ws[j]?=some x->(ws.map f)[j]?=some (f x):=λj hj=>by rw[List.getElem?_map,hj];rfl
    obtain⟨e1,e2,e3⟩:=B;subst e1 e2 e3;simp only[Bv,Jl,Bd,Ku,QE,hu,hv,hi,hz,za,qB];rw[zl ⟨h1,by omega⟩];simp only[GU,ha,hcs,e _ h3,zh]
   ·cases B
  ·cases B
 ·cases B
def Yj(P:Program)(fr:Fr):Op->Option (List AD×Nat×Nat×Int)
 | .index t x i=>
  match P.underlying t,ev fr x,ev fr i with
  |some (.array n e),.agg cs,.int _ i=>
   match La P e,DK P e with
   |some true,some z=>some (cs,n,z,i)
   |_,_=>none
  |_,_,_=>none
 |_=>none
theorem Vx{α:Type}{e:α->List AD}{z:Nat}(E:Me e z):∀(ws:List α) (j:Nat) (x:α),ws[j]?=some x->j*z+z<=(Am e ws).length/\((Am e ws).drop (j*z)).take z=e x
 |[],j,x,h=>by simp at h
 |w::r,0,x,h=>by
  have hw:w=x:=by simpa using h
  subst hw;have hl:=E.len w;have e1:Am e (w::r)=e w++Am e r:=rfl;refine⟨by rw[e1,zi];omega,?_⟩;rw[e1,xL,yn,qA om,zB om]
 |w::r,j+1,x,h=>by
  obtain⟨h1,h2⟩:=Vx E r j x (by simpa using h);have hl:=E.len w;have e1:Am e (w::r)=e w++Am e r:=rfl;have e2:(j+1)*z=z+j*z:=by rw[yC,qy,xk]
  refine⟨by rw[e1,zi,e2];omega,?_⟩;rw[e1,e2,xp,yI om,ye,hl,Nat.add_sub_cancel_left];exact h2
theorem Uf{α:Type}{e:α->List AD}{z:Nat}(E:Me e z)(ws:List α){cs:List AD}{n:Nat}{i:Int}{x:α}(B:Yj C.P fr op=some (cs,n,z,i))(hcs:cs=Am e ws)(T:ws.length=n)(O:Kx ws i=some x):Bv C S g h fr op=some (.agg (e x),h):=by
 obtain⟨h1,h2,h3⟩:=ae O;obtain⟨h4,h5⟩:=Vx E ws _ _ h3;unfold Yj at B;split at B
 ·split at B
  ·rename_i hu hv hi;split at B
   ·rename_i ha hz;simp only[zb,ze]at B;obtain⟨e1,e2,e3,e4⟩:=B;subst e1 e2 e3 e4;simp only[Bv,Jl,Bd,Ku,QE,hu,hv,hi,hz,za];rw[zl ⟨h1,by omega⟩];simp only[GU,ha,hz,za,hcs,zl h4,h5,zh]
   ·cases B
  ·cases B
 ·cases B
end
end Go.Av
end
/-
 A part.
-/
section
namespace Go.Av
set_option linter.unusedSimpArgs false
set_option linter.unusedVariables false
def jb(fr:Fr):Op->Option (TypeId×TypeId×AD)
 | .convert s d x=>some (s,d,ev fr x)
 |_=>none
theorem ju{C:Hv}{S:Self}{g:Gd}{h:AF}{fr:Fr}{op:Op}{s d:TypeId}{x:AD}{r:AD×AF}(B:jb fr op=some (s,d,x))(O:Qy C.P g h s d x=some r):Bv C S g h fr op=some r:=by
 unfold jb at B;split at B
 ·rename_i s' d' x';injection B with B;injection B with e1 B;injection B with e2 e3;subst e1;subst e2;subst e3;have hc:Bd C.P (.convert s' d' x')=3:=by
   unfold Qy at O;split at O
   ·rename_i h1 h2 h3;simp[Bd,h1,h2]
   ·cases O
  show Jl C.P C.DC g h fr (.convert s' d' x')=some r;unfold Jl;rw[hc];exact O
 ·cases B
theorem HH.mT{P:Program}{g:Gd}{h:AF}{L F:List Ck}{t e e0:TypeId}(a:HH g h L F)(k:Nat){r:Option Nat}{cs:List AD}(hk:L[k]?=some (.Am r e cs)){n:Nat}(T:n≠0)(hl:cs.length=n)
  (hu:P.underlying t=some (.slice e0)) (he:P.underlying e0=some (.int .u8)):∃h1,Qy P g h t t (Ad r n)=some (Ad r n,h1)/\HH g h1 L F:=by
 cases r with
 |none=>
  have hc:cs=[]:=a.mem hk;subst hc;exact absurd hl.symm T
 | some id=>
  have hg:h.get id=some (.cells (some e) 2 cs):=a.mem hk;have hid:=h.CA hg;have hm:=a.OP hk (i:=id) (by simp[Ck.ids]);refine⟨h.set id (.cells (some e) 2 cs),?_,?_⟩
  ·have Y:Nat.beq n 0=false:=by cases n;exact absurd rfl T;rfl
   unfold Ad Qy;simp only[hu,zh,he,hg,yl,hm,Y,yE,yZ,zL]
  ·have b:=a.VQ (d:=.Am (some id) e cs) (h':=h.set id (.cells (some e) 2 cs)) hk (by simp) (λi _ hi=>h.CN _ hid (by simpa[Ck.ids]using hi)) (h.get_set_same _ hid) (λi hi=>.inl hi) (λi hi=>a.OP hk hi);have e1:L.set k (.Am (some id) e cs)=L:=by rw[Qb hk];exact(KR hk).symm
   rw[e1]at b;exact b
def QZ(g:Gd)(h:AF)(id:Nat)(x:AD):Option (AD×AF):=
 match h.get id with
 |some (.chan cap buf)=>
  bif Nat.ble cap buf.length then some (.tuple [.int .i64 (-1),.bool false],h)
  else bif g.may id then some (.tuple [.int .i64 0,.bool false],h.set id (.chan cap (buf++[x])))
  else none
 |_=>none
def Qn(g:Gd)(h:AF)(id:Nat)(z:AD):Option (AD×AF):=
 match h.get id with
 |some (.chan cap buf)=>
  match buf with
  |v::rest=>bif g.may id then some (.tuple [.int .i64 0,.bool true,v],h.set id (.chan cap rest))else none
  |[]=>some (.tuple [.int .i64 (-1),.bool false,z],h)
 |_=>none
def ay(P:Program)(fr:Fr):Op->Option (Nat×AD)
 | .select cases false=>
  match cases.toList with
  |[c]=>
   match Is P c.elem,ev fr c.chan,c.send with
   |some _,.chan (some id),some x=>some (id,ev fr x)
   |_,_,_=>none
  |_=>none
 |_=>none
def cg(P:Program)(fr:Fr):Op->Option (Nat×AD)
 | .select cases false=>
  match cases.toList with
  |[c]=>
   match Is P c.elem,ev fr c.chan,c.send with
   |some z,.chan (some id),none=>some (id,z)
   |_,_,_=>none
  |_=>none
 |_=>none
def dG(P:Program)(fr:Fr):Op->Option Nat
 | .call {callee:=.builtin .len,args:=asE9,argTypes:=ts}=>
  match asE9.toList,ts[0]? with
  |[x],some t=>
   match P.underlying t,ev fr x with
   |some (.chan _ _),.chan (some id)=>some id
   |_,_=>none
  |_,_=>none
 |_=>none
section
variable {P:Program} {g:Gd} {h h1:AF} {fr:Fr} {op:Op} {L F:List Ck}
theorem WV{id:Nat}{x:AD}{r:AD×AF}(B:ay P fr op=some (id,x))(O:QZ g h id x=some r):Tc P g h fr op=some r:=by
 unfold ay at B;split at B
 ·rename_i cases0;split at B
  ·rename_i c hc;split at B
   ·rename_i z id' x' hz he hse;injection B with B;injection B with e1 e2;subst e1;subst e2;unfold Tc;simp only[hc,hz,he,hse];unfold QZ at O;split at O
    ·rename_i cap buf hg;rw[hg];exact O
    ·cases O
   ·cases B
  ·cases B
 ·cases B
theorem WQ{id:Nat}{z:AD}{r:AD×AF}(B:cg P fr op=some (id,z))(O:Qn g h id z=some r):Tc P g h fr op=some r:=by
 unfold cg at B;split at B
 ·rename_i cases0;split at B
  ·rename_i c hc;split at B
   ·rename_i z' id' hz he hse;injection B with B;injection B with e1 e2;subst e1;subst e2;unfold Tc;simp only[hc,hz,he,hse];unfold Qn at O;split at O
    ·rename_i cap buf hg;rw[hg];exact O
    ·cases O
   ·cases B
  ·cases B
 ·cases B
theorem gq{C:Hv}{S:Self}{id cap:Nat}{buf:List AD}{n:Int}(B:dG C.P fr op=some id)(hg:h.get id=some (.chan cap buf))(T:(buf.length:Int)=n):Bv C S g h fr op=some (.int .i64 n,h):=by
 unfold dG at B;split at B
 ·rename_i asE9 ts;split at B
  ·rename_i x t O ht;split at B
   ·rename_i hu he;injection B with B;subst B;have hc:Bd C.P (.call {callee:=.builtin .len,args:=asE9,argTypes:=ts})=1:=by simp[Bd,ht,hu]
    unfold Bv;simp only[Jl,hc,EN,O,he,GG,hg,Mh,fg,ht,hu];rw[<-T];rfl
   ·cases B
  ·cases B
 ·cases B
variable {α:Type} {e:α->List AD}
theorem HH.j0(E:Me e 1)(a:HH g h L F)(k:Nat){id cap:Nat}{xs:List α}(hk:L[k]?=some (.obj id (.chan cap (Am e xs)))):h.get id=some (.chan cap (Am e xs))/\((Am e xs).length:Int)=(xs.length:Int):=
 ⟨a.get k hk,by rw[E.JM,qB]⟩
theorem HH.br(E:Me e 1)(a:HH g h L F)(k:Nat){id cap:Nat}{xs:List α}{x:α}{v:AD}(hk:L[k]?=some (.obj id (.chan cap (Am e xs))))(hv:e x=[v])(Y:Nat.blt xs.length cap=true):
  ∃h1,QZ g h id v=some (.tuple [.int .i64 0,.bool false],h1)/\HH g h1 (L.set k (.obj id (.chan cap (Am e (xs++[x]))))) F:=by
 refine⟨_,?_,a.set k _ hk⟩;unfold QZ;simp only[a.get k hk,E.JM,qB];have:Nat.ble cap xs.length=false:=by
  rw[yH]at Y;rw[<-yF,Nat.ble_eq];omega
 rw[this,a.OP hk (by simp[Ck.ids])];simp[Am,hv]
theorem HH.cp(E:Me e 1)(a:HH g h L F)(k:Nat){id cap:Nat}{xs:List α}{v:AD}(hk:L[k]?=some (.obj id (.chan cap (Am e xs))))(Y:Nat.blt xs.length cap=false):
  QZ g h id v=some (.tuple [.int .i64 (-1),.bool false],h):=by
 unfold QZ;simp only[a.get k hk,E.JM,qB];have:Nat.ble cap xs.length=true:=by
  rw[Nat.ble_eq];rw[<-yF,yH]at Y;omega
 rw[this];rfl
def ke{α:Type}:List α->Option (α×List α)
 |[]=>none
 |x::r=>some (x,r)
theorem hY{α:Type}{xs r:List α}{x:α}(h:ke xs=some (x,r)):xs=x::r:=by
 cases xs with
 |nil=>cases h
 |cons y l=>injection h with h;injection h with h1 h2;rw[h1,h2]
theorem HH.bS(E:Me e 1)(a:HH g h L F)(k:Nat){id cap:Nat}{xs ys:List α}{x:α}{v z:AD}(hk:L[k]?=some (.obj id (.chan cap (Am e xs))))(O:ke xs=some (x,ys))(hv:e x=[v]):
  ∃h1,Qn g h id z=some (.tuple [.int .i64 0,.bool true,v],h1)/\HH g h1 (L.set k (.obj id (.chan cap (Am e ys)))) F:=by
 obtain rfl:=hY O;refine⟨_,?_,a.set k _ hk⟩;unfold Qn;have e1:Am e (x::ys)=v::Am e ys:=by simp[Am,hv]
 simp only[a.get k hk,e1];rw[a.OP hk (by simp[Ck.ids])];rfl
theorem HH.bR(a:HH g h L F)(k:Nat){id cap:Nat}{xs:List α}{z:AD}(hk:L[k]?=some (.obj id (.chan cap (Am e xs))))(O:xs.isEmpty=true):
  Qn g h id z=some (.tuple [.int .i64 (-1),.bool false,z],h):=by
 obtain rfl:=List.isEmpty_iff.1 O;unfold Qn;simp only[a.get k hk];rfl
end
end Go.Av
end
/-
 A part.
-/
section
namespace Go.Av
set_option linter.unusedVariables false
set_option linter.unusedSimpArgs false
section
variable {α:Type} {e:α->List AD} {z:Nat} {g:Gd} {h:AF} {L F:List Ck}
theorem HH.gC(a:HH g h L F)(k k2:Nat){id id2 n m bytes:Nat}{e:TypeId}{cs ds:List AD}(hk:L[k]?=some (.obj id (.cells (some e) 2 cs)))(hk2:L[k2]?=some (.obj id2 (.cells (some e) 2 ds)))
  (T:cs.length=n) (hm:ds.length=m) (hm0:m≠0) (hc:ds.map GV=ds) (Y:L1 bytes (n+m)=true) (h1:cs.all AD.one=true) (h2:ds.all AD.one=true):
  ∃id' h',Av.app e 1 bytes g h ⟨some (id,0),n⟩ m (.slice (some (id2,0)) m)=some (⟨some (id',0),n+m⟩,h')/\HH g h' (L.set k (.obj id' (.cells (some e) 2 (cs++ds)))) F:=by
 have hg:h.get id=some (.cells (some e) 2 cs):=a.mem hk;have hg2:h.get id2=some (.cells (some e) 2 ds):=a.mem hk2;have hid:=h.CA hg;refine⟨h.size,(h.set id (.cells (some e) 0 [])).push (.cells (some e) 2 (cs++ds)),?_,?_⟩
 ·unfold Av.app;have Y:=of_decide_eq_true Y;rw[zj hm0,zl (show n+m<=1099511627776/\(n+m)*bytes<=1099511627776 from Y)];have f2:EG h 1 m (.slice (some (id2,0)) m)=some ds:=by
   unfold EG;simp only;rw[zj hm0];unfold DG;simp only[hg2];rw[zl ⟨by simp,by omega⟩,yn,qB,<-hm,yr]
  have f1:EG h 1 n (.slice (some (id,0)) n)=some cs:=by
   unfold EG;simp only;by_cases h0:n=0
   ·rw[zl h0];subst h0;rw[zx T]
   ·rw[zj h0];unfold DG;simp only[hg];rw[zl ⟨by simp,by omega⟩,yn,qB,<-T,yr]
  simp only[f2,zh,hc,f1];rw[zl (by rw[qe,h1,h2];rfl)];simp only[hg];rw[zl ⟨a.OP hk (by simp[Ck.ids]),trivial⟩]
 ·refine a.VQ hk (by simp) (λi hi T=>?_) ?_ (λi hi=>by simp[Ck.ids]at hi;omega) (λi hi=>by simp[Ck.ids]at hi;rw[hi];exact a.new)
  ·rw[AF.Ci _ _ (by simpa using hi)];exact h.CN _ hid (by simpa[Ck.ids]using T)
  ·have:=AF.C7 (h.set id (.cells (some e) 0 [])) (.cells (some e) 2 (cs++ds));simp only[AF.size_set]at this;exact this
end
end Go.Av
end
/-
 A part.
-/
section
namespace Go.Av
set_option linter.unusedVariables false
set_option linter.unusedSimpArgs false
section
variable {α:Type} {g:Gd} {h:AF} {L F:List Ck}
def jR(n:Nat)(e:α->AD)(X:Nat->α):List AD:=(List.range n).map λi=>e (X i)
def lU:Nat->Int:=λ_=>0
end
end Go.Av
end
/-
 A part.
-/
section
namespace Go.Av
set_option linter.unusedVariables false
set_option linter.unusedSimpArgs false
def JZ(d:Nat):List (Nat×AD)->Bool
 |[]=>true
 |(i,_)::r=>bif Nat.beq i d then false else JZ d r
theorem Lu{d:Nat}:∀{l:List (Nat×AD)},JZ d l=true->∀p∈l,p.1≠d
 |[],_,p,G=>by cases G
 | (i,v)::r,h,p,G=>by
  unfold JZ at h;rw[J9]at h;by_cases e:i=d
  ·rw[zl e]at h;cases h
  ·rw[zj e]at h;cases G with
   |head=>exact e
   |tail _ G=>exact Lu h p G
def J1(ops:Array Oper)(i:Nat)(l:List (Nat×AD)):Bool:=
 match Ij ops i with
 |none=>true
 |some d=>JZ d l
section
variable {C:Hv} {f:FuncId} {g:Gd} {ops:Array Oper} {tch:List (Nat×Nat)} {fr:Fr} {h h1:AF} {K:Fr->AF->Prop} {N:Nat} {l:List (Nat×AD)} {i r:Nat}
theorem Ji{l:List (Nat×AD)}(hd:J1 ops i l=true)(v:AD):∀p∈l,nth (put fr (Ij ops i) v) p.1=nth fr p.1:=by
 intro p G;unfold J1 at hd;split at hd
 ·rename_i e;rw[e];rfl
 ·rename_i d e;rw[e];exact R8 fr v (λe=>Lu hd p G (zJ e).symm)
variable {Q:CT->Fr->AF->Prop} {c:Code}
def Ny:Code->Nat->Bool
 | .region _ ops draw,n=> !draw&&Nat.beq ops.size n
 |_,_=>false
theorem CF(n:Nat)(V:AT C g (opsOf c) (Hd 0 n) [] fr h (λfr' h'=>Q .normal fr' h'))(B:Ny c n=true:=by kernel_rfl):AW C f g c fr h Q:=by
 cases c with
 |region id ops draw=>
  simp only[Ny,zf,zH]at B;obtain⟨rfl,e⟩:=B;obtain rfl:=zt e;exact jB (id:=id) _ rfl rfl V
 |_=>cases B
theorem AU(V:AW C f g (left c) fr h (Nh (λfr h=>AW C f g (right c) fr h Q) Q))(B:shape c=.seq:=by kernel_rfl):AW C f g c fr h Q:=Xi B V
theorem Has.ls{out:List (Nat×AD)}(H:Has fr N l)(h:∀fr,out.map (λp=>nth (Da N l fr) p.1)=out.map (·.2):=by intro _;kernel_rfl):Has fr N out:=H.less out h
theorem Ac(d:Nat){b:Bool}{α:Type}{x y:Option α}{r:α}(H:Has fr N l)(hm:Ag b x y=some r)(h1:b=true->x=some r->Has fr N (Ss l d (.bool true))->AW C f g (left c) fr h Q)(h2:b=false->y=some r->Has fr N (Ss l d (.bool false))->AW C f g (right c) fr h Q)
  (hd:Sq l d=some (.bool b):=by kernel_rfl) (B:shape c=.cond (.tmp d):=by kernel_rfl):AW C f g c fr h Q:=by
 have e:nth fr d=.bool b:=H.2 _ (QB hd);cases c<;>simp[shape]at B;subst B;rcases BB hm with⟨Y,hm⟩|⟨Y,hm⟩
 ·obtain⟨n,e',fr',h',q1,q2⟩:=(h1 Y hm (H.fb d Y hd)).ex;rw[Y]at e;exact⟨⟨n,e',fr',h',by simp only[Bl,ev,e];exact q1,q2⟩⟩
 ·obtain⟨n,e',fr',h',q1,q2⟩:=(h2 Y hm (H.fb d Y hd)).ex;rw[Y]at e;exact⟨⟨n,e',fr',h',by simp only[Bl,ev,e];exact q1,q2⟩⟩
def Ff(ops:Array Oper)(l:List (Nat×AD)):List Nat->Bool
 |[]=>true
 |i::r=>J1 ops i l&&Ff ops l r
theorem Ig{P:Program}{l:List (Nat×AD)}:∀(is:List Nat) (fr fr1:Fr),Ff ops l is=true->HS P ops is fr=some fr1->∀p∈l,nth fr1 p.1=nth fr p.1
 |[],fr,fr1,_,B,p,G=>by
  simp only[HS,zb]at B;rw[B]
 | i::is,fr,fr1,hd,B,p,G=>by
  simp only[Ff,zf]at hd;simp only[HS]at B;split at B
  ·cases B
  ·rename_i o ho;have e2:Ij ops i=o.dst:=by simp[Ij,ho]
   have hk:=λfr v=>Ji (fr:=fr) hd.1 v p G;rw[e2]at hk;split at B
   ·split at B
    ·rw[Ig is _ _ hd.2 B p G,hk]
    ·cases B
   ·rw[Ig is _ _ hd.2 B p G,hk]
   ·cases B
variable {pl:List (Nat×List Nat)} {U:List Nat}
theorem AL(k:Nat)(nw:List (Nat×AD))(H:Has fr N l)(T:∀fr',Has fr' N (List.append nw l)->AT C g ops (pl.drop k) tch fr' h K)
  (hk:∀fr,(T8 (pl.take k),Ff ops l (Eo (pl.take k)),(HS C.P ops (Eo (pl.take k)) (Da N l fr)).map (λx=>nw.map (λp=>nth x p.1)))=(true,true,some (nw.map (·.2))):=by intro _;kernel_rfl):
  AT C g ops pl tch fr h K:=by
 have D:=hk fr;rw[Fx H]at D;simp only[ze]at D;obtain⟨hu,hd,D⟩:=D;cases R:HS C.P ops (Eo (pl.take k)) fr with
 |none=>rw[R]at D;cases D
 |some fr1=>
  rw[R]at D;simp only[zh,zb]at D;have e:pl=pl.take k++pl.drop k:=(zI k pl).symm;rw[e];refine OA _ _ fr fr1 (OD hu) R (T fr1 ?_);have h1:=Has.of_map ((HM _ _ _ R).trans H.1) D;refine⟨h1.1,λp G=>?_⟩;rcases zu.1 G with G|G
  ·exact h1.2 p G
  ·rw[Ig _ fr fr1 hd R p G];exact H.2 p G
theorem Az(d:Nat)(v:AD)(h1:AF)(H:Has fr N l)(B:∀fr,Steps C g h (Da N l fr) (P7 ops i) v h1)
  (T:∀fr' t,Has fr' N ((d,v)::l)->AT C g ops pl t fr' h1 K)
  (hw:∀fr,(runs ops (Da N l fr) i,Ij ops i,Nat.blt d N,JZ d l)=(true,some d,true,true):=by intro _;kernel_rfl):AT C g ops ((i,[])::pl) tch fr h K:=by
 have M:=hw fr;have J:=B fr;rw[Fx H]at M J;simp only[ze]at M;obtain⟨w1,w2,w3,w4⟩:=M;refine Kl (v:=v) w1 (by rw[JK,ye];exact J) rfl (T _ _ ⟨by simp[H.1],λp G=>?_⟩);rw[w2];show nth (fr.set d v) p.1=p.2;cases G with
 |head=>
  rw[yH]at w3;rw[G4,zl ⟨rfl,by rw[H.1];exact w3⟩]
 |tail _ G=>
  rw[G4,zj (λe=>Lu w4 p G e.1.symm)];exact H.2 p G
theorem Jw(v:AD)(h1:AF)(H:Has fr N l)(B:∀fr,Steps C g h (Da N l fr) (P7 ops i) v h1)
  (T:∀fr' t,Has fr' N l->AT C g ops pl t fr' h1 K)
  (hw:∀fr,(runs ops (Da N l fr) i,J1 ops i l)=(true,true):=by intro _;kernel_rfl):AT C g ops ((i,[])::pl) tch fr h K:=by
 have M:=hw fr;have J:=B fr;rw[Fx H]at M J;simp only[ze]at M;obtain⟨w1,w2⟩:=M;refine Kl (v:=v) w1 (by rw[JK,ye];exact J) rfl (T _ _ ⟨by simp[H.1],λp G=>?_⟩);rw[Ji w2 v p G];exact H.2 p G
theorem BP(d:Nat)(v:AD)(h1:AF)(tch':List (Nat×Nat))(pr:List Nat)(H:Has fr N l)(B:∀fr,Steps C ⟨g.floor,pr⟩ h (Da N l fr) (P7 ops i) v h1)
  (T:∀fr',Has fr' N ((d,v)::l)->AT C g ops pl tch' fr' h1 K)
  (hre:∀fr,RE C ops U (put (Da N l fr) (Ij ops i) v) h1=true:=by intro _;kernel_rfl)
  (hw:∀fr,(runs ops (Da N l fr) i,Ij ops i,Nat.blt d N,JZ d l)=(true,some d,true,true):=by intro _;kernel_rfl)
  (G:Jt tch U++g.BW=pr:=by kernel_rfl) (ht:∀fr,ID C.P h (Da N l fr) i (P7 ops i) tch=tch':=by intro _;kernel_rfl):AT C g ops ((i,U)::pl) tch fr h K:=by
 have M:=hw fr;have J:=B fr;have W:=hre fr;have ht':=ht fr;rw[Fx H]at M J W ht';simp only[ze]at M;obtain⟨w1,w2,w3,w4⟩:=M;have V:Has (put fr (Ij ops i) v) N ((d,v)::l):=by
  refine⟨by simp[H.1],λp hq=>?_⟩;rw[w2];show nth (fr.set d v) p.1=p.2;cases hq with
  |head=>
   rw[yH]at w3;rw[G4,zl ⟨rfl,by rw[H.1];exact w3⟩]
  |tail _ hq=>
   rw[G4,zj (λe=>Lu w4 p hq e.1.symm)];exact H.2 p hq
 exact Kl (v:=v) w1 (by rw[G];exact J) W (by rw[ht'];exact T _ V)
theorem L5(v:AD)(h1:AF)(tch':List (Nat×Nat))(pr:List Nat)(H:Has fr N l)(B:∀fr,Steps C ⟨g.floor,pr⟩ h (Da N l fr) (P7 ops i) v h1)
  (T:∀fr',Has fr' N l->AT C g ops pl tch' fr' h1 K)
  (hre:∀fr,RE C ops U (put (Da N l fr) (Ij ops i) v) h1=true:=by intro _;kernel_rfl)
  (hw:∀fr,(runs ops (Da N l fr) i,J1 ops i l)=(true,true):=by intro _;kernel_rfl)
  (G:Jt tch U++g.BW=pr:=by kernel_rfl) (ht:∀fr,ID C.P h (Da N l fr) i (P7 ops i) tch=tch':=by intro _;kernel_rfl):AT C g ops ((i,U)::pl) tch fr h K:=by
 have M:=hw fr;have J:=B fr;have W:=hre fr;have ht':=ht fr;rw[Fx H]at M J W ht';simp only[ze]at M;obtain⟨w1,w2⟩:=M;have V:Has (put fr (Ij ops i) v) N l:=by
  refine⟨by simp[H.1],λp hq=>?_⟩;rw[Ji w2 v p hq];exact H.2 p hq
 exact Kl (v:=v) w1 (by rw[G];exact J) W (by rw[ht'];exact T _ V)
theorem BU(k:Nat)(out:List (Nat×AD))(H:Has fr N l)(T:∀fr',Has fr' N out->AT C g ops (pl.drop k) tch fr' h K)
  (hk:∀fr,(T8 (pl.take k),(HS C.P ops (Eo (pl.take k)) (Da N l fr)).map (λx=>out.map (λp=>nth x p.1)))=(true,some (out.map (·.2))):=by intro _;kernel_rfl):
  AT C g ops pl tch fr h K:=by
 have hu:=hk fr;simp only[ze]at hu;have e:pl=pl.take k++pl.drop k:=(zI k pl).symm;rw[e];refine iy (pl.take k) out H (OD hu.1) (λfr=>?_) T;have:=hk fr;simp only[ze]at this;exact this.2
def RT(P:Program)(ops:Array Oper)(is:List Nat)(fr:Fr):Fr:=(HS P ops is fr).getD fr
def Ik(pl:List (Nat×List Nat))(k:Nat):Nat:=
 match pl.drop k with
 |(i,_)::_=>i
 |[]=>0
def TL(pl:List (Nat×List Nat))(k:Nat):Bool:=
 match pl.drop k with
 |(_,[])::_=>true
 |_=>false
theorem YJ{pl:List (Nat×List Nat)}{k:Nat}(h:TL pl k=true):pl.drop k=(Ik pl k,[])::pl.drop (k+1):=by
 unfold TL at h;unfold Ik;have e:pl.drop (k+1)=(pl.drop k).drop 1:=by rw[qr]
 split at h
 ·rename_i i r hd;rw[e,hd];rfl
 ·cases h
theorem BQ(k:Nat)(nw:List (Nat×AD))(d:Nat)(v:AD)(h1:AF)(H:Has fr N l)(B:∀fr,Steps C g h (RT C.P ops (Eo (pl.take k)) (Da N l fr)) (P7 ops (Ik pl k)) v h1)
  (T:∀fr' t,Has fr' N ((d,v)::List.append nw l)->AT C g ops (pl.drop (k+1)) t fr' h1 K)
  (hk:∀fr,(TL pl k&&(T8 (pl.take k)&&(Ff ops l (Eo (pl.take k))&&(JZ d l&&(JZ d nw&&Nat.blt d N)))),(HS C.P ops (Eo (pl.take k)) (Da N l fr)).map (λx=>(runs ops x (Ik pl k),Ij ops (Ik pl k),nw.map (λp=>nth x p.1))))=(true,some (true,some d,nw.map (·.2))):=by intro _;kernel_rfl):AT C g ops pl tch fr h K:=by
 have D:=hk fr;have J:=B fr;rw[Fx H]at D J;simp only[ze,zf]at D;obtain⟨⟨a1,a2,a3,a4,a5,a6⟩,D⟩:=D;cases R:HS C.P ops (Eo (pl.take k)) fr with
 |none=>rw[R]at D;cases D
 | some fr1=>
  rw[R]at D;simp only[zh,zb,ze]at D;obtain⟨b1,b2,b3⟩:=D;have hF:RT C.P ops (Eo (pl.take k)) fr=fr1:=by unfold RT;rw[R];rfl
  rw[hF]at J;have Z:fr1.length=N:=(HM _ _ _ R).trans H.1;have hH:=Has.of_map Z b3;have e:pl=pl.take k++pl.drop k:=(zI k pl).symm;rw[e];refine OA _ _ fr fr1 (OD a2) R ?_;rw[YJ a1];refine Kl (v:=v) b1 (by rw[JK,ye];exact J) rfl (T _ _ ⟨by simp[Z],λp G=>?_⟩);rw[b2];show nth (fr1.set d v) p.1=p.2;cases G with
  |head=>
   rw[yH]at a6;rw[G4,zl ⟨rfl,by rw[Z];exact a6⟩]
  | tail _ G=>
   rcases zu.1 G with G|G
   ·rw[G4,zj (λe=>Lu a5 p G e.1.symm)];exact hH.2 p G
   ·rw[G4,zj (λe=>Lu a4 p G e.1.symm),Ig _ fr fr1 a3 R p G];exact H.2 p G
theorem ba(k:Nat)(nw:List (Nat×AD))(v:AD)(h1:AF)(H:Has fr N l)(B:∀fr,Steps C g h (RT C.P ops (Eo (pl.take k)) (Da N l fr)) (P7 ops (Ik pl k)) v h1)
  (T:∀fr' t,Has fr' N (List.append nw l)->AT C g ops (pl.drop (k+1)) t fr' h1 K)
  (hk:∀fr,(TL pl k&&(T8 (pl.take k)&&(Ff ops l (Eo (pl.take k))&&(J1 ops (Ik pl k) l&&J1 ops (Ik pl k) nw))),(HS C.P ops (Eo (pl.take k)) (Da N l fr)).map (λx=>(runs ops x (Ik pl k),nw.map (λp=>nth x p.1))))=(true,some (true,nw.map (·.2))):=by intro _;kernel_rfl):AT C g ops pl tch fr h K:=by
 have D:=hk fr;have J:=B fr;rw[Fx H]at D J;simp only[ze,zf]at D;obtain⟨⟨a1,a2,a3,a4,a5⟩,D⟩:=D;cases R:HS C.P ops (Eo (pl.take k)) fr with
 |none=>rw[R]at D;cases D
 |some fr1=>
  rw[R]at D;simp only[zh,zb,ze]at D;obtain⟨b1,b3⟩:=D;have hF:RT C.P ops (Eo (pl.take k)) fr=fr1:=by unfold RT;rw[R];rfl
  rw[hF]at J;have Z:fr1.length=N:=(HM _ _ _ R).trans H.1;have hH:=Has.of_map Z b3;have e:pl=pl.take k++pl.drop k:=(zI k pl).symm;rw[e];refine OA _ _ fr fr1 (OD a2) R ?_;rw[YJ a1];refine Kl (v:=v) b1 (by rw[JK,ye];exact J) rfl (T _ _ ⟨by simp[Z],λp G=>?_⟩);rcases zu.1 G with G|G
  ·rw[Ji a5 v p G];exact hH.2 p G
  ·rw[Ji a4 v p G,Ig _ fr fr1 a3 R p G];exact H.2 p G
theorem dc(k:Nat)(nw:List (Nat×AD))(H:Has fr N l)(hK:∀fr',AW C f g c fr' h Q->K fr' h)(V:∀fr',Has fr' N (List.append nw l)->AW C f g c fr' h Q)
  (hk:∀fr,(T8 pl,Nat.beq pl.length k,Ff ops l (Eo pl),(HS C.P ops (Eo pl) (Da N l fr)).map (λx=>nw.map (λp=>nth x p.1)))=(true,true,true,some (nw.map (·.2))):=by intro _;kernel_rfl):AT C g ops pl tch fr h K:=by
 have D:=hk fr;simp only[ze]at D;have hl:=zt D.2.1;have ht:pl.take k=pl:=zB om;have hd:pl.drop k=[]:=qb om;refine AL k nw H (λfr' H'=>?_) (λfr=>?_)
 ·rw[hd];exact An (hK _ (V _ H'))
 ·have:=hk fr;simp only[ze]at this;rw[ht];simp only[ze];exact⟨this.1,this.2.2.1,this.2.2.2⟩
theorem kD(k:Nat)(nw:List (Nat×AD))(n:Nat)(H:Has fr N l)(hK:∀fr',AW C f g c fr' h Q->K fr' h)(V:∀fr',Has fr' N (List.append nw l)->AT C g (opsOf c) (Hd 0 n) [] fr' h (λfr' h'=>Q .normal fr' h'))
  (hk:∀fr,(T8 pl,Nat.beq pl.length k,Ff ops l (Eo pl),(HS C.P ops (Eo pl) (Da N l fr)).map (λx=>nw.map (λp=>nth x p.1)))=(true,true,true,some (nw.map (·.2))):=by intro _;kernel_rfl) (R:Ny c n=true:=by kernel_rfl):AT C g ops pl tch fr h K:=dc k nw H hK (λfr' H'=>CF n (V fr' H') R) hk
theorem jc(k:Nat)(nw:List (Nat×AD))(n:Nat)(H:Has fr N l)(hK:∀fr',AW C f g c fr' h Q->K fr' h)(V:∀fr',Has fr' N (List.append nw l)->AT C g (opsOf (left c)) (Hd 0 n) [] fr' h (λfr' h'=>Nh (λfr h=>AW C f g (right c) fr h Q) Q .normal fr' h'))
  (hk:∀fr,(T8 pl,Nat.beq pl.length k,Ff ops l (Eo pl),(HS C.P ops (Eo pl) (Da N l fr)).map (λx=>nw.map (λp=>nth x p.1)))=(true,true,true,some (nw.map (·.2))):=by intro _;kernel_rfl) (B:shape c=.seq:=by kernel_rfl) (R:Ny (left c) n=true:=by kernel_rfl):AT C g ops pl tch fr h K:=dc k nw H hK (λfr' H'=>AU (CF n (V fr' H') R) B) hk
theorem Bp(k:Nat)(I:Fr->AF->Prop)(h1:AT C g ops (pl.take k) tch fr h I)(h2:∀t fr h,I fr h->AT C g ops (pl.drop k) t fr h K):AT C g ops pl tch fr h K:=by
 have e:pl=pl.take k++pl.drop k:=(zI k pl).symm;rw[e];exact iL _ I h1 h2
theorem G7(id n:Nat)(V:AT C g (opsOf c) (Hd 0 n) [] fr h (λfr' h'=>Q .normal fr' h'))(B:shape c=.region id n true:=by kernel_rfl)(G:C.OZ f id=Hd 0 n:=by kernel_rfl):AW C f g c fr h Q:=Yo B _ G V
theorem Io(id n:Nat)(pl:List (Nat×List Nat))(V:AT C g (opsOf c) pl [] fr h (λfr' h'=>Q .normal fr' h'))(B:shape c=.region id n true:=by kernel_rfl)(G:C.OZ f id=pl:=by kernel_rfl):AW C f g c fr h Q:=Yo B _ G V
theorem AE(n:Nat)(V:AT C g (opsOf (left c)) (Hd 0 n) [] fr h (λfr' h'=>Nh (λfr h=>AW C f g (right c) fr h Q) Q .normal fr' h'))(B:shape c=.seq:=by kernel_rfl)(R:Ny (left c) n=true:=by kernel_rfl):AW C f g c fr h Q:=Xi B (CF n V R)
theorem BN(hK:AW C f g c fr h Q->K fr h)(V:AW C f g c fr h Q):AT C g ops [] tch fr h K:=An (hK V)
theorem Dy(n:Nat)(hK:AW C f g c fr h Q->K fr h)(V:AT C g (opsOf c) (Hd 0 n) [] fr h (λfr' h'=>Q .normal fr' h'))(R:Ny c n=true:=by kernel_rfl):AT C g ops [] tch fr h K:=An (hK (CF n V R))
theorem CI(n:Nat)(hK:AW C f g c fr h Q->K fr h)(V:AT C g (opsOf (left c)) (Hd 0 n) [] fr h (λfr' h'=>Nh (λfr h=>AW C f g (right c) fr h Q) Q .normal fr' h'))(B:shape c=.seq:=by kernel_rfl)(R:Ny (left c) n=true:=by kernel_rfl):AT C g ops [] tch fr h K:=An (hK (AE n V B R))
theorem AY(hq:Q .ret fr h)(B:shape c=.ret:=by kernel_rfl):AW C f g c fr h Q:=hM B hq
theorem C2(hq:Q .normal fr h)(B:shape c=.skip:=by kernel_rfl):AW C f g c fr h Q:=Rc B hq
end
theorem Ar{α:Type}{a x:α}(h:some a=some x):a=x:=zJ h
theorem Bn{α β:Type}{a x:α}{b y:β}(h:some (a,b)=some (x,y)):a=x/\b=y:=Prod.mk.inj (zJ h)
theorem Ky{α β γ:Type}{a x:α}{b y:β}{c z:γ}(h:some (a,b,c)=some (x,y,z)):a=x/\b=y/\c=z:=by
 obtain⟨h1,h2⟩:=Bn h;exact⟨h1,Prod.mk.inj h2⟩
theorem fk{α β γ δ:Type}{a x:α}{b y:β}{c z:γ}{d w:δ}(h:some (a,b,c,d)=some (x,y,z,w)):a=x/\b=y/\c=z/\d=w:=by
 obtain⟨h1,h2⟩:=Bn h;exact⟨h1,Ky (congrArg some h2)⟩
theorem PS{α β γ δ ε:Type}{a x:α}{b y:β}{c z:γ}{d w:δ}{e v:ε}(h:some (a,b,c,d,e)=some (x,y,z,w,v)):a=x/\b=y/\c=z/\d=w/\e=v:=by
 obtain⟨h1,h2⟩:=Bn h;exact⟨h1,fk (congrArg some h2)⟩
end Go.Av
end
