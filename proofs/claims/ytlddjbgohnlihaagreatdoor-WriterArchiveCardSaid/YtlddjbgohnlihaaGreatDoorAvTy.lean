/-
 A part.
-/
import Derived.Test.YtlddjbgohnlihaaGreatDoorAvHH
set_option linter.unusedSimpArgs false
namespace Go.Av
set_option linter.unusedVariables false
structure NB{α:Type}(e:α→List AB)(z:Nat):Prop where
 len:∀x,(e x).length=z
 one:∀x,(e x).all AB.one=true
 can:∀x,(e x).map FM=e x
abbrev Af{α:Type}(e:α→List AB)(xs:List α):List AB:=xs.flatMap e
abbrev vs{α:Type}(e:α→List AB)(xs:List α):AB:=.HU xs.length (Af e xs)
def eI(k:IntKind)(x:Int):List AB:=[.int k x]
def eS(x:List UInt8):List AB:=[.str x]
def eY(x:UInt8):List AB:=[.int .u8 x.toNat]
def eL{α:Type}(e:α→List AB)(xs:List α):List AB:=[vs e xs]
theorem encI(k:IntKind):NB (eI k) 1:=⟨fun _=>rfl,fun _=>rfl,fun _=>rfl⟩
theorem encS:NB eS 1:=⟨fun _=>rfl,fun _=>rfl,fun _=>rfl⟩
theorem KH:NB eY 1:=⟨fun _=>rfl,fun _=>rfl,fun _=>rfl⟩
section
variable {α:Type} {e:α→List AB} {z:Nat}
theorem NB.Mw(E:NB e z):∀xs:List α,(Af e xs).length=xs.length*z
 |[]=>by simp
 |x::xs=>by simp only[Af,yN,ze,E.len,zt];rw[show(List.flatMap e xs).length=xs.length*z from E.Mw xs,yC];omega
theorem NB.cT(E:NB e z)(xs:List α):(Af e xs).all AB.one=true:=by
 rw[zn];intro v J;obtain⟨x,_,G⟩:=qg.1 J;exact zn.1 (E.one x) v G
theorem NB.BA(E:NB e z):∀xs:List α,(Af e xs).map FM=Af e xs
 |[]=>rfl
 |x::xs=>by simp only[Af,yN,yn,E.can];rw[show(List.flatMap e xs).map FM=_ from E.BA xs]
theorem NB.take(E:NB e z):∀(xs:List α) (n:Nat),(Af e xs).take (n*z)=Af e (xs.take n)
 |[],n=>by simp
 |x::xs,0=>by simp
 |x::xs,n+1=>by
  simp only[Af,yN,qc];rw[yC,qC,qT,←E.len x,qk,E.len x];congr 1;exact E.take xs n
theorem NB.drop(E:NB e z):∀(xs:List α) (n:Nat),(Af e xs).drop (n*z)=Af e (xs.drop n)
 |[],n=>by simp
 |x::xs,0=>by simp
 |x::xs,n+1=>by
  simp only[Af,yN,yZ];rw[yC,qC,qT,←E.len x,yi,E.len x];exact E.drop xs n
theorem NB.at_(E:NB e z){xs:List α}{i:Nat}{x:α}(h:xs[i]?=some x):((Af e xs).drop (i*z)).take z=e x:=by
 obtain⟨hi,G⟩:=List.getElem?_eq_some_iff.1 h;rw[E.drop,zP hi,G];simp only[Af,yN];rw[←E.len x,yW]
end
def G8{α:Type}(xs:List α)(i:Int):Option α:=if 0≤i then xs[i.toNat]? else none
section
variable (P:Program) (fr:Fr)
def ak:Op→Option (Nat×List AB×Nat×Int)
 | .indexAddr t x i=>
  match P.underlying t,ev fr x,ev fr i with
  |some (.slice e),.HU n cs,.int _ i=>(CP P e).map fun z=>(n,cs,z,i)
  |_,_,_=>none
 |_=>none
def c9:Op→Option AB
 | .load t a=>
  match ev fr a with
  | .A0 cs=>Ha P (some (.cells none 1 cs)) t 0
  |_=>none
 |_=>none
end
section
variable {C:Gp} {S:Self} {g:Gd} {h h1:AI} {fr:Fr} {op:Op} {α:Type} {e:α→List AB} {z:Nat}
theorem KC{xs:List α}{i:Int}{x:α}(E:NB e z)(Q:z≠0)(D:ak C.P fr op=some (xs.length,Af e xs,z,i))(K:G8 xs i=some x):BC C S g h fr op=some (.A0 (e x),h):=by
 unfold ak at D;split at D
 ·rename_i t y j;split at D
  ·rename_i el n cs k i' hu J hi;simp only[zl,zg]at D;obtain⟨z',hz',rfl,rfl,rfl,rfl⟩:=D;unfold G8 at K;split at K
   ·rename_i U;have hlt:=(List.getElem?_eq_some_iff.1 K).1;rw[IV (by simp[A4])];simp only[IJ,A4,It,J,hi,I1,hu];rw[zm ⟨U,by omega⟩,hz',za,zm ⟨E.Mw xs,Q⟩,E.at_ K];rfl
   ·cases K
  ·cases D
 ·cases D
theorem OC{v:AB}(D:c9 C.P fr op=some v):BC C S g h fr op=some (v,h):=by
 unfold c9 at D;split at D
 ·split at D
  ·rename_i cs J;rw[IV (by simp[A4])];simp only[IJ,A4,Dg,J,E4,Kx,D,zj]
  ·cases D
 ·cases D
theorem PN:∀l:List UInt8,bytesOf (Af eY l)=some l
 |[]=>rfl
 |b::l=>by
  simp only[Af,yN,eY,qx,bytesOf];rw[show bytesOf (List.flatMap eY l)=some l from PN l];simp
end
section
variable {g:Gd} {h:AI} {L F:List Ck} {α:Type} {e:α→List AB} {z:Nat}
theorem HH.to{h':AI}(a:HH g h L F)(e:h'=h):HH g h' L F:=e ▸ a
theorem XA(E:NB e z)(h:AI)(xs:List α):EI h z xs.length (vs e xs)=some (Af e xs):=by
 unfold EI vs;simp only;rw[zm ⟨zC _,E.Mw xs⟩,zI (by rw[E.Mw xs];exact zC _)]
theorem VA(h:AI)(s:List UInt8):EI h 1 s.length (.str s)=some (Af eY s):=by
 unfold EI;simp only[if_true,z8];congr 1
 induction s with
 |nil=>rfl
 |cons b s ih=>simp[Af,eY];simpa[Af,eY]using ih
def MY(bytes n:Nat):Bool:=decide (n≤1099511627776∧n*bytes≤1099511627776)
theorem HH.Il(E:NB e z)(Q:z≠0)(a:HH g h L F)(k:Nat){r:Option Nat}{t:TypeId}{xs ys:List α}{new:List AB}{bytes m:Nat}{x:AB}(hk:L[k]?=some (.Af r t (Af e xs)))(G:EI h z m x=some new)(hc:new.map FM=Af e ys)(hm:m=ys.length)(I:MY bytes (xs.length+m)=true):
  ∃r' h',Av.app t z bytes g h (Cr r xs.length) m x=some (Cr r' (xs++ys).length,h')∧HH g h' (L.set k (.Af r' t (Af e (xs++ys)))) F:=by
 subst hm;obtain⟨r',h',h1,h2⟩:=a.app k hk (E.Mw xs) Q G hc (E.Mw ys) (of_decide_eq_true I) (E.cT xs) (E.cT ys);refine⟨r',h',by rw[h1,ze],?_⟩;have:Af e (xs++ys)=Af e xs++Af e ys:=by simp[Af]
 rw[this];exact h2
theorem HH.QT(E:NB e z)(Q:z≠0)(a:HH g h L F)(k:Nat){r:Option Nat}{t:TypeId}{xs:List α}(hk:L[k]?=some (.Af r t (Af e xs))){i:Int}{x:α}(hi:G8 xs i=some x):
  ∃id,r=some id∧h.get id=some (.cells (some t) 2 (Af e xs))∧de (Cr r xs.length) z i=some (id,i.toNat*z)∧xs[i.toNat]?=some x:=by
 unfold G8 at hi;split at hi
 ·rename_i U;have hlt:=(List.getElem?_eq_some_iff.1 hi).1;cases r with
  |none=>
   have hn:Af e xs=[]:=a.mem hk;exfalso;have h1:=E.Mw xs;rw[hn]at h1;have h2:xs.length*z=0:=by simpa using h1.symm
   rcases qV.1 h2 with h|h
   ·omega
   ·exact Q h
  |some id=>
   refine⟨id,rfl,a.mem hk,?_,hi⟩;simp only[Cr,zj,de];rw[eH,zm ⟨U,by omega⟩];simp
 ·cases hi
theorem HH.row(a:HH g h L F)(k:Nat){r:Option Nat}{t:TypeId}{cs:List AB}(hk:L[k]?=some (.Af r t cs)){id:Nat}(er:r=some id):h.get id=some (.cells (some t) 2 cs):=by
 subst er;exact a.mem hk
theorem Ic(E:NB e z){id:Nat}{gr:Option TypeId}{xs:List α}(M:h.get id=some (.cells gr 2 (Af e xs))){i:Nat}{x:α}(G:xs[i]?=some x)(o n:Nat)(hon:o+n≤z):DY h (id,i*z+o) n=some (((e x).drop o).take n):=by
 have hi:=(List.getElem?_eq_some_iff.1 G).1;have hle:(i+1)*z≤xs.length*z:=qn _ (by omega);rw[yC,qC]at hle;unfold Av.DY Cf;simp only[M];rw[zm ⟨by simp,by rw[E.Mw xs];omega⟩,←E.at_ G,←qm];congr 1;generalize (Af e xs).drop (i*z)=l;rw[List.drop_take,qY,qs (by omega)]
theorem HL(E:NB e z){id:Nat}{gr:Option TypeId}{xs:List α}(M:h.get id=some (.cells gr 2 (Af e xs))){i:Nat}{x:α}(G:xs[i]?=some x){o:Nat}{v:AB}(J:(e x)[o]?=some v):ld1 h (id,i*z+o)=some v:=by
 have ho:=(List.getElem?_eq_some_iff.1 J).1;have h1:=Ic E M G o 1 (by rw[E.len]at ho;omega);unfold Av.DY at h1;unfold Av.ld1;rw[h1,zP ho,(List.getElem?_eq_some_iff.1 J).2];rfl
theorem Uo{A m B new:List AB}{o:Nat}(h:o+new.length≤m.length):Ev (A++(m++B)) (A.length+o) new=A++(Ev m o new++B):=by
 unfold Ev;have e1:(A++(m++B)).take (A.length+o)=A++m.take o:=by
  rw[qk,xp (by omega)]
 have e2:(A++(m++B)).drop (A.length+o+new.length)=m.drop (o+new.length)++B:=by
  rw[yI,yi,xq (by omega)]
 rw[e1,e2];simp[zw]
theorem HH.eG(E:NB e z)(a:HH g h L F)(k:Nat){r:Option Nat}{t:TypeId}{xs:List α}(hk:L[k]?=some (.Af r t (Af e xs))){id:Nat}(er:r=some id){i:Nat}{x y:α}(G:xs[i]?=some x){o:Nat}{new:List AB}(D:Ev (e x) o (new.map FM)=e y)(h1:new.all AB.one=true)(K:o+new.length≤z:=by decide):
  ∃h',Av.st g h (id,i*z+o) new=some h'∧HH g h' (L.set k (.Af r t (Af e (xs.set i y)))) F:=by
 have M:=a.row k hk er;have hi:=(List.getElem?_eq_some_iff.1 G).1;have hid:=h.BN M;have hle:(i+1)*z≤xs.length*z:=qn _ (by omega);rw[yC,qC]at hle;have hm:g.may id=true:=a.Mv hk (by rw[er];simp[Ck.ids]);refine⟨h.set id (.cells (some t) 2 (Af e (xs.set i y))),?_,?_⟩
 ·unfold Av.st Cg;simp only[M];rw[zm ⟨hm,by rw[E.Mw xs];omega,h1⟩];congr 2;have hsplit:Af e xs=Af e (xs.take i)++(e x++Af e (xs.drop (i+1))):=by
   conv=>lhs;rw[←zM i xs,zP hi,(List.getElem?_eq_some_iff.1 G).2]
   simp[Af]
  have hlen:(Af e (xs.take i)).length=i*z:=by rw[E.Mw,zA,qs (by omega)]
  have hset:Af e (xs.set i y)=Af e (xs.take i)++(e y++Af e (xs.drop (i+1))):=by
   rw[yH,zm hi];simp[Af]
  show B0.cells (some t) 2 (Ev _ _ (new.map FM))=_;rw[hsplit,hset,←hlen,Uo (by rw[E.len,yy];exact K),D]
 ·subst er;refine a.Rg hk (by simp) (fun j _ W=>h.BX _ hid (by simpa[Ck.ids]using W)) (h.get_set_same _ hid) (fun j W=>.inl W) (fun j W=>a.Mv hk W)
theorem Pm{h1:AI}{a:Nat×Nat}{cs:List AB}{n:Nat}(D:st g h a cs=some h1)(K:cs.length=n):dj n g h a cs=some h1:=by unfold dj;rw[zm K];exact D
def Z2(c:Int):Option UInt8:=if 0≤c∧c≤255 then some (UInt8.ofNat c.toNat)else none
theorem XK{c:Int}{y:UInt8}(h:Z2 c=some y):c=(y.toNat:Int):=by
 unfold Z2 at h;split at h
 ·rename_i hc;injection h with h;subst h;have:(UInt8.ofNat c.toNat).toNat=c.toNat%256:=UInt8.toNat_ofNat';rw[this];omega
 ·cases h
theorem TS{C:Gp}{S:Self}{fr:Fr}{op:Op}{xs:List UInt8}(a:HH g h L F)(k:Nat){r:Option Nat}{t:TypeId}(hk:L[k]?=some (.Af r t (Af eY xs)))(D:Yd C.P fr op=some ((Cr r xs.length).r,xs.length)):BC C S g h fr op=some (.str xs,h):=by
 refine dI (s:=Cr r xs.length) D ?_;have V:=a.mem hk;unfold eA Cr;cases r with
 |none=>
  have:Af eY xs=[]:=V;have h1:=KH.Mw xs;rw[this]at h1;have:xs=[]:=zy (by simpa using h1.symm);subst this;rfl
 | some id=>
  have M:h.get id=some (.cells (some t) 2 (Af eY xs)):=V;simp only[zj];by_cases U:xs.length=0
  ·have:xs=[]:=zy U;subst this;rw[zm U,M];rfl
  ·rw[zk U];unfold Cf;simp only[M];have h1:=KH.Mw xs;rw[zm ⟨by simp,by rw[h1];omega⟩,yl,zI (by rw[h1];omega)];exact PN xs
def aX(bytes:Nat)(n:Int):Bool:=decide (0≤n∧n≤1099511627776∧bytes*n≤1099511627776)
theorem OU{x:α}:∀n,Fa (e x) n=Af e (List.replicate n x)
 |0=>rfl
 |n+1=>by rw[qr,Af,yN,Fa,OU n]
theorem Y3{C:Gp}{S:Self}{fr:Fr}{op:Op}{h1:AI}{t:TypeId}{bytes:Nat}{n:Int}{x:α}(E:NB e z)(D:Z4 C.P fr op=some (t,bytes,e x,n,n))(I:aX bytes n=true)(T:some (h.push (.cells (some t) 2 (Af e (List.replicate n.toNat x))))=some h1):
  BC C S g h fr op=some (AP (some h.size) (List.replicate n.toNat x).length,h1):=by
 have I:=of_decide_eq_true I;have:=dN (S:=S) (g:=g) D (cs:=Af e (List.replicate n.toNat x)) (by unfold da;rw[zm ⟨I.1,Int.le_refl _,I.2.1,I.2.2⟩,OU]) T;rw[this,zT];rfl
end
section
variable {g:Gd} {h h':AI} {L F:List Ck}
theorem HH.Th(a:HH g h L F)(n:Nat):HH g h (L.take n) F:=by
 have D:(DU (L.take n++F)).Sublist (DU (L++F)):=by
  rw[Cq,Cq];refine List.Sublist.append ?_ (List.Sublist.refl _)
  conv=>rhs;rw[←zM n L,Cq]
  exact List.sublist_append_left _ _
 exact⟨fun c hc=>a.ok c (by rcases zB.1 hc with h|h;exact zB.2 (.inl (yE h));exact zB.2 (.inr h)),a.nd.sublist D,
  fun i hi=>a.may i (by rw[←zM n L,Cq];exact zB.2 (.inl hi)),a.CF,a.floor⟩
inductive WN(R:List Ck):List Nat→Prop where
 |nil:WN R []
 |cons {p:Nat} {ps:List Nat} {c:Ck} (k:Nat):R[k]?=some c→p∈c.ids→WN R ps→WN R (p::ps)
theorem WN.mem{R:List Ck}{ps:List Nat}(h:WN R ps):∀p∈ps,p∈DU R:=by
 induction h with
 |nil=>intro p O;cases O
 |cons k hk hm _ ih=>
  intro p O;rcases zF.1 O with rfl|O
  ·simp only[DU,qg];exact⟨_,zQ hk,hm⟩
  ·exact ih p O
theorem HH.MU(a:HH g h L F)(n:Nat){pr:List Nat}(O:WN (L.drop n) pr):HH ⟨g.floor,pr++g.CF⟩ h (L.take n) (L.drop n++F):=by
 refine(a.cut n).dF (fun i hi hn=>?_) (fun i hi=>?_)
 ·have h1:=O.mem i hn;have h2:=a.nd;rw[←zM n L,Cq,Cq,zw,yh]at h2;exact h2.2.2 i hi i (zB.2 (.inl h1)) rfl
 ·refine a.lt (i:=i) ?_;rw[←zM n L,Cq,Cq];exact zB.2 (.inl (zB.2 (.inr (O.mem i hi))))
theorem HH.WJ{pr:List Nat}{n:Nat}{L':List Ck}(a:HH g h L F)(b:HH ⟨g.floor,pr++g.CF⟩ h' L' (L.drop n++F)):HH g h' (L'++L.drop n) F:=
 a.glue b (fun i hm=>by
  simp only[Gd.may,zh,zK,xu,zH]at hm⊢
  exact⟨hm.1,hm.2.2⟩) (fun i hi=>zB.2 (.inr hi)) rfl
end
section
variable {C:Gp} {g:Gd} {h:AI} {f:FuncId}
theorem UL{args:List AB}{n:Nat}{rs:List ResultVar}{R:AB→AI→Prop}(X:Ih C.P f=some (n,rs))
  (T:AW C f g (GX C.P f) (args++List.replicate (n - args.length) (.tuple [])) h (fun e fr h'=>(e=.ret∨e=.normal)∧∃v,Ml C.P rs fr h'=some v∧R v h')):∃v h',QG C g h f args v h'∧R v h':=by
 obtain⟨m,e,fr',h2,G,⟨hq,v,J,Y⟩⟩:=T.ex;exact⟨v,h2,ZU X ⟨⟨m,e,fr',h2,G,⟨hq,J,rfl⟩⟩⟩,Y⟩
theorem bI{args args':List AB}{n:Nat}{rs:List ResultVar}{R:AB→AI→Prop}(hk:C.kind f=1)(hc:BA (C.still f) args=args')(X:Ih C.P f=some (n,rs))
  (T:AW C f g (GX C.P f) (args'++List.replicate (n - args'.length) (.tuple [])) h (fun e fr h'=>(e=.ret∨e=.normal)∧∃v,Ml C.P rs fr h'=some v∧R v h')):∃v h',BI C g h f args v h'∧R v h':=by
 obtain⟨v,h',I,Y⟩:=UL X T;exact⟨v,h',dR hk hc I,Y⟩
theorem bd{args args':List AB}{n:Nat}{rs:List ResultVar}{R:AB→AI→Prop}(hk:C.kind f=7)(hc:BA (C.still f) args=args')(X:Ih C.P f=some (n,rs))
  (T:AW C f g (GX C.P f) (args'++List.replicate (n - args'.length) (.tuple [])) h (fun e fr h'=>(e=.ret∨e=.normal)∧∃v,Ml C.P rs fr h'=some v∧∃v' h'',Ov g h' v=some (v',h'')∧R v' h'')):∃v h',BI C g h f args v h'∧R v h':=by
 obtain⟨v,h',I,v',h'',Q,Y⟩:=UL X T;exact⟨v',h'',dC hk hc I Q,Y⟩
theorem dw{P:Program}{fr:Fr}{N:Nat}{l:List (Nat×AB)}{rs:List ResultVar}{v:AB}(H:Has fr N l)(Z:∀fr,Ml P rs (C1 N l fr) h=some v):Ml P rs fr h=some v:=by
 have:=Z fr;rwa [Eu H]at this
theorem eE{fr:Fr}{N:Nat}{l:List (Nat×AB)}{t:Nat}{v:AB}(H:Has fr N l)(Z:∀fr,nth (C1 N l fr) t=v):nth fr t=v:=by
 have:=Z fr;rwa [Eu H]at this
end
section
variable {g:Gd} {h:AI}
theorem Yo(vs:List AB):Ov g h (.tuple vs)=(Nt (OM g) vs h).map fun r=>(.tuple r.1,r.2):=rfl
theorem Yq(cs:List AB):Ov g h (.agg cs)=(Nt (Ig g) cs h).map fun r=>(.agg r.1,r.2):=rfl
theorem YR(r:Option Nat)(n:Nat):Ov g h (AP r n)=Ig g h (AP r n):=rfl
theorem Y4(n:Nat)(cs:List AB):Ov g h (.HU n cs)=some (.HU n cs,h):=rfl
theorem Yi(cs:List AB):OM g h (.agg cs)=(Nt (Ig g) cs h).map fun r=>(.agg r.1,r.2):=rfl
theorem Xb(r:Option Nat)(n:Nat):OM g h (AP r n)=Ig g h (AP r n):=rfl
theorem Ym(n:Nat)(cs:List AB):OM g h (.HU n cs)=some (.HU n cs,h):=rfl
theorem Xv(k:IntKind)(n:Int):OM g h (.int k n)=some (.int k n,h):=rfl
theorem Yv(b:Bool):OM g h (.bool b)=some (.bool b,h):=rfl
theorem XJ(s:List UInt8):OM g h (.str s)=some (.str s,h):=rfl
theorem XN:OM g h (.slice none 0)=some (.HU 0 [],h):=rfl
theorem XZ(f:AI→AB→Option (AB×AI)):Nt f [] h=some ([],h):=rfl
theorem Ye(f:AI→AB→Option (AB×AI))(v:AB)(vs:List AB):Nt f (v::vs) h=(match f h v with|some (v',h1)=>(Nt f vs h1).map fun r=>(v'::r.1,r.2)|none=>none):=rfl
theorem Xq(k:IntKind)(n:Int):Ig g h (.int k n)=some (.int k n,h):=rfl
theorem Y0(b:Bool):Ig g h (.bool b)=some (.bool b,h):=rfl
theorem Xj(s:List UInt8):Ig g h (.str s)=some (.str s,h):=rfl
theorem Ys(n:Nat)(cs:List AB):Ig g h (.HU n cs)=some (.HU n cs,h):=rfl
theorem YP:Ig g h (.slice none 0)=some (.HU 0 [],h):=rfl
end
structure Wk(w v:AB):Prop where
 c:FM w=v
 z:∀g h,Ig g h w=some (v,h)
theorem cp{n:Nat}{cs:List AB}:Wk (.HU n cs) (.HU n cs):=⟨rfl,fun _ _=>rfl⟩
theorem dc:Wk (.slice none 0) (.HU 0 []):=⟨rfl,fun _ _=>rfl⟩
theorem ez{r:Option Nat}:Wk (AP r 0) (.HU 0 []):=by cases r<;>exact⟨rfl,fun _ _=>rfl⟩
theorem Wk.c2{w:AB}{n:Nat}{cs:List AB}(a:Wk w (.HU n cs)):R5 w=.HU n cs:=by
 have:=a.c;cases w<;>first|exact this|(cases this)
def aU:List (Nat×List Bool)→Nat→List Bool
 |[],_=>[]
 |(a,b)::l,f=>bif Nat.beq a f then b else aU l f
end Go.Av
