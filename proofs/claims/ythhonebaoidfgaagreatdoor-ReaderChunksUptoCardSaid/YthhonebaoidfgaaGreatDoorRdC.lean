/-
 A part.
-/
import Derived.Test.YthhonebaoidfgaaGreatDoorRdB
set_option linter.unusedSimpArgs false
namespace Go.Av.L
open Go.Av Go.Lib
set_option linter.unusedVariables false
set_option linter.unusedSimpArgs false
structure Inv(c:Bb)(B:Ba->List AB->Prop)(r:Rd):Prop where
 JP:r.DI=c
 fd:r.Al=SP
 st:r.Af=0\/r.Af=1\/r.Af=2\/r.Af=3\/r.Af=4
 left:0<=r.Ao/\r.Ao<=1099511627776
 hd:r.Af=1\/r.Af=2->0<=r.Bg.B9/\r.Bg.B9<=1099511627776
 VA:r.Af=0->r.A9.length<512
 Wp:r.Af=2->(r.A9.length:Int)+r.Ao=r.Bg.B9/\r.Bg.B9<=65536/\(if((r.Bg.Kind==76)||(r.Bg.Kind==75))=true then r.Bg.B9<=c.Name+1 else r.Bg.B9<=c.Head)
 Ta:r.Af≠0->r.Af≠2->r.A9=[]
 ok:r.Af≠4->r.Dl=0
 b:B r.BV r.B6
structure GI(r:Rd)(x:Td)(gl:Int):Prop where
 dy:x.Cn=decide (r.Af=1)
 left:r.Af=1->gl=r.Ao
 fin:x.E8=(decide (r.Af=4)&&decide (r.Dl=0))
 xs:∀m∈x.Partial::x.L,m.Extra.length<=100000
def SH(s:Td×Int)(e:Ev):Option (Td×Int):=
 if s.1.E8=true then none
 else if e.Kind=1 then if s.1.Cn=true\/e.Cb.Data≠[]\/e.B9<0\/e.B9>1099511627776\/e.Bytes≠[]then none else some (Tm s.1 e,e.B9)
 else if e.Kind=2 then if s.1.Cn=false\/e.Bytes=[]\/(e.Bytes.length:Int)>s.2 then none else some (Tm s.1 e,s.2 - e.Bytes.length)
 else if e.Kind=3 then if s.1.Cn=false\/s.2≠0 then none else some (Tm s.1 e,s.2)
 else if e.Kind=4 then if s.1.Cn=true then none else some (Tm s.1 e,s.2)
 else none
def MR:Td×Int->List Ev->Option (Td×Int)
 |s,[]=>some s
 |s,e::l=>(SH s e).bind λs=>MR s l
theorem NZ:∀(a b:List Ev) (s:Td×Int),MR s (a++b)=(MR s a).bind λs=>MR s b
 |[],b,s=>rfl
 |e::a,b,s=>by
  show(SH s e).bind _=((SH s e).bind _).bind _;cases SH s e with
  |none=>rfl
  |some t=>exact NZ a b t
def ik(t:Rd)(l:List Ev):Prop:=
 (l=[]/\t.Af≠1/\(t.Af=4->t.Dl≠0))\/(∃m,l=[N9 m t.Ao]/\m.Data=[]/\m.Extra.length<=100000/\t.Af=1)\/(l=[US]/\t.Af=4/\t.Dl=0)
def Rs(c:Bb)(B:Ba->List AB->Prop):Prop:=
 ∀r s,Inv c B r->r.Af=0->r.A9=[]->s.length=512->∃t l,Z3 r s t l/\ik t l/\Inv c B t
def O8(c:Bb)(B:Ba->List AB->Prop):Prop:=
 ∀r,Inv c B r->r.Af=2->r.Ao=0->∃t,UZ r t/\t.Bg=r.Bg/\((t.Af=4/\t.Dl≠0/\Inv c B t)\/(t.Af=2/\t.A9=[]/\t.Dl=0/\t.DI=c/\B t.BV t.B6))
theorem ik.ok{r t:Rd}{l:List Ev}{x:Td}{gl:Int}(g:GI r x gl)(h0:r.Af=0)(Z:0<=t.Ao/\t.Ao<=1099511627776)(h:ik t l):∃gl',GI t (KK x l) gl'/\MR (x,gl) l=some (KK x l,gl')/\l.length<=1:=by
 have J:x.Cn=false:=by rw[g.dy,h0];rfl
 have he:x.E8=false:=by rw[g.fin,h0];rfl
 rcases h with⟨rfl,h1,h2⟩|⟨m,rfl,h1,hx,h2⟩|⟨rfl,h1,h2⟩
 ·refine⟨gl,⟨?_,λh=>absurd h h1,?_,g.xs⟩,rfl,by simp⟩
  ·show x.Cn=_;rw[J,zm h1]
  ·show x.E8=_;rw[he];by_cases R:t.Af=4
   ·rw[zm (h2 R),xB]
   ·rw[zm R,qu]
 ·refine⟨t.Ao,⟨?_,λ_=>rfl,?_,λa ha=>?_⟩,?_,by simp⟩
  ·show true=_;rw[zg h2]
  ·show x.E8=_;rw[he,h2];rfl
  ·rcases zF.1 ha with rfl|ha
   ·exact hx
   ·exact g.xs a (yj _ ha)
  ·show(SH (x,gl) _).bind _=_;have:SH (x,gl) (N9 m t.Ao)=some (Tm x (N9 m t.Ao),t.Ao):=by
    unfold SH;rw[zj (by simp[he]),zl (show(N9 m t.Ao).Kind=1 from rfl),zj (by simp[J,N9,h1];omega)];rfl
   rw[this];rfl
 ·refine⟨gl,⟨?_,λh=>absurd (h.symm.trans h1) (by decide),?_,g.xs⟩,?_,by simp⟩
  ·show x.Cn=_;rw[J,h1];rfl
  ·show true=_;rw[h1,h2];rfl
  ·show(SH (x,gl) US).bind _=_;have:SH (x,gl) US=some (Tm x US,gl):=by
    unfold SH;rw[zj (by simp[he]),zj (by decide),zj (by decide),zj (by decide),zl (show US.Kind=4 from rfl),zj (by simp[J])]
   rw[this];rfl
theorem Vt{x:Td}{gl:Int}{b:List UInt8}(he:x.E8=false)(J:x.Cn=true)(h0:b≠[])(P:(b.length:Int)<=gl):MR (x,gl) [Jn b]=some (IC x b,gl - b.length):=by
 show(SH (x,gl) (Jn b)).bind _=_;have:SH (x,gl) (Jn b)=some (IC x b,gl - b.length):=by
  unfold SH;rw[zj (by simp[he]),zj (show ¬(Jn b).Kind=1 from by show ¬(2:Int)=1;decide),zl (show(Jn b).Kind=2 from rfl),zj (by simp[J,Jn,h0];omega)];rfl
 rw[this];rfl
theorem Wv{x:Td}(he:x.E8=false)(J:x.Cn=true):MR (x,0) [QF]=some (R5 x,0):=by
 show(SH (x,0) QF).bind _=_;have:SH (x,0) QF=some (R5 x,0):=by
  unfold SH;rw[zj (by simp[he]),zj (by decide),zj (by decide),zl (show QF.Kind=3 from rfl),zj (by simp[J])];rfl
 rw[this];rfl
theorem al{x:Td}{b:List UInt8}(h:∀m∈x.Partial::x.L,m.Extra.length<=100000):∀m∈(IC x b).Partial::(IC x b).L,m.Extra.length<=100000:=by
 intro m hm;rcases zF.1 hm with rfl|hm
 ·exact h x.Partial (by simp)
 ·exact h m (yj _ hm)
theorem bL{x:Td}{b:List UInt8}(h:∀m∈x.Partial::x.L,m.Extra.length<=100000):∀m∈(R5 (IC x b)).Partial::(R5 (IC x b)).L,m.Extra.length<=100000:=by
 intro m hm;rcases zF.1 hm with rfl|hm
 ·exact yf _
 ·rcases zu.1 hm with hm|hm
  ·exact h m (yj _ hm)
  ·rw[zU.1 hm];exact h x.Partial (by simp)
def Iu(r:Rd):Nat:=if r.Af=4 then 0 else if r.Af=0 then 1 else if r.Af=3 then 2 else 3
def bT(r:Rd):Nat:=if r.Af=1 then 2 else 0
section
variable {c:Bb} {B:Ba->List AB->Prop}
theorem Inv.Kw{r:Rd}(h:r.DI=c)(hf:r.Al=SP)(X:0<=r.Bg.B9)(hg:r.A9=[])(ho:r.Dl=0)(b:B r.BV r.B6):Inv c B (Kw r) where
 JP:=h
 fd:=hf
 st:=.inr (.inr (.inr (.inl rfl)))
 left:=by have:=eH X;show 0<=TZ _/\TZ _<=_;omega
 hd:=λh=>by rcases h with h|h<;>exact absurd (show(3:Int)=_ from h) (by decide)
 VA:=λh=>absurd (show(3:Int)=_ from h) (by decide)
 Wp:=λh=>absurd (show(3:Int)=_ from h) (by decide)
 Ta:=λ_ _=>hg
 ok:=λ_=>ho
 b:=b
structure gI(c:Bb)(B:Ba->List AB->Prop)(r:Rd)(x:Td)(gl:Int)(p:List Ev)(w:List UInt8)(F':Fd)(r':Rd)(KH:List Ev):Prop where
 fd:Y4 F'
 emp:r'.Af≠4->F'.cs.flatten=[]
 run:I3 RN (r,x) w (r',KK x KH)
 inv:Inv c B r'
 gi:∃gl',GI r' (KK x KH) gl'/\MR (x,gl) KH=some (KK x KH,gl')
 len:KH.length<=3*w.length+bT r
theorem Zo(HB : Rs c B)(HK : O8 c B) : ∀ (k : Nat) (r : Rd) (F : Fd) (x : Td) (gl:Int) (p:List Ev),4*F.cs.flatten.length+Iu r<=k->Y4 F->F.cs.flatten.length<=70000->Inv c B r->GI r x gl->
    p.length+3*F.cs.flatten.length+3+Iu r<=1000000000->∃F' r' KH,loop AZ (NT r F p)=some (NT r' F' (p++KH))/\gI c B r x gl p F.cs.flatten F' r' KH:=by
  intro k
  induction k with
  | zero=>
    intro r F x gl p hk hF hw I G hp;have R:r.Af=4:=by unfold Iu at hk;split at hk<;>(first|assumption|(split at hk<;>(first|omega|(split at hk<;>omega))))
    refine⟨F,r,[],?_,hF,λh=>absurd R h,.over (by show(r.Af==4)=true;rw[R];rfl),I,⟨gl,G,rfl⟩,by simp⟩;rw[zR];exact Cl (mK R)
  | succ k ih =>
    intro r F x gl p hk hF hw I G hp;generalize hW:F.cs.flatten=w at *;have N:r.Af≠4->RN.over (r,x)=false:=λh=>beq_eq_false_iff_ne.2 h;rcases I.st with h0|h1|h2|W|R
    · -- a block
      have E:r.Af≠4:=by omega
      have hg:=I.VA h0;have C:RN.B4 (r,x)=512 - r.A9.length:=by show JR (r,x)=_;unfold JR;rw[zl h0]
      obtain⟨F1,e1,o1,f1⟩:=SF hF (n:=512 - r.A9.length) om;rw[hW]at e1 f1;by_cases P:w.length<512 - r.A9.length
      · rw[zB om]at e1
        rw[yI om]at f1;refine⟨F1,{r with A9:=r.A9++w},[],?_,o1,λ_=>f1,?_,⟨I.JP,I.fd,I.st,I.left,I.hd,λ_=>by show(r.A9++w).length<512;rw[zi];omega,λh=>absurd (h0.symm.trans h) (by decide),λh=>absurd h0 h,I.ok,I.b⟩,⟨gl,⟨G.dy,G.left,G.fin,G.xs⟩,rfl⟩,by simp⟩
        · rw[zR];exact Cl (me h0 hg rfl e1 P)
        · have:=I3.part (M:=RN) (N E) (w:=w) (by rw[C];exact P)
          have e:RN.part (r,x) w=({r with A9:=r.A9++w},x):=by show En (r,x) w=_;unfold En;rw[zl h0]
          rw[e]at this;exact this
      · have J:(w.take (512 - r.A9.length)).length=512 - r.A9.length:=by rw[zA];omega
        obtain⟨t,l,Z,he,hi⟩:=HB {r with A9:=[]} (r.A9++w.take (512 - r.A9.length)) ⟨I.JP,I.fd,I.st,I.left,I.hd,λ_=>by simp,λh=>absurd (h0.symm.trans h) (by decide),λh=>absurd h0 h,I.ok,I.b⟩ h0 rfl (by rw[zi];omega);obtain⟨gl1,g1,g2,g3⟩:=ik.ok (x:=x) (gl:=gl) (r:=r) G h0 hi.left he;have hd:(w.drop (512 - r.A9.length)).length=w.length - (512 - r.A9.length):=yc;have hrank:Iu {t with at_:=IntKind.i64.wrap (t.at_+1)}<=3:=by unfold Iu;split<;>(first|omega|(split<;>(first|omega|(split<;>omega))))
        obtain⟨F',r',KH,q1,q2⟩:=ih {t with at_:=IntKind.i64.wrap (t.at_+1)} F1 (KK x l) gl1 (p++l) (by rw[f1,hd];omega) o1 (by rw[f1,hd];omega) ⟨hi.JP,hi.fd,hi.st,hi.left,hi.hd,hi.VA,hi.Wp,hi.Ta,hi.ok,hi.b⟩ ⟨g1.dy,g1.left,g1.fin,g1.xs⟩ (by have b:Iu r=1:=(by unfold Iu;rw[h0];rfl);rw[f1,hd,zi];omega);rw[f1]at q2;obtain⟨gl2,k1,k2⟩:=q2.gi;refine⟨F',r',l++KH,?_,q2.fd,q2.emp,?_,q2.inv,⟨gl2,by rw[H7];exact k1,by rw[NZ,g2];show MR _ _=_;rw[k2,H7]⟩,?_⟩
        · rw[<-zC,<-q1]
          exact Cm (nI h0 hg rfl e1 J Z om)
        · rw[H7]
          refine I3.fin (M:=RN) (N E) (by rw[C];omega) (t:=({t with at_:=IntKind.i64.wrap (t.at_+1)},KK x l)) ?_ (by rw[C];exact q2.run);rw[C];show JF _ _ _;unfold JF;rw[zl (show(r,x).1.Af=0 from h0)];exact⟨t,l,Z,rfl⟩
        · have:=q2.len
          have h5:bT {t with at_:=IntKind.i64.wrap (t.at_+1)}<=2:=by unfold bT;split<;>omega
          rw[hd]at this;rw[zi];omega
    · -- a member's payload
      have E:r.Af≠4:=by omega
      have V:=I.left;have C:RN.B4 (r,x)=r.Ao.toNat:=by show JR (r,x)=_;unfold JR;rw[zj (show ¬(r,x).1.Af=0 by show ¬r.Af=0;omega)]
      have S:x.Cn=true:=by rw[G.dy,h1];rfl
      have Q:x.E8=false:=by rw[G.fin,h1];rfl
      have hgl:=G.left h1;have H:∀b,RN.part (r,x) b=({r with Ao:=r.Ao - b.length},IC x b):=λb=>by
        show En (r,x) b=_;unfold En;rw[zj (show ¬(r,x).1.Af=0 by show ¬r.Af=0;omega),zl (show(r,x).1.Af=1 from h1)]
      obtain⟨F1,e1,o1,f1⟩:=SF hF (n:=r.Ao.toNat) om;rw[hW]at e1 f1;have X:=I.hd (.inl h1);have hgn:=I.Ta om om;by_cases P:w.length<r.Ao.toNat
      · rw [zB om]at e1
        rw[yI om]at f1;have D:=I3.part (M:=RN) (N E) (w:=w) (by rw[C];exact P);rw[H]at D;by_cases K:w=[]
        · subst K
          have e:(({r with Ao:=r.Ao - (([]:List UInt8).length:Int)},IC x []):St)=(r,x):=by rw[QR];simp
          rw[e]at D;refine⟨F1,r,[],?_,o1,λ_=>f1,D,I,⟨gl,G,rfl⟩,by simp⟩;rw[zR];simp only[zY]at P;exact Cl (mL h1 om rfl e1)
        · have hwp:0<w.length:=yK.2 K
          obtain⟨F2,e2,o2,f2⟩:=SF o1 (n:=(r.Ao - (w.length:Int)).toNat) om;rw[f1]at e2 f2;rw[List.take_nil]at e2;rw[List.drop_nil]at f2;refine⟨F2,{r with Ao:=r.Ao - (w.length:Int)},[Jn w],?_,o2,λ_=>f2,D,⟨I.JP,I.fd,I.st,⟨by show 0<=r.Ao - (w.length:Int);omega,by show r.Ao - (w.length:Int)<=_;omega⟩,I.hd,I.VA,λh=>absurd (h1.symm.trans h) (by decide),I.Ta,I.ok,I.b⟩,⟨gl - w.length,⟨G.dy,λ_=>by show gl - (w.length:Int)=r.Ao - w.length;rw[hgl],G.fin,al G.xs⟩,Vt Q S K om⟩,?_⟩
          · rw[Cm (mR h1 V rfl e1 P K om)]
            exact Cl (mL (r:={r with Ao:=r.Ao - (w.length:Int)}) h1 (by show 0<r.Ao - (w.length:Int)/\r.Ao - (w.length:Int)<=_;omega) rfl e2)
          · rw[qf];omega
      · generalize hn:r.Ao.toNat=n at *
        have J:(w.take n).length=n:=by rw[zA];omega
        have hd:(w.drop n).length=w.length - n:=yc;generalize T:(if w.take n=[]then([]:List Ev)else[Jn (w.take n)])++[QF]=l2;have hl3:l2.length<=3*n+1:=by
          rw[<-T,zi];split
          · simp
          · rename_i h;have:=yK.2 h;simp;omega
        have O:KK x l2=R5 (IC x (w.take n)):=by
          rw[<-T,H7];split
          · rename_i h;rw[h,QR];rfl
          · rfl
        have U:MR (x,gl) l2=some (R5 (IC x (w.take n)),0):=by
          rw[<-T,NZ];have hx0:∀b,(IC x b).E8=false:=λb=>Q;have hx1:∀b,(IC x b).Cn=true:=λb=>S;split
          · rename_i h
            have:n=0:=by rw[h]at J;simpa using J.symm
            rw[h,QR,show gl=0 by omega];exact Wv Q S
          · rename_i h
            rw[Vt Q S h om,show gl - ((w.take n).length:Int)=0 by omega];exact Wv (hx0 _) (hx1 _)
        obtain⟨F',r',KH,q1,q2⟩:=ih (Kw r) F1 (KK x l2) 0 (p++l2) (by
            rw[f1,hd];have a:Iu (Kw r)=2:=rfl;have b:Iu r=3:=by unfold Iu;rw[zj om,zj om,zj om]
            omega) o1 (by rw[f1,hd];omega) (Inv.Kw I.JP I.fd X.1 hgn (I.ok E) I.b) ⟨by rw[O];rfl,λh=>absurd (show(3:Int)=1 from h) (by decide),by rw[O];exact Q,by rw[O];exact bL G.xs⟩ (by
            have a:Iu (Kw r)=2:=rfl;have b:Iu r=3:=by unfold Iu;rw[zj om,zj om,zj om]
            rw[f1,hd,zi];omega)
        rw[f1]at q2;obtain⟨gl2,k1,k2⟩:=q2.gi;refine⟨F',r',l2++KH,?_,q2.fd,q2.emp,?_,q2.inv,⟨gl2,by rw[H7];exact k1,by rw[NZ,U];show MR _ _=_;rw[H7,<-O];exact k2⟩,?_⟩
        · rw[<-zC,<-q1,<-T]
          exact Cm (mY h1 V X hn.symm e1 J om)
        · rw[H7]
          refine I3.fin (M:=RN) (N E) (by rw[C];omega) (t:=(Kw r,KK x l2)) ?_ (by rw[C];exact q2.run);rw[C];show JF _ _ _;unfold JF;rw[zj (show ¬(r,x).1.Af=0 by show ¬r.Af=0;omega),zl (show(r,x).1.Af=1 from h1),O]
        · have:=q2.len
          have h5:bT (Kw r)=0:=rfl;have h6:bT r=2:=by unfold bT;rw[zl h1]
          rw[hd]at this;rw[zi];omega
    · -- the payload of another entry
      have E:r.Af≠4:=by omega
      have V:=I.left;have C:RN.B4 (r,x)=r.Ao.toNat:=by show JR (r,x)=_;unfold JR;rw[zj (show ¬(r,x).1.Af=0 by show ¬r.Af=0;omega)]
      have H:∀b,RN.part (r,x) b=({r with Ao:=r.Ao - b.length,A9:=r.A9++b},x):=λb=>by
        show En (r,x) b=_;unfold En;rw[zj (show ¬(r,x).1.Af=0 by show ¬r.Af=0;omega),zj (show ¬(r,x).1.Af=1 by show ¬r.Af=1;omega),zl (show(r,x).1.Af=2 from h2)]
      obtain⟨F1,e1,o1,f1⟩:=SF hF (n:=r.Ao.toNat) om;rw[hW]at e1 f1;have X:=I.hd (.inr h2);obtain⟨hg1,O,U⟩:=I.Wp h2;by_cases P:w.length<r.Ao.toNat
      · rw[zB om]at e1
        rw[yI om]at f1;have D:=I3.part (M:=RN) (N E) (w:=w) (by rw[C];exact P);rw[H]at D;by_cases K:w=[]
        · subst K
          have e:(({r with Ao:=r.Ao - (([]:List UInt8).length:Int),A9:=r.A9++[]},x):St)=(r,x):=by simp
          rw[e]at D;refine⟨F1,r,[],?_,o1,λ_=>f1,D,I,⟨gl,G,rfl⟩,by simp⟩;rw[zR];simp only[zY]at P;exact Cl (lz h2 om rfl e1)
        · have hwp:0<w.length:=yK.2 K
          obtain⟨F2,e2,o2,f2⟩:=SF o1 (n:=(r.Ao - (w.length:Int)).toNat) om;rw[f1]at e2 f2;rw[List.take_nil]at e2;rw[List.drop_nil]at f2;refine⟨F2,{r with Ao:=r.Ao - (w.length:Int),A9:=r.A9++w},[],?_,o2,λ_=>f2,D,⟨I.JP,I.fd,I.st,⟨by show 0<=r.Ao - (w.length:Int);omega,by show r.Ao - (w.length:Int)<=_;omega⟩,I.hd,λh=>absurd (h2.symm.trans h) (by decide),λ_=>⟨by show((r.A9++w).length:Int)+(r.Ao - (w.length:Int))=r.Bg.B9;rw[zi];omega,O,U⟩,λ_ h=>absurd h2 h,I.ok,I.b⟩,⟨gl,⟨G.dy,λh=>absurd (h2.symm.trans h) (by decide),G.fin,G.xs⟩,rfl⟩,by simp⟩;rw[zR,Cm (mQ h2 V om rfl e1 P K)];exact Cl (lz (r:={r with Ao:=r.Ao - (w.length:Int),A9:=r.A9++w}) h2 (by show 0<r.Ao - (w.length:Int)/\r.Ao - (w.length:Int)<=_;omega) rfl e2)
      · generalize hn:r.Ao.toNat=n at *
        have J:(w.take n).length=n:=by rw[zA];omega
        have hd:(w.drop n).length=w.length - n:=yc;obtain⟨t,Z,hh,htr⟩:=HK {r with Ao:=r.Ao - ((w.take n).length:Int),A9:=r.A9++w.take n} ⟨I.JP,I.fd,I.st,⟨by show 0<=r.Ao - ((w.take n).length:Int);omega,by show r.Ao - ((w.take n).length:Int)<=_;omega⟩,I.hd,λh=>absurd (h2.symm.trans h) (by decide),λ_=>⟨by show((r.A9++w.take n).length:Int)+(r.Ao - ((w.take n).length:Int))=r.Bg.B9;rw[zi];omega,O,U⟩,λ_ h=>absurd h2 h,I.ok,I.b⟩ h2 (by show r.Ao - ((w.take n).length:Int)=0;omega);have hh':t.Bg=r.Bg:=hh;have hi:Inv c B (if t.Af=4 then t else Kw t)/\((if t.Af=4 then t else Kw t).Af=4/\(if t.Af=4 then t else Kw t).Dl≠0\/(if t.Af=4 then t else Kw t).Af=3):=by
          rcases htr with⟨a,b,d⟩|⟨a,b,d,e,f⟩
          · rw[zl a];exact⟨d,.inl ⟨a,b⟩⟩
          · rw[zj om];exact⟨Inv.Kw e Z.1 (by rw[hh'];exact X.1) b d f,.inr rfl⟩
        have hs:=mg (p:=p) h2 V om hn.symm e1 J Z (by rw[hh'];exact X);have hf:JF (r,x) (w.take n) ((if t.Af=4 then t else Kw t),x):=by
          unfold JF;rw[zj (show ¬(r,x).1.Af=0 by show ¬r.Af=0;omega),zj (show ¬(r,x).1.Af=1 by show ¬r.Af=1;omega),zl (show(r,x).1.Af=2 from h2)];exact⟨t,Z,rfl⟩
        generalize (if t.Af=4 then t else Kw t)=u at hi hs hf;obtain⟨hi,hu⟩:=hi;have Y:u.Af≠1:=by rcases hu with⟨h,_⟩|h<;>omega
        have gu:GI u x gl:=⟨by rw[G.dy,h2,zm Y];rfl,λh=>absurd h Y,by
          rw[G.fin,h2];rcases hu with⟨_,h⟩|h
          · rw[zm h,xB];rfl
          · rw[h];rfl,G.xs⟩
        obtain⟨F',r',KH,q1,q2⟩:=ih u F1 x gl p (by
            rw[f1,hd];have a:Iu u<=2:=by
              unfold Iu;rcases hu with⟨h,_⟩|h
              · rw[zl h];omega
              · rw[h];decide
            have b:Iu r=3:=by unfold Iu;rw[zj om,zj om,zj om]
            omega) o1 (by rw[f1,hd];omega) hi gu (by
            have a:Iu u<=2:=by
              unfold Iu;rcases hu with⟨h,_⟩|h
              · rw[zl h];omega
              · rw[h];decide
            have b:Iu r=3:=by unfold Iu;rw[zj om,zj om,zj om]
            rw[f1,hd];omega)
        rw[f1]at q2;refine⟨F',r',KH,?_,q2.fd,q2.emp,?_,q2.inv,q2.gi,?_⟩
        · rw[<-q1];exact Cm hs
        · exact I3.fin (M:=RN) (N E) (by rw[C];omega) (t:=(u,x)) (by rw[C];exact hf) (by rw[C];exact q2.run)
        · have:=q2.len
          have h5:bT u=0:=by unfold bT;rw[zj Y]
          rw[hd]at this;omega
    · -- padding
      have E:r.Af≠4:=by omega
      have V:=I.left;have C:RN.B4 (r,x)=r.Ao.toNat:=by show JR (r,x)=_;unfold JR;rw[zj (show ¬(r,x).1.Af=0 by show ¬r.Af=0;omega)]
      have H:∀b,RN.part (r,x) b=({r with Ao:=r.Ao - b.length},x):=λb=>by
        show En (r,x) b=_;unfold En;rw[zj (show ¬(r,x).1.Af=0 by show ¬r.Af=0;omega),zj (show ¬(r,x).1.Af=1 by show ¬r.Af=1;omega),zj (show ¬(r,x).1.Af=2 by show ¬r.Af=2;omega)]
      obtain⟨F1,e1,o1,f1⟩:=SF hF (n:=r.Ao.toNat) om;rw[hW]at e1 f1;have hgn:=I.Ta om om;by_cases P:w.length<r.Ao.toNat
      · rw[zB om]at e1
        rw[yI om]at f1;have D:=I3.part (M:=RN) (N E) (w:=w) (by rw[C];exact P);rw[H]at D;refine⟨F1,{r with Ao:=r.Ao - (w.length:Int)},[],?_,o1,λ_=>f1,D,⟨I.JP,I.fd,I.st,⟨by show 0<=r.Ao - (w.length:Int);omega,by show r.Ao - (w.length:Int)<=_;omega⟩,I.hd,I.VA,λh=>absurd (W.symm.trans h) (by decide),I.Ta,I.ok,I.b⟩,⟨gl,⟨G.dy,λh=>absurd (W.symm.trans h) (by decide),G.fin,G.xs⟩,rfl⟩,by simp⟩;rw[zR];exact Cl (nH W V rfl e1 P)
      · generalize hn:r.Ao.toNat=n at *
        have J:(w.take n).length=n:=by rw[zA];omega
        have hd:(w.drop n).length=w.length - n:=yc;have hs:=mz (p:=p) W V hn.symm e1 J;have hf:JF (r,x) (w.take n) ({r with Af:=0,Ao:=r.Ao - ((w.take n).length:Int)},x):=by
          unfold JF;rw[zj (show ¬(r,x).1.Af=0 by show ¬r.Af=0;omega),zj (show ¬(r,x).1.Af=1 by show ¬r.Af=1;omega),zj (show ¬(r,x).1.Af=2 by show ¬r.Af=2;omega)]
        obtain⟨F',r',KH,q1,q2⟩:=ih {r with Af:=0,Ao:=r.Ao - ((w.take n).length:Int)} F1 x gl p (by
            rw[f1,hd];have a:Iu {r with Af:=0,Ao:=r.Ao - ((w.take n).length:Int)}=1:=rfl;have b:Iu r=2:=by unfold Iu;rw[W];rfl
            omega) o1 (by rw[f1,hd];omega) ⟨I.JP,I.fd,.inl rfl,⟨by show 0<=r.Ao - ((w.take n).length:Int);omega,by show r.Ao - ((w.take n).length:Int)<=_;omega⟩,λh=>by rcases h with h|h<;>exact absurd (show(0:Int)=_ from h) (by decide),λ_=>by show r.A9.length<512;rw[hgn];simp,λh=>absurd (show(0:Int)=_ from h) (by decide),λh=>absurd rfl h,λ_=>I.ok E,I.b⟩ ⟨by rw[G.dy,W];rfl,λh=>absurd (show(0:Int)=1 from h) (by decide),by rw[G.fin,W];rfl,G.xs⟩ (by
            have a:Iu {r with Af:=0,Ao:=r.Ao - ((w.take n).length:Int)}=1:=rfl;have b:Iu r=2:=by unfold Iu;rw[W];rfl
            rw[f1,hd];omega)
        rw[f1]at q2;refine⟨F',r',KH,?_,q2.fd,q2.emp,?_,q2.inv,q2.gi,?_⟩
        · rw[<-q1];exact Cm hs
        · exact I3.fin (M:=RN) (N E) (by rw[C];omega) (t:=({r with Af:=0,Ao:=r.Ao - ((w.take n).length:Int)},x)) (by rw[C];exact hf) (by rw[C];exact q2.run)
        · have:=q2.len
          have h5:bT {r with Af:=0,Ao:=r.Ao - ((w.take n).length:Int)}=0:=rfl;rw[hd]at this;omega
    · refine⟨F,r,[],?_,hF,λh=>absurd R h,.over (by show(r.Af==4)=true;rw[R];rfl),I,⟨gl,G,rfl⟩,by simp⟩
      rw[zR];exact Cl (mK R)
end
end Go.Av.L
