/-
  Several texts in one.
-/
import Derived.Test.YtfgmnhjedmkpeaaGxC
set_option linter.unusedSimpArgs false
/-
 A part.
-/
section
namespace Go.Av.L
open Go.Av Go.Lib
set_option linter.unusedVariables false
set_option linter.unusedSimpArgs false
abbrev Vr:=List (Int×Nat×Nat)
def Jb(l:List AH)(g:Vr):List AH:=g.foldl (λo e=>o.set e.1.toNat ⟨(e.2.1:Int),(e.2.2:Int),true⟩) l
theorem RN(l:List AH)(g h:Vr):Jb l (g++h)=Jb (Jb l g) h:=List.foldl_append
theorem Na(g:Vr):∀l,(Jb l g).length=l.length:=by
 unfold Jb
 induction g with
 |nil=>intro l;rfl
 |cons e g ih=>intro l;rw[yr,ih,zp]
theorem W0{t:AS}(R:GL t){s:List UInt8}{a:Nat}{τ:Int}{i j:Nat}{l:Vr}(h:Lg t.AK s a τ i j l):i<=j->∀g,Gb t.AK a g->∀e∈l,1<=e.1/\e.1<=g/\i<=e.2.1/\e.2.1<=e.2.2/\e.2.2<=j:=by
 induction h with
 |leaf=>intro _ _ _ e he;simp at he
 |group C E D _ ih=>
  intro H g F e he;rcases ye.1 he with rfl|he
  ·exact⟨(U3 R C).2.2 E,F _ _ .self C,zq _,H,zq _⟩
  ·exact ih H g (λp m X hm=>F p m (.a C (by omega) (by omega) D X) hm) e he
 |Kr C E D _ _ ih=>intro H g F e he;exact ih H g (λp m X hm=>F p m (.a C (by omega) (by omega) D X) hm) e he
 |Kw C E D K _ _ ih=>intro H g F e he;exact ih H g (λp m X hm=>F p m (.b C (.inr E) K X) hm) e he
 | cat C E D K hc _ _ ih1 ih2=>
  intro H g F e he;have h1:=hc.lo;have N:=hc.hi;rcases zo.1 he with he|he
  ·have:=ih1 hc.lo g (λp m X hm=>F p m (.a C (by omega) (by omega) D X) hm) e he;omega
  ·have:=ih2 hc.hi g (λp m X hm=>F p m (.b C (.inl E) K X) hm) e he;omega
 |GV=>intro _ _ _ e he;simp at he
 | E7 C E D _ _ hc _ _ ih1 ih2=>
  intro H g F e he;have h1:=hc.lo;have N:=hc.hi;rcases zo.1 he with he|he
  ·have:=ih1 hc.lo g (λp m X hm=>F p m (.a C (by omega) (by omega) D X) hm) e he;omega
  ·have:=ih2 hc.hi g F e he;omega
section
variable {t:AS} {s:List UInt8}
noncomputable abbrev pT (t:AS):Aq:=⟨t.AK.map CD,t.Ac⟩
def RW(t:AS)(s:List UInt8)(S:BP)(a i:Nat):Prop:=
 ∀(j:Nat) (l:List AH),Mt t.AK s a 0 i j->j<=s.length->Gb t.AK a ((l.length:Int) - 1)->l.length<=100000->∃g,Lg t.AK s a 0 i j g/\S.BR (pT t) (a:Int) s (i:Int) (j:Int) l=some (Jb l g)
def QO(t:AS)(s:List UInt8)(S:BP)(a:Nat)(n:AF)(τ:Int)(i:Nat):Prop:=
 ∀(j:Nat) (l:List AH),Mt t.AK s a (sat n τ) i j->j<=s.length->Gb t.AK a ((l.length:Int) - 1)->l.length<=100000->∃g,Lg t.AK s a (sat n τ) i j g/\S.CK (pT t) (CD n) τ s (i:Int) (j:Int) l=some (Jb l g)
theorem P4{bs:List Bool}{q:Nat}(h:q<bs.length):Fy bs (q:Int)=some (bs.getD q false)/\(bs[q]?=some true↔bs.getD q false=true):=by
 have e:bs[q]?=some (bs.getD q false):=by rw[zl,List.getElem?_eq_getElem h];rfl
 exact⟨Dh e,by rw[e];simp⟩
theorem UN{a:Nat}{l:List AH}{g:Vr}(h:Gb t.AK a ((l.length:Int) - 1)):Gb t.AK a (((Jb l g).length:Int) - 1):=by rw[Na];exact h
theorem VB{a x:Nat}{n:AF}{g:Int}(C:t.AK[a]?=some n)(h1:2<=n.Kind)(N:n.Kind<=5)(D:n.A=x)(h:Gb t.AK a g):Gb t.AK x g:=λp m X hm=>h p m (.a C h1 N D X) hm
theorem XK{a x:Nat}{n:AF}{g:Int}(C:t.AK[a]?=some n)(h1:n.Kind=2\/n.Kind=3)(D:n.B=x)(h:Gb t.AK a g):Gb t.AK x g:=λp m X hm=>h p m (.b C h1 D X) hm
theorem Ox{n:AF}{c τ:Int}(Z:Qi n c)(E:n.Kind=4)(h0:0<=τ)(hM:0<=n.Max->τ<=n.Max):0<=sat n τ/\sat n τ<=255/\(n.Min<=sat n τ↔n.Min<=τ)/\(sat n τ<n.Min↔τ<n.Min)/\(sat n τ≠n.Max↔(n.Max<0\/τ<n.Max))/\(τ<n.Min->sat n (τ+1)=sat n τ+1):=by
 obtain⟨g1,g2,g3,g4,g5,g6,g7,g8,g9,g10,g11⟩:=Z;have:=g8 E;unfold sat mn;by_cases h:n.Max<0
 ·simp only[zj h];refine⟨?_,?_,?_,?_,?_,λN=>?_⟩<;>split<;>(try split)<;>omega
 ·simp only[zk h];have:=hM (by omega);refine⟨h0,by omega,?_,?_,?_,?_⟩<;>first|exact Iff.rfl|trivial|(intro _;trivial)|(intro _;rfl)|omega
theorem VI(R:GL t)(hL:t.AK.length<=12)(hs:s.length<=6){S:BP}{a i:Nat}{n:AF}{τ:Int}(C:t.AK[a]?=some n)(E:n.Kind=4)(h0:0<=τ)(h1:τ<=300+i)(hM:0<=n.Max->τ<=n.Max){x:Nat}(D:n.A=x)(hi:i<=s.length)
  (kM:RW t s S x i) (kT:∀k,i<=k->k<=s.length->(k=i->τ<n.Min)->(0<=n.Max->τ+1<=n.Max)->QO t s S a n (τ+1) k) (j:Nat) (l:List AH) (hm:Mt t.AK s a (sat n τ) i j) (V:j<=s.length) (F:Gb t.AK a ((l.length:Int) - 1)) (U:l.length<=100000):
  ∃g,Lg t.AK s a (sat n τ) i j g/\Cw S (pT t) (CD n) τ s (i:Int) (j:Int) l=some (Jb l g):=by
 have Z:=R.2.2.2 a n C;obtain⟨s1,s2,s3,s4,s5,s6⟩:=Ox Z E h0 hM;have ha:=(List.getElem?_eq_some_iff.1 C).1;have hxa:x<a:=by have:=Z.2.2.1 (by omega);omega
 have H:=hm.le;unfold Cw;rw[show(CD n).Min=n.Min from rfl,show(CD n).A=n.A from rfl,D];by_cases hend:n.Min<=τ/\i=j
 ·obtain⟨he1,rfl⟩:=hend;rw[show((decide (τ>=n.Min))&&((i:Int)==(i:Int)))=true from by rw[zK he1];simp,BL];exact⟨[],.GV C E (s3.2 he1),rfl⟩
 ·rw [show((decide (τ>=n.Min))&&((i:Int)==(j:Int)))=false from by rw[yL];simp only[zg,zx,zT,ne_eq];omega,Ak];rw[WJ C E D]at hm;have hm:=hm.resolve_left λh=>hend ⟨s3.1 h.1,h.2.symm⟩;obtain⟨hmax,k0,hk1,O,T⟩:=hm;rw[NZ]at T;have hmx:=s5.1 hmax;have hM1:0<=n.Max->τ+1<=n.Max:=by omega
  obtain⟨bs,eb,lb,hb⟩:=Pa R (s:=s) (by omega) (a:=x) (i:=i) (by omega) hi (root:=t.Ac);rw[eb,za];have key:W (loop (C8 S (pT t) (CD n) τ s (i:Int) (j:Int) l bs) (j:Int)) λo=>∃g,o=.inr (Jb l g)/\Lg t.AK s a (sat n τ) i j g:=by
   refine W.loop (λz=>∃q:Nat,z=(q:Int)/\i<=q/\q<=j/\∀q',q<q'->q'<=j->¬(Mt t.AK s x 0 i q'/\Mt t.AK s a (sat n (τ+1)) q' j)) (λz=>z.toNat) ⟨j,rfl,H,zq _,λq' h1 N=>by omega⟩ ?_;rintro _ ⟨q,rfl,hq1,hq2,hq3⟩;unfold C8;dsimp only;rw[show(CD n).Min=n.Min from rfl,show(CD n).Max=n.Max from rfl,show(CD n).A=n.A from rfl,D];refine Bi (λ_=>?_) λh=>absurd (show((q:Int))>=(i:Int) by omega) h;have hk0q:k0<=q:=by
    rcases zV q k0 with h|h
    ·exact absurd ⟨O,T⟩ (hq3 k0 h T.le)
    ·exact h
   have hik0:=O.le
   rw[show(((q:Int)==(i:Int))&&(decide (τ>=n.Min)))=false from by
    rw[yL];simp only[zg,zx,zT,ne_eq];rintro⟨e1,e2⟩;have:k0=i:=by omega
    have:=s4.1 (hk1 this)
    omega,Ak]
   obtain⟨i1,i2⟩:=P4 (bs:=bs) (q:=q) (by omega);rw[i1,za];obtain⟨rs,er,lr,hrr⟩:=Wm R hL hs C E (τ:=τ+1) (by omega) (by omega) hM1 (k:=q) (by omega);have M:=(hb q (by omega)).symm.trans i2;obtain⟨r1,r2⟩:=P4 (bs:=rs) (q:=j) (by omega);have Y:=(hrr j V).symm.trans r2;have ec:(Aj (bs.getD q false&&((decide (n.Max<0))||(decide (τ<n.Max)))) ((EJ (pT t) (CD n) (IntKind.i64.wrap (τ+1)) s (q:Int)).bind λx6=>(Fy x6 (j:Int)).bind λx7=>some x7) (some false):Option Bool)=some (bs.getD q false&&rs.getD j false):=by
    rw[Jr (x:=τ+1) (by omega) (by omega),er,za,r1,za];rw[show((decide (n.Max<0))||(decide (τ<n.Max)))=true from by simpa using hmx,Bool.and_true];cases bs.getD q false<;>rfl
   rw[ec,za];cases hc:bs.getD q false&&rs.getD j false
   ·rw[Ak];have hno:¬(Mt t.AK s x 0 i q/\Mt t.AK s a (sat n (τ+1)) q j):=by
     rintro⟨m1,m2⟩;rw[M.1 m1,Y.1 m2]at hc;cases hc
    have hqi:q≠i:=by
     rintro rfl;have:k0=q:=by omega
     rw[this]at O T;exact hno ⟨O,T⟩
    rw[Jr (x:=(q:Int) - 1) (by omega) (by omega)];refine AG ⟨⟨q - 1,by omega,by omega,by omega,λq' h1 N=>?_⟩,by omega⟩;by_cases e:q'=q
    ·subst e;exact hno
    ·exact hq3 q' (by omega) N
   ·rw[BL];simp only[zg]at hc;have m1:=M.2 hc.1;have m2:=Y.2 hc.2;obtain⟨g1,lg1,e1⟩:=kM q l m1 (by omega) (VB C (by omega) (by omega) D F) U;rw[e1,za,Jr (x:=τ+1) (by omega) (by omega)];have hqm:q=i->τ<n.Min:=λh=>by
     have:k0=i:=by omega
     exact s4.1 (hk1 this)
    obtain⟨g2,lg2,e2⟩:=kT q hq1 (by omega) hqm hM1 j (Jb l g1) m2 V (UN F) (by rw[Na];exact U);rw[e2,za];refine AG ⟨g1++g2,by rw[RN],?_⟩;have cut:Cut t.AK s x a (Fh n (sat n τ)) i j q:=⟨hq1,hq2,λ_=>⟨m1,by rw[NZ];exact m2⟩,λq' h1 N=>by rw[NZ];exact hq3 q' h1 N⟩
    exact .E7 C E D hmax (λe=>s4.2 (by
     rcases Int.lt_or_le τ n.Min with h|h
     ·exact h
     ·exact absurd ⟨h,e⟩ hend)) cut lg1 (by rw[NZ];exact lg2)
  obtain⟨o,eo,g,rfl,lg⟩:=key;rw[eo,za];exact⟨g,lg,rfl⟩
theorem VQ(R:GL t)(hL:t.AK.length<=12)(hs:s.length<=6){S:BP}{a i:Nat}{n:AF}(C:t.AK[a]?=some n)(hi:i<=s.length)
  (kM:∀x k,x<a->k<=s.length->RW t s S x k) (kT:n.Kind=4->QO t s S a n 0 i) (j:Nat) (l:List AH) (hm:Mt t.AK s a 0 i j) (V:j<=s.length) (F:Gb t.AK a ((l.length:Int) - 1)) (U:l.length<=100000):
  ∃g,Lg t.AK s a 0 i j g/\C6 S (pT t) (a:Int) s (i:Int) (j:Int) l=some (Jb l g):=by
 obtain⟨g1,g2,g3,g4,g5,g6,g7,g8,g9,g10,g11⟩:=R.2.2.2 a n C;have ha:=(List.getElem?_eq_some_iff.1 C).1;have H:=hm.le;unfold C6;rw[Dh (x:=CD n) (by rw[List.getElem?_map,C];rfl),za];rw[show(CD n).Kind=n.Kind from rfl,show(CD n).A=n.A from rfl,show(CD n).B=n.B from rfl,show(CD n).BO=n.BO from rfl];have hkk:n.Kind=2\/n.Kind=3\/n.Kind=4\/n.Kind=5\/(n.Kind≠2/\n.Kind≠3/\n.Kind≠4/\n.Kind≠5):=by omega
 have ne:∀{k:Int},n.Kind≠k->(n.Kind==k)=false:=λh=>by rw[zS];exact h
 have eq:∀{k:Int},n.Kind=k->(n.Kind==k)=true:=λh=>by simpa using h
 rcases hkk with E|E|E|E|⟨k2,k3,k4,k5⟩
 ·have hA:=g3 (by omega);have hB:=g5 (by omega);obtain⟨x,D⟩:=zi hA.1;obtain⟨y,K⟩:=zi hB.1;have D:n.A=(x:Int):=D;have K:n.B=(y:Int):=K;rw[eq E,BL,D];rw[inv2 C E D K]at hm;obtain⟨k0,O,T⟩:=hm;obtain⟨bs,eb,lb,hb⟩:=Pa R (s:=s) (by omega) (a:=x) (i:=i) (by omega) hi (root:=t.Ac);rw[eb,za];have key:W (loop (DN S (pT t) s (i:Int) (j:Int) l (CD n) bs) (j:Int)) λo=>∃g,o=.inr (Jb l g)/\Lg t.AK s a 0 i j g:=by
   refine W.loop (λz=>∃q:Nat,z=(q:Int)/\i<=q/\q<=j/\∀q',q<q'->q'<=j->¬(Mt t.AK s x 0 i q'/\Mt t.AK s y 0 q' j)) (λz=>z.toNat) ⟨j,rfl,H,zq _,λq' h1 N=>by omega⟩ ?_;rintro _ ⟨q,rfl,hq1,hq2,hq3⟩;unfold DN;dsimp only;rw[show(CD n).A=n.A from rfl,show(CD n).B=n.B from rfl,D,K];refine Bi (λ_=>?_) λh=>absurd (show((q:Int))>=(i:Int) by omega) h;have hk0q:k0<=q:=by
    rcases zV q k0 with h|h
    ·exact absurd ⟨O,T⟩ (hq3 k0 h T.le)
    ·exact h
   have hik0:=O.le;obtain⟨i1,i2⟩:=P4 (bs:=bs) (q:=q) (by omega);rw[i1,za];obtain⟨rs,er,lr,hrr⟩:=Pa R (s:=s) (by omega) (a:=y) (i:=q) (by omega) (by omega) (root:=t.Ac);have M:=(hb q (by omega)).symm.trans i2;obtain⟨r1,r2⟩:=P4 (bs:=rs) (q:=j) (by omega);have Y:=(hrr j V).symm.trans r2;have ec:(Aj (bs.getD q false) ((HP (Af AA (t.AK.map CD)) (t.AK.map CD).length t.Ac (y:Int) s (q:Int)).bind λx8=>(Fy x8 (j:Int)).bind λx9=>some x9) (some false):Option Bool)=some (bs.getD q false&&rs.getD j false):=by
    rw[er,za,r1,za];cases bs.getD q false<;>rfl
   rw[ec,za];cases hc:bs.getD q false&&rs.getD j false
   ·rw[Ak];have hno:¬(Mt t.AK s x 0 i q/\Mt t.AK s y 0 q j):=by
     rintro⟨m1,m2⟩;rw[M.1 m1,Y.1 m2]at hc;cases hc
    have hqi:q≠i:=by
     rintro rfl;have:k0=q:=by omega
     rw[this]at O T;exact hno ⟨O,T⟩
    rw[Jr (x:=(q:Int) - 1) (by omega) (by omega)];refine AG ⟨⟨q - 1,by omega,by omega,by omega,λq' h1 N=>?_⟩,by omega⟩;by_cases e:q'=q
    ·subst e;exact hno
    ·exact hq3 q' (by omega) N
   ·rw[BL];simp only[zg]at hc;have m1:=M.2 hc.1;have m2:=Y.2 hc.2;obtain⟨l1,lg1,e1⟩:=kM x i (by omega) hi q l m1 (by omega) (VB C (by omega) (by omega) D F) U;rw[e1,za];obtain⟨l2,lg2,e2⟩:=kM y q (by omega) (by omega) j (Jb l l1) m2 V (UN (XK C (.inl E) K F)) (by rw[Na];exact U);rw[e2,za];exact AG ⟨l1++l2,by rw[RN],.cat C E D K ⟨hq1,hq2,λ_=>⟨m1,m2⟩,hq3⟩ lg1 lg2⟩
  obtain⟨o,eo,g,rfl,lg⟩:=key;rw[eo];exact⟨g,lg,rfl⟩
 ·have hA:=g3 (by omega);have hB:=g5 (by omega);obtain⟨x,D⟩:=zi hA.1;obtain⟨y,K⟩:=zi hB.1;have D:n.A=(x:Int):=D;have K:n.B=(y:Int):=K;rw[ne (k:=2) (by omega),Ak,eq E,BL,D,K];rw[Vi C E D K]at hm;obtain⟨bs,eb,lb,hb⟩:=Pa R (s:=s) (by omega) (a:=x) (i:=i) (by omega) hi (root:=t.Ac);rw[eb,za];obtain⟨i1,i2⟩:=P4 (bs:=bs) (q:=j) (by omega);have M:=(hb j V).symm.trans i2;rw[i1,za];cases hc:bs.getD j false
  ·have no:¬Mt t.AK s x 0 i j:=λh=>by rw[M.1 h]at hc;cases hc
   have m:=hm.resolve_left no;obtain⟨l1,lg1,e1⟩:=kM y i (by omega) hi j l m V (XK C (.inr E) K F) U;rw[Ak,e1];exact⟨l1,.Kw C E D K no lg1,rfl⟩
  ·have m:=M.2 hc;obtain⟨l1,lg1,e1⟩:=kM x i (by omega) hi j l m V (VB C (by omega) (by omega) D F) U;rw[BL,e1];exact⟨l1,.Kr C E D m lg1,rfl⟩
 ·rw[ne (k:=2) (by omega),Ak,ne (k:=3) (by omega),Ak,eq E,BL];have hs0:sat n 0=0:=by
   have:=g8 E;unfold sat mn;split<;>(try split)<;>omega
  obtain⟨l1,lg1,e1⟩:=kT E j l (by rw[hs0];exact hm) V F U;rw[hs0]at lg1;rw[e1];exact⟨l1,lg1,rfl⟩
 ·have hA:=g3 (by omega);obtain⟨x,D⟩:=zi hA.1;have D:n.A=(x:Int):=D;rw[ne (k:=2) (by omega),Ak,ne (k:=3) (by omega),Ak,ne (k:=4) (by omega),Ak,eq E,BL,D];rw[U2 C E D]at hm;have hgr:=F a n .self C;have hg1:=U3 R C;obtain⟨gr,hgr2⟩:=zi hg1.1;have hgr2:n.BO=(gr:Int):=hgr2
  ·simp only[z8];rw[hgr2,E8 (show gr<l.length by omega),za,zA];obtain⟨l1,lg1,e1⟩:=kM x i (by omega) hi j (l.set gr ⟨(i:Int),(j:Int),true⟩) hm V (by rw[zp];exact VB C (by omega) (by omega) D F) (by rw[zp];exact U);rw[e1,show F6 (Pb 24 (([]:List AH).length+l.length))=λz:Option (Unit⊕List AH)=>z from by rw[Hh (by simp;omega) (by simp;omega)];rfl];refine⟨(n.BO,i,j)::l1,.group C E D lg1,?_⟩;show some (Jb (l.set gr ⟨(i:Int),(j:Int),true⟩) l1)=some (Jb (l.set n.BO.toNat ⟨(i:Int),(j:Int),true⟩) l1);rw[hgr2,zA]
 ·rw[ne k2,Ak,ne k3,Ak,ne k4,Ak,ne k5,Ak];exact⟨[],.leaf C k2 k3 k4 k5,rfl⟩
theorem VE(R:GL t)(hL:t.AK.length<=12)(hs:s.length<=6):∀(c f:Nat),
  (2*c+1<=f->∀(a i:Nat) (n:AF) (τ:Int),t.AK[a]?=some n->n.Kind=4->i<=s.length->0<=τ->τ<=300+i->(0<=n.Max->τ<=n.Max)->ms s.length a (sat n τ) i<=c->QO t s (Bu f) a n τ i)/\
  (2*c+2<=f->∀a i,a<t.AK.length->i<=s.length->ms s.length a 0 i<=c->RW t s (Bu f) a i):=by
 intro c
 induction c with
 | zero=>
  intro f;refine⟨λ_ a i n τ C E _ h0 _ hM h=>?_,λ_ a i _ _ h=>?_⟩
  ·have:=(Ox (R.2.2.2 a n C) E h0 hM).2.1;unfold ms at h;omega
  ·unfold ms at h;omega
 | succ c IH=>
  have turn:∀f,2*(c+1)+1<=f->∀(a i:Nat) (n:AF) (τ:Int),t.AK[a]?=some n->n.Kind=4->i<=s.length->0<=τ->τ<=300+i->(0<=n.Max->τ<=n.Max)->ms s.length a (sat n τ) i<=c+1->QO t s (Bu f) a n τ i:=by
   intro f hf a i n τ C E hi h0 h1 hM hc j l hm V F U;obtain⟨f,rfl⟩:∃k,f=k+1:=⟨f - 1,by omega⟩;have Z:=R.2.2.2 a n C;have hA:=Z.2.2.1 (by omega);obtain⟨x,D⟩:=zi hA.1;have D:n.A=(x:Int):=D;have ha:=(List.getElem?_eq_some_iff.1 C).1;obtain⟨s1,s2,s3,s4,s5,s6⟩:=Ox Z E h0 hM;refine VI R hL hs C E h0 h1 hM D hi ?_ (λk k1 k2 k3 k4=>?_) j l hm V F U
   ·refine(IH f).2 (by omega) x i (by omega) hi ?_;have:=QF (L:=s.length) (a:=a) (x:=x) (i:=i) (k:=i) (t:=sat n τ) (by omega) hi;omega
   ·obtain⟨r1,r2,_⟩:=Ox Z E (τ:=τ+1) (by omega) k4;refine(IH f).1 (by omega) a k n (τ+1) C E k2 (by omega) ?_ k4 ?_
    ·by_cases e:k=i
     ·have:=k3 e;have:=Z.2.2.2.2.2.2.2.1 E;omega
     ·omega
    ·have:=V7 (L:=s.length) (a:=a) (i:=i) (k:=k) (t:=sat n τ) (t':=sat n (τ+1)) s1 s2 r1 r2 k2 (by
      by_cases e:k=i
      ·exact .inr ⟨e,s6 (k3 e)⟩
      ·exact .inl (by omega))
     omega
  intro f;refine⟨turn f,λhf a i ha hi hc j l hm V F U=>?_⟩;obtain⟨f,rfl⟩:∃k,f=k+1:=⟨f - 1,by omega⟩;obtain⟨n,C⟩:∃n,t.AK[a]?=some n:=⟨_,List.getElem?_eq_getElem ha⟩;refine VQ R hL hs C hi (λx k h1 N=>?_) (λE=>?_) j l hm V F U
  ·refine(IH f).2 (by omega) x k (by omega) N ?_;have:=QF (L:=s.length) (a:=a) (x:=x) (i:=i) (k:=k) (t:=0) h1 hi;omega
  ·have Z:=R.2.2.2 a n C;have h8:=Z.2.2.2.2.2.2.2.1 E;have hs0:sat n 0=0:=by
    unfold sat mn;split<;>(try split)<;>omega
   exact turn f (by omega) a i n 0 C E hi (by omega) (by omega) (λh=>h) (by rw[hs0];exact hc)
end
end Go.Av.L
end
/-
 A part.
-/
section
namespace Go.Av.L
open Go.Av Go.Lib
set_option linter.unusedVariables false
set_option linter.unusedSimpArgs false
theorem VG{t:AS}(R:GL t)(hL:t.AK.length<=12){s:List UInt8}(hs:s.length<=6){q:Nat}(hq:t.Ac=(q:Int)){i j:Nat}(hm:Mt t.AK s q 0 i j)(V:j<=s.length){G:Nat}(hG:Gm t.AK q (G:Int))(hG2:G<=1024):
  ∃g,Lg t.AK s q 0 i j g/\Ei (pT t) s (i:Int) (j:Int)=some ((Jb (List.replicate (G+1) ⟨0,0,false⟩) g).set 0 ⟨(i:Int),(j:Int),true⟩):=by
 have hql:q<t.AK.length:=by have:=R.2.2.1;omega
 have H:=hm.le;obtain⟨b,hb⟩:∃b,Gp=b+1000000:=⟨Gp - 1000000,by rw[N1]⟩;have hgr:CT (pT t) (q:Int)=some (G:Int):=by
  obtain⟨g,e,F⟩:=Xk R q hql Gp (by rw[hb];omega);rw[hG.uniq F];exact e
 have hloop:W (loop (Ev (pT t)) (([]:List AH),(0:Int))) λr=>r=List.replicate (G+1) ⟨0,0,false⟩:=by
  refine W.loop (λz=>∃k:Nat,z.2=(k:Int)/\k<=G+1/\z.1=List.replicate k ⟨0,0,false⟩) (λz=>((G:Int)+1 - z.2).toNat) ⟨0,rfl,by omega,rfl⟩ ?_;rintro⟨l,x⟩ ⟨k,E,h1,N⟩;dsimp only at E N;subst E;subst N;unfold Ev;dsimp only;rw[hq,hgr,za];refine Bi (λhle=>?_) λhgt=>AG (by rw[show k=G+1 by omega]);refine ES (Hh (by simp;omega) (by simp;omega)) (AG ?_);rw[F3 (by omega)];refine⟨⟨k+1,rfl,by omega,?_⟩,by dsimp only;omega⟩;dsimp only;rw[List.replicate_succ']
 obtain⟨g,lg,e⟩:=((VE R hL hs (ms s.length q 0 i) Gp).2 (by
  unfold ms;have h1:q*((s.length+1)*257)<=12*1799:=Nat.mul_le_mul (by omega) (by omega);have N:(s.length - i)*257<=6*257:=zU _ (by omega);rw[hb]
  omega) q i hql (by omega) (zq _)) j (List.replicate (G+1) ⟨0,0,false⟩) hm V (by simpa using hG.2.1) (by simp;omega)
 refine⟨g,lg,?_⟩;unfold Ei;rw[hloop.eq,za];rw[show(pT t).Ac=(q:Int) from hq];have e':BR (pT t) (q:Int) s (i:Int) (j:Int) (List.replicate (G+1) ⟨0,0,false⟩)=some (Jb (List.replicate (G+1) ⟨0,0,false⟩) g):=e;obtain⟨v,e0⟩:∃v,Fy (Jb (List.replicate (G+1) ⟨0,0,false⟩) g) 0=some v:=⟨_,E8 (i:=0) (by rw[Na];simp)⟩;rw[e',za,e0,za];rfl
def cv(x:Ad):AH:=⟨x.F4,x.To,x.Is⟩
theorem VM(g:Vr):∀out:List Ad,(LU out g).map cv=Jb (out.map cv) g:=by
 unfold LU Jb
 induction g with
 |nil=>intro out;rfl
 |cons e g ih=>intro out;rw[yr,yr,ih,qL];rfl
theorem Uk{x:AH}(g:Vr):(∀e∈g,1<=e.1)->∀l,Jb (l.set 0 x) g=(Jb l g).set 0 x:=by
 unfold Jb
 induction g with
 |nil=>intro _ l;rfl
 |cons e g ih=>
  intro h l;have he:=h e (by simp);rw[yr,yr,<-ih (λe' h'=>h e' (yc _ h')),List.set_comm _ _ (by omega)]
set_option maxRecDepth 100000 in
theorem YQ(f t:Int)(b:Bool):RQ cfg.P 81 [.int .i64 f,.int .i64 t,.bool b] [.int .i64 f,.int .i64 t,.bool b]=some true:=Tu (by kernel_rfl) (by kernel_rfl)
theorem Wb{a:List Ad}(U:a.length<=100000):Dt a (a.map cv)=some true:=by
 refine W.eq ?_;unfold Dt;rw[PW,zj (by simp)];refine AP (W.mono (W.loop (λx=>∃i:Nat,x=(i:Int)/\i<=a.length) (λx=>((a.length:Int) - x).toNat) ⟨0,rfl,yb _⟩ ?_ (Q:=λo=>o=.inl ())) λo ho=>by subst ho;exact AG rfl);rintro _ ⟨i,rfl,h1⟩;unfold FV;dsimp only;refine Bi (λhlt=>?_) λ_=>AG rfl;have hi:i<a.length:=by omega
 rw[E8 hi,za,Dh (x:=cv a[i]) (by rw[List.getElem?_map,List.getElem?_eq_getElem hi];rfl),za];refine AP (Tw (x:=true) (YQ _ _ _) ?_);rw[zI,Ak,F3 (by omega)];exact AG ⟨⟨i+1,rfl,by omega⟩,by omega⟩
def P2(bs:List Bool)(k:Nat):List Int:=((List.range k).filter λj=>bs.getD j false).map λj:Nat=>(j:Int)
theorem Qz(bs:List Bool)(k:Nat):P2 bs (k+1)=if bs.getD k false=true then P2 bs k++[(k:Int)]else P2 bs k:=by
 unfold P2;have e:List.filter (λj=>bs.getD j false) [k]=if bs.getD k false=true then[k]else[]:=by rw[qx,List.filter_nil]
 rw[List.range_succ,List.filter_append,e];by_cases h:bs.getD k false=true
 ·rw[zj h,zj h,yQ];rfl
 ·rw[zk h,zk h,yR]
theorem SM(bs:List Bool)(k:Nat):(P2 bs k).length<=k:=by
 unfold P2;rw[yn];exact yu (qe _ _) (by simp)
theorem TB{s:List UInt8}(hs:s.length<=1000){bs:List Bool}(lb:bs.length=s.length+1):W (loop (FA s bs) (([]:List Int),(0:Int))) λr=>r=P2 bs (s.length+1):=by
 refine W.loop (λx=>∃i:Nat,x.2=(i:Int)/\i<=s.length+1/\x.1=P2 bs i) (λx=>(s.length+1 - x.2).toNat) ⟨0,rfl,by omega,rfl⟩ ?_;rintro⟨l,x2⟩ ⟨i,hi,h1,N⟩;dsimp only at hi N;subst hi;subst N;unfold FA;dsimp only;have U:=SM bs i;refine Bi (λhle=>?_) λhgt=>AG (by rw[show i=s.length+1 by omega]);have F:bs[i]?=some (bs.getD i false):=by rw[zl,List.getElem?_eq_getElem (by omega)];rfl
 rw[Dh F,za,F3 (by omega)];refine AP (Ap (λht=>?_) λhf=>AG (AG ?_))
 ·refine ES (Hh (by simp;omega) (by simp;omega)) (AG (AG ?_));exact⟨⟨i+1,rfl,by omega,by rw[Qz,zj ht]⟩,by dsimp only;omega⟩
 ·exact⟨⟨i+1,rfl,by omega,by rw[Qz,zk (by rw[hf];decide)]⟩,by dsimp only;omega⟩
theorem WV{t:AS}(R:GL t){s:List UInt8}(hs:s.length<=6){q:Nat}(hq:t.Ac=(q:Int)):W (E4 (pT t) s 0) λx=>x.Ok=true->∃i j:Nat,x.I=(i:Int)/\x.J=(j:Int)/\j<=s.length/\Mt t.AK s q 0 i j:=by
 have hql:q<t.AK.length:=by have:=R.2.2.1;omega
 unfold E4;rw[show mx (0:Int) 0=0 from rfl];refine AP (W.mono (W.loop (λx=>∃i:Nat,x=(i:Int)/\i<=s.length+1) (λx=>((s.length:Int)+1 - x).toNat) ⟨0,rfl,yb _⟩ ?_ (Q:=λo=>∀x,o=.inr x->∃i j:Nat,x.1=(i:Int)/\x.2.1=(j:Int)/\j<=s.length/\Mt t.AK s q 0 i j)) ?_)
 ·rintro _ ⟨i,rfl,h1⟩;unfold GZ;dsimp only;refine Bi (λhle=>?_) λ_=>AG λx D=>by cases D
  have hi:i<=s.length:=by omega
  obtain⟨bs,eb,lb,hb⟩:=Pa R (s:=s) (by omega) (a:=q) (i:=i) hql hi (root:=t.Ac);have e2:E0 (pT t) s (i:Int)=some (P2 bs (s.length+1)):=by
   unfold E0;rw[show((decide ((i:Int)<0))||(decide ((i:Int)>(s.length:Int))))=false from by rw[zN (by omega),zN (by omega)];rfl,Ak];have eb':HP (Af AA (pT t).L) (pT t).L.length (pT t).Ac (pT t).Ac s (i:Int)=some bs:=by
    show HP (Af AA (t.AK.map CD)) (t.AK.map CD).length t.Ac t.Ac s (i:Int)=some bs;rw[hq]at eb⊢;exact eb
   rw[eb',za,(TB (by omega) lb).eq];rfl
  rw[e2,za];have hpl:=SM bs (s.length+1);refine Bi (λhne=>?_) λ_=>?_
  ·have h0:0<(P2 bs (s.length+1)).length:=by omega
   rw[show IntKind.i64.wrap (((P2 bs (s.length+1)).length:Int) - 1)=(((P2 bs (s.length+1)).length - 1:Nat):Int) from by rw[Jr (by omega) (by omega)];omega,E8 (show(P2 bs (s.length+1)).length - 1<(P2 bs (s.length+1)).length by omega),za];refine AG λx D=>?_;injection D with D;subst D;have hmem:(P2 bs (s.length+1))[(P2 bs (s.length+1)).length - 1]'(by omega)∈P2 bs (s.length+1):=yE _;generalize (P2 bs (s.length+1))[(P2 bs (s.length+1)).length - 1]'(by omega)=y at hmem;unfold P2 at hmem;obtain⟨k,E,rfl⟩:=zX.1 hmem;obtain⟨hk1,O⟩:=yz.1 E;have hk1:=yq.1 hk1;refine⟨i,k,rfl,rfl,by omega,(hb k (by omega)).1 ?_⟩;exact(P4 (by omega)).2.2 O
  ·rw[F3 (by omega)];exact AG ⟨⟨i+1,rfl,by omega⟩,by omega⟩
 ·rintro o ho;cases o with
  |inl u=>exact AG λh=>by cases h
  |inr x=>
   obtain⟨x1,x2,x3⟩:=x;exact AG λ_=>ho _ rfl
theorem VY(p:Aq):W (DG p) λb=>b=true->p.L.length<=12:=by
 obtain⟨b,e,_⟩:=TY p;refine⟨b,e,λh=>?_⟩;subst h;rcases zV 12 p.L.length with h|h
 ·unfold DG at e;rw[zK (show(p.L.length:Int)>12 by omega),BL]at e;cases e
 ·exact h
def Good(s:List UInt8)(i j:Nat)(y:Ad):Prop:=y.Is=false\/∃f u:Nat,y=⟨(f:Int),(u:Int),true⟩/\i<=f/\f<=u/\u<=j
theorem TC{s:List UInt8}{i j:Nat}(g:Vr):(∀e∈g,i<=e.2.1/\e.2.1<=e.2.2/\e.2.2<=j)->∀out:List Ad,(∀y∈out,Good s i j y)->∀y∈LU out g,Good s i j y:=by
 unfold LU
 induction g with
 |nil=>intro _ out h;exact h
 | cons e g ih=>
  intro he out h;rw[yr];refine ih (λe' h'=>he e' (yc _ h')) _ λy K=>?_;rcases yX K with K|rfl
  ·exact h y K
  ·have:=he e (by simp);exact .inr ⟨e.2.1,e.2.2,rfl,this⟩
theorem TH{s:List UInt8}{y:Ad}(h:y.Is=false):FH s y=some []:=by
 unfold FH;rw[h];rfl
theorem TD{s:List UInt8}{f u:Nat}(h1:f<=u)(N:u<=s.length):FH s ⟨(f:Int),(u:Int),true⟩=some ((s.drop f).take (u - f)):=by
 unfold FH;dsimp only;rw[zN (show ¬(f:Int)<0 by omega),zN (show ¬(u:Int)<(f:Int) by omega),zN (show ¬(u:Int)>(s.length:Int) by omega),OW h1 N];rfl
theorem Rl:Cq=some true:=by kernel_rfl
theorem Nz{Q:Bool->Prop}(h:Q true):W ((Cq).bind λx=>some x) Q:=AP (Tw Rl (AG h))
theorem QU(p0:List UInt8){Q0:Prop}(k0:Q0)(p1:Bool){Q1:Prop}(k1:Q1)(p2:List UInt8){Q2:Prop}(k2:Q2):Ef p0 p1 p2=some true:=by
 refine W.eq ?_;unfold Ef;refine Ap (λ_=>Nz rfl) λhb=>?_;simp only[zJ,zr]at hb;have hs:p2.length<=6:=by have:=hb.2;omega
 refine AP ((Tb p0 p1).mono ?_);rintro⟨t,n,e⟩ X;dsimp only at X⊢;by_cases he:e=0
 ·subst he;have Z:=X rfl;have R:GL t:=by
   obtain⟨b,eb,h⟩:=SC t;rw[Z]at eb;cases eb;exact h.1 rfl
  have hpl:Cn t=some (pT t):=TW t (by have:=R.1;omega);have oks:∀n∈t.AK,n.Kind≠1->Xq n.Set:=by
   intro n C E j;obtain⟨i,hi⟩:=yM.1 C;rw[(R.2.2.2 i n hi).2.2.2.2.2.2.1 E];unfold OQ
   match j with
   |0=>exact⟨zF _,by decide⟩
   |1=>exact⟨zF _,by decide⟩
   |2=>exact⟨zF _,by decide⟩
   |3=>exact⟨zF _,by decide⟩
   |j+4=>simp
  obtain⟨b8,e8,h8⟩:=VO t oks;have h8:b8=true:=h8.2 R;subst h8;rw[hpl];simp only[za,show((0:Int)==0)=true from rfl,show((0:Int) !=0)=false from rfl,BL,Ak];rw[show Du (pT t)=some true from e8];simp only[za,zI,Ak];refine AP (AP ((VY (pT t)).mono λb hb12=>AG (Ap (λ_=>Nz rfl) λhb2=>?_)));have hL:t.AK.length<=12:=by
   have:=hb12 (by simpa using hb2);rw[show(pT t).L.length=t.AK.length from yn ..]at this;exact this
  obtain⟨q,hq⟩:=zi R.2.1;have hq:t.Ac=(q:Int):=hq;refine AP ((WV R hs hq).mono λx D=>Ap (λ_=>Nz rfl) λhok=>?_);obtain⟨i,j,hI,hJ,V,hm⟩:=D (by simpa using hok);obtain⟨g0,eg,hG⟩:=Vn R Z hq;obtain⟨G,F⟩:=zi hG.1;have F:g0=(G:Int):=F;subst F;have hG2:G<=1024:=by
   have:=hG.2.2 1024 (by omega) λp m _ hm=>(U3 R hm).2.1;omega
  have H:=hm.le;obtain⟨lg,hlg,hsp⟩:=VG R hL hs hq hm V hG hG2;have hbnd:=W0 R hlg H _ hG.2.1;have ht:t=⟨t.AK,(q:Int)⟩:=by rw[<-hq]
  have hprog:FT t p2 (i:Int) (j:Int)=some (LU ((List.replicate (G+1) ⟨0,0,false⟩).set 0 ⟨(i:Int),(j:Int),true⟩) lg,true):=by
   rw[ht]at Z eg⊢;exact UA Z (by omega) eg (by omega) H V hm hlg λe he=>by have:=hbnd e he;omega
  rw[hI,hJ,hprog];simp only[za,zI,Ak];rw[hsp];simp only[za];have hcv:(Jb (List.replicate (G+1) ⟨0,0,false⟩) lg).set 0 ⟨(i:Int),(j:Int),true⟩=(LU ((List.replicate (G+1) ⟨0,0,false⟩).set 0 ⟨(i:Int),(j:Int),true⟩) lg).map cv:=by
   rw[VM,qL,List.map_replicate,<-Uk lg λe he=>(hbnd e he).1];rfl
  have hlen:(LU ((List.replicate (G+1) (⟨0,0,false⟩:Ad)).set 0 ⟨(i:Int),(j:Int),true⟩) lg).length=G+1:=by rw[PI];simp
  rw[hcv,Wb (by omega)];simp only[za,zI,Ak];have good:∀y∈LU ((List.replicate (G+1) (⟨0,0,false⟩:Ad)).set 0 ⟨(i:Int),(j:Int),true⟩) lg,Good p2 i j y:=by
   refine TC lg (λe he=>(hbnd e he).2.2) _ λy K=>?_;rcases yX K with K|rfl
   ·obtain rfl:=qJ K;exact .inl rfl
   ·exact .inr ⟨i,j,rfl,zq _,H,zq _⟩
  generalize LU ((List.replicate (G+1) (⟨0,0,false⟩:Ad)).set 0 ⟨(i:Int),(j:Int),true⟩) lg=got at good hlen;refine AP (W.mono (W.loop (λx=>∃k:Nat,x=(k:Int)/\k<=got.length) (λx=>((got.length:Int) - x).toNat) ⟨0,rfl,yb _⟩ ?_ (Q:=λo=>o=.inl ())) λo ho=>by subst ho;exact Nz rfl);rintro _ ⟨k,rfl,h1⟩;unfold FF;dsimp only;refine Bi (λhlt=>?_) λ_=>AG rfl;have E:k<got.length:=by omega
  rw[E8 E,za];have K:=good _ (yE E);generalize got[k]=y at K;have next:∀{Q:Int⊕(Unit⊕Bool)->Prop},(∀z:Int,(∃k:Nat,z=(k:Int)/\k<=got.length)/\((got.length:Int) - z).toNat<((got.length:Int) - (k:Int)).toNat->Q (.inl z))->W (some (.inl (IntKind.i64.wrap ((k:Int)+1))):Option (Int⊕(Unit⊕Bool))) Q:=by
   intro Q hQ;rw[F3 (by omega)];exact AG (hQ _ ⟨⟨k+1,rfl,by omega⟩,by omega⟩)
  rcases K with K|⟨f,u,rfl,N,h3,h4⟩
  ·rw[K];simp only[Ak,za,yK,BL];rw[TH K];simp only[za,show(([]:List UInt8)==[])=true from rfl,zI,Ak];exact next λz hz=>hz
  ·dsimp only;rw[hI,hJ];rw[zN (show ¬(f:Int)<(i:Int) by omega),zN (show ¬(u:Int)>(j:Int) by omega),zN (show ¬(f:Int)>(u:Int) by omega)];simp only[BL,Ak];rw[TD h3 (by omega),za,OW h3 (by omega)];simp only[za,beq_self_eq_true,zI,Ak];exact next λz hz=>hz
 ·rw[show(e==0)=false from by rw[zS];exact he,show(e !=0)=true from by rw[yV];exact he];simp only[Ak,BL,za];exact Nz rfl
end Go.Av.L
end
/-
 A part.
-/
section
namespace Go.Av
open Go
def Sn(W:World)(g:Nat)(cs:List AD):Prop:=
 g<W.heap.size/\∃cur e fz,W.heap[g]?=some (.cells cur e fz)/\∀(j:Nat) (a:AD),cs[j]?=some a->a.one=true/\Av.Fq a=true/\∃c,cur[j]?=some c/\VR ⟨λ_=>none,λ_ _=>none,λ_=>False⟩ a c
theorem Ui{P:Program}{W:World}{name:String}{k:IntKind}{zs:List Int}{g:Nat}(F:P.globalNamed name=some g)(h:Lib.TabIs P W name k zs):Sn W g (zs.map λz=>AD.int k z):=by
 unfold Lib.TabIs World.var? at h;rw[F]at h;simp only[za]at h;split at h
 ·rename_i cs e fz hc;injection h with h;have hlt:g<W.heap.size:=by
   by_cases hlt:g<W.heap.size
   ·exact hlt
   ·rw[Array.getElem?_eq_none (by omega)]at hc;cases hc
  refine⟨hlt,cs,e,fz,hc,λj a ha=>?_⟩;rw[List.getElem?_map,zh]at ha;obtain⟨z,hz,rfl⟩:=ha;refine⟨rfl,rfl,.int k z,?_,VR.int k z⟩;rw[h];simp[hz]
 ·cases h
theorem QV{W:World}{g:Nat}{cs:List AD}{l:List (Nat×List AD)}(h:Sn W g cs)(C:cs=[]->∃n:Int,W.cell? ⟨g,0,none⟩=some (.int .i64 n))(U:CL (K8 l) W):CL (K8 ((g,cs)::l)) W:=⟨λg' cs' e=>by
 unfold K8 at e;rw[GS]at e;by_cases D:g=g'
 ·rw[zj D]at e;have:=zW e;subst this;subst D;exact h
 ·rw[zk D]at e;exact U.1 g' cs' e,λg' e=>by
 unfold K8 at e;rw[GS]at e;by_cases D:g=g'
 ·rw[zj D]at e;have:=zW e;subst D;exact C this
 ·rw[zk D]at e
  exact U.2 g' e⟩
theorem Rj{W:World}{g:Nat}{l:List (Nat×List AD)}(h:∃n:Int,W.cell? ⟨g,0,none⟩=some (.int .i64 n))(U:CL (K8 l) W):CL (K8 ((g,[])::l)) W:=by
 refine QV ?_ (λ_=>h) U;obtain⟨n,C⟩:=h;unfold World.cell? at C;split at C
 ·rename_i cs e fz hc;have hc':W.heap[g]?=some (.cells cs e fz):=hc;refine⟨?_,cs,e,fz,hc',λj a ha=>by simp at ha⟩;by_cases hlt:g<W.heap.size
  ·exact hlt
  ·rw[Array.getElem?_eq_none (by omega)]at hc';cases hc'
 ·cases C
theorem M3(W:World):CL (K8 []) W:=⟨λg cs e=>(by cases e),λg e=>(by cases e)⟩
end Go.Av
end
