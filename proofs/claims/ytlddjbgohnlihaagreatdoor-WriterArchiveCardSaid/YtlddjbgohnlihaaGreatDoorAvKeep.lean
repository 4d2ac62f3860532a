/-
 A part.
-/
import Derived.Test.YtlddjbgohnlihaaGreatDoorAvApp
set_option linter.unusedSimpArgs false
namespace Go.Av
open Go.RowKit
def BE(g:Gd)(h h':AI):Prop:=h.size≤h'.size∧∀id,id<h.size→g.may id=false→h'.get id=h.get id
theorem BE.refl(g:Gd)(h:AI):BE g h h:=⟨zC _,fun _ _ _=>rfl⟩
theorem BE.trans{g:Gd}{a b c:AI}(h:BE g a b)(k:BE g b c):BE g a c:=
 ⟨y8 h.1 k.1,fun id hi hm=>(k.2 id (zX hi h.1) hm).trans (h.2 id hi hm)⟩
theorem BE.weaken{g g':Gd}(F:∀id,g.may id=false→g'.may id=false){a b:AI}(h:BE g' a b):BE g a b:=⟨h.1,fun id hi hm=>h.2 id hi (F id hm)⟩
theorem BE.push(g:Gd)(h:AI)(o:B0):BE g h (h.push o):=⟨by simp,fun id hi _=>h.Bz o hi⟩
theorem BE.set{g:Gd}{h:AI}{id:Nat}{o o':B0}(B:h.get id=some o')(hm:g.may id=true):BE g h (h.set id o):=by
 refine⟨by simp,fun i hi M=>h.BX o (h.BN B) ?_⟩;rintro rfl;rw[hm]at M;cases M
section
variable {P:Program} {g:Gd} {h h':AI}
theorem Jp{id o:Nat}{new:List AB}(C:Cg g h id o new=some h'):BE g h h':=by
 unfold Cg at C;split at C
 ·rename_i F;split at C
  ·rename_i I;injection C with C;subst C;exact BE.set F I.1
  ·cases C
 ·cases C
theorem QA{g:Gd}{h:AI}{v v':AB}{h':AI}(D:Ig g h v=some (v',h')):BE g h h':=by
 unfold Ig at D;split at D
 ·injection D with D;injection D with e1 e2;subst e2;exact BE.refl _ _
 ·rename_i id n;by_cases S:n=0
  ·subst S;simp only[ym,zW,zd,zg]at D;obtain⟨rfl,rfl⟩:=D;exact BE.refl _ _
  ·have:Nat.beq n 0=false:=by cases n;exact absurd rfl S;rfl
   rw[this]at D;simp only[y9]at D;split at D
   ·rename_i gr cs F;cases hm:g.may id with
    |false=>rw[hm]at D;cases D
    |true=>
     rw[hm]at D;simp only[zW,zd,zg]at D;obtain⟨rfl,rfl⟩:=D;exact BE.set F hm
   ·simp only[zd,zg]at D;obtain⟨rfl,rfl⟩:=D;exact BE.refl _ _
   ·cases D
 ·injection D with D;injection D with e1 e2;subst e2;exact BE.refl _ _
theorem WQ{fr :Fr}{op:Op}{v:AB}(B:K0 P g h fr op=some (v,h')):BE g h h':=by
 have mapk0:∀{h:AI} {t x k y},Ib P g h t x k y=some h'→BE g h h':=by
  intro h t x k y C;unfold Ib at C;split at C
  ·split at C
   ·rename_i I;split at C
    ·rename_i es F;split at C
     ·split at C
      ·split at C
       ·injection C with C;subst C;exact BE.set F I.2
       ·cases C
      ·cases C
     ·injection C with C;subst C;exact BE.set F I.2
     ·cases C
    ·cases C
   ·cases C
  ·cases C
 have mapk:∀{t x k y},GO P g h t x k y=some h'→BE g h h':=by
  intro t x k y C;unfold GO at C;cases L:Ig g h y with
  |none=>rw[L]at C;cases C
  |some q=>
   rw[L]at C;exact(QA L).trans (mapk0 C)
 cases op with
 | convert s d x=>
  simp only[K0]at B;unfold VZ at B;split at B
  ·rename_i e0 e id o n C hd hxx;split at B
   ·rename_i gr cs he F;cases I:(Nat.beq s d&&(g.may id&& !(Nat.beq n 0)))with
    |false=>rw[I]at B;cases B
    |true=>
     rw[I]at B;simp only[zW,zd,zg]at B;obtain⟨_,rfl⟩:=B;simp only[zh]at I;exact BE.set F I.2.1
   ·cases B
  ·cases B
 | store t x y=>
  simp only[K0]at B;split at B
  ·rename_i id o O;cases C:Le P g h t id o (ev fr y)with
   |none=>simp[C]at B
   | some h2=>
    simp only[C,zj,zd,zg]at B;obtain⟨rfl,rfl⟩:=B;unfold Le at C;split at C
    ·split at C
     ·exact Jp C
     ·cases C
    ·cases C
  ·cases B
 | mapUpdate t x k y=>
  simp only[K0]at B;cases C:GO P g h t (ev fr x) (ev fr k) (ev fr y)with
  |none=>simp[C]at B
  |some h2=>
   simp only[C,zj,zd,zg]at B;obtain⟨rfl,rfl⟩:=B;exact mapk C
 | insert t x k y=>
  simp only[K0]at B;cases C:GO P g h t (ev fr x) (ev fr k) (ev fr y)with
  |none=>simp[C]at B
  |some h2=>
   simp only[C,zj,zd,zg]at B;obtain⟨rfl,rfl⟩:=B;exact mapk C
 | next it s=>
  cases s with
  |false=>simp[K0]at B
  | true=>
   simp only[K0]at B;split at B
   ·rename_i id O;split at B
    ·rename_i s pos F;split at B
     ·rename_i hm;split at B
      ·injection B with B;injection B with e1 e2;subst e2;exact BE.set F hm
      ·injection B with B;injection B with e1 e2;subst e2;exact BE.refl _ _
     ·cases B
    ·cases B
   ·cases B
 | call c =>
  obtain⟨callee,as,ts⟩:=c;cases callee with
  |value f=>simp[K0]at B
  |invoke r mth=>simp[K0]at B
  | builtin b =>
   simp only[K0]at B;split at B
   ·unfold Nk at B;split at B
    ·split at B
     ·split at B
      ·split at B
       ·unfold appendCore at B;split at B
        ·injection B with B;injection B with e1 e2;subst e2;exact BE.refl _ _
        ·split at B
         ·split at B
          ·split at B
           ·split at B
            ·injection B with B;injection B with e1 e2;subst e2;exact BE.push _ _ _
            ·split at B
             ·rename_i F;split at B
              ·rename_i I;injection B with B;injection B with e1 e2;subst e2;exact(BE.set F I.1).trans (BE.push _ _ _)
              ·cases B
             ·cases B
           ·cases B
          ·cases B
         ·cases B
       ·cases B
      ·cases B
     ·cases B
    ·cases B
   ·unfold Sq at B;split at B
    ·split at B
     ·split at B
      ·split at B
       ·split at B
        ·injection B with B;injection B with e1 e2;subst e2;exact BE.refl _ _
        ·simp only[zl,zg]at B;obtain⟨h2,hsc,_,rfl⟩:=B;exact Jp hsc
       ·split at B
        ·injection B with B;injection B with e1 e2;subst e2;exact BE.refl _ _
        ·cases B
       ·cases B
      ·cases B
     ·cases B
    ·cases B
   ·rename_i s x heq;cases C:MC P g h ts s x with
    |none=>simp[C]at B
    | some h2=>
     simp only[C,zj,zd,zg]at B;obtain⟨rfl,rfl⟩:=B;unfold MC at C;split at C
     ·cases C
     ·split at C
      ·split at C
       ·rename_i I;split at C
        ·rename_i F;split at C
         ·injection C with C;subst C;exact BE.set F I.2
         ·injection C with C;subst C;exact BE.refl _ _
         ·cases C
        ·cases C
       ·cases C
      ·cases C
   ·cases B
 |_=>simp[K0]at B
theorem Wy{G:Nat→Option (List AB)}{fr:Fr}{op:Op}{v:AB}(B:IJ P G g h fr op=some (v,h')):BE g h h':=by
 unfold IJ at B;split at B
 ·cases J:It P fr op with
  |none=>simp[J]at B
  |some x=>simp only[J,zj,zd,zg]at B;obtain⟨_,rfl⟩:=B;exact BE.refl _ _
 ·split at B
  ·simp only[zl,zg]at B;obtain⟨_,_,_,rfl⟩:=B;exact BE.refl _ _
  ·split at B
   ·simp only[zl,zg]at B;obtain⟨_,_,_,rfl⟩:=B;exact BE.refl _ _
   ·cases B
 ·cases J:Qg P fr op with
  |none=>simp[J]at B
  |some x=>simp only[J,zj,zd,zg]at B;obtain⟨_,rfl⟩:=B;exact BE.push _ _ _
 ·exact WQ B
end
section
variable {P:Program} {w0:World} {m:BD} {h:AI} {w:World}
theorem W0{G:Nat→Option (List AB)}(L:Bh G w0)(r:Rel P w0 m h w){g:Gd}{fr:Fr}{a:Act}(D:FR m fr a){o:Oper}{v:AB}{h':AI}(B:IJ P G g h fr o.op=some (v,h')):
    ∃m' n v' w',(execOp a.eval o).run P w=.ok n w'∧YF n v'∧(m.ext h.size m')∧Rel P w0 m' h' w'∧VR m' v v':=by
  unfold IJ at B;split at B
  · cases J:It P fr o.op with
    |none=>simp[J]at B
    | some x=>
      simp only[J,zj,zd,zg]at B;obtain⟨rfl,rfl⟩:=B;obtain⟨v',h1,h2⟩:=Qo (P:=P) w D J;exact⟨m,_,v',w,h1,.inl rfl,BD.ext.refl _ _,r,h2⟩
  · have key:∀ob,(Dg fr o.op).bind h.get=ob→(Kx P G fr ob o.op).map (·,h)=some (v,h')→
        ∃m' n v' w',(execOp a.eval o).run P w=.ok n w'∧YF n v'∧(m.ext h.size m')∧Rel P w0 m' h' w'∧VR m' v v':=by
      intro ob hob hm;simp only[zl,zg]at hm;obtain⟨x,J,rfl,rfl⟩:=hm;rw[←hob]at J;obtain⟨v',h1,h2⟩:=Qq L r D J;exact⟨m,_,v',w,h1,.inl rfl,BD.ext.refl _ _,r,h2⟩
    split at B
    · rename_i Q;exact key none (by rw[Q];rfl) B
    · rename_i id Q
      split at B
      · rename_i ob F;exact key (some ob) (by rw[Q];exact F) B
      · cases B
  · cases J:Qg P fr o.op with
    |none=>simp[J]at B
    | some x=>
      simp only[J,zj,zd,zg]at B;obtain⟨rfl,rfl⟩:=B;obtain⟨v',w',E,h1,t1,t2,_,t4⟩:=Qz (P:=P) w D J;have hle:=BD.OD (m:=m) E (r.fresh (zC h.size));obtain⟨q1,q2⟩:=t4 (m.upd h.size E) hle h.size (BD.Fg m _ E);exact⟨m.upd h.size E,_,v',w',h1,.inl rfl,BD.L5 m _ (by omega),r.new t1 t2 q2,q1⟩
  · exact WM r D B
theorem Rel.Mi(r:Rel P w0 m h w){m':BD}(hm:m.ext h.size m'):m.le m':=⟨fun id E H=>by rw[hm.i id (r.OX id E H)];exact H,hm.fz⟩
theorem K3.back{m m':BD}{w w':World}{E:Mb}{o:B0}(hm:m.le m')(N:K3 P m w E o)(h1:K3 P m' w' E o):K3 P (m.with m') w' E o:=by
 cases o with
 |cells gr st cs=>
  refine⟨⟨⟨h1.1.1.1,fun L=>ZM.mono (m:=m) (m':=m.with m') ⟨fun _ _ h=>h,hm.fz⟩ (N.1.1.2 L)⟩,h1.1.2⟩,fun K=>?_⟩;obtain⟨_,_,_,_,_,a3,_⟩:=N.2 K;obtain⟨cur,e,fz,b1,b2,b3,b4⟩:=h1.2 K;refine⟨cur,e,fz,b1,b2,fun j a T=>?_,b4⟩;obtain⟨_,c0,_,v0⟩:=a3 j a T;obtain⟨o1,c,hc,v1⟩:=b3 j a T;exact⟨o1,c,hc,v0.back hm v1⟩
 |map st es=>
  refine⟨h1.1,fun K=>?_⟩;obtain⟨es0,a0,en0,c0,a1,a2,a3,_⟩:=N.2 K;obtain⟨es',b0,en,clock,b1,b2,b3,b4⟩:=h1.2 K;refine⟨es',b0,en,clock,b1,b2,fun i k v e hi he=>?_,b4⟩;have hm0:(k,v)∈es0:=a0.mem.2 (b0.mem.1 (zQ hi));obtain⟨j,hj,hjv⟩:=qD.1 hm0;obtain⟨k0,v0⟩:=a3 j k v _ ((List.getElem?_eq_getElem hj).trans (congrArg some hjv)) (Array.getElem?_eq_getElem (by omega));obtain⟨k1,v1⟩:=b3 i k v e hi he;exact⟨k0.back hm k1,v0.back hm v1⟩
 |iter s pos=>exact h1
 |loop st pend f fr ps a b=>
  obtain⟨t0,d0,_,_,a2,a3⟩:=N;obtain⟨t1,d1,f1,b1,b2,b3⟩:=h1;exact⟨t1,d1,f1,b1,b2,fun i=>(a3 i).back hm (b3 i)⟩
 | chan cap buf=>
  obtain⟨_,_,_,_,a2⟩:=N;obtain⟨bs,sn,rc,b1,b2⟩:=h1
  exact⟨bs,sn,rc,b1,b2.1,fun i x y O hy=>by
   obtain⟨y0,_,k0⟩:=a2.at_ O
   exact k0.back hm (b2.2 i x y O hy)⟩
theorem Rel.back(r:Rel P w0 m h w){m':BD}{h':AI}{w':World}(hm:m.ext h.size m')(hh:∀id,id<h.size→h'.get id=h.get id)(r':Rel P w0 m' h' w'):Rel P w0 (m.with m') h w':=by
 have hle:=r.Mi hm;have up:∀{id E},m id=some E→m' id=some E:=fun h=>hle.i _ _ h;have get:∀{id E o},m id=some E→h.get id=some o→h'.get id=some o:=fun H B=>by rw[hh _ (r.OX _ _ H)];exact B
 exact⟨r'.below,r.OX,fun id E o H B=>(r.obj id E o H B).back hle (r'.obj id E o (up H) (get H B)),
  fun id E o H B=>r'.own id E o (up H) (get H B),fun id id' E E' o o' hne h1 h2 g1 g2=>r'.sep id id' E E' o o' hne (up h1) (up h2) (get h1 g1) (get h2 g2),r'.fz,fun id E o H B=>r'.JZ id E o (up H) (get H B),r'.df,fun id E o H B=>r'.PA id E o (up H) (get H B)⟩
theorem BD.Yp{m m':BD}{n:Nat}(h:m.ext n m')(k:Nat):m.ext k (m.with m'):=⟨fun _ _=>rfl,h.fz,h.df⟩
theorem Rel.later(r:Rel P w0 m h w){w':World}(I:Below w.heap.size w w'):Rel P w0 m h w':=
 ⟨r.below.trans (I.mono r.size),r.OX,fun id E o H B=>(r.obj id E o H B).mono (BD.le_refl m) fun hl=>I.block _ ((r.obj id E o H B).lt hl),r.own,r.sep,fun g o v R=>by
  obtain⟨cur,e,z,h1,h2⟩:=r.fz g o v R
  exact⟨cur,e,z,by rw[I.block g (r.Sj R)];exact h1,h2⟩,r.JZ,fun g x F=>⟨(r.df g x F).1,by rw[I.block g (r.Pf F)];exact(r.df g x F).2⟩,r.PA⟩
end
end Go.Av
