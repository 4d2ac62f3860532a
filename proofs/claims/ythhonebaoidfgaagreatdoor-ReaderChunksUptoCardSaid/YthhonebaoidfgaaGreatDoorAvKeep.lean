/-
 A part.
-/
import Derived.Test.YthhonebaoidfgaaGreatDoorAvApp
set_option linter.unusedSimpArgs false
namespace Go.Av
open Go.RowKit
def Bh(g:Gd)(h h':AF):Prop:=h.size<=h'.size/\∀id,id<h.size->g.may id=false->h'.get id=h.get id
theorem Bh.refl(g:Gd)(h:AF):Bh g h h:=⟨zw _,λ_ _ _=>rfl⟩
theorem Bh.trans{g:Gd}{a b c:AF}(h:Bh g a b)(k:Bh g b c):Bh g a c:=
 ⟨z8 h.1 k.1,λid hi hm=>(k.2 id (zX hi h.1) hm).trans (h.2 id hi hm)⟩
theorem Bh.weaken{g g':Gd}(F:∀id,g.may id=false->g'.may id=false){a b:AF}(h:Bh g' a b):Bh g a b:=⟨h.1,λid hi hm=>h.2 id hi (F id hm)⟩
theorem Bh.push(g:Gd)(h:AF)(o:Cs):Bh g h (h.push o):=⟨by simp,λid hi _=>h.Ci o hi⟩
theorem Bh.set{g:Gd}{h:AF}{id:Nat}{o o':Cs}(B:h.get id=some o')(hm:g.may id=true):Bh g h (h.set id o):=by
 refine⟨by simp,λi hi M=>h.CN o (h.CA B) ?_⟩;rintro rfl;rw[hm]at M;cases M
section
variable {P:Program} {g:Gd} {h h':AF}
theorem K9{id o:Nat}{new:List AD}(C:EK g h id o new=some h'):Bh g h h':=by
 unfold EK at C;split at C
 ·rename_i F;split at C
  ·rename_i I;injection C with C;subst C;exact Bh.set F I.1
  ·cases C
 ·cases C
theorem TF{g:Gd}{h:AF}{v v':AD}{h':AF}(D:KG g h v=some (v',h')):Bh g h h':=by
 unfold KG at D;split at D
 ·injection D with D;injection D with e1 e2;subst e2;exact Bh.refl _ _
 ·rename_i id n;by_cases R:n=0
  ·subst R;simp only[yl,zL,zb,ze]at D;obtain⟨rfl,rfl⟩:=D;exact Bh.refl _ _
  ·have:Nat.beq n 0=false:=by cases n;exact absurd rfl R;rfl
   rw[this]at D;simp only[yO]at D;split at D
   ·rename_i gr cs F;cases hm:g.may id with
    |false=>rw[hm]at D;cases D
    |true=>
     rw[hm]at D;simp only[zL,zb,ze]at D;obtain⟨rfl,rfl⟩:=D;exact Bh.set F hm
   ·simp only[zb,ze]at D;obtain⟨rfl,rfl⟩:=D;exact Bh.refl _ _
   ·cases D
 ·injection D with D;injection D with e1 e2;subst e2;exact Bh.refl _ _
theorem Zc{fr :Fr}{op:Op}{v:AD}(B:M0 P g h fr op=some (v,h')):Bh g h h':=by
 have mapk0:∀{h:AF} {t x k y},J8 P g h t x k y=some h'->Bh g h h':=by
  intro h t x k y C;unfold J8 at C;split at C
  ·split at C
   ·rename_i I;split at C
    ·rename_i es F;split at C
     ·split at C
      ·split at C
       ·injection C with C;subst C;exact Bh.set F I.2
       ·cases C
      ·cases C
     ·injection C with C;subst C;exact Bh.set F I.2
     ·cases C
    ·cases C
   ·cases C
  ·cases C
 have mapk:∀{t x k y},Ho P g h t x k y=some h'->Bh g h h':=by
  intro t x k y C;unfold Ho at C;cases L:KG g h y with
  |none=>rw[L]at C;cases C
  |some q=>
   rw[L]at C;exact(TF L).trans (mapk0 C)
 cases op with
 | convert s d x=>
  simp only[M0]at B;unfold Qy at B;split at B
  ·rename_i e0 e id o n C hd hxx;split at B
   ·rename_i gr cs he F;cases I:(Nat.beq s d&&(g.may id&& !(Nat.beq n 0)))with
    |false=>rw[I]at B;cases B
    |true=>
     rw[I]at B;simp only[zL,zb,ze]at B;obtain⟨_,rfl⟩:=B;simp only[zf]at I;exact Bh.set F I.2.1
   ·cases B
  ·cases B
 | store t x y=>
  simp only[M0]at B;split at B
  ·rename_i id o N;cases C:N1 P g h t id o (ev fr y)with
   |none=>simp[C]at B
   | some h2=>
    simp only[C,zh,zb,ze]at B;obtain⟨rfl,rfl⟩:=B;unfold N1 at C;split at C
    ·split at C
     ·exact K9 C
     ·cases C
    ·cases C
  ·cases B
 | mapUpdate t x k y=>
  simp only[M0]at B;cases C:Ho P g h t (ev fr x) (ev fr k) (ev fr y)with
  |none=>simp[C]at B
  |some h2=>
   simp only[C,zh,zb,ze]at B;obtain⟨rfl,rfl⟩:=B;exact mapk C
 | insert t x k y=>
  simp only[M0]at B;cases C:Ho P g h t (ev fr x) (ev fr k) (ev fr y)with
  |none=>simp[C]at B
  |some h2=>
   simp only[C,zh,zb,ze]at B;obtain⟨rfl,rfl⟩:=B;exact mapk C
 | next it s=>
  cases s with
  |false=>simp[M0]at B
  | true=>
   simp only[M0]at B;split at B
   ·rename_i id N;split at B
    ·rename_i s pos F;split at B
     ·rename_i hm;split at B
      ·injection B with B;injection B with e1 e2;subst e2;exact Bh.set F hm
      ·injection B with B;injection B with e1 e2;subst e2;exact Bh.refl _ _
     ·cases B
    ·cases B
   ·cases B
 | call c =>
  obtain⟨callee,asE9,ts⟩:=c;cases callee with
  |value f=>simp[M0]at B
  |invoke r mth=>simp[M0]at B
  | builtin b =>
   simp only[M0]at B;split at B
   ·unfold Pn at B;split at B
    ·split at B
     ·split at B
      ·split at B
       ·unfold appendCore at B;split at B
        ·injection B with B;injection B with e1 e2;subst e2;exact Bh.refl _ _
        ·split at B
         ·split at B
          ·split at B
           ·split at B
            ·injection B with B;injection B with e1 e2;subst e2;exact Bh.push _ _ _
            ·split at B
             ·rename_i F;split at B
              ·rename_i I;injection B with B;injection B with e1 e2;subst e2;exact(Bh.set F I.1).trans (Bh.push _ _ _)
              ·cases B
             ·cases B
           ·cases B
          ·cases B
         ·cases B
       ·cases B
      ·cases B
     ·cases B
    ·cases B
   ·unfold YQ at B;split at B
    ·split at B
     ·split at B
      ·split at B
       ·split at B
        ·injection B with B;injection B with e1 e2;subst e2;exact Bh.refl _ _
        ·simp only[zk,ze]at B;obtain⟨h2,hsc,_,rfl⟩:=B;exact K9 hsc
       ·split at B
        ·injection B with B;injection B with e1 e2;subst e2;exact Bh.refl _ _
        ·cases B
       ·cases B
      ·cases B
     ·cases B
    ·cases B
   ·rename_i s x heq;cases C:N3 P g h ts s x with
    |none=>simp[C]at B
    | some h2=>
     simp only[C,zh,zb,ze]at B;obtain⟨rfl,rfl⟩:=B;unfold N3 at C;split at C
     ·cases C
     ·split at C
      ·split at C
       ·rename_i I;split at C
        ·rename_i F;split at C
         ·injection C with C;subst C;exact Bh.set F I.2
         ·injection C with C;subst C;exact Bh.refl _ _
         ·cases C
        ·cases C
       ·cases C
      ·cases C
   ·cases B
 |_=>simp[M0]at B
theorem aI{G:Nat->Option (List AD)}{fr:Fr}{op:Op}{v:AD}(B:Jl P G g h fr op=some (v,h')):Bh g h h':=by
 unfold Jl at B;split at B
 ·cases J:Ku P fr op with
  |none=>simp[J]at B
  |some x=>simp only[J,zh,zb,ze]at B;obtain⟨_,rfl⟩:=B;exact Bh.refl _ _
 ·split at B
  ·simp only[zk,ze]at B;obtain⟨_,_,_,rfl⟩:=B;exact Bh.refl _ _
  ·split at B
   ·simp only[zk,ze]at B;obtain⟨_,_,_,rfl⟩:=B;exact Bh.refl _ _
   ·cases B
 ·cases J:TH P fr op with
  |none=>simp[J]at B
  |some x=>simp only[J,zh,zb,ze]at B;obtain⟨_,rfl⟩:=B;exact Bh.push _ _ _
 ·exact Zc B
end
section
variable {P:Program} {w0:World} {m:Bk} {h:AF} {w:World}
theorem Zy{G:Nat->Option (List AD)}(L:CH G w0)(r:Rel P w0 m h w){g:Gd}{fr:Fr}{a:Act}(D:FR m fr a){o:Oper}{v:AD}{h':AF}(B:Jl P G g h fr o.op=some (v,h')):
    ∃m' n v' w',(execOp a.eval o).run P w=.ok n w'/\ao n v'/\(m.ext h.size m')/\Rel P w0 m' h' w'/\VR m' v v':=by
  unfold Jl at B;split at B
  · cases J:Ku P fr o.op with
    |none=>simp[J]at B
    | some x=>
      simp only[J,zh,zb,ze]at B;obtain⟨rfl,rfl⟩:=B;obtain⟨v',h1,h2⟩:=T0 (P:=P) w D J;exact⟨m,_,v',w,h1,.inl rfl,Bk.ext.refl _ _,r,h2⟩
  · have key:∀ob,(EN fr o.op).bind h.get=ob->(Mh P G fr ob o.op).map (·,h)=some (v,h')->
        ∃m' n v' w',(execOp a.eval o).run P w=.ok n w'/\ao n v'/\(m.ext h.size m')/\Rel P w0 m' h' w'/\VR m' v v':=by
      intro ob hob hm;simp only[zk,ze]at hm;obtain⟨x,J,rfl,rfl⟩:=hm;rw[<-hob]at J;obtain⟨v',h1,h2⟩:=UR L r D J;exact⟨m,_,v',w,h1,.inl rfl,Bk.ext.refl _ _,r,h2⟩
    split at B
    · rename_i O;exact key none (by rw[O];rfl) B
    · rename_i id O
      split at B
      · rename_i ob F;exact key (some ob) (by rw[O];exact F) B
      · cases B
  · cases J:TH P fr o.op with
    |none=>simp[J]at B
    | some x=>
      simp only[J,zh,zb,ze]at B;obtain⟨rfl,rfl⟩:=B;obtain⟨v',w',E,h1,t1,t2,_,t4⟩:=UI (P:=P) w D J;have hle:=Bk.O2 (m:=m) E (r.fresh (zw h.size));obtain⟨q1,q2⟩:=t4 (m.upd h.size E) hle h.size (Bk.Gp m _ E);exact⟨m.upd h.size E,_,v',w',h1,.inl rfl,Bk.MC m _ om,r.new t1 t2 q2,q1⟩
  · exact ZK r D B
theorem Rel.Oi(r:Rel P w0 m h w){m':Bk}(hm:m.ext h.size m'):m.le m':=⟨λid E H=>by rw[hm.i id (r.Q2 id E H)];exact H,hm.fz⟩
theorem MW.back{m m':Bk}{w w':World}{E:OR}{o:Cs}(hm:m.le m')(h0:MW P m w E o)(h1:MW P m' w' E o):MW P (m.with m') w' E o:=by
 cases o with
 |cells gr st cs=>
  refine⟨⟨⟨h1.1.1.1,λL=>dq.mono (m:=m) (m':=m.with m') ⟨λ_ _ h=>h,hm.fz⟩ (h0.1.1.2 L)⟩,h1.1.2⟩,λK=>?_⟩;obtain⟨_,_,_,_,_,a3,_⟩:=h0.2 K;obtain⟨cur,e,fz,b1,b2,b3,b4⟩:=h1.2 K;refine⟨cur,e,fz,b1,b2,λj a S=>?_,b4⟩;obtain⟨_,c0,_,v0⟩:=a3 j a S;obtain⟨o1,c,hc,v1⟩:=b3 j a S;exact⟨o1,c,hc,v0.back hm v1⟩
 |map st es=>
  refine⟨h1.1,λK=>?_⟩;obtain⟨es0,a0,en0,c0,a1,a2,a3,_⟩:=h0.2 K;obtain⟨es',b0,en,clock,b1,b2,b3,b4⟩:=h1.2 K;refine⟨es',b0,en,clock,b1,b2,λi k v e hi he=>?_,b4⟩;have hm0:(k,v)∈es0:=a0.mem.2 (b0.mem.1 (zN hi));obtain⟨j,hj,hjv⟩:=qz.1 hm0;obtain⟨k0,v0⟩:=a3 j k v _ ((List.getElem?_eq_getElem hj).trans (congrArg some hjv)) (Array.getElem?_eq_getElem om);obtain⟨k1,v1⟩:=b3 i k v e hi he;exact⟨k0.back hm k1,v0.back hm v1⟩
 |iter s pos=>exact h1
 |loop st pend f fr ps a b=>
  obtain⟨t0,d0,_,_,a2,a3⟩:=h0;obtain⟨t1,d1,f1,b1,b2,b3⟩:=h1;exact⟨t1,d1,f1,b1,b2,λi=>(a3 i).back hm (b3 i)⟩
 | chan cap buf=>
  obtain⟨_,_,_,_,a2⟩:=h0;obtain⟨bs,sn,rc,b1,b2⟩:=h1
  exact⟨bs,sn,rc,b1,b2.1,λi x y N hy=>by
   obtain⟨y0,_,k0⟩:=a2.at_ N
   exact k0.back hm (b2.2 i x y N hy)⟩
theorem Rel.back(r:Rel P w0 m h w){m':Bk}{h':AF}{w':World}(hm:m.ext h.size m')(hh:∀id,id<h.size->h'.get id=h.get id)(r':Rel P w0 m' h' w'):Rel P w0 (m.with m') h w':=by
 have hle:=r.Oi hm;have up:∀{id E},m id=some E->m' id=some E:=λh=>hle.i _ _ h;have get:∀{id E o},m id=some E->h.get id=some o->h'.get id=some o:=λH B=>by rw[hh _ (r.Q2 _ _ H)];exact B
 exact⟨r'.below,r.Q2,λid E o H B=>(r.obj id E o H B).back hle (r'.obj id E o (up H) (get H B)),
  λid E o H B=>r'.own id E o (up H) (get H B),λid id' E E' o o' hne h1 h2 g1 g2=>r'.sep id id' E E' o o' hne (up h1) (up h2) (get h1 g1) (get h2 g2),r'.fz,λid E o H B=>r'.K1 id E o (up H) (get H B),r'.df,λid E o H B=>r'.Re id E o (up H) (get H B)⟩
theorem Bk.aW{m m':Bk}{n:Nat}(h:m.ext n m')(k:Nat):m.ext k (m.with m'):=⟨λ_ _=>rfl,h.fz,h.df⟩
theorem Rel.later(r:Rel P w0 m h w){w':World}(I:Below w.heap.size w w'):Rel P w0 m h w':=
 ⟨r.below.trans (I.mono r.size),r.Q2,λid E o H B=>(r.obj id E o H B).mono (Bk.le_refl m) λhl=>I.block _ ((r.obj id E o H B).lt hl),r.own,r.sep,λg o v Q=>by
  obtain⟨cur,e,z,h1,h2⟩:=r.fz g o v Q
  exact⟨cur,e,z,by rw[I.block g (r.WL Q)];exact h1,h2⟩,r.K1,λg x F=>⟨(r.df g x F).1,by rw[I.block g (r.RB F)];exact(r.df g x F).2⟩,r.Re⟩
end
end Go.Av
