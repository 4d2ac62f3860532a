/-
 A part.
-/
import Derived.Test.YtgkbpgefomapgaaGreatDoorAvApp
set_option linter.unusedSimpArgs false
namespace Go.Av
open Go.RowKit
def CT(g:Gd)(h h':AS):Prop:=h.size<=h'.size/\∀id,id<h.size->g.may id=false->h'.get id=h.get id
theorem CT.refl(g:Gd)(h:AS):CT g h h:=⟨zo _,λ_ _ _=>rfl⟩
theorem CT.trans{g:Gd}{a b c:AS}(h:CT g a b)(k:CT g b c):CT g a c:=
 ⟨zV h.1 k.1,λid hi hm=>(k.2 id (zR hi h.1) hm).trans (h.2 id hi hm)⟩
theorem CT.weaken{g g':Gd}(F:∀id,g.may id=false->g'.may id=false){a b:AS}(h:CT g' a b):CT g a b:=⟨h.1,λid hi hm=>h.2 id hi (F id hm)⟩
theorem CT.push(g:Gd)(h:AS)(o:Dc):CT g h (h.push o):=⟨by simp,λid hi _=>h.EZ o hi⟩
theorem CT.set{g:Gd}{h:AS}{id:Nat}{o o':Dc}(B:h.get id=some o')(hm:g.may id=true):CT g h (h.set id o):=by
 refine⟨by simp,λi hi L=>h.EW o (h.D6 B) ?_⟩;rintro rfl;rw[hm]at L;cases L
section
variable {P:Program} {g:Gd} {h h':AS}
theorem Kt{id o:Nat}{new:List AE}(C:Ef g h id o new=some h'):CT g h h':=by
 unfold Ef at C;split at C
 ·rename_i F;split at C
  ·rename_i H;injection C with C;subst C;exact CT.set F H.1
  ·cases C
 ·cases C
theorem Qx{g:Gd}{h:AS}{v v':AE}{h':AS}(D:Gy g h v=some (v',h')):CT g h h':=by
 unfold Gy at D;split at D
 ·injection D with D;injection D with e1 e2;subst e2;exact CT.refl _ _
 ·rename_i id n;by_cases Q:n=0
  ·subst Q;simp only[yL,zY,zd,ze]at D;obtain⟨rfl,rfl⟩:=D;exact CT.refl _ _
  ·have:Nat.beq n 0=false:=by cases n;exact absurd rfl Q;rfl
   rw[this]at D;simp only[yf]at D;split at D
   ·rename_i gr cs F;cases hm:g.may id with
    |false=>rw[hm]at D;cases D
    |true=>
     rw[hm]at D;simp only[zY,zd,ze]at D;obtain⟨rfl,rfl⟩:=D;exact CT.set F hm
   ·simp only[zd,ze]at D;obtain⟨rfl,rfl⟩:=D;exact CT.refl _ _
   ·cases D
 ·injection D with D;injection D with e1 e2;subst e2;exact CT.refl _ _
theorem Wc{fr :Fr}{op:Op}{v:AE}(B:ML P g h fr op=some (v,h')):CT g h h':=by
 have mapk0:∀{h:AS} {t x k y},J0 P g h t x k y=some h'->CT g h h':=by
  intro h t x k y C;unfold J0 at C;split at C
  ·split at C
   ·rename_i H;split at C
    ·rename_i es F;split at C
     ·split at C
      ·split at C
       ·injection C with C;subst C;exact CT.set F H.2
       ·cases C
      ·cases C
     ·injection C with C;subst C;exact CT.set F H.2
     ·cases C
    ·cases C
   ·cases C
  ·cases C
 have mapk:∀{t x k y},Ho P g h t x k y=some h'->CT g h h':=by
  intro t x k y C;unfold Ho at C;cases K:Gy g h y with
  |none=>rw[K]at C;cases C
  |some q=>
   rw[K]at C;exact(Qx K).trans (mapk0 C)
 cases op with
 | convert s d x=>
  simp only[ML]at B;unfold VO at B;split at B
  ·rename_i e0 e id o n C hd hxx;split at B
   ·rename_i gr cs he F;cases H:(Nat.beq s d&&(g.may id&& !(Nat.beq n 0)))with
    |false=>rw[H]at B;cases B
    |true=>
     rw[H]at B;simp only[zY,zd,ze]at B;obtain⟨_,rfl⟩:=B;simp only[zj]at H;exact CT.set F H.2.1
   ·cases B
  ·cases B
 | store t x y=>
  simp only[ML]at B;split at B
  ·rename_i id o hx;cases C:MY P g h t id o (ev fr y)with
   |none=>simp[C]at B
   | some J=>
    simp only[C,zf,zd,ze]at B;obtain⟨rfl,rfl⟩:=B;unfold MY at C;split at C
    ·split at C
     ·exact Kt C
     ·cases C
    ·cases C
  ·cases B
 | mapUpdate t x k y=>
  simp only[ML]at B;cases C:Ho P g h t (ev fr x) (ev fr k) (ev fr y)with
  |none=>simp[C]at B
  |some J=>
   simp only[C,zf,zd,ze]at B;obtain⟨rfl,rfl⟩:=B;exact mapk C
 | insert t x k y=>
  simp only[ML]at B;cases C:Ho P g h t (ev fr x) (ev fr k) (ev fr y)with
  |none=>simp[C]at B
  |some J=>
   simp only[C,zf,zd,ze]at B;obtain⟨rfl,rfl⟩:=B;exact mapk C
 | next it s=>
  cases s with
  |false=>simp[ML]at B
  | true=>
   simp only[ML]at B;split at B
   ·rename_i id hx;split at B
    ·rename_i s pos F;split at B
     ·rename_i hm;split at B
      ·injection B with B;injection B with e1 e2;subst e2;exact CT.set F hm
      ·injection B with B;injection B with e1 e2;subst e2;exact CT.refl _ _
     ·cases B
    ·cases B
   ·cases B
 | call c =>
  obtain⟨callee,as,ts⟩:=c;cases callee with
  |value f=>simp[ML]at B
  |invoke r mth=>simp[ML]at B
  | builtin b =>
   simp only[ML]at B;split at B
   ·unfold N7 at B;split at B
    ·split at B
     ·split at B
      ·split at B
       ·unfold appendCore at B;split at B
        ·injection B with B;injection B with e1 e2;subst e2;exact CT.refl _ _
        ·split at B
         ·split at B
          ·split at B
           ·split at B
            ·injection B with B;injection B with e1 e2;subst e2;exact CT.push _ _ _
            ·split at B
             ·rename_i F;split at B
              ·rename_i H;injection B with B;injection B with e1 e2;subst e2;exact(CT.set F H.1).trans (CT.push _ _ _)
              ·cases B
             ·cases B
           ·cases B
          ·cases B
         ·cases B
       ·cases B
      ·cases B
     ·cases B
    ·cases B
   ·unfold VQ at B;split at B
    ·split at B
     ·split at B
      ·split at B
       ·split at B
        ·injection B with B;injection B with e1 e2;subst e2;exact CT.refl _ _
        ·simp only[zg,ze]at B;obtain⟨J,hsc,_,rfl⟩:=B;exact Kt hsc
       ·split at B
        ·injection B with B;injection B with e1 e2;subst e2;exact CT.refl _ _
        ·cases B
       ·cases B
      ·cases B
     ·cases B
    ·cases B
   ·rename_i s x heq;cases C:M4 P g h ts s x with
    |none=>simp[C]at B
    | some J=>
     simp only[C,zf,zd,ze]at B;obtain⟨rfl,rfl⟩:=B;unfold M4 at C;split at C
     ·cases C
     ·split at C
      ·split at C
       ·rename_i H;split at C
        ·rename_i F;split at C
         ·injection C with C;subst C;exact CT.set F H.2
         ·injection C with C;subst C;exact CT.refl _ _
         ·cases C
        ·cases C
       ·cases C
      ·cases C
   ·cases B
 |_=>simp[ML]at B
theorem V6{G:Nat->Option (List AE)}{fr:Fr}{op:Op}{v:AE}(B:J7 P G g h fr op=some (v,h')):CT g h h':=by
 unfold J7 at B;split at B
 ·cases I:KZ P fr op with
  |none=>simp[I]at B
  |some x=>simp only[I,zf,zd,ze]at B;obtain⟨_,rfl⟩:=B;exact CT.refl _ _
 ·split at B
  ·simp only[zg,ze]at B;obtain⟨_,_,_,rfl⟩:=B;exact CT.refl _ _
  ·split at B
   ·simp only[zg,ze]at B;obtain⟨_,_,_,rfl⟩:=B;exact CT.refl _ _
   ·cases B
 ·cases I:RC P fr op with
  |none=>simp[I]at B
  |some x=>simp only[I,zf,zd,ze]at B;obtain⟨_,rfl⟩:=B;exact CT.push _ _ _
 ·exact Wc B
end
section
variable {P:Program} {w0:World} {m:CU} {h:AS} {w:World}
theorem WH{G:Nat->Option (List AE)}(K:EF G w0)(r:Rel P w0 m h w){g:Gd}{fr:Fr}{a:Act}(D:FR m fr a){o:Oper}{v:AE}{h':AS}(B:J7 P G g h fr o.op=some (v,h')):
    ∃m' n v' w',(execOp a.eval o).run P w=.ok n w'/\X6 n v'/\(m.ext h.size m')/\Rel P w0 m' h' w'/\VR m' v v':=by
  unfold J7 at B;split at B
  · cases I:KZ P fr o.op with
    |none=>simp[I]at B
    | some x=>
      simp only[I,zf,zd,ze]at B;obtain⟨rfl,rfl⟩:=B;obtain⟨v',h1,J⟩:=SF (P:=P) w D I;exact⟨m,_,v',w,h1,.inl rfl,CU.ext.refl _ _,r,J⟩
  · have key:∀ob,(Es fr o.op).bind h.get=ob->(MJ P G fr ob o.op).map (·,h)=some (v,h')->
        ∃m' n v' w',(execOp a.eval o).run P w=.ok n w'/\X6 n v'/\(m.ext h.size m')/\Rel P w0 m' h' w'/\VR m' v v':=by
      intro ob hob hm;simp only[zg,ze]at hm;obtain⟨x,I,rfl,rfl⟩:=hm;rw[<-hob]at I;obtain⟨v',h1,J⟩:=Rr K r D I;exact⟨m,_,v',w,h1,.inl rfl,CU.ext.refl _ _,r,J⟩
    split at B
    · rename_i N;exact key none (by rw[N];rfl) B
    · rename_i id N
      split at B
      · rename_i ob F;exact key (some ob) (by rw[N];exact F) B
      · cases B
  · cases I:RC P fr o.op with
    |none=>simp[I]at B
    | some x=>
      simp only[I,zf,zd,ze]at B;obtain⟨rfl,rfl⟩:=B;obtain⟨v',w',E,h1,t1,t2,_,t4⟩:=R1 (P:=P) w D I;have hle:=CU.PG (m:=m) E (r.fresh (zo h.size));obtain⟨q1,q2⟩:=t4 (m.upd h.size E) hle h.size (CU.HC m _ E);exact⟨m.upd h.size E,_,v',w',h1,.inl rfl,CU.OK m _ (by omega),r.new t1 t2 q2,q1⟩
  · exact WT r D B
theorem Rel.VW(r:Rel P w0 m h w){m':CU}(hm:m.ext h.size m'):m.le m':=⟨λid E M=>by rw[hm.i id (r.Vt id E M)];exact M,hm.fz⟩
theorem Rel.later(r:Rel P w0 m h w){w':World}(H:Below w.heap.size w w'):Rel P w0 m h w':=
 ⟨r.below.trans (H.mono r.size),r.Vt,λid E o M B=>(r.obj id E o M B).mono (CU.le_refl m) λhl=>H.block _ ((r.obj id E o M B).lt hl),r.own,r.sep,λg o v O=>by
  obtain⟨cur,e,z,h1,J⟩:=r.fz g o v O
  exact⟨cur,e,z,by rw[H.block g (r.Vq O)];exact h1,J⟩,r.O7,λg F=>⟨(r.df g F).1,by rw[H.block g (r.R6 F)];exact(r.df g F).2⟩,r.WW⟩
end
end Go.Av
