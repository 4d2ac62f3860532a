/-
 A part.
-/
import Derived.Test.YtfgmnhjedmkpeaaAbsApp
set_option linter.unusedSimpArgs false
namespace Go.Abs
open Go.RowKit
def Af(g:Gd)(h h':AB):Prop:=h.size<=h'.size/\∀id,id<h.size->g.may id=false->h'.get id=h.get id
theorem Af.refl(g:Gd)(h:AB):Af g h h:=⟨xe _,λ_ _ _=>rfl⟩
theorem Af.trans{g:Gd}{a b c:AB}(h:Af g a b)(k:Af g b c):Af g a c:=
 ⟨xq h.1 k.1,λid I hm=>(k.2 id (xi I h.1) hm).trans (h.2 id I hm)⟩
theorem Af.weaken{g g':Gd}(F:∀id,g.may id=false->g'.may id=false){a b:AB}(h:Af g' a b):Af g a b:=⟨h.1,λid I hm=>h.2 id I (F id hm)⟩
theorem Af.push(g:Gd)(h:AB)(o:Ay):Af g h (h.push o):=⟨by simp,λid I _=>h.Bp o I⟩
theorem Af.set{g:Gd}{h:AB}{id:Nat}{o o':Ay}(B:h.get id=some o')(hm:g.may id=true):Af g h (h.set id o):=by
 refine⟨by simp,λi I L=>h.Bw o (h.Ar B) ?_⟩;rintro rfl;rw[hm]at L;cases L
section
variable {P:Program} {g:Gd} {h h':AB}
theorem Ei{id o:Nat}{new:List AA}(C:BN g h id o new=some h'):Af g h h':=by
 unfold BN at C;split at C
 ·rename_i F;split at C
  ·rename_i J;injection C with C;subst C;exact Af.set F J.1
  ·cases C
 ·cases C
theorem Lz{fr :Fr}{op:Op}{v:AA}(B:GF P g h fr op=some (v,h')):Af g h h':=by
 have mapk:∀{t x k y},FJ P g h t x k y=some h'->Af g h h':=by
  intro t x k y C;unfold FJ at C;split at C
  ·split at C
   ·rename_i J;split at C
    ·rename_i es F;split at C
     ·split at C
      ·split at C
       ·injection C with C;subst C;exact Af.set F J.2
       ·cases C
      ·cases C
     ·injection C with C;subst C;exact Af.set F J.2
     ·cases C
    ·cases C
   ·cases C
  ·cases C
 cases op with
 | store t x y=>
  simp only[GF]at B;split at B
  ·rename_i id o hx;cases C:FL P g h t id o (ev fr y)with
   |none=>simp[C]at B
   | some K=>
    simp only[C,qZ,qV,qY]at B;obtain⟨rfl,rfl⟩:=B;unfold FL at C;split at C
    ·split at C
     ·exact Ei C
     ·cases C
    ·cases C
  ·cases B
 | mapUpdate t x k y=>
  simp only[GF]at B;cases C:FJ P g h t (ev fr x) (ev fr k) (ev fr y)with
  |none=>simp[C]at B
  |some K=>
   simp only[C,qZ,qV,qY]at B;obtain⟨rfl,rfl⟩:=B;exact mapk C
 | insert t x k y=>
  simp only[GF]at B;cases C:FJ P g h t (ev fr x) (ev fr k) (ev fr y)with
  |none=>simp[C]at B
  |some K=>
   simp only[C,qZ,qV,qY]at B;obtain⟨rfl,rfl⟩:=B;exact mapk C
 | next it s=>
  cases s with
  |false=>simp[GF]at B
  | true=>
   simp only[GF]at B;split at B
   ·rename_i id hx;split at B
    ·rename_i s pos F;split at B
     ·rename_i hm;split at B
      ·injection B with B;injection B with e1 e2;subst e2;exact Af.set F hm
      ·injection B with B;injection B with e1 e2;subst e2;exact Af.refl _ _
     ·cases B
    ·cases B
   ·cases B
 | call c =>
  obtain⟨callee,asE9,ts⟩:=c;cases callee with
  |value f=>simp[GF]at B
  |invoke r mth=>simp[GF]at B
  | builtin b =>
   simp only[GF]at B;split at B
   ·unfold GM at B;split at B
    ·split at B
     ·split at B
      ·split at B
       ·unfold appendCore at B;split at B
        ·injection B with B;injection B with e1 e2;subst e2;exact Af.refl _ _
        ·split at B
         ·split at B
          ·split at B
           ·split at B
            ·injection B with B;injection B with e1 e2;subst e2;exact Af.push _ _ _
            ·split at B
             ·rename_i F;split at B
              ·rename_i J;injection B with B;injection B with e1 e2;subst e2;exact(Af.set F J.1).trans (Af.push _ _ _)
              ·cases B
             ·cases B
           ·cases B
          ·cases B
         ·cases B
       ·cases B
      ·cases B
     ·cases B
    ·cases B
   ·unfold J3 at B;split at B
    ·split at B
     ·split at B
      ·split at B
       ·split at B
        ·injection B with B;injection B with e1 e2;subst e2;exact Af.refl _ _
        ·simp only[xa,qY]at B;obtain⟨K,hsc,_,rfl⟩:=B;exact Ei hsc
       ·split at B
        ·injection B with B;injection B with e1 e2;subst e2;exact Af.refl _ _
        ·cases B
       ·cases B
      ·cases B
     ·cases B
    ·cases B
   ·rename_i s x heq;cases C:Fj P g h ts s x with
    |none=>simp[C]at B
    | some K=>
     simp only[C,qZ,qV,qY]at B;obtain⟨rfl,rfl⟩:=B;unfold Fj at C;split at C
     ·cases C
     ·split at C
      ·split at C
       ·rename_i J;split at C
        ·rename_i F;split at C
         ·injection C with C;subst C;exact Af.set F J.2
         ·injection C with C;subst C;exact Af.refl _ _
         ·cases C
        ·cases C
       ·cases C
      ·cases C
   ·cases B
 |_=>simp[GF]at B
theorem MF{G:Nat->Option (List AA)}{fr:Fr}{op:Op}{v:AA}(B:Fp P G g h fr op=some (v,h')):Af g h h':=by
 unfold Fp at B;split at B
 ·cases D:FA P fr op with
  |none=>simp[D]at B
  |some x=>simp only[D,qZ,qV,qY]at B;obtain⟨_,rfl⟩:=B;exact Af.refl _ _
 ·split at B
  ·simp only[xa,qY]at B;obtain⟨_,_,_,rfl⟩:=B;exact Af.refl _ _
  ·split at B
   ·simp only[xa,qY]at B;obtain⟨_,_,_,rfl⟩:=B;exact Af.refl _ _
   ·cases B
 ·cases D:Ii P fr op with
  |none=>simp[D]at B
  |some x=>simp only[D,qZ,qV,qY]at B;obtain⟨_,rfl⟩:=B;exact Af.push _ _ _
 ·exact Lz B
end
section
variable {P:Program} {w0:World} {m:Aj} {h:AB} {w:World}
theorem L4{G:Nat->Option (List AA)}(hz:Bk G w0)(r:Rel P w0 m h w){g:Gd}{fr:Fr}{a:Act}(M:FR m fr a){o:Oper}{v:AA}{h':AB}(B:Fp P G g h fr o.op=some (v,h')):
    ∃m' n v' w',(execOp a.eval o).run P w=.ok n w'/\Nh n v'/\(∀id,id<h.size->m' id=m id)/\Rel P w0 m' h' w'/\VR m' v v':=by
  unfold Fp at B;split at B
  · cases D:FA P fr o.op with
    |none=>simp[D]at B
    | some x=>
      simp only[D,qZ,qV,qY]at B;obtain⟨rfl,rfl⟩:=B;obtain⟨v',h1,K⟩:=JP (P:=P) w M D;exact⟨m,_,v',w,h1,.inl rfl,λ_ _=>rfl,r,K⟩
  · have key:∀ob,(B1 fr o.op).bind h.get=ob->(Gh P G fr ob o.op).map (·,h)=some (v,h')->
        ∃m' n v' w',(execOp a.eval o).run P w=.ok n w'/\Nh n v'/\(∀id,id<h.size->m' id=m id)/\Rel P w0 m' h' w'/\VR m' v v':=by
      intro ob hob hm;simp only[xa,qY]at hm;obtain⟨x,D,rfl,rfl⟩:=hm;rw[<-hob]at D;obtain⟨v',h1,K⟩:=JI hz r M D;exact⟨m,_,v',w,h1,.inl rfl,λ_ _=>rfl,r,K⟩
    split at B
    · rename_i N;exact key none (by rw[N];rfl) B
    · rename_i id N
      split at B
      · rename_i ob F;exact key (some ob) (by rw[N];exact F) B
      · cases B
  · cases D:Ii P fr o.op with
    |none=>simp[D]at B
    | some x=>
      simp only[D,qZ,qV,qY]at B;obtain⟨rfl,rfl⟩:=B;obtain⟨v',w',E,h1,t1,t2,_,t4⟩:=JC (P:=P) w M D;have hle:=Aj.Gl (m:=m) E (r.fresh (xe h.size));obtain⟨q1,q2⟩:=t4 (m.upd h.size E) hle h.size (Aj.CR m _ E);exact⟨m.upd h.size E,_,v',w',h1,.inl rfl,λid hid=>Aj.HG m E (by omega),r.new t1 t2 q2,q1⟩
  · exact L8 r M B
theorem Rel.Kn(r:Rel P w0 m h w){m':Aj}(hm:∀id,id<h.size->m' id=m id):m.le m':=λid E hE=>by rw[hm id (r.Kg id E hE)];exact hE
theorem F3.back{m m':Aj}{w w':World}{E:Gg}{o:Ay}(hm:m.le m')(Q:F3 P m w E o)(h1:F3 P m' w' E o):F3 P m w' E o:=by
 cases o with
 |cells gr st cs=>
  refine⟨h1.1,λH=>?_⟩;obtain⟨_,_,_,_,_,a3,_⟩:=Q.2 H;obtain⟨cur,e,fz,b1,b2,b3,b4⟩:=h1.2 H;refine⟨cur,e,fz,b1,b2,λj a O=>?_,b4⟩;obtain⟨_,c0,_,v0⟩:=a3 j a O;obtain⟨o1,c,hc,v1⟩:=b3 j a O;exact⟨o1,c,hc,v0.back hm v1⟩
 |map st es=>
  refine⟨h1.1,λH=>?_⟩;obtain⟨en0,_,_,a2,a3⟩:=Q.2 H;obtain⟨en,clock,b1,b2,b3⟩:=h1.2 H;refine⟨en,clock,b1,b2,λi k v e I he=>?_⟩;have hlt:i<en0.size:=by rw[<-a2];exact(List.getElem?_eq_some_iff.1 I).1
  obtain⟨k0,v0⟩:=a3 i k v _ I (Array.getElem?_eq_getElem hlt);obtain⟨k1,v1⟩:=b3 i k v e I he;exact⟨k0.back hm k1,v0.back hm v1⟩
 |iter s pos=>exact h1
theorem Rel.back(r:Rel P w0 m h w){m':Aj}{h':AB}{w':World}(hm:∀id,id<h.size->m' id=m id)(hh:∀id,id<h.size->h'.get id=h.get id)(r':Rel P w0 m' h' w'):Rel P w0 m h w':=by
 have hle:=r.Kn hm;have up:∀{id E},m id=some E->m' id=some E:=λh=>hle _ _ h;have get:∀{id E o},m id=some E->h.get id=some o->h'.get id=some o:=λhE B=>by rw[hh _ (r.Kg _ _ hE)];exact B
 exact⟨r'.below,r.Kg,λid E o hE B=>(r.obj id E o hE B).back hle (r'.obj id E o (up hE) (get hE B)),
  λid E o hE B=>r'.own id E o (up hE) (get hE B),λid id' E E' o o' hne h1 K g1 g2=>r'.sep id id' E E' o o' hne (up h1) (up K) (get h1 g1) (get K g2)⟩
theorem Rel.later(r:Rel P w0 m h w){w':World}(J:Below w.heap.size w w'):Rel P w0 m h w':=
 ⟨r.below.trans (J.mono r.size),r.Kg,λid E o hE B=>(r.obj id E o hE B).mono (Aj.le_refl m) λhl=>J.block _ ((r.obj id E o hE B).lt hl),r.own,r.sep⟩
end
end Go.Abs
