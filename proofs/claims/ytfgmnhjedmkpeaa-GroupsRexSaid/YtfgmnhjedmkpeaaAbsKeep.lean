/-
 A part.
-/
import Derived.Test.YtfgmnhjedmkpeaaAbsApp
set_option linter.unusedSimpArgs false
namespace Go.Abs
open Go.RowKit
def BT(g:Gd)(h h':AE):Prop:=h.size<=h'.size/\∀id,id<h.size->g.may id=false->h'.get id=h.get id
theorem BT.refl(g:Gd)(h:AE):BT g h h:=⟨xb _,λ_ _ _=>rfl⟩
theorem BT.trans{g:Gd}{a b c:AE}(h:BT g a b)(k:BT g b c):BT g a c:=
 ⟨xn h.1 k.1,λid hi hm=>(k.2 id (xe hi h.1) hm).trans (h.2 id hi hm)⟩
theorem BT.weaken{g g':Gd}(J:∀id,g.may id=false->g'.may id=false){a b:AE}(h:BT g' a b):BT g a b:=⟨h.1,λid hi hm=>h.2 id hi (J id hm)⟩
theorem BT.push(g:Gd)(h:AE)(o:Br):BT g h (h.push o):=⟨by simp,λid hi _=>h.Cc o hi⟩
theorem BT.set{g:Gd}{h:AE}{id:Nat}{o o':Br}(B:h.get id=some o')(hm:g.may id=true):BT g h (h.set id o):=by
 refine⟨by simp,λi hi I=>h.Cj o (h.BZ B) ?_⟩;rintro rfl;rw[hm]at I;cases I
section
variable {P:Program} {g:Gd} {h h':AE}
theorem Fo{id o:Nat}{new:List AD}(C:By g h id o new=some h'):BT g h h':=by
 unfold By at C;split at C
 ·rename_i J;split at C
  ·rename_i L;injection C with C;subst C;exact BT.set J L.1
  ·cases C
 ·cases C
theorem OO{fr:Fr}{op:Op}{v:AD}(B:Ib P g h fr op=some (v,h')):BT g h h':=by
 cases op with
 | store t x y=>
  simp only[Ib]at B;split at B
  ·rename_i id o hx;cases C:HA P g h t id o (ev fr y)with
   |none=>simp[C]at B
   | some H=>
    simp only[C,q8,qU,qW]at B;obtain⟨rfl,rfl⟩:=B;unfold HA at C;split at C
    ·split at C
     ·exact Fo C
     ·cases C
    ·cases C
  ·cases B
 | call c=>
  obtain⟨callee,asE9,ts⟩:=c;cases callee with
  |value f=>simp[Ib]at B
  |invoke r mth=>simp[Ib]at B
  | builtin b=>
   simp only[Ib]at B;split at B
   ·unfold Mo at B;split at B
    ·split at B
     ·split at B
      ·split at B
       ·split at B
        ·injection B with B;injection B with e1 e2;subst e2;exact BT.refl _ _
        ·simp only[qX,qW]at B;obtain⟨H,hsc,_,rfl⟩:=B;exact Fo hsc
       ·split at B
        ·injection B with B;injection B with e1 e2;subst e2;exact BT.refl _ _
        ·cases B
       ·cases B
      ·cases B
     ·cases B
    ·cases B
   ·cases B
 |_=>simp[Ib]at B
theorem OV{G:Nat->Option (List AD)}{fr:Fr}{op:Op}{v:AD}(B:Gn P G g h fr op=some (v,h')):BT g h h':=by
 unfold Gn at B;split at B
 ·cases D:Gj P fr op with
  |none=>simp[D]at B
  |some x=>simp only[D,q8,qU,qW]at B;obtain⟨_,rfl⟩:=B;exact BT.refl _ _
 ·split at B
  ·simp only[qX,qW]at B;obtain⟨_,_,_,rfl⟩:=B;exact BT.refl _ _
  ·split at B
   ·simp only[qX,qW]at B;obtain⟨_,_,_,rfl⟩:=B;exact BT.refl _ _
   ·cases B
 ·cases D:L1 P fr op with
  |none=>simp[D]at B
  |some x=>simp only[D,q8,qU,qW]at B;obtain⟨_,rfl⟩:=B;exact BT.push _ _ _
 ·exact OO B
end
section
variable {P:Program} {w0:World} {m:BU} {h:AE} {w:World}
theorem OL{G:Nat->Option (List AD)}(hz:CL G w0)(r:Rel P w0 m h w){g:Gd}{fr:Fr}{a:Act}(K:FR m fr a){o:Oper}{v:AD}{h':AE}(B:Gn P G g h fr o.op=some (v,h')):
    ∃m' n v' w',(execOp a.eval o).run P w=.ok n w'/\O5 n v'/\(∀id,id<h.size->m' id=m id)/\Rel P w0 m' h' w'/\VR m' v v':=by
  unfold Gn at B;split at B
  · cases D:Gj P fr o.op with
    |none=>simp[D]at B
    | some x=>
      simp only[D,q8,qU,qW]at B;obtain⟨rfl,rfl⟩:=B;obtain⟨v',h1,H⟩:=Kn (P:=P) w K D;exact⟨m,_,v',w,h1,.inl rfl,λ_ _=>rfl,r,H⟩
  · have key:∀ob,(Cm fr o.op).bind h.get=ob->(Iq P G fr ob o.op).map (·,h)=some (v,h')->
        ∃m' n v' w',(execOp a.eval o).run P w=.ok n w'/\O5 n v'/\(∀id,id<h.size->m' id=m id)/\Rel P w0 m' h' w'/\VR m' v v':=by
      intro ob hob hm;simp only[qX,qW]at hm;obtain⟨x,D,rfl,rfl⟩:=hm;rw[<-hob]at D;obtain⟨v',h1,H⟩:=K5 hz r K D;exact⟨m,_,v',w,h1,.inl rfl,λ_ _=>rfl,r,H⟩
    split at B
    · rename_i M;exact key none (by rw[M];rfl) B
    · rename_i id M
      split at B
      · rename_i ob J;exact key (some ob) (by rw[M];exact J) B
      · cases B
  · cases D:L1 P fr o.op with
    |none=>simp[D]at B
    | some x=>
      simp only[D,q8,qU,qW]at B;obtain⟨rfl,rfl⟩:=B;obtain⟨v',w',E,h1,t1,t2,_,t4⟩:=K2 (P:=P) w K D;have hle:=BU.LL (m:=m) E (r.fresh (xb h.size));obtain⟨q1,q2⟩:=t4 (m.upd h.size E) hle h.size (BU.D8 m _ E);exact⟨m.upd h.size E,_,v',w',h1,.inl rfl,λid hid=>BU.KY m E (by omega),r.new t1 t2 q2,q1⟩
  · exact ON r K B
theorem Rel.Oi(r:Rel P w0 m h w){m':BU}(hm:∀id,id<h.size->m' id=m id):m.le m':=λid E hE=>by rw[hm id (r.On id E hE)];exact hE
theorem IV.back{m m':BU}{w w':World}{E:Ii}{o:Br}(hm:m.le m')(O:IV P m w E o)(h1:IV P m' w' E o):IV P m w' E o:=by
 cases o with
 |cells gr st cs=>
  refine⟨h1.1,λF=>?_⟩;obtain⟨_,_,_,_,_,a3,_⟩:=O.2 F;obtain⟨cur,e,fz,b1,b2,b3,b4⟩:=h1.2 F;refine⟨cur,e,fz,b1,b2,λj a N=>?_,b4⟩;obtain⟨_,c0,_,v0⟩:=a3 j a N;obtain⟨o1,c,hc,v1⟩:=b3 j a N;exact⟨o1,c,hc,v0.back hm v1⟩
 |map st es=>
  refine⟨h1.1,λF=>?_⟩;obtain⟨en0,_,_,a2,a3⟩:=O.2 F;obtain⟨en,clock,b1,b2,b3⟩:=h1.2 F;refine⟨en,clock,b1,b2,λi k v e hi he=>?_⟩;have hlt:i<en0.size:=by rw[<-a2];exact(List.getElem?_eq_some_iff.1 hi).1
  obtain⟨k0,v0⟩:=a3 i k v _ hi (Array.getElem?_eq_getElem hlt);obtain⟨k1,v1⟩:=b3 i k v e hi he;exact⟨k0.back hm k1,v0.back hm v1⟩
 |iter s pos=>exact h1
theorem Rel.back(r:Rel P w0 m h w){m':BU}{h':AE}{w':World}(hm:∀id,id<h.size->m' id=m id)(hh:∀id,id<h.size->h'.get id=h.get id)(r':Rel P w0 m' h' w'):Rel P w0 m h w':=by
 have hle:=r.Oi hm;have up:∀{id E},m id=some E->m' id=some E:=λh=>hle _ _ h;have get:∀{id E o},m id=some E->h.get id=some o->h'.get id=some o:=λhE B=>by rw[hh _ (r.On _ _ hE)];exact B
 exact⟨r'.below,r.On,λid E o hE B=>(r.obj id E o hE B).back hle (r'.obj id E o (up hE) (get hE B)),
  λid E o hE B=>r'.own id E o (up hE) (get hE B),λid id' E E' o o' hne h1 H g1 g2=>r'.sep id id' E E' o o' hne (up h1) (up H) (get h1 g1) (get H g2)⟩
theorem Rel.later(r:Rel P w0 m h w){w':World}(L:Below w.heap.size w w'):Rel P w0 m h w':=
 ⟨r.below.trans (L.mono r.size),r.On,λid E o hE B=>(r.obj id E o hE B).mono (BU.le_refl m) λhl=>L.block _ ((r.obj id E o hE B).lt hl),r.own,r.sep⟩
end
end Go.Abs
