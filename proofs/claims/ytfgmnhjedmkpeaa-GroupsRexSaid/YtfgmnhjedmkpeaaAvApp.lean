/-
 A part.
-/
import Derived.Test.YtfgmnhjedmkpeaaAvOpW
set_option linter.unusedSimpArgs false
namespace Go.Av
open Go.RowKit
section
variable {P:Program} {w0:World} {m:BU} {h:AE} {w:World}
theorem LP{x:AD}{x':Value}{n:Nat}(L:VR m x x')(Q:LI x=some n)(w:World):(Builtin.lenOf x').run P w=.ok n w:=by
 cases L<;>simp[LI]at Q
 case str s=>subst Q;simp[Builtin.lenOf]
 case Db=>subst Q;simp[Builtin.lenOf]
 case HL=>subst Q;simp[Builtin.lenOf]
 case slice=>subst Q;simp[Builtin.lenOf]
 case N0=>subst Q;simp[Builtin.lenOf]
 case JV=>subst Q;simp[Builtin.lenOf]
theorem Gc(r:Rel P w0 m h w){z n:Nat}{x:AD}{x':Value}{cs:List AD}(L:VR m x x')(hn:∃l,LI x=some l/\n<=l)(C:Ch h z n x=some cs):
  ∃ds:List Value,ds.length=n*z/\B5 m cs ds/\∀w',w'.heap=w.heap->(Builtin.firstCells z n x').run P w'=.ok ds.toArray w':=by
 unfold Ch at C;split at C
 ·rename_i id o l;cases L with
  | slice _ _ _ cap E a hE hle hc=>
   split at C
   ·rename_i Y;injection C with C;subst C;subst Y;exact⟨[],by simp,.nil m,λw' _=>by simp[Builtin.firstCells,loadCells,loadCellsFrom]⟩
   ·rename_i Y;obtain⟨l',hl',hnl⟩:=hn;simp[LI]at hl';obtain⟨B,_⟩:=hc (by omega);subst B;obtain⟨ds,h1,U,h3,_⟩:=r.cells hE C;refine⟨ds,h1,U,λw' hw'=>?_⟩;have h3':∀(j:Nat) (v:Value),ds[j]?=some v->w'.cell? ((⟨E.g,E.base+o,none⟩:Addr).add j)=some v:=λj v N=>by
     rw[<-h3 j v N];simp[World.cell?,hw']
    exact run_firstCells_some w' z n _ l cap ds h1 h3'
 ·rename_i l;split at C
  ·rename_i Y;injection C with C;subst C;subst Y;exact⟨[],by simp,.nil m,λw' _=>by cases L<;>simp[Builtin.firstCells,loadCells,loadCellsFrom]⟩
  ·cases C
 ·rename_i s;split at C
  ·rename_i V;injection C with C;subst C;subst V;have:=L.C3;subst this;obtain⟨l',hl',hnl⟩:=hn;simp[LI]at hl';refine⟨(s.take n).map λ(b:UInt8)=>Value.int .u8 b.toNat,by simp;omega,B5.map _ _ _ λb _=>.int _ _,λw' _=>?_⟩;simp[Builtin.firstCells,I6]
  ·cases C
 ·rename_i n' a;split at C
  ·rename_i hb;injection C with C;subst C;cases L with
   |N0 A cap=>
    have Y:n=0:=by omega
    subst Y;exact⟨[],by simp,by simpa using B5.nil m,λw' _=>by cases A<;>simp[Builtin.firstCells,loadCells,loadCellsFrom]⟩
   |JV _ cap g o _ c hc hf1 N=>
    obtain⟨ds,h1,U,h3⟩:=r.OP hf1 N;have hle:n*z<=n'*z:=zU _ hb.1;have hl1:(ds.take (n*z)).length=n*z:=by rw[yp];omega
    refine⟨ds.take (n*z),hl1,U.take _,λw' hw'=>?_⟩;refine run_firstCells_some w' z n _ n' cap _ hl1 λj v hj=>?_;rw[List.getElem?_take]at hj;split at hj
    ·rw[<-h3 j v hj];simp[World.cell?,hw']
    ·cases hj
  ·cases C
 ·cases C
theorem Q9{st xt e ty:TypeId}{ts:Array TypeId}{d:TypeDesc}{i:TypeInfo}{base:Option Addr}{sl cap n:Nat}{x' z:Value}{old new:List AD}{ods Om:List Value}
  (G:ts[0]?=some st) (F:ts[1]?=some xt) (hu:P.underlying st=some (.slice e)) (M:P.underlying xt=some d) (R:JY d=true) (hi:P.info? e=some i) (V:i.zero=some z) (hzs:z.cells.size=i.size)
  (I:cap<sl+n) (hb1:sl+n<=1099511627776) (hb2:(sl+n)*i.bytes<=1099511627776)
  (Q:∀w:World,(Builtin.lenOf x').run P w=.ok n w)
  (ho1:ods.length=sl*i.size) (hold:∀w',w'.heap=w.heap->(Builtin.firstCells i.size sl (.slice base sl cap)).run P w'=.ok ods.toArray w')
  (hn1:Om.length=n*i.size) (H:∀w',w'.heap=w.heap->(Builtin.firstCells i.size n x').run P w'=.ok Om.toArray w')
  (hvo:B5 m old ods) (hvn:B5 m new Om) (h1:(old++new).all AD.one=true):
  ∃v' w' E,(Builtin.append_ ts ty #[.slice base sl cap,x']).run P w=.ok v' w'/\KL P m w w' E (λk=>.slice (some (k,0)) (sl+n),.cells (some e) 2 (old++new)) v':=by
 obtain⟨c,hc⟩:∃c,c=(Question.appendCap (sl+n) cap e).cut (w.tape w.drawn (.appendCap (sl+n) cap e)):=⟨_,rfl⟩;have hcge:sl+n<=c:=by rw[hc];simp[Question.cut]
 have hch:(choose (.appendCap (sl+n) cap e)).run P w=.ok c w.drew:=by rw[hc];rfl
 have hfit:=growslice_fits (bytes:=i.bytes) I (by omega);obtain⟨row,hrow⟩:∃row,row=ods.toArray++Om.toArray++Builtin.zeroCells z.cells (c - (sl+n)):=⟨_,rfl⟩;have hsize:row.size=c*i.size:=by
  rw[hrow];simp only[Array.size_append,List.size_toArray,ho1,hn1,size_zeroCells,hzs];rw[<-yj,<-yj];congr 1;omega
 have hvall:=hvo.app hvn;have hlen:(old++new).length=(sl+n)*i.size:=by rw[hvall.1,zH,ho1,hn1,yj]
 have O:B9 P e=some i.size:=by simp[B9,hi]
 refine⟨.slice (some ⟨w.heap.size,0,none⟩) (sl+n) c,w.drew.alloc (.cells row e),⟨w.heap.size,0,i.size,c*i.size⟩,?_,Dn.alloc_drew w _ _,rfl,by show _<(w.heap.push _).size;simp,λm' hm id hid=>⟨?_,?_⟩⟩
 ·have hzv:∀w:World,(zeroValue e).run P w=.ok z w:=λw=>by simp[zeroValue,typeInfo,hi,V]
  have hti:∀w:World,(typeInfo e).run P w=.ok i w:=λw=>by simp[typeInfo,hi]
  have hmark:∀(n:Nat) (w:World),(askRoom n).run P w=.ok () w:=λn w=>by unfold askRoom;split<;>rfl
  have hn63:¬(((sl+n:Nat):Int)>IntKind.i64.max):=by simp[IntKind.max_i64];omega
  have hnotInt:(match d with| .int _=>true|_=>false)=false:=by cases d<;>simp[JY]at R<;>rfl
  have hnr:¬(sl+n<=cap):=by omega
  have hnf:¬(Builtin.nextslicecap (sl+n) cap*i.bytes>2^48):=by omega
  have e2:(newRow e row).run P w.drew=.ok ⟨w.heap.size,0,none⟩ (w.drew.alloc (.cells row e)):=FX w.drew e row;rw[hrow]at e2⊢;clear hnotInt;simp only[Builtin.append_,List.getElem?_toArray,List.getElem?_cons_zero,List.getElem?_cons_succ,G,F,Sem.run_bind,Ah w hu,Result.andThen_ok,run_sizeOf w O,Ah w M,Sem.run_pure];cases d<;>simp[JY]at R<;>
   simp only[zB,if_false,Sem.run_bind,Q,Result.andThen_ok,Sem.run_ite,zk hnr,hn63,false_and,hti,zk hnf,hch,hmark,hold w.drew rfl,H w.drew rfl,hzv,e2,Sem.run_pure,yK,if_true]
 ·exact .slice id 0 (sl+n) c _ _ hid hcge (λ_=>⟨by simp,λ_=>by simp⟩)
 ·refine JC (e:=e) (fz:=(0,0)) (heap_alloc_new w.drew _) rfl (by simp[Kv,Ix O]) (by simp[hsize]) ?_ h1 (.inl rfl);have:row.toList.take (old++new).length=ods++Om:=by
   rw[hrow,hlen];have:(sl+n)*i.size=(ods++Om).length:=by simp[ho1,hn1,yj]
   rw[this];simp only[Array.toList_append];rw[qh]
  rw[this];exact hvall.mono hm
theorem Qd{st xt e ty:TypeId}{ts:Array TypeId}{d:TypeDesc}{i:TypeInfo}{base:Addr}{sl cap n:Nat}{x':Value}{Om:List Value}{w1:World}
  (G:ts[0]?=some st) (F:ts[1]?=some xt) (hu:P.underlying st=some (.slice e)) (M:P.underlying xt=some d) (R:JY d=true) (hi:P.info? e=some i)
  (I:sl+n<=cap) (Q:∀w:World,(Builtin.lenOf x').run P w=.ok n w)
  (H:(Builtin.firstCells i.size n x').run P w=.ok Om.toArray w) (hst:(storeCells (base.add (sl*i.size)) Om).run P w=.ok () w1):
  (Builtin.append_ ts ty #[.slice (some base) sl cap,x']).run P w=.ok (.slice (some base) (sl+n) cap) w1:=by
 have O:B9 P e=some i.size:=by simp[B9,hi]
 simp only[Builtin.append_,List.getElem?_toArray,List.getElem?_cons_zero,List.getElem?_cons_succ,G,F,Sem.run_bind,Ah w hu,Result.andThen_ok,run_sizeOf w O,Ah w M,Sem.run_pure];cases d<;>simp[JY]at R<;>
  simp only[zB,if_false,Sem.run_bind,Q,Result.andThen_ok,Sem.run_ite,zj I,H,hst,Sem.run_pure,yK,if_true]
theorem MH{st xt e ty:TypeId}{ts:Array TypeId}{d:TypeDesc}{i:TypeInfo}{base:Option Addr}{sl cap:Nat}{x':Value}
  (G:ts[0]?=some st) (F:ts[1]?=some xt) (hu:P.underlying st=some (.slice e)) (M:P.underlying xt=some d) (R:JY d=true) (hi:P.info? e=some i)
  (I:sl<=cap) (Q:∀w:World,(Builtin.lenOf x').run P w=.ok 0 w) (H:(Builtin.firstCells i.size 0 x').run P w=.ok #[] w):
  (Builtin.append_ ts ty #[.slice base sl cap,x']).run P w=.ok (.slice base sl cap) w:=by
 have O:B9 P e=some i.size:=by simp[B9,hi]
 simp only[Builtin.append_,List.getElem?_toArray,List.getElem?_cons_zero,List.getElem?_cons_succ,G,F,Sem.run_bind,Ah w hu,Result.andThen_ok,run_sizeOf w O,Ah w M,Sem.run_pure];cases d<;>simp[JY]at R<;>cases base<;>
  simp[Q,I,H,storeCells]
theorem OY(r : Rel P w0 m h w){g:Gd}{st xt e ty:TypeId}{ts:Array TypeId}{d:TypeDesc}{i:TypeInfo}{rr:Option (Nat×Nat)}{sl n:Nat}{x v:AD}{s' x':Value}{h':AE}
  (G:ts[0]?=some st) (F:ts[1]?=some xt) (hu:P.underlying st=some (.slice e)) (M:P.underlying xt=some d) (R:JY d=true) (hi:P.info? e=some i)
  (J:VR m (.slice rr sl) s') (L:VR m x x') (W:LI x=some n) (B:appendCore g h e i rr sl n x=some (v,h')):
  ∃m' v' w',(Builtin.append_ ts ty #[s',x']).run P w=.ok v' w'/\(m.ext h.size m')/\Rel P w0 m' h' w'/\VR m' v v':=by
 have Q:=λw=>LP (P:=P) L W w;unfold appendCore at B;split at B
 ·-- nothing is appended
  rename_i Y;subst Y;injection B with B;injection B with e1 e2;subst e1;subst e2;have H:(Builtin.firstCells i.size 0 x').run P w=.ok #[] w:=by
   cases L<;>simp[LI]at W<;>first|(simp[Builtin.firstCells,loadCells,loadCellsFrom];done)|(rename_i A _;cases A<;>simp[Builtin.firstCells,loadCells,loadCellsFrom])
  cases J with
  |Db=>exact⟨m,_,w,MH G F hu M R hi (zq _) Q H,BU.ext.refl _ _,r,.Db⟩
  |HL a=>exact⟨m,_,w,MH G F hu M R hi (zq _) Q H,BU.ext.refl _ _,r,.HL a⟩
  |slice id o _ cap E a hE hle hc=>exact⟨m,_,w,MH G F hu M R hi hle Q H,BU.ext.refl _ _,r,.slice id o sl cap E a hE hle hc⟩
 ·rename_i hn0;split at B
  ·rename_i hb;obtain⟨hb0,hb1,hb2,hb3⟩:=hb;cases V:i.zero with
   |none=>simp[V]at hb3
   | some z =>
    simp only[V,zf,zd]at hb3;split at B
    ·rename_i new old hfn K;split at B
     ·rename_i h1;simp only[zh]at hfn;obtain⟨new0,hfn,rfl⟩:=hfn;obtain⟨Om,hn1,hvn0,H⟩:=Gc r L ⟨n,W,zq _⟩ hfn;have hvn:=hvn0.IG;generalize hnm:new0.map IG=new at *;obtain⟨ods,ho1,hvo,hold⟩:=Gc r J ⟨sl,rfl,zq _⟩ K;have grow:∀(h1':AE) (cap:Nat) (base:Option Addr),s'=.slice base sl cap->cap<sl+n->h1'.size=h.size->Rel P w0 m h1' w->
        ∃m' v' w',(Builtin.append_ ts ty #[s',x']).run P w=.ok v' w'/\(m.ext h.size m')/\Rel P w0 m' (h1'.push (.cells (some e) 2 (old++new))) w'/\VR m' (.slice (some (h.size,0)) (sl+n)) v':=by
       intro h1' cap base hs' I O rel;subst hs';obtain⟨v',w',E,g1,t1,t2,_,t4⟩:=Q9 (ty:=ty) G F hu M R hi V hb3 I hb1 hb2 Q ho1 hold hn1 H hvo hvn h1;have hle:=BU.LL (m:=m) E (r.fresh (zq h.size));obtain⟨q1,q2⟩:=t4 (m.upd h.size E) hle h.size (BU.D8 m _ E);refine⟨m.upd h.size E,v',w',g1,BU.Oy m _ (by omega),?_,q1⟩;rw[<-O]at q2⊢;exact rel.new t1 t2 q2
      split at B
      ·-- onto nil
       injection B with B;injection B with e1 e2;subst e1;subst e2;cases J with
       |Db=>exact grow h 0 none rfl (by omega) rfl r
       |HL a=>exact grow h 0 (some a) rfl (by omega) rfl r
      ·rename_i id o;split at B
       ·rename_i e' cs X;split at B
        ·rename_i hmay;obtain⟨_,he⟩:=hmay;subst he;injection B with B;injection B with e1 e2;subst e1;subst e2;cases J with
         | slice _ _ _ cap E a hE hle hc=>
          have rk:Rel P w0 m (h.set id (.cells (some e') 0 [])) w:=r.kill X;by_cases I:sl+n<=cap
          ·-- in place
           obtain⟨haa,hbd⟩:=hc (by omega);subst haa;obtain⟨hesz,S⟩:=r.obj id E _ hE X;have hesz':E.QG=i.size:=by rw[hesz.1.1];simp[Kv,Program.cellsOf,hi]
           have hbd:=hbd (by omega);rw[hesz']at hbd;obtain⟨cur,et,fz,c1,c2,c3,c4⟩:=S (by omega);have hfit:E.base+o+(sl+n)*i.size<=cur.size:=by
            have:=zU i.size I;omega
           have e3:E.base+o+sl*i.size+0+Om.length<=cur.size:=by rw[hn1];rw[yj]at hfit;omega
           obtain⟨w1,r1,r2,r3,_⟩:=GI (P:=P) E.g (E.base+o+sl*i.size) et fz Om 0 cur w c1 e3 (λu hu'=>by
            obtain⟨j,hj⟩:=yM.1 hu';have hj':j<new.length:=by rw[hvn.1];exact(List.getElem?_eq_some_iff.1 hj).1
            refine(hvn.2 j _ u (List.getElem?_eq_getElem hj') hj).one (zC.1 h1 _ ?_)
            exact zo.2 (.inr (yE hj'))) (by rw[c2];exact(c4 rfl).no)
           have hrun:(Builtin.append_ ts ty #[.slice (some ⟨E.g,E.base+o,none⟩) sl cap,x']).run P w=.ok (.slice (some ⟨E.g,E.base+o,none⟩) (sl+n) cap) w1:=
            Qd G F hu M R hi I Q (H w rfl) (by rw[Addr.add_lit];exact r1)
           have Z:=BU.LL (m:=m) ⟨E.g,E.base+o,i.size,E.total⟩ (r.fresh (zq h.size));have hB:=r.own id E _ hE X rfl;have hobj':IV P (m.upd h.size ⟨E.g,E.base+o,i.size,E.total⟩) w1 ⟨E.g,E.base+o,i.size,E.total⟩ (.cells (some e') 2 (old++new)):=by
            refine⟨⟨by simp[Kv,Program.cellsOf,hi],λh=>by cases h⟩,λ_=>⟨_,et,fz,r2,?_,λj a B=>⟨zC.1 h1 a (zQ B),?_⟩,λ_=>c4 rfl⟩⟩
            ·rw[<-c2];simp;omega
            ·have hcl:(cur.toList.take (E.base+o+sl*i.size+0)).length=E.base+o+sl*i.size:=by simp;omega
             have holl:old.length=sl*i.size:=by rw[hvo.1,ho1]
             rw[List.getElem?_append]at B;split at B
             ·rename_i hj;have hcc:cs[o+j]?=some a:=by
               simp only[Ch]at K;split at K
               ·injection K with K;subst K;simp at B
               ·unfold B2 at K;rw[X]at K;simp only at K;split at K
                ·injection K with K;subst K;rw[List.getElem?_take]at B;split at B
                 ·rwa [List.getElem?_drop]at B
                 ·cases B
                ·cases K
              obtain⟨_,c,hc',hvc⟩:=c3 (o+j) a hcc;refine⟨c,?_,hvc.mono Z⟩;have:(cur.toList.take (E.base+o+sl*i.size+0))[E.base+o+j]?=some c:=by
               rw[List.getElem?_take,zj (by omega)];rw[<-yo]at hc';simpa using hc'
              simp only[List.getElem?_toArray];rw[List.getElem?_append_left (List.getElem?_eq_some_iff.1 this).1];exact this
             ·rename_i hj;obtain⟨y,hy,hvy⟩:=hvn.at_ B;refine⟨y,?_,hvy.mono Z⟩;simp only[List.getElem?_toArray];rw[List.getElem?_append_right (by omega),hcl,List.getElem?_append_left (by have:=(List.getElem?_eq_some_iff.1 hy).1;omega)];rw[<-hy];congr 1;omega
           refine⟨m.upd h.size ⟨E.g,E.base+o,i.size,E.total⟩,_,w1,hrun,BU.Oy m _ (by omega),?_,?_⟩
           ·refine(rk.ghost (.cells (some e') 2 (old++new))).place (E:=⟨E.g,E.base+o,i.size,E.total⟩) r3 hB (λid2 E2 o2 U ho2 hl2=>?_) (λj=>r.Nc _ _ _ hE X rfl j) (λR=>r.St _ _ _ hE X rfl R) (r.fresh (zq _)) ?_ hobj'
            ·have hid2:=r.On id2 E2 U;rw[AE.Cc _ _ (by simpa using hid2)]at ho2;by_cases he2:id2=id
             ·subst he2;rw[h.Cf _ hid2]at ho2;injection ho2 with ho2;subst ho2;simp[Br.live]at hl2
             ·rw[h.Cj _ (h.BZ X) he2]at ho2;exact λe=>r.sep id id2 E E2 _ o2 (λe=>he2 e.symm) hE U X ho2 rfl hl2 e.symm
            ·exact AE.Bh _ _
           ·refine .slice h.size 0 (sl+n) cap ⟨E.g,E.base+o,i.size,E.total⟩ _ (BU.D8 m _ _) I (λ_=>⟨by simp,λ_=>by simpa using hbd⟩)
          ·exact grow _ cap (some a) rfl (by omega) rfl rk
        ·cases B
       ·cases B
     ·cases B
    ·cases B
  ·cases B
theorem Pg(r:Rel P w0 m h w){g:Gd}{ts:Array TypeId}{ty:TypeId}{s x v:AD}{s' x':Value}{h':AE}(J:VR m s s')(L:VR m x x')(B:Nn P g h ts s x=some (v,h')):
  ∃m' v' w',(Builtin.append_ ts ty #[s',x']).run P w=.ok v' w'/\(m.ext h.size m')/\Rel P w0 m' h' w'/\VR m' v v':=by
 unfold Nn at B;split at B
 ·rename_i st xt rr sl n G F W;split at B
  ·rename_i e dd hu M;split at B
   ·rename_i i hi;split at B
    ·rename_i R;exact OY r G F hu M R hi J L W B
    ·cases B
   ·cases B
  ·cases B
 ·cases B
theorem MN(r:Rel P w0 m h w){g:Gd}{ts:Array TypeId}{ty:TypeId}{d x v:AD}{d' x':Value}{h':AE}(R:VR m d d')(L:VR m x x')(B:Mo P g h ts d x=some (v,h')):
  ∃v' w',(Builtin.copy_ ts ty #[d',x']).run P w=.ok v' w'/\Rel P w0 m h' w'/\VR m v v':=by
 unfold Mo at B;split at B
 ·rename_i dt rr dl sl hts W;split at B
  ·rename_i e hu;split at B
   ·rename_i z V;have Q:=λw=>LP (P:=P) L W w;split at B
    ·rename_i new id o C;obtain⟨ds,n1,N,hfc⟩:=Gc r L ⟨sl,W,Nat.min_le_left _ _⟩ C;cases R with
     | slice _ _ _ cap E a hE hle hc=>
      split at B
      ·rename_i Y;injection B with B;injection B with e1 e2;subst e1;subst e2;have hnil:ds=[]:=zw (by rw[n1,Y];simp);subst hnil;refine⟨.int .i64 0,w,?_,r,.int _ _⟩;have T:=hfc w rfl;rw[Y]at T;have hmin:Nat.min sl dl=0:=Y;simp[Builtin.copy_,hts,Ah w hu,Q,run_sizeOf w V,hmin,T,storeCells,goInt]
      ·rename_i Y;cases hsc:By g h id o new with
       |none=>simp[hsc]at B
       |some U=>
        simp only[hsc,zf,zd,ze]at B;obtain⟨rfl,rfl⟩:=B;obtain⟨haa,_⟩:=hc (by omega);subst haa;obtain⟨w',r1,r2⟩:=Fw r hE N hsc;refine⟨.int .i64 (min sl dl:Nat),w',?_,r2,.int _ _⟩;have hmin:Nat.min sl dl=min sl dl:=rfl;simp[Builtin.copy_,hts,Ah w hu,Q,run_sizeOf w V,hmin,hfc w rfl,r1,goInt]
    ·rename_i new C;split at B
     ·rename_i Y;injection B with B;injection B with e1 e2;subst e1;subst e2;obtain⟨ds,n1,N,hfc⟩:=Gc r L ⟨sl,W,Nat.min_le_left _ _⟩ C;have hnil:ds=[]:=zw (by rw[n1,Y];simp);subst hnil;have T:=hfc w rfl;cases R
      ·refine⟨.int .i64 0,w,?_,r,.int _ _⟩;rw[Y]at T;have hmin:Nat.min sl 0=0:=Y;simp[Builtin.copy_,hts,Ah w hu,Q,run_sizeOf w V,T,goInt]
      ·refine⟨.int .i64 0,w,?_,r,.int _ _⟩;rw[Y]at T;simp[Builtin.copy_,hts,Ah w hu,Q,run_sizeOf w V,T,goInt,storeCells]
     ·cases B
    ·cases B
   ·cases B
  ·cases B
 ·cases B
theorem Qr(r:Rel P w0 m h w){g:Gd}{s d:TypeId}{x v:AD}{x':Value}{h':AE}(L:VR m x x')(hc:SP P g h s d x=some (v,h')):
  ∃v' w',(convert s d x').run P w=.ok v' w'/\Rel P w0 m h' w'/\VR m v v':=by
 unfold SP at hc;split at hc
 ·rename_i e0 e id o n J R;split at hc
  ·rename_i gr cs he X;cases hb:(Nat.beq s d&&(g.may id&& !(Nat.beq n 0)))with
   |false=>rw[hb]at hc;cases hc
   | true=>
    rw[hb]at hc;simp only[z0,zd,ze]at hc;obtain⟨rfl,rfl⟩:=hc;simp only[zg,zu]at hb;obtain rfl:=zE hb.1;have hn:n≠0:=λe=>by subst e;simp at hb
    cases L with
    |slice _ _ _ cap E a hE hle hcp=>
     obtain⟨rfl,_⟩:=hcp (by omega);obtain⟨he1,S⟩:=r.obj id E _ hE X;obtain⟨cur,ee,fz,h1,U,h3,h4⟩:=S (by simp);obtain⟨w',fz',q1,q2,q3,q4⟩:=NB (P:=P) (w:=w) (a:=⟨E.g,E.base+o,none⟩) rfl h1 (by rw[U];exact h4 rfl);refine⟨_,w',?_,r.write hE X rfl rfl q4 ⟨he1,λ_=>⟨cur,ee,fz',q2,U,h3,λ_=>by rw[<-U];exact q3⟩⟩,.slice id o n cap E _ hE hle hcp⟩;have ee0:e0=e:=by rw[J]at R;injection R with R;injection R
     subst ee0;simp[convert,Ah w J,Ah w he,q1]
  ·cases hc
 ·cases hc
theorem PR{P:Program}{g:Gd}{h:AE}{v v':AD}{h':AE}(C:Ij g h v=some (v',h')):∀w0 (m:BU) w u,Rel P w0 m h w->VR m v u->∃m':BU,m.ext h.size m'/\Rel P w0 m' h' w/\VR m' v' u:=by
 unfold Ij at C;split at C
 ·injection C with C;injection C with e1 e2;subst e1;subst e2;exact λw0 m w u r N=>⟨m,BU.ext.refl _ _,r,by cases N<;>exact .N0 _ _⟩
 ·rename_i id n;by_cases hn:n=0
  ·subst hn;simp only[yS,z0,zd,ze]at C;obtain⟨rfl,rfl⟩:=C;exact λw0 m w u r N=>⟨m,BU.ext.refl _ _,r,by cases N;exact .N0 _ _⟩
  ·have:Nat.beq n 0=false:=by cases n;exact absurd rfl hn;rfl
   rw[this]at C;simp only[yh]at C;split at C
   ·rename_i gr cs X;cases hm:g.may id with
    |false=>rw[hm]at C;cases C
    | true=>
     rw[hm]at C;simp only[z0,zd,ze]at C;obtain⟨rfl,rfl⟩:=C;refine λw0 m w u r N=>?_;cases N with
     | slice _ _ _ cap E a hE hle hc=>
      obtain⟨B,_⟩:=hc (by omega);subst B;obtain⟨cur,r',Z,_,_,hcs⟩:=r.freeze hE X;refine⟨m.still E.g cur,⟨λ_ _=>rfl,Z.fz,λ_ h=>h⟩,r',.JV n cap _ _ cs (λi=>(cur[E.base+i]?).getD undef) hle (λi hi=>?_) (λi x L=>?_)⟩
      ·obtain⟨c,h1,_⟩:=hcs i _ (List.getElem?_eq_getElem hi);simp[BU.still,h1]
      ·obtain⟨c,h1,U⟩:=hcs i x L;rw[h1];exact U.mono Z
   ·rename_i gr c0 cs X;simp only[zd,ze]at C;obtain⟨rfl,rfl⟩:=C;refine λw0 m w u r N=>⟨m,BU.ext.refl _ _,r,?_⟩;cases N with
    | slice _ _ _ cap E a hE hle hc=>
     obtain⟨B,_⟩:=hc (by omega);subst B;have V:=(r.obj id E _ hE X).1.1.2 rfl;refine .JV n cap _ _ (c0::cs) (λi=>(m.fz E.g (E.base+i)).getD undef) hle (λi hi=>?_) (λi x L=>?_)
     ·obtain⟨c,h1,_⟩:=V i _ (List.getElem?_eq_getElem hi);rw[qa,h1];rfl
     ·obtain⟨c,h1,U⟩:=V i x L;rw[h1];exact U
   ·cases C
 ·injection C with C;injection C with e1 e2;subst e1;subst e2;exact λw0 m w u r N=>⟨m,BU.ext.refl _ _,r,N⟩
theorem Mv(r:Rel P w0 m h w){g:Gd}{t:TypeId}{x k v:AD}{x' k' v':Value}{h':AE}(L:VR m x x')(hk:VR m k k')(N:VR m v v')(J:Ht P g h t x k v=some h'):
  ∃m' w',(Instr.mapUpdate t x' k' v').run P w=.ok () w'/\m.ext h.size m'/\Rel P w0 m' h' w':=by
 unfold Ht at J;cases V:Ij g h v with
 |none=>rw[V]at J;cases J
 |some q=>
  obtain⟨v1,h1⟩:=q;rw[V]at J;obtain⟨m1,he,r1,hv1⟩:=PR V w0 m w v' r N;have hle:m.le m1:=⟨λid E hE=>by rw[he.i id (r.On id E hE)];exact hE,he.fz⟩;obtain⟨w',q1,q2⟩:=Pn r1 (L.mono hle) (hk.mono hle) hv1 J;exact⟨m1,w',q1,he,q2⟩
theorem ON(r:Rel P w0 m h w){g:Gd}{fr:Fr}{a:Act}(C:FR m fr a){o:Oper}{v:AD}{h':AE}(D:Ib P g h fr o.op=some (v,h')):
  ∃m' n v' w',(execOp a.eval o).run P w=.ok n w'/\O5 n v'/\(m.ext h.size m')/\Rel P w0 m' h' w'/\VR m' v v':=by
 obtain⟨dst,op,ty,pos,aft,gd⟩:=o;simp only at D;cases op with
 |convert s d x=>
  simp only[Ib]at D;obtain⟨v',w',h1,U,h3⟩:=Qr r (C.ev x) D;exact⟨m,.value v',v',w',by simp[execOp,h1],.inl rfl,BU.ext.refl _ _,U,h3⟩
 | store t x y=>
  simp only[Ib]at D;split at D
  ·rename_i id o L;cases J:HA P g h t id o (ev fr y)with
   |none=>simp[J]at D
   | some U=>
    simp only[J,zf,zd,ze]at D;obtain⟨rfl,rfl⟩:=D;have N:=C.ev x;rw[L]at N;generalize hq:a.eval x=q at N;cases N with
    |ptr _ _ E hE=>
     obtain⟨w',r1,r2⟩:=Lj r hE (C.ev y) J;exact⟨m,.skip,undef,w',by simp[execOp,Instr.storeAt,Instr.sureAddr,hq,r1],.inr ⟨rfl,rfl⟩,BU.ext.refl _ _,r2,VR.Hf m⟩
  ·cases D
 | mapUpdate t x k y=>
  simp only[Ib]at D;cases J:Ht P g h t (ev fr x) (ev fr k) (ev fr y)with
  |none=>simp[J]at D
  |some U=>
   simp only[J,zf,zd,ze]at D;obtain⟨rfl,rfl⟩:=D;obtain⟨m1,w',r1,he,r2⟩:=Mv r (C.ev x) (C.ev k) (C.ev y) J;exact⟨m1,.skip,undef,w',by simp[execOp,r1],.inr ⟨rfl,rfl⟩,he,r2,VR.Hf m1⟩
 | insert t x k y=>
  simp only[Ib]at D;cases J:Ht P g h t (ev fr x) (ev fr k) (ev fr y)with
  |none=>simp[J]at D
  |some U=>
   simp only[J,zf,zd,ze]at D;obtain⟨rfl,rfl⟩:=D;obtain⟨m1,w',r1,he,r2⟩:=Mv r (C.ev x) (C.ev k) (C.ev y) J;exact⟨m1,.skip,undef,w',by simp[execOp,r1],.inr ⟨rfl,rfl⟩,he,r2,VR.Hf m1⟩
 | next it s=>
  cases s with
  |false=>simp[Ib]at D
  | true =>
   simp only[Ib]at D;split at D
   ·rename_i id L;split at D
    ·rename_i s pos X;have N:=C.ev it;rw[L]at N;generalize hq:a.eval it=q at N;cases N with
     | ptr _ _ E hE=>
      obtain⟨hbase,S⟩:=r.obj id E _ hE X;rw[hbase]at hq;split at D
      ·split at D
       ·rename_i hlt;injection D with D;injection D with e1 e2;subst e1;subst e2;obtain⟨w',q1,q2,q3,_⟩:=Ju (P:=P) (w:=w) (o:=.stringIter ⟨⟨s⟩⟩ pos) (o':=.stringIter ⟨⟨s⟩⟩ (pos+(Utf8.decode ⟨⟨s⟩⟩ pos).2)) S (by simp);have O:pos<(⟨⟨s⟩⟩:ByteArray).size:=hlt;refine⟨m,.value (.tuple #[.bool true,goInt pos,.int .i32 (Utf8.decode ⟨⟨s⟩⟩ pos).1]),_,w',?_,.inl rfl,BU.ext.refl _ _,r.write hE X rfl rfl q3 ⟨hbase,q2⟩,?_⟩
        ·have hget:(getObj E.g).run P w=.ok (.stringIter ⟨⟨s⟩⟩ pos) w:=by simp[getObj,Sem.run,S]
         simp only[execOp,Instr.next,hq,qa,Sem.run_bind,hget,Result.andThen_ok,zj O,q1,Sem.run_pure]
        ·exact B5.tuple (.cons (.bool true) (.cons (.int _ _) (.cons (.int _ _) (.nil m))))
       ·rename_i hlt;injection D with D;injection D with e1 e2;subst e1;subst e2;have O:¬pos<(⟨⟨s⟩⟩:ByteArray).size:=hlt;refine⟨m,.value (.tuple #[.bool false]),_,w,?_,.inl rfl,BU.ext.refl _ _,r,B5.tuple (.cons (.bool false) (.nil m))⟩;have hget:(getObj E.g).run P w=.ok (.stringIter ⟨⟨s⟩⟩ pos) w:=by simp[getObj,Sem.run,S]
        simp only[execOp,Instr.next,hq,qa,Sem.run_bind,hget,Result.andThen_ok,zk O,Sem.run_pure]
      ·cases D
    ·cases D
   ·cases D
 | call c=>
  obtain⟨callee,asE9,ts⟩:=c;cases callee with
  |value f=>simp[Ib]at D
  |invoke r mth=>simp[Ib]at D
  | builtin b=>
   simp only[Ib]at D;have hall:=C.U1 asE9.toList;have res:∀(w:World),(resolve a.eval {callee:=.builtin b,args:=asE9,argTypes:=ts} ty).run P w=.ok {target:=.builtin b ts ty (asE9.map fun| .const _=>true|_=>false),args:=asE9.map a.eval} w:=λw=>rfl;have two:∀x y,asE9.toList.map (ev fr)=[x,y]->∃x' y',asE9.map a.eval=#[x',y']/\VR m x x'/\VR m y y':=by
    intro x y heq;rw[heq]at hall;have hlen:(asE9.toList.map a.eval).length=2:=by rw[<-hall.1];rfl
    match hq:asE9.toList.map a.eval,hlen with
    |[x',y'],_=>exact⟨x',y',Array.ext' (by simpa using hq),hall.2 0 x x' rfl (by rw[hq];rfl),hall.2 1 y y' rfl (by rw[hq];rfl)⟩
   split at D
   ·rename_i s x heq;obtain⟨s',x',hsx,hvs,hvx⟩:=two s x heq;obtain⟨m',v',w',r1,r2,r3,r4⟩:=Pg (ty:=ty) r hvs hvx D;exact⟨m',.value v',v',w',by simp[execOp,res,invoke,builtin,hsx,r1],.inl rfl,r2,r3,r4⟩
   ·rename_i s x heq;obtain⟨s',x',hsx,hvs,hvx⟩:=two s x heq;obtain⟨v',w',r1,r2,r3⟩:=MN (ty:=ty) r hvs hvx D;exact⟨m,.value v',v',w',by simp[execOp,res,invoke,builtin,hsx,r1],.inl rfl,BU.ext.refl _ _,r2,r3⟩
   ·rename_i s x heq;obtain⟨s',x',hsx,hvs,hvx⟩:=two s x heq;cases J:Md P g h ts s x with
    |none=>simp[J]at D
    |some U=>
     simp only[J,zf,zd,ze]at D;obtain⟨rfl,rfl⟩:=D;obtain⟨w',r1,r2⟩:=Pl (ty:=ty) r hvs hvx J;exact⟨m,.value (.tuple #[]),.tuple #[],w',by simp[execOp,res,invoke,builtin,hsx,r1],.inl rfl,BU.ext.refl _ _,r2,VR.Hf m⟩
   ·cases D
 |_=>simp[Ib]at D
end
end Go.Av
