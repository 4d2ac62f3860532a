/-
 A part.
-/
import Derived.Test.YtfgmnhjedmkpeaaAvOpW
set_option linter.unusedSimpArgs false
namespace Go.Av
open Go.RowKit
section
variable {P:Program} {w0:World} {m:Aj} {h:AB} {w:World}
theorem H5{x:AA}{x':Value}{n:Nat}(L:VR m x x')(Q:Ib x=some n)(w:World):(Builtin.lenOf x').run P w=.ok n w:=by
 cases L<;>simp[Ib]at Q
 case str s=>subst Q;simp[Builtin.lenOf]
 case By=>subst Q;simp[Builtin.lenOf]
 case D5=>subst Q;simp[Builtin.lenOf]
 case slice=>subst Q;simp[Builtin.lenOf]
 case Ic=>subst Q;simp[Builtin.lenOf]
 case Gi=>subst Q;simp[Builtin.lenOf]
theorem D6(r:Rel P w0 m h w){z n:Nat}{x:AA}{x':Value}{cs:List AA}(L:VR m x x')(hn:∃l,Ib x=some l/\n<=l)(C:Bv h z n x=some cs):
  ∃ds:List Value,ds.length=n*z/\BT m cs ds/\∀w',w'.heap=w.heap->(Builtin.firstCells z n x').run P w'=.ok ds.toArray w':=by
 unfold Bv at C;split at C
 ·rename_i id o l;cases L with
  | slice _ _ _ cap E a hE hle hc=>
   split at C
   ·rename_i Z;injection C with C;subst C;subst Z;exact⟨[],by simp,.nil m,λw' _=>by simp[Builtin.firstCells,loadCells,loadCellsFrom]⟩
   ·rename_i Z;obtain⟨l',hl',hnl⟩:=hn;simp[Ib]at hl';obtain⟨B,_⟩:=hc (by omega);subst B;obtain⟨ds,h1,V,h3,_⟩:=r.cells hE C;refine⟨ds,h1,V,λw' hw'=>?_⟩;have h3':∀(j:Nat) (v:Value),ds[j]?=some v->w'.cell? ((⟨E.g,E.base+o,none⟩:Addr).add j)=some v:=λj v N=>by
     rw[<-h3 j v N];simp[World.cell?,hw']
    exact run_firstCells_some w' z n _ l cap ds h1 h3'
 ·rename_i l;split at C
  ·rename_i Z;injection C with C;subst C;subst Z;exact⟨[],by simp,.nil m,λw' _=>by cases L<;>simp[Builtin.firstCells,loadCells,loadCellsFrom]⟩
  ·cases C
 ·rename_i s;split at C
  ·rename_i W;injection C with C;subst C;subst W;have:=L.CF;subst this;obtain⟨l',hl',hnl⟩:=hn;simp[Ib]at hl';refine⟨(s.take n).map λ(b:UInt8)=>Value.int .u8 b.toNat,by simp;omega,BT.map _ _ _ λb _=>.int _ _,λw' _=>?_⟩;simp[Builtin.firstCells,GJ]
  ·cases C
 ·rename_i n' a;split at C
  ·rename_i hb;injection C with C;subst C;cases L with
   |Ic A cap=>
    have Z:n=0:=by omega
    subst Z;exact⟨[],by simp,by simpa using BT.nil m,λw' _=>by cases A<;>simp[Builtin.firstCells,loadCells,loadCellsFrom]⟩
   |Gi _ cap g o _ c hc hf1 N=>
    obtain⟨ds,h1,V,h3⟩:=r.MJ hf1 N;have hle:n*z<=n'*z:=yr _ hb.1;have hl1:(ds.take (n*z)).length=n*z:=by rw[yG];omega
    refine⟨ds.take (n*z),hl1,V.take _,λw' hw'=>?_⟩;refine run_firstCells_some w' z n _ n' cap _ hl1 λj v hj=>?_;rw[List.getElem?_take]at hj;split at hj
    ·rw[<-h3 j v hj];simp[World.cell?,hw']
    ·cases hj
  ·cases C
 ·cases C
theorem KD{st xt e ty:TypeId}{ts:Array TypeId}{d:TypeDesc}{i:TypeInfo}{base:Option Addr}{sl cap n:Nat}{x' z:Value}{old new:List AA}{ods nds:List Value}
  (G:ts[0]?=some st) (F:ts[1]?=some xt) (hu:P.underlying st=some (.slice e)) (M:P.underlying xt=some d) (R:En d=true) (U:P.info? e=some i) (W:i.zero=some z) (hzs:z.cells.size=i.size)
  (I:cap<sl+n) (hb1:sl+n<=1099511627776) (hb2:(sl+n)*i.bytes<=1099511627776)
  (Q:∀w:World,(Builtin.lenOf x').run P w=.ok n w)
  (ho1:ods.length=sl*i.size) (hold:∀w',w'.heap=w.heap->(Builtin.firstCells i.size sl (.slice base sl cap)).run P w'=.ok ods.toArray w')
  (hn1:nds.length=n*i.size) (H:∀w',w'.heap=w.heap->(Builtin.firstCells i.size n x').run P w'=.ok nds.toArray w')
  (hvo:BT m old ods) (hvn:BT m new nds) (h1:(old++new).all AA.one=true):
  ∃v' w' E,(Builtin.append_ ts ty #[.slice base sl cap,x']).run P w=.ok v' w'/\HX P m w w' E (λk=>.slice (some (k,0)) (sl+n),.cells (some e) 2 (old++new)) v':=by
 obtain⟨c,hc⟩:∃c,c=(Question.appendCap (sl+n) cap e).cut (w.tape w.drawn (.appendCap (sl+n) cap e)):=⟨_,rfl⟩;have hcge:sl+n<=c:=by rw[hc];simp[Question.cut]
 have hch:(choose (.appendCap (sl+n) cap e)).run P w=.ok c w.drew:=by rw[hc];rfl
 have hfit:=growslice_fits (bytes:=i.bytes) I (by omega);obtain⟨row,hrow⟩:∃row,row=ods.toArray++nds.toArray++Builtin.zeroCells z.cells (c - (sl+n)):=⟨_,rfl⟩;have hsize:row.size=c*i.size:=by
  rw[hrow];simp only[Array.size_append,List.size_toArray,ho1,hn1,size_zeroCells,hzs];rw[<-yl,<-yl];congr 1;omega
 have hvall:=hvo.app hvn;have hlen:(old++new).length=(sl+n)*i.size:=by rw[hvall.1,zA,ho1,hn1,yl]
 have O:BK P e=some i.size:=by simp[BK,U]
 refine⟨.slice (some ⟨w.heap.size,0,none⟩) (sl+n) c,w.drew.alloc (.cells row e),⟨w.heap.size,0,i.size,c*i.size⟩,?_,B9.alloc_drew w _ _,rfl,by show _<(w.heap.push _).size;simp,λm' hm id hid=>⟨?_,?_⟩⟩
 ·have hzv:∀w:World,(zeroValue e).run P w=.ok z w:=λw=>by simp[zeroValue,typeInfo,U,W]
  have hti:∀w:World,(typeInfo e).run P w=.ok i w:=λw=>by simp[typeInfo,U]
  have hmark:∀(n:Nat) (w:World),(askRoom n).run P w=.ok () w:=λn w=>by unfold askRoom;split<;>rfl
  have hn63:¬(((sl+n:Nat):Int)>IntKind.i64.max):=by simp[IntKind.max_i64];omega
  have hnotInt:(match d with| .int _=>true|_=>false)=false:=by cases d<;>simp[En]at R<;>rfl
  have hnr:¬(sl+n<=cap):=by omega
  have hnf:¬(Builtin.nextslicecap (sl+n) cap*i.bytes>2^48):=by omega
  have e2:(newRow e row).run P w.drew=.ok ⟨w.heap.size,0,none⟩ (w.drew.alloc (.cells row e)):=C4 w.drew e row;rw[hrow]at e2⊢;clear hnotInt;simp only[Builtin.append_,List.getElem?_toArray,List.getElem?_cons_zero,List.getElem?_cons_succ,G,F,Sem.run_bind,AI w hu,Result.andThen_ok,run_sizeOf w O,AI w M,Sem.run_pure];cases d<;>simp[En]at R<;>
   simp only[zF,if_false,Sem.run_bind,Q,Result.andThen_ok,Sem.run_ite,zh hnr,hn63,false_and,hti,zh hnf,hch,hmark,hold w.drew rfl,H w.drew rfl,hzv,e2,Sem.run_pure,yF,if_true]
 ·exact .slice id 0 (sl+n) c _ _ hid hcge (λ_=>⟨by simp,λ_=>by simp⟩)
 ·refine Ff (e:=e) (fz:=(0,0)) (heap_alloc_new w.drew _) rfl (by simp[Ga,Eo O]) (by simp[hsize]) ?_ h1 (.inl rfl);have:row.toList.take (old++new).length=ods++nds:=by
   rw[hrow,hlen];have:(sl+n)*i.size=(ods++nds).length:=by simp[ho1,hn1,yl]
   rw[this];simp only[qm];rw[qJ]
  rw[this];exact hvall.mono hm
theorem KS{st xt e ty:TypeId}{ts:Array TypeId}{d:TypeDesc}{i:TypeInfo}{base:Addr}{sl cap n:Nat}{x':Value}{nds:List Value}{w1:World}
  (G:ts[0]?=some st) (F:ts[1]?=some xt) (hu:P.underlying st=some (.slice e)) (M:P.underlying xt=some d) (R:En d=true) (U:P.info? e=some i)
  (I:sl+n<=cap) (Q:∀w:World,(Builtin.lenOf x').run P w=.ok n w)
  (H:(Builtin.firstCells i.size n x').run P w=.ok nds.toArray w) (hst:(storeCells (base.add (sl*i.size)) nds).run P w=.ok () w1):
  (Builtin.append_ ts ty #[.slice (some base) sl cap,x']).run P w=.ok (.slice (some base) (sl+n) cap) w1:=by
 have O:BK P e=some i.size:=by simp[BK,U]
 simp only[Builtin.append_,List.getElem?_toArray,List.getElem?_cons_zero,List.getElem?_cons_succ,G,F,Sem.run_bind,AI w hu,Result.andThen_ok,run_sizeOf w O,AI w M,Sem.run_pure];cases d<;>simp[En]at R<;>
  simp only[zF,if_false,Sem.run_bind,Q,Result.andThen_ok,Sem.run_ite,zk I,H,hst,Sem.run_pure,yF,if_true]
theorem F0{st xt e ty:TypeId}{ts:Array TypeId}{d:TypeDesc}{i:TypeInfo}{base:Option Addr}{sl cap:Nat}{x':Value}
  (G:ts[0]?=some st) (F:ts[1]?=some xt) (hu:P.underlying st=some (.slice e)) (M:P.underlying xt=some d) (R:En d=true) (U:P.info? e=some i)
  (I:sl<=cap) (Q:∀w:World,(Builtin.lenOf x').run P w=.ok 0 w) (H:(Builtin.firstCells i.size 0 x').run P w=.ok #[] w):
  (Builtin.append_ ts ty #[.slice base sl cap,x']).run P w=.ok (.slice base sl cap) w:=by
 have O:BK P e=some i.size:=by simp[BK,U]
 simp only[Builtin.append_,List.getElem?_toArray,List.getElem?_cons_zero,List.getElem?_cons_succ,G,F,Sem.run_bind,AI w hu,Result.andThen_ok,run_sizeOf w O,AI w M,Sem.run_pure];cases d<;>simp[En]at R<;>cases base<;>
  simp[Q,I,H,storeCells]
theorem HC(r : Rel P w0 m h w){g:Gd}{st xt e ty:TypeId}{ts:Array TypeId}{d:TypeDesc}{i:TypeInfo}{rr:Option (Nat×Nat)}{sl n:Nat}{x v:AA}{s' x':Value}{h':AB}
  (G:ts[0]?=some st) (F:ts[1]?=some xt) (hu:P.underlying st=some (.slice e)) (M:P.underlying xt=some d) (R:En d=true) (U:P.info? e=some i)
  (J:VR m (.slice rr sl) s') (L:VR m x x') (X:Ib x=some n) (B:appendCore g h e i rr sl n x=some (v,h')):
  ∃m' v' w',(Builtin.append_ ts ty #[s',x']).run P w=.ok v' w'/\(m.ext h.size m')/\Rel P w0 m' h' w'/\VR m' v v':=by
 have Q:=λw=>H5 (P:=P) L X w;unfold appendCore at B;split at B
 ·-- nothing is appended
  rename_i Z;subst Z;injection B with B;injection B with e1 e2;subst e1;subst e2;have H:(Builtin.firstCells i.size 0 x').run P w=.ok #[] w:=by
   cases L<;>simp[Ib]at X<;>first|(simp[Builtin.firstCells,loadCells,loadCellsFrom];done)|(rename_i A _;cases A<;>simp[Builtin.firstCells,loadCells,loadCellsFrom])
  cases J with
  |By=>exact⟨m,_,w,F0 G F hu M R U (zr _) Q H,Aj.ext.refl _ _,r,.By⟩
  |D5 a=>exact⟨m,_,w,F0 G F hu M R U (zr _) Q H,Aj.ext.refl _ _,r,.D5 a⟩
  |slice id o _ cap E a hE hle hc=>exact⟨m,_,w,F0 G F hu M R U hle Q H,Aj.ext.refl _ _,r,.slice id o sl cap E a hE hle hc⟩
 ·rename_i hn0;split at B
  ·rename_i hb;obtain⟨hb0,hb1,hb2,hb3⟩:=hb;cases W:i.zero with
   |none=>simp[W]at hb3
   | some z =>
    simp only[W,ze,za]at hb3;split at B
    ·rename_i new old hfn K;split at B
     ·rename_i h1;simp only[zg]at hfn;obtain⟨new0,hfn,rfl⟩:=hfn;obtain⟨nds,hn1,hvn0,H⟩:=D6 r L ⟨n,X,zr _⟩ hfn;have hvn:=hvn0.GU;generalize hnm:new0.map GU=new at *;obtain⟨ods,ho1,hvo,hold⟩:=D6 r J ⟨sl,rfl,zr _⟩ K;have grow:∀(h1':AB) (cap:Nat) (base:Option Addr),s'=.slice base sl cap->cap<sl+n->h1'.size=h.size->Rel P w0 m h1' w->
        ∃m' v' w',(Builtin.append_ ts ty #[s',x']).run P w=.ok v' w'/\(m.ext h.size m')/\Rel P w0 m' (h1'.push (.cells (some e) 2 (old++new))) w'/\VR m' (.slice (some (h.size,0)) (sl+n)) v':=by
       intro h1' cap base hs' I O rel;subst hs';obtain⟨v',w',E,g1,t1,t2,_,t4⟩:=KD (ty:=ty) G F hu M R U W hb3 I hb1 hb2 Q ho1 hold hn1 H hvo hvn h1;have hle:=Aj.Gl (m:=m) E (r.fresh (zr h.size));obtain⟨q1,q2⟩:=t4 (m.upd h.size E) hle h.size (Aj.CR m _ E);refine⟨m.upd h.size E,v',w',g1,Aj.Lm m _ (by omega),?_,q1⟩;rw[<-O]at q2⊢;exact rel.new t1 t2 q2
      split at B
      ·-- onto nil
       injection B with B;injection B with e1 e2;subst e1;subst e2;cases J with
       |By=>exact grow h 0 none rfl (by omega) rfl r
       |D5 a=>exact grow h 0 (some a) rfl (by omega) rfl r
      ·rename_i id o;split at B
       ·rename_i e' cs Y;split at B
        ·rename_i hmay;obtain⟨_,he⟩:=hmay;subst he;injection B with B;injection B with e1 e2;subst e1;subst e2;cases J with
         | slice _ _ _ cap E a hE hle hc=>
          have rk:Rel P w0 m (h.set id (.cells (some e') 0 [])) w:=r.kill Y;by_cases I:sl+n<=cap
          ·-- in place
           obtain⟨haa,hbd⟩:=hc (by omega);subst haa;obtain⟨hesz,S⟩:=r.obj id E _ hE Y;have hesz':E.Lw=i.size:=by rw[hesz.1.1];simp[Ga,Program.cellsOf,U]
           have hbd:=hbd (by omega);rw[hesz']at hbd;obtain⟨cur,et,fz,c1,c2,c3,c4⟩:=S (by omega);have hfit:E.base+o+(sl+n)*i.size<=cur.size:=by
            have:=yr i.size I;omega
           have e3:E.base+o+sl*i.size+0+nds.length<=cur.size:=by rw[hn1];rw[yl]at hfit;omega
           obtain⟨w1,r1,r2,r3,_⟩:=EL (P:=P) E.g (E.base+o+sl*i.size) et fz nds 0 cur w c1 e3 (λu hu'=>by
            obtain⟨j,hj⟩:=qf.1 hu';have hj':j<new.length:=by rw[hvn.1];exact(List.getElem?_eq_some_iff.1 hj).1
            refine(hvn.2 j _ u (List.getElem?_eq_getElem hj') hj).one (zC.1 h1 _ ?_)
            exact zm.2 (.inr (zY hj'))) (by rw[c2];exact(c4 rfl).no)
           have hrun:(Builtin.append_ ts ty #[.slice (some ⟨E.g,E.base+o,none⟩) sl cap,x']).run P w=.ok (.slice (some ⟨E.g,E.base+o,none⟩) (sl+n) cap) w1:=
            KS G F hu M R U I Q (H w rfl) (by rw[Addr.add_lit];exact r1)
           have hle':=Aj.Gl (m:=m) ⟨E.g,E.base+o,i.size,E.total⟩ (r.fresh (zr h.size));have hB:=r.own id E _ hE Y rfl;have hobj':F3 P (m.upd h.size ⟨E.g,E.base+o,i.size,E.total⟩) w1 ⟨E.g,E.base+o,i.size,E.total⟩ (.cells (some e') 2 (old++new)):=by
            refine⟨⟨by simp[Ga,Program.cellsOf,U],λh=>by cases h⟩,λ_=>⟨_,et,fz,r2,?_,λj a B=>⟨zC.1 h1 a (zI B),?_⟩,λ_=>c4 rfl⟩⟩
            ·rw[<-c2];simp;omega
            ·have hcl:(cur.toList.take (E.base+o+sl*i.size+0)).length=E.base+o+sl*i.size:=by simp;omega
             have holl:old.length=sl*i.size:=by rw[hvo.1,ho1]
             rw[List.getElem?_append]at B;split at B
             ·rename_i hj;have hcc:cs[o+j]?=some a:=by
               simp only[Bv]at K;split at K
               ·injection K with K;subst K;simp at B
               ·unfold BQ at K;rw[Y]at K;simp only at K;split at K
                ·injection K with K;subst K;rw[List.getElem?_take]at B;split at B
                 ·rwa [List.getElem?_drop]at B
                 ·cases B
                ·cases K
              obtain⟨_,c,hc',hvc⟩:=c3 (o+j) a hcc;refine⟨c,?_,hvc.mono hle'⟩;have:(cur.toList.take (E.base+o+sl*i.size+0))[E.base+o+j]?=some c:=by
               rw[List.getElem?_take,zk (by omega)];rw[<-yq]at hc';simpa using hc'
              simp only[List.getElem?_toArray];rw[List.getElem?_append_left (List.getElem?_eq_some_iff.1 this).1];exact this
             ·rename_i hj;obtain⟨y,hy,hvy⟩:=hvn.at_ B;refine⟨y,?_,hvy.mono hle'⟩;simp only[List.getElem?_toArray];rw[List.getElem?_append_right (by omega),hcl,List.getElem?_append_left (by have:=(List.getElem?_eq_some_iff.1 hy).1;omega)];rw[<-hy];congr 1;omega
           refine⟨m.upd h.size ⟨E.g,E.base+o,i.size,E.total⟩,_,w1,hrun,Aj.Lm m _ (by omega),?_,?_⟩
           ·refine(rk.ghost (.cells (some e') 2 (old++new))).place (E:=⟨E.g,E.base+o,i.size,E.total⟩) r3 hB (λid2 E2 o2 V ho2 hl2=>?_) (λj=>r.Ke _ _ _ hE Y rfl j) (λR=>r.Py _ _ _ hE Y rfl R) (r.fresh (zr _)) ?_ hobj'
            ·have hid2:=r.Kg id2 E2 V;rw[AB.Bp _ _ (by simpa using hid2)]at ho2;by_cases he2:id2=id
             ·subst he2;rw[h.B0 _ hid2]at ho2;injection ho2 with ho2;subst ho2;simp[Ay.live]at hl2
             ·rw[h.Bw _ (h.Ar Y) he2]at ho2;exact λe=>r.sep id id2 E E2 _ o2 (λe=>he2 e.symm) hE V Y ho2 rfl hl2 e.symm
            ·exact AB.A8 _ _
           ·refine .slice h.size 0 (sl+n) cap ⟨E.g,E.base+o,i.size,E.total⟩ _ (Aj.CR m _ _) I (λ_=>⟨by simp,λ_=>by simpa using hbd⟩)
          ·exact grow _ cap (some a) rfl (by omega) rfl rk
        ·cases B
       ·cases B
     ·cases B
    ·cases B
  ·cases B
theorem Ix(r:Rel P w0 m h w){g:Gd}{ts:Array TypeId}{ty:TypeId}{s x v:AA}{s' x':Value}{h':AB}(J:VR m s s')(L:VR m x x')(B:GM P g h ts s x=some (v,h')):
  ∃m' v' w',(Builtin.append_ ts ty #[s',x']).run P w=.ok v' w'/\(m.ext h.size m')/\Rel P w0 m' h' w'/\VR m' v v':=by
 unfold GM at B;split at B
 ·rename_i st xt rr sl n G F X;split at B
  ·rename_i e dd hu M;split at B
   ·rename_i i U;split at B
    ·rename_i R;exact HC r G F hu M R U J L X B
    ·cases B
   ·cases B
  ·cases B
 ·cases B
theorem KA(r:Rel P w0 m h w){g:Gd}{ts:Array TypeId}{ty:TypeId}{d x v:AA}{d' x':Value}{h':AB}(R:VR m d d')(L:VR m x x')(B:J3 P g h ts d x=some (v,h')):
  ∃v' w',(Builtin.copy_ ts ty #[d',x']).run P w=.ok v' w'/\Rel P w0 m h' w'/\VR m v v':=by
 unfold J3 at B;split at B
 ·rename_i dt rr dl sl hts X;split at B
  ·rename_i e hu;split at B
   ·rename_i z W;have Q:=λw=>H5 (P:=P) L X w;split at B
    ·rename_i new id o C;obtain⟨ds,n1,N,hfc⟩:=D6 r L ⟨sl,X,qF _ _⟩ C;cases R with
     | slice _ _ _ cap E a hE hle hc=>
      split at B
      ·rename_i Z;injection B with B;injection B with e1 e2;subst e1;subst e2;have hnil:ds=[]:=zi (by rw[n1,Z];simp);subst hnil;refine⟨.int .i64 0,w,?_,r,.int _ _⟩;have T:=hfc w rfl;rw[Z]at T;have hmin:Nat.min sl dl=0:=Z;simp[Builtin.copy_,hts,AI w hu,Q,run_sizeOf w W,hmin,T,storeCells,goInt]
      ·rename_i Z;cases hsc:BN g h id o new with
       |none=>simp[hsc]at B
       |some V=>
        simp only[hsc,ze,za,zb]at B;obtain⟨rfl,rfl⟩:=B;obtain⟨haa,_⟩:=hc (by omega);subst haa;obtain⟨w',r1,r2⟩:=Eh r hE N hsc;refine⟨.int .i64 (min sl dl:Nat),w',?_,r2,.int _ _⟩;have hmin:Nat.min sl dl=min sl dl:=rfl;simp[Builtin.copy_,hts,AI w hu,Q,run_sizeOf w W,hmin,hfc w rfl,r1,goInt]
    ·rename_i new C;split at B
     ·rename_i Z;injection B with B;injection B with e1 e2;subst e1;subst e2;obtain⟨ds,n1,N,hfc⟩:=D6 r L ⟨sl,X,qF _ _⟩ C;have hnil:ds=[]:=zi (by rw[n1,Z];simp);subst hnil;have T:=hfc w rfl;cases R
      ·refine⟨.int .i64 0,w,?_,r,.int _ _⟩;rw[Z]at T;have hmin:Nat.min sl 0=0:=Z;simp[Builtin.copy_,hts,AI w hu,Q,run_sizeOf w W,T,goInt]
      ·refine⟨.int .i64 0,w,?_,r,.int _ _⟩;rw[Z]at T;simp[Builtin.copy_,hts,AI w hu,Q,run_sizeOf w W,T,goInt,storeCells]
     ·cases B
    ·cases B
   ·cases B
  ·cases B
 ·cases B
theorem Pb(r:Rel P w0 m h w){g:Gd}{s d:TypeId}{x v:AA}{x':Value}{h':AB}(L:VR m x x')(hc:O5 P g h s d x=some (v,h')):
  ∃v' w',(convert s d x').run P w=.ok v' w'/\Rel P w0 m h' w'/\VR m v v':=by
 unfold O5 at hc;split at hc
 ·rename_i e0 e id o n J R;split at hc
  ·rename_i gr cs he Y;cases hb:(Nat.beq s d&&(g.may id&& !(Nat.beq n 0)))with
   |false=>rw[hb]at hc;cases hc
   | true=>
    rw[hb]at hc;simp only[zE,za,zb]at hc;obtain⟨rfl,rfl⟩:=hc;simp only[zf,zx]at hb;obtain rfl:=zD hb.1;have hn:n≠0:=λe=>by subst e;simp at hb
    cases L with
    |slice _ _ _ cap E a hE hle hcp=>
     obtain⟨rfl,_⟩:=hcp (by omega);obtain⟨he1,S⟩:=r.obj id E _ hE Y;obtain⟨cur,ee,fz,h1,V,h3,h4⟩:=S (by simp);obtain⟨w',fz',q1,q2,q3,q4⟩:=K6 (P:=P) (w:=w) (a:=⟨E.g,E.base+o,none⟩) rfl h1 (by rw[V];exact h4 rfl);refine⟨_,w',?_,r.write hE Y rfl rfl q4 ⟨he1,λ_=>⟨cur,ee,fz',q2,V,h3,λ_=>by rw[<-V];exact q3⟩⟩,.slice id o n cap E _ hE hle hcp⟩;have ee0:e0=e:=by rw[J]at R;injection R with R;injection R
     subst ee0;simp[convert,AI w J,AI w he,q1]
  ·cases hc
 ·cases hc
theorem Mx{P:Program}{g:Gd}{h:AB}{v v':AA}{h':AB}(C:HB g h v=some (v',h')):∀w0 (m:Aj) w u,Rel P w0 m h w->VR m v u->∃m':Aj,m.ext h.size m'/\Rel P w0 m' h' w/\VR m' v' u:=by
 unfold HB at C;split at C
 ·injection C with C;injection C with e1 e2;subst e1;subst e2;exact λw0 m w u r N=>⟨m,Aj.ext.refl _ _,r,by cases N<;>exact .Ic _ _⟩
 ·rename_i id n;by_cases hn:n=0
  ·subst hn;simp only[yX,zE,za,zb]at C;obtain⟨rfl,rfl⟩:=C;exact λw0 m w u r N=>⟨m,Aj.ext.refl _ _,r,by cases N;exact .Ic _ _⟩
  ·have:Nat.beq n 0=false:=by cases n;exact absurd rfl hn;rfl
   rw[this]at C;simp only[zR]at C;split at C
   ·rename_i gr cs Y;cases hm:g.may id with
    |false=>rw[hm]at C;cases C
    | true=>
     rw[hm]at C;simp only[zE,za,zb]at C;obtain⟨rfl,rfl⟩:=C;refine λw0 m w u r N=>?_;cases N with
     | slice _ _ _ cap E a hE hle hc=>
      obtain⟨B,_⟩:=hc (by omega);subst B;obtain⟨cur,r',hle',_,_,hcs⟩:=r.freeze hE Y;refine⟨m.still E.g cur,⟨λ_ _=>rfl,hle'.fz,λ_ h=>h⟩,r',.Gi n cap _ _ cs (λi=>(cur[E.base+i]?).getD undef) hle (λi U=>?_) (λi x L=>?_)⟩
      ·obtain⟨c,h1,_⟩:=hcs i _ (List.getElem?_eq_getElem U);simp[Aj.still,h1]
      ·obtain⟨c,h1,V⟩:=hcs i x L;rw[h1];exact V.mono hle'
   ·rename_i gr c0 cs Y;simp only[za,zb]at C;obtain⟨rfl,rfl⟩:=C;refine λw0 m w u r N=>⟨m,Aj.ext.refl _ _,r,?_⟩;cases N with
    | slice _ _ _ cap E a hE hle hc=>
     obtain⟨B,_⟩:=hc (by omega);subst B;have W:=(r.obj id E _ hE Y).1.1.2 rfl;refine .Gi n cap _ _ (c0::cs) (λi=>(m.fz E.g (E.base+i)).getD undef) hle (λi U=>?_) (λi x L=>?_)
     ·obtain⟨c,h1,_⟩:=W i _ (List.getElem?_eq_getElem U);rw[yO,h1];rfl
     ·obtain⟨c,h1,V⟩:=W i x L;rw[h1];exact V
   ·cases C
 ·injection C with C;injection C with e1 e2;subst e1;subst e2;exact λw0 m w u r N=>⟨m,Aj.ext.refl _ _,r,N⟩
theorem Kl(r:Rel P w0 m h w){g:Gd}{t:TypeId}{x k v:AA}{x' k' v':Value}{h':AB}(L:VR m x x')(hk:VR m k k')(N:VR m v v')(J:HS P g h t x k v=some h'):
  ∃m' w',(Instr.mapUpdate t x' k' v').run P w=.ok () w'/\m.ext h.size m'/\Rel P w0 m' h' w':=by
 unfold HS at J;cases W:HB g h v with
 |none=>rw[W]at J;cases J
 |some q=>
  obtain⟨v1,h1⟩:=q;rw[W]at J;obtain⟨m1,he,r1,hv1⟩:=Mx W w0 m w v' r N;have hle:m.le m1:=⟨λid E hE=>by rw[he.i id (r.Kg id E hE)];exact hE,he.fz⟩;obtain⟨w',q1,q2⟩:=HT r1 (L.mono hle) (hk.mono hle) hv1 J;exact⟨m1,w',q1,he,q2⟩
theorem L8(r:Rel P w0 m h w){g:Gd}{fr:Fr}{a:Act}(C:FR m fr a){o:Oper}{v:AA}{h':AB}(D:GF P g h fr o.op=some (v,h')):
  ∃m' n v' w',(execOp a.eval o).run P w=.ok n w'/\Nh n v'/\(m.ext h.size m')/\Rel P w0 m' h' w'/\VR m' v v':=by
 obtain⟨dst,op,ty,pos,aft,gd⟩:=o;simp only at D;cases op with
 |convert s d x=>
  simp only[GF]at D;obtain⟨v',w',h1,V,h3⟩:=Pb r (C.ev x) D;exact⟨m,.value v',v',w',by simp[execOp,h1],.inl rfl,Aj.ext.refl _ _,V,h3⟩
 | store t x y=>
  simp only[GF]at D;split at D
  ·rename_i id o L;cases J:FL P g h t id o (ev fr y)with
   |none=>simp[J]at D
   | some V=>
    simp only[J,ze,za,zb]at D;obtain⟨rfl,rfl⟩:=D;have N:=C.ev x;rw[L]at N;generalize hq:a.eval x=q at N;cases N with
    |ptr _ _ E hE=>
     obtain⟨w',r1,r2⟩:=JZ r hE (C.ev y) J;exact⟨m,.skip,undef,w',by simp[execOp,Instr.storeAt,Instr.sureAddr,hq,r1],.inr ⟨rfl,rfl⟩,Aj.ext.refl _ _,r2,VR.Em m⟩
  ·cases D
 | mapUpdate t x k y=>
  simp only[GF]at D;cases J:HS P g h t (ev fr x) (ev fr k) (ev fr y)with
  |none=>simp[J]at D
  |some V=>
   simp only[J,ze,za,zb]at D;obtain⟨rfl,rfl⟩:=D;obtain⟨m1,w',r1,he,r2⟩:=Kl r (C.ev x) (C.ev k) (C.ev y) J;exact⟨m1,.skip,undef,w',by simp[execOp,r1],.inr ⟨rfl,rfl⟩,he,r2,VR.Em m1⟩
 | insert t x k y=>
  simp only[GF]at D;cases J:HS P g h t (ev fr x) (ev fr k) (ev fr y)with
  |none=>simp[J]at D
  |some V=>
   simp only[J,ze,za,zb]at D;obtain⟨rfl,rfl⟩:=D;obtain⟨m1,w',r1,he,r2⟩:=Kl r (C.ev x) (C.ev k) (C.ev y) J;exact⟨m1,.skip,undef,w',by simp[execOp,r1],.inr ⟨rfl,rfl⟩,he,r2,VR.Em m1⟩
 | next it s=>
  cases s with
  |false=>simp[GF]at D
  | true =>
   simp only[GF]at D;split at D
   ·rename_i id L;split at D
    ·rename_i s pos Y;have N:=C.ev it;rw[L]at N;generalize hq:a.eval it=q at N;cases N with
     | ptr _ _ E hE=>
      obtain⟨hbase,S⟩:=r.obj id E _ hE Y;rw[hbase]at hq;split at D
      ·split at D
       ·rename_i hlt;injection D with D;injection D with e1 e2;subst e1;subst e2;obtain⟨w',q1,q2,q3,_⟩:=EO (P:=P) (w:=w) (o:=.stringIter ⟨⟨s⟩⟩ pos) (o':=.stringIter ⟨⟨s⟩⟩ (pos+(Utf8.decode ⟨⟨s⟩⟩ pos).2)) S (by simp);have O:pos<(⟨⟨s⟩⟩:ByteArray).size:=hlt;refine⟨m,.value (.tuple #[.bool true,goInt pos,.int .i32 (Utf8.decode ⟨⟨s⟩⟩ pos).1]),_,w',?_,.inl rfl,Aj.ext.refl _ _,r.write hE Y rfl rfl q3 ⟨hbase,q2⟩,?_⟩
        ·have Ia:(getObj E.g).run P w=.ok (.stringIter ⟨⟨s⟩⟩ pos) w:=by simp[getObj,Sem.run,S]
         simp only[execOp,Instr.next,hq,yO,Sem.run_bind,Ia,Result.andThen_ok,zk O,q1,Sem.run_pure]
        ·exact BT.tuple (.cons (.bool true) (.cons (.int _ _) (.cons (.int _ _) (.nil m))))
       ·rename_i hlt;injection D with D;injection D with e1 e2;subst e1;subst e2;have O:¬pos<(⟨⟨s⟩⟩:ByteArray).size:=hlt;refine⟨m,.value (.tuple #[.bool false]),_,w,?_,.inl rfl,Aj.ext.refl _ _,r,BT.tuple (.cons (.bool false) (.nil m))⟩;have Ia:(getObj E.g).run P w=.ok (.stringIter ⟨⟨s⟩⟩ pos) w:=by simp[getObj,Sem.run,S]
        simp only[execOp,Instr.next,hq,yO,Sem.run_bind,Ia,Result.andThen_ok,zh O,Sem.run_pure]
      ·cases D
    ·cases D
   ·cases D
 | call c=>
  obtain⟨callee,asE9,ts⟩:=c;cases callee with
  |value f=>simp[GF]at D
  |invoke r mth=>simp[GF]at D
  | builtin b=>
   simp only[GF]at D;have hall:=C.SC asE9.toList;have res:∀(w:World),(resolve a.eval {callee:=.builtin b,args:=asE9,argTypes:=ts} ty).run P w=.ok {target:=.builtin b ts ty (asE9.map fun| .const _=>true|_=>false),args:=asE9.map a.eval} w:=λw=>rfl;have two:∀x y,asE9.toList.map (ev fr)=[x,y]->∃x' y',asE9.map a.eval=#[x',y']/\VR m x x'/\VR m y y':=by
    intro x y heq;rw[heq]at hall;have hlen:(asE9.toList.map a.eval).length=2:=by rw[<-hall.1];rfl
    match hq:asE9.toList.map a.eval,hlen with
    |[x',y'],_=>exact⟨x',y',Array.ext' (by simpa using hq),hall.2 0 x x' rfl (by rw[hq];rfl),hall.2 1 y y' rfl (by rw[hq];rfl)⟩
   split at D
   ·rename_i s x heq;obtain⟨s',x',hsx,hvs,hvx⟩:=two s x heq;obtain⟨m',v',w',r1,r2,r3,r4⟩:=Ix (ty:=ty) r hvs hvx D;exact⟨m',.value v',v',w',by simp[execOp,res,invoke,builtin,hsx,r1],.inl rfl,r2,r3,r4⟩
   ·rename_i s x heq;obtain⟨s',x',hsx,hvs,hvx⟩:=two s x heq;obtain⟨v',w',r1,r2,r3⟩:=KA (ty:=ty) r hvs hvx D;exact⟨m,.value v',v',w',by simp[execOp,res,invoke,builtin,hsx,r1],.inl rfl,Aj.ext.refl _ _,r2,r3⟩
   ·rename_i s x heq;obtain⟨s',x',hsx,hvs,hvx⟩:=two s x heq;cases J:Fj P g h ts s x with
    |none=>simp[J]at D
    |some V=>
     simp only[J,ze,za,zb]at D;obtain⟨rfl,rfl⟩:=D;obtain⟨w',r1,r2⟩:=I8 (ty:=ty) r hvs hvx J;exact⟨m,.value (.tuple #[]),.tuple #[],w',by simp[execOp,res,invoke,builtin,hsx,r1],.inl rfl,Aj.ext.refl _ _,r2,VR.Em m⟩
   ·cases D
 |_=>simp[GF]at D
end
end Go.Av
