/-
 A part.
-/
import Derived.Test.YthhonebaoidfgaaGreatDoorAvOpW
set_option linter.unusedSimpArgs false
namespace Go.Av
open Go.RowKit
section
variable {P:Program} {w0:World} {m:Bk} {h:AF} {w:World}
theorem R7{x:AD}{x':Value}{n:Nat}(L:VR m x x')(R:TN x=some n)(w:World):(Builtin.lenOf x').run P w=.ok n w:=by
 cases L<;>simp[TN]at R
 case str s=>subst R;simp[Builtin.lenOf]
 case Eu=>subst R;simp[Builtin.lenOf]
 case GY=>subst R;simp[Builtin.lenOf]
 case slice=>subst R;simp[Builtin.lenOf]
 case L0=>subst R;simp[Builtin.lenOf]
 case Im=>subst R;simp[Builtin.lenOf]
theorem KC(r:Rel P w0 m h w){z n:Nat}{x:AD}{x':Value}{cs:List AD}(L:VR m x x')(hn:∃l,TN x=some l/\n<=l)(C:EG h z n x=some cs):
  ∃ds:List Value,ds.length=n*z/\DD m cs ds/\∀w',w'.heap=w.heap->(Builtin.firstCells z n x').run P w'=.ok ds.toArray w':=by
 unfold EG at C;split at C
 ·rename_i id o l;cases L with
  | slice _ _ _ cap E a N hle hc=>
   split at C
   ·rename_i h0;injection C with C;subst C;subst h0;exact⟨[],by simp,.nil m,λw' _=>by simp[Builtin.firstCells,loadCells,loadCellsFrom]⟩
   ·rename_i h0;obtain⟨l',hl',hnl⟩:=hn;simp[TN]at hl';obtain⟨B,_⟩:=hc om;subst B;obtain⟨ds,h1,h2,h3,_⟩:=r.cells N C;refine⟨ds,h1,h2,λw' hw'=>?_⟩;have h3':∀(j:Nat) (v:Value),ds[j]?=some v->w'.cell? ((⟨E.g,E.base+o,none⟩:Addr).add j)=some v:=λj v O=>by
     rw[<-h3 j v O];simp[World.cell?,hw']
    exact run_firstCells_some w' z n _ l cap ds h1 h3'
 ·rename_i l;split at C
  ·rename_i h0;injection C with C;subst C;subst h0;exact⟨[],by simp,.nil m,λw' _=>by cases L<;>simp[Builtin.firstCells,loadCells,loadCellsFrom]⟩
  ·cases C
 ·rename_i s;split at C
  ·rename_i U;injection C with C;subst C;subst U;have:=L.Em;subst this;obtain⟨l',hl',hnl⟩:=hn;simp[TN]at hl';refine⟨(s.take n).map λ(b:UInt8)=>Value.int .u8 b.toNat,by simp;omega,DD.map _ _ _ λb _=>.int _ _,λw' _=>?_⟩;simp[Builtin.firstCells,Ob]
  ·cases C
 ·rename_i n' a;split at C
  ·rename_i hb;injection C with C;subst C;cases L with
   |L0 A cap=>
    have h0:n=0:=by omega
    subst h0;exact⟨[],by simp,by simpa using DD.nil m,λw' _=>by cases A<;>simp[Builtin.firstCells,loadCells,loadCellsFrom]⟩
   |Im _ cap g o _ c hc hf1 O=>
    obtain⟨ds,h1,h2,h3⟩:=r.SY hf1 O;have hle:n*z<=n'*z:=qj _ hb.1;have hl1:(ds.take (n*z)).length=n*z:=by rw[zA];omega
    refine⟨ds.take (n*z),hl1,h2.take _,λw' hw'=>?_⟩;refine run_firstCells_some w' z n _ n' cap _ hl1 λj v hj=>?_;rw[List.getElem?_take]at hj;split at hj
    ·rw[<-h3 j v hj];simp[World.cell?,hw']
    ·cases hj
  ·cases C
 ·cases C
theorem Wd{st xt e ty:TypeId}{ts:Array TypeId}{d:TypeDesc}{i:TypeInfo}{base:Option Addr}{sl cap n:Nat}{x' z:Value}{JY new:List AD}{ods nds:List Value}
  (G:ts[0]?=some st) (F:ts[1]?=some xt) (hu:P.underlying st=some (.slice e)) (M:P.underlying xt=some d) (hd:Lb d=true) (hi:P.info? e=some i) (U:i.zero=some z) (hzs:z.cells.size=i.size)
  (I:cap<sl+n) (hb1:sl+n<=1099511627776) (hb2:(sl+n)*i.bytes<=1099511627776)
  (R:∀w:World,(Builtin.lenOf x').run P w=.ok n w)
  (ho1:ods.length=sl*i.size) (hold:∀w',w'.heap=w.heap->(Builtin.firstCells i.size sl (.slice base sl cap)).run P w'=.ok ods.toArray w')
  (hn1:nds.length=n*i.size) (H:∀w',w'.heap=w.heap->(Builtin.firstCells i.size n x').run P w'=.ok nds.toArray w')
  (hvo:DD m JY ods) (hvn:DD m new nds) (h1:(JY++new).all AD.one=true):
  ∃v' w' E,(Builtin.append_ ts ty #[.slice base sl cap,x']).run P w=.ok v' w'/\Qt P m w w' E (λk=>.slice (some (k,0)) (sl+n),.cells (some e) 2 (JY++new)) v':=by
 obtain⟨c,hc⟩:∃c,c=(Question.appendCap (sl+n) cap e).cut (w.tape w.drawn (.appendCap (sl+n) cap e)):=⟨_,rfl⟩;have hcge:sl+n<=c:=by rw[hc];simp[Question.cut]
 have hch:(choose (.appendCap (sl+n) cap e)).run P w=.ok c w.drew:=by rw[hc];rfl
 have hfit:=growslice_fits (bytes:=i.bytes) I om;obtain⟨row,hrow⟩:∃row,row=ods.toArray++nds.toArray++Builtin.zeroCells z.cells (c - (sl+n)):=⟨_,rfl⟩;have hsize:row.size=c*i.size:=by
  rw[hrow];simp only[Array.size_append,List.size_toArray,ho1,hn1,size_zeroCells,hzs];rw[<-yC,<-yC];congr 1;omega
 have hvall:=hvo.app hvn;have hlen:(JY++new).length=(sl+n)*i.size:=by rw[hvall.1,zi,ho1,hn1,yC]
 have Q:DK P e=some i.size:=by simp[DK,hi]
 refine⟨.slice (some ⟨w.heap.size,0,none⟩) (sl+n) c,w.drew.alloc (.cells row e),⟨w.heap.size,0,i.size,c*i.size⟩,?_,Fs.alloc_drew w _ _,rfl,by show _<(w.heap.push _).size;simp,λm' hm id hid=>⟨?_,?_⟩⟩
 ·have hzv:∀w:World,(zeroValue e).run P w=.ok z w:=λw=>by simp[zeroValue,typeInfo,hi,U]
  have hti:∀w:World,(typeInfo e).run P w=.ok i w:=λw=>by simp[typeInfo,hi]
  have hmark:∀(n:Nat) (w:World),(askRoom n).run P w=.ok () w:=λn w=>by unfold askRoom;split<;>rfl
  have hn63:¬(((sl+n:Nat):Int)>IntKind.i64.max):=by simp[IntKind.max_i64];omega
  have hnotInt:(match d with| .int _=>true|_=>false)=false:=by cases d<;>simp[Lb]at hd<;>rfl
  have hnr:¬(sl+n<=cap):=by omega
  have hnf:¬(Builtin.nextslicecap (sl+n) cap*i.bytes>2^48):=by omega
  have e2:(newRow e row).run P w.drew=.ok ⟨w.heap.size,0,none⟩ (w.drew.alloc (.cells row e)):=IP w.drew e row;rw[hrow]at e2⊢;clear hnotInt;simp only[Builtin.append_,List.getElem?_toArray,List.getElem?_cons_zero,List.getElem?_cons_succ,G,F,Sem.run_bind,BE w hu,Result.andThen_ok,run_sizeOf w Q,BE w M,Sem.run_pure];cases d<;>simp[Lb]at hd<;>
   simp only[yM,if_false,Sem.run_bind,R,Result.andThen_ok,Sem.run_ite,zj hnr,hn63,false_and,hti,zj hnf,hch,hmark,hold w.drew rfl,H w.drew rfl,hzv,e2,Sem.run_pure,yE,if_true]
 ·exact .slice id 0 (sl+n) c _ _ hid hcge (λ_=>⟨by simp,λ_=>by simp⟩)
 ·refine Lp (e:=e) (fz:=(0,0)) (heap_alloc_new w.drew _) rfl (by simp[K2,Kk Q]) (by simp[hsize]) ?_ h1 (.inl rfl);have:row.toList.take (JY++new).length=ods++nds:=by
   rw[hrow,hlen];have:(sl+n)*i.size=(ods++nds).length:=by simp[ho1,hn1,yC]
   rw[this];simp only[Array.toList_append];rw[xb]
  rw[this];exact hvall.mono hm
theorem WD{st xt e ty:TypeId}{ts:Array TypeId}{d:TypeDesc}{i:TypeInfo}{base:Addr}{sl cap n:Nat}{x':Value}{nds:List Value}{w1:World}
  (G:ts[0]?=some st) (F:ts[1]?=some xt) (hu:P.underlying st=some (.slice e)) (M:P.underlying xt=some d) (hd:Lb d=true) (hi:P.info? e=some i)
  (I:sl+n<=cap) (R:∀w:World,(Builtin.lenOf x').run P w=.ok n w)
  (H:(Builtin.firstCells i.size n x').run P w=.ok nds.toArray w) (hst:(storeCells (base.add (sl*i.size)) nds).run P w=.ok () w1):
  (Builtin.append_ ts ty #[.slice (some base) sl cap,x']).run P w=.ok (.slice (some base) (sl+n) cap) w1:=by
 have Q:DK P e=some i.size:=by simp[DK,hi]
 simp only[Builtin.append_,List.getElem?_toArray,List.getElem?_cons_zero,List.getElem?_cons_succ,G,F,Sem.run_bind,BE w hu,Result.andThen_ok,run_sizeOf w Q,BE w M,Sem.run_pure];cases d<;>simp[Lb]at hd<;>
  simp only[yM,if_false,Sem.run_bind,R,Result.andThen_ok,Sem.run_ite,zl I,H,hst,Sem.run_pure,yE,if_true]
theorem NU{st xt e ty:TypeId}{ts:Array TypeId}{d:TypeDesc}{i:TypeInfo}{base:Option Addr}{sl cap:Nat}{x':Value}
  (G:ts[0]?=some st) (F:ts[1]?=some xt) (hu:P.underlying st=some (.slice e)) (M:P.underlying xt=some d) (hd:Lb d=true) (hi:P.info? e=some i)
  (I:sl<=cap) (R:∀w:World,(Builtin.lenOf x').run P w=.ok 0 w) (H:(Builtin.firstCells i.size 0 x').run P w=.ok #[] w):
  (Builtin.append_ ts ty #[.slice base sl cap,x']).run P w=.ok (.slice base sl cap) w:=by
 have Q:DK P e=some i.size:=by simp[DK,hi]
 simp only[Builtin.append_,List.getElem?_toArray,List.getElem?_cons_zero,List.getElem?_cons_succ,G,F,Sem.run_bind,BE w hu,Result.andThen_ok,run_sizeOf w Q,BE w M,Sem.run_pure];cases d<;>simp[Lb]at hd<;>cases base<;>
  simp[R,I,H,storeCells]
theorem QL(r : Rel P w0 m h w){g:Gd}{st xt e ty:TypeId}{ts:Array TypeId}{d:TypeDesc}{i:TypeInfo}{rr:Option (Nat×Nat)}{sl n:Nat}{x v:AD}{s' x':Value}{h':AF}
  (G:ts[0]?=some st) (F:ts[1]?=some xt) (hu:P.underlying st=some (.slice e)) (M:P.underlying xt=some d) (hd:Lb d=true) (hi:P.info? e=some i)
  (J:VR m (.slice rr sl) s') (L:VR m x x') (V:TN x=some n) (B:appendCore g h e i rr sl n x=some (v,h')):
  ∃m' v' w',(Builtin.append_ ts ty #[s',x']).run P w=.ok v' w'/\(m.ext h.size m')/\Rel P w0 m' h' w'/\VR m' v v':=by
 have R:=λw=>R7 (P:=P) L V w;unfold appendCore at B;split at B
 ·-- nothing is appended
  rename_i h0;subst h0;injection B with B;injection B with e1 e2;subst e1;subst e2;have H:(Builtin.firstCells i.size 0 x').run P w=.ok #[] w:=by
   cases L<;>simp[TN]at V<;>first|(simp[Builtin.firstCells,loadCells,loadCellsFrom];done)|(rename_i A _;cases A<;>simp[Builtin.firstCells,loadCells,loadCellsFrom])
  cases J with
  |Eu=>exact⟨m,_,w,NU G F hu M hd hi (zw _) R H,Bk.ext.refl _ _,r,.Eu⟩
  |GY a=>exact⟨m,_,w,NU G F hu M hd hi (zw _) R H,Bk.ext.refl _ _,r,.GY a⟩
  |slice id o _ cap E a N hle hc=>exact⟨m,_,w,NU G F hu M hd hi hle R H,Bk.ext.refl _ _,r,.slice id o sl cap E a N hle hc⟩
 ·rename_i hn0;split at B
  ·rename_i hb;obtain⟨hb0,hb1,hb2,hb3⟩:=hb;cases U:i.zero with
   |none=>simp[U]at hb3
   | some z =>
    simp only[U,zh,zb]at hb3;split at B
    ·rename_i new JY hfn K;split at B
     ·rename_i h1;simp only[zk]at hfn;obtain⟨new0,hfn,rfl⟩:=hfn;obtain⟨nds,hn1,hvn0,H⟩:=KC r L ⟨n,V,zw _⟩ hfn;have hvn:=hvn0.GV;generalize hnm:new0.map GV=new at *;obtain⟨ods,ho1,hvo,hold⟩:=KC r J ⟨sl,rfl,zw _⟩ K;have grow:∀(h1':AF) (cap:Nat) (base:Option Addr),s'=.slice base sl cap->cap<sl+n->h1'.size=h.size->Rel P w0 m h1' w->
        ∃m' v' w',(Builtin.append_ ts ty #[s',x']).run P w=.ok v' w'/\(m.ext h.size m')/\Rel P w0 m' (h1'.push (.cells (some e) 2 (JY++new))) w'/\VR m' (.slice (some (h.size,0)) (sl+n)) v':=by
       intro h1' cap base hs' I Q rel;subst hs';obtain⟨v',w',E,g1,t1,t2,_,t4⟩:=Wd (ty:=ty) G F hu M hd hi U hb3 I hb1 hb2 R ho1 hold hn1 H hvo hvn h1;have hle:=Bk.O2 (m:=m) E (r.fresh (zw h.size));obtain⟨q1,q2⟩:=t4 (m.upd h.size E) hle h.size (Bk.Gp m _ E);refine⟨m.upd h.size E,v',w',g1,Bk.MC m _ om,?_,q1⟩;rw[<-Q]at q2⊢;exact rel.new t1 t2 q2
      split at B
      ·-- onto nil
       injection B with B;injection B with e1 e2;subst e1;subst e2;cases J with
       |Eu=>exact grow h 0 none rfl om rfl r
       |GY a=>exact grow h 0 (some a) rfl om rfl r
      ·rename_i id o;split at B
       ·rename_i e' cs W;split at B
        ·rename_i hmay;obtain⟨_,he⟩:=hmay;subst he;injection B with B;injection B with e1 e2;subst e1;subst e2;cases J with
         | slice _ _ _ cap E a N hle hc=>
          have rk:Rel P w0 m (h.set id (.cells (some e') 0 [])) w:=r.kill W;by_cases I:sl+n<=cap
          ·-- in place
           obtain⟨haa,hbd⟩:=hc om;subst haa;obtain⟨hesz,S⟩:=r.obj id E _ N W;have hesz':E.Y7=i.size:=by rw[hesz.1.1];simp[K2,Program.cellsOf,hi]
           have hbd:=hbd om;rw[hesz']at hbd;obtain⟨cur,et,fz,c1,c2,c3,c4⟩:=S om;have hfit:E.base+o+(sl+n)*i.size<=cur.size:=by
            have:=qj i.size I;omega
           have e3:E.base+o+sl*i.size+0+nds.length<=cur.size:=by rw[hn1];rw[yC]at hfit;omega
           obtain⟨w1,r1,r2,r3,_⟩:=KM (P:=P) E.g (E.base+o+sl*i.size) et fz nds 0 cur w c1 e3 (λu hu'=>by
            obtain⟨j,hj⟩:=q9.1 hu';have hj':j<new.length:=by rw[hvn.1];exact(List.getElem?_eq_some_iff.1 hj).1
            refine(hvn.2 j _ u (List.getElem?_eq_getElem hj') hj).one (zr.1 h1 _ ?_)
            exact zu.2 (.inr (zP hj'))) (by rw[c2];exact(c4 rfl).no)
           have hrun:(Builtin.append_ ts ty #[.slice (some ⟨E.g,E.base+o,none⟩) sl cap,x']).run P w=.ok (.slice (some ⟨E.g,E.base+o,none⟩) (sl+n) cap) w1:=
            WD G F hu M hd hi I R (H w rfl) (by rw[Addr.add_lit];exact r1)
           have X:=Bk.O2 (m:=m) ⟨E.g,E.base+o,i.size,E.total⟩ (r.fresh (zw h.size));have hB:=r.own id E _ N W rfl;have hobj':MW P (m.upd h.size ⟨E.g,E.base+o,i.size,E.total⟩) w1 ⟨E.g,E.base+o,i.size,E.total⟩ (.cells (some e') 2 (JY++new)):=by
            refine⟨⟨by simp[K2,Program.cellsOf,hi],λh=>by cases h⟩,λ_=>⟨_,et,fz,r2,?_,λj a B=>⟨zr.1 h1 a (zN B),?_⟩,λ_=>c4 rfl⟩⟩
            ·rw[<-c2];simp;omega
            ·have hcl:(cur.toList.take (E.base+o+sl*i.size+0)).length=E.base+o+sl*i.size:=by simp;omega
             have holl:JY.length=sl*i.size:=by rw[hvo.1,ho1]
             rw[List.getElem?_append]at B;split at B
             ·rename_i hj;have hcc:cs[o+j]?=some a:=by
               simp only[EG]at K;split at K
               ·injection K with K;subst K;simp at B
               ·unfold DG at K;rw[W]at K;simp only at K;split at K
                ·injection K with K;subst K;rw[List.getElem?_take]at B;split at B
                 ·rwa [List.getElem?_drop]at B
                 ·cases B
                ·cases K
              obtain⟨_,c,hc',hvc⟩:=c3 (o+j) a hcc;refine⟨c,?_,hvc.mono X⟩;have:(cur.toList.take (E.base+o+sl*i.size+0))[E.base+o+j]?=some c:=by
               rw[List.getElem?_take,zl om];rw[<-yG]at hc';simpa using hc'
              simp only[List.getElem?_toArray];rw[List.getElem?_append_left (List.getElem?_eq_some_iff.1 this).1];exact this
             ·rename_i hj;obtain⟨y,hy,hvy⟩:=hvn.at_ B;refine⟨y,?_,hvy.mono X⟩;simp only[List.getElem?_toArray];rw[List.getElem?_append_right om,hcl,List.getElem?_append_left (by have:=(List.getElem?_eq_some_iff.1 hy).1;omega)];rw[<-hy];congr 1;omega
           refine⟨m.upd h.size ⟨E.g,E.base+o,i.size,E.total⟩,_,w1,hrun,Bk.MC m _ om,?_,?_⟩
           ·refine(rk.ghost (.cells (some e') 2 (JY++new))).place (E:=⟨E.g,E.base+o,i.size,E.total⟩) r3 hB (λid2 E2 o2 h2 Y hl2=>?_) (λj=>r.K1 _ _ _ N W rfl j) (λhd=>r.Re _ _ _ N W rfl hd) (r.fresh (zw _)) ?_ hobj'
            ·have hid2:=r.Q2 id2 E2 h2;rw[AF.Ci _ _ (by simpa using hid2)]at Y;by_cases he2:id2=id
             ·subst he2;rw[h.get_set_same _ hid2]at Y;injection Y with Y;subst Y;simp[Cs.live]at hl2
             ·rw[h.CN _ (h.CA W) he2]at Y;exact λe=>r.sep id id2 E E2 _ o2 (λe=>he2 e.symm) N h2 W Y rfl hl2 e.symm
            ·exact AF.C7 _ _
           ·refine .slice h.size 0 (sl+n) cap ⟨E.g,E.base+o,i.size,E.total⟩ _ (Bk.Gp m _ _) I (λ_=>⟨by simp,λ_=>by simpa using hbd⟩)
          ·exact grow _ cap (some a) rfl om rfl rk
        ·cases B
       ·cases B
     ·cases B
    ·cases B
  ·cases B
theorem Ti(r:Rel P w0 m h w){g:Gd}{ts:Array TypeId}{ty:TypeId}{s x v:AD}{s' x':Value}{h':AF}(J:VR m s s')(L:VR m x x')(B:Pn P g h ts s x=some (v,h')):
  ∃m' v' w',(Builtin.append_ ts ty #[s',x']).run P w=.ok v' w'/\(m.ext h.size m')/\Rel P w0 m' h' w'/\VR m' v v':=by
 unfold Pn at B;split at B
 ·rename_i st xt rr sl n G F V;split at B
  ·rename_i e dd hu M;split at B
   ·rename_i i hi;split at B
    ·rename_i hd;exact QL r G F hu M hd hi J L V B
    ·cases B
   ·cases B
  ·cases B
 ·cases B
theorem Wi(r:Rel P w0 m h w){g:Gd}{ts:Array TypeId}{ty:TypeId}{d x v:AD}{d' x':Value}{h':AF}(hd:VR m d d')(L:VR m x x')(B:YQ P g h ts d x=some (v,h')):
  ∃v' w',(Builtin.copy_ ts ty #[d',x']).run P w=.ok v' w'/\Rel P w0 m h' w'/\VR m v v':=by
 unfold YQ at B;split at B
 ·rename_i dt rr dl sl hts V;split at B
  ·rename_i e hu;split at B
   ·rename_i z U;have R:=λw=>R7 (P:=P) L V w;split at B
    ·rename_i new id o C;obtain⟨ds,n1,O,hfc⟩:=KC r L ⟨sl,V,Nat.min_le_left _ _⟩ C;cases hd with
     | slice _ _ _ cap E a N hle hc=>
      split at B
      ·rename_i h0;injection B with B;injection B with e1 e2;subst e1;subst e2;have hnil:ds=[]:=zx (by rw[n1,h0];simp);subst hnil;refine⟨.int .i64 0,w,?_,r,.int _ _⟩;have T:=hfc w rfl;rw[h0]at T;have Z:Nat.min sl dl=0:=h0;simp[Builtin.copy_,hts,BE w hu,R,run_sizeOf w U,Z,T,storeCells,goInt]
      ·rename_i h0;cases hsc:EK g h id o new with
       |none=>simp[hsc]at B
       |some h2=>
        simp only[hsc,zh,zb,ze]at B;obtain⟨rfl,rfl⟩:=B;obtain⟨haa,_⟩:=hc om;subst haa;obtain⟨w',r1,r2⟩:=LL r N O hsc;refine⟨.int .i64 (min sl dl:Nat),w',?_,r2,.int _ _⟩;have Z:Nat.min sl dl=min sl dl:=rfl;simp[Builtin.copy_,hts,BE w hu,R,run_sizeOf w U,Z,hfc w rfl,r1,goInt]
    ·rename_i new C;split at B
     ·rename_i h0;injection B with B;injection B with e1 e2;subst e1;subst e2;obtain⟨ds,n1,O,hfc⟩:=KC r L ⟨sl,V,Nat.min_le_left _ _⟩ C;have hnil:ds=[]:=zx (by rw[n1,h0];simp);subst hnil;have T:=hfc w rfl;cases hd
      ·refine⟨.int .i64 0,w,?_,r,.int _ _⟩;rw[h0]at T;have Z:Nat.min sl 0=0:=h0;simp[Builtin.copy_,hts,BE w hu,R,run_sizeOf w U,T,goInt]
      ·refine⟨.int .i64 0,w,?_,r,.int _ _⟩;rw[h0]at T;simp[Builtin.copy_,hts,BE w hu,R,run_sizeOf w U,T,goInt,storeCells]
     ·cases B
    ·cases B
   ·cases B
  ·cases B
 ·cases B
theorem WW(r:Rel P w0 m h w){g:Gd}{s d:TypeId}{x v:AD}{x':Value}{h':AF}(L:VR m x x')(hc:Qy P g h s d x=some (v,h')):
  ∃v' w',(convert s d x').run P w=.ok v' w'/\Rel P w0 m h' w'/\VR m v v':=by
 unfold Qy at hc;split at hc
 ·rename_i e0 e id o n J hd;split at hc
  ·rename_i gr cs he W;cases hb:(Nat.beq s d&&(g.may id&& !(Nat.beq n 0)))with
   |false=>rw[hb]at hc;cases hc
   | true=>
    rw[hb]at hc;simp only[zL,zb,ze]at hc;obtain⟨rfl,rfl⟩:=hc;simp only[zf,zH]at hb;obtain rfl:=zt hb.1;have hn:n≠0:=λe=>by subst e;simp at hb
    cases L with
    |slice _ _ _ cap E a N hle hcp=>
     obtain⟨rfl,_⟩:=hcp om;obtain⟨he1,S⟩:=r.obj id E _ N W;obtain⟨cur,ee,fz,h1,h2,h3,h4⟩:=S (by simp);obtain⟨w',fz',q1,q2,q3,q4⟩:=On (P:=P) (w:=w) (a:=⟨E.g,E.base+o,none⟩) rfl h1 (by rw[h2];exact h4 rfl);refine⟨_,w',?_,r.write N W rfl rfl q4 ⟨he1,λ_=>⟨cur,ee,fz',q2,h2,h3,λ_=>by rw[<-h2];exact q3⟩⟩,.slice id o n cap E _ N hle hcp⟩;have ee0:e0=e:=by rw[J]at hd;injection hd with hd;injection hd
     subst ee0;simp[convert,BE w J,BE w he,q1]
  ·cases hc
 ·cases hc
theorem S3{P:Program}{g:Gd}{h:AF}{v v':AD}{h':AF}(C:KG g h v=some (v',h')):∀w0 (m:Bk) w u,Rel P w0 m h w->VR m v u->∃m':Bk,m.ext h.size m'/\Rel P w0 m' h' w/\VR m' v' u:=by
 unfold KG at C;split at C
 ·injection C with C;injection C with e1 e2;subst e1;subst e2;exact λw0 m w u r O=>⟨m,Bk.ext.refl _ _,r,by cases O<;>exact .L0 _ _⟩
 ·rename_i id n;by_cases hn:n=0
  ·subst hn;simp only[yl,zL,zb,ze]at C;obtain⟨rfl,rfl⟩:=C;exact λw0 m w u r O=>⟨m,Bk.ext.refl _ _,r,by cases O;exact .L0 _ _⟩
  ·have:Nat.beq n 0=false:=by cases n;exact absurd rfl hn;rfl
   rw[this]at C;simp only[yO]at C;split at C
   ·rename_i gr cs W;cases hm:g.may id with
    |false=>rw[hm]at C;cases C
    | true=>
     rw[hm]at C;simp only[zL,zb,ze]at C;obtain⟨rfl,rfl⟩:=C;refine λw0 m w u r O=>?_;cases O with
     | slice _ _ _ cap E a N hle hc=>
      obtain⟨B,_⟩:=hc om;subst B;obtain⟨cur,r',X,_,_,hcs⟩:=r.freeze N W;refine⟨m.still E.g cur,⟨λ_ _=>rfl,X.fz,λ_ _ h=>h⟩,r',.Im n cap _ _ cs (λi=>(cur[E.base+i]?).getD undef) hle (λi hi=>?_) (λi x L=>?_)⟩
      ·obtain⟨c,h1,_⟩:=hcs i _ (List.getElem?_eq_getElem hi);simp[Bk.still,h1]
      ·obtain⟨c,h1,h2⟩:=hcs i x L;rw[h1];exact h2.mono X
   ·rename_i gr c0 cs W;simp only[zb,ze]at C;obtain⟨rfl,rfl⟩:=C;refine λw0 m w u r O=>⟨m,Bk.ext.refl _ _,r,?_⟩;cases O with
    | slice _ _ _ cap E a N hle hc=>
     obtain⟨B,_⟩:=hc om;subst B;have U:=(r.obj id E _ N W).1.1.2 rfl;refine .Im n cap _ _ (c0::cs) (λi=>(m.fz E.g (E.base+i)).getD undef) hle (λi hi=>?_) (λi x L=>?_)
     ·obtain⟨c,h1,_⟩:=U i _ (List.getElem?_eq_getElem hi);rw[yQ,h1];rfl
     ·obtain⟨c,h1,h2⟩:=U i x L;rw[h1];exact h2
   ·cases C
 ·injection C with C;injection C with e1 e2;subst e1;subst e2;exact λw0 m w u r O=>⟨m,Bk.ext.refl _ _,r,O⟩
theorem Og(r:Rel P w0 m h w){g:Gd}{t:TypeId}{x k v:AD}{x' k' v':Value}{h':AF}(L:VR m x x')(hk:VR m k k')(O:VR m v v')(J:Ho P g h t x k v=some h'):
  ∃m' w',(Instr.mapUpdate t x' k' v').run P w=.ok () w'/\m.ext h.size m'/\Rel P w0 m' h' w':=by
 unfold Ho at J;cases U:KG g h v with
 |none=>rw[U]at J;cases J
 |some q=>
  obtain⟨v1,h1⟩:=q;rw[U]at J;obtain⟨m1,he,r1,hv1⟩:=S3 U w0 m w v' r O;have hle:m.le m1:=⟨λid E N=>by rw[he.i id (r.Q2 id E N)];exact N,he.fz⟩;obtain⟨w',q1,q2⟩:=TW r1 (L.mono hle) (hk.mono hle) hv1 J;exact⟨m1,w',q1,he,q2⟩
theorem ZK(r:Rel P w0 m h w){g:Gd}{fr:Fr}{a:Act}(C:FR m fr a){o:Oper}{v:AD}{h':AF}(D:M0 P g h fr o.op=some (v,h')):
  ∃m' n v' w',(execOp a.eval o).run P w=.ok n w'/\ao n v'/\(m.ext h.size m')/\Rel P w0 m' h' w'/\VR m' v v':=by
 obtain⟨dst,op,ty,pos,aft,gd⟩:=o;simp only at D;cases op with
 |convert s d x=>
  simp only[M0]at D;obtain⟨v',w',h1,h2,h3⟩:=WW r (C.ev x) D;exact⟨m,.value v',v',w',by simp[execOp,h1],.inl rfl,Bk.ext.refl _ _,h2,h3⟩
 | store t x y=>
  simp only[M0]at D;split at D
  ·rename_i id o L;cases J:N1 P g h t id o (ev fr y)with
   |none=>simp[J]at D
   | some h2=>
    simp only[J,zh,zb,ze]at D;obtain⟨rfl,rfl⟩:=D;have O:=C.ev x;rw[L]at O;generalize hq:a.eval x=q at O;cases O with
    |ptr _ _ E N=>
     obtain⟨w',r1,r2⟩:=Up r N (C.ev y) J;exact⟨m,.skip,undef,w',by simp[execOp,Instr.storeAt,Instr.sureAddr,hq,r1],.inr ⟨rfl,rfl⟩,Bk.ext.refl _ _,r2,VR.HN m⟩
  ·cases D
 | mapUpdate t x k y=>
  simp only[M0]at D;cases J:Ho P g h t (ev fr x) (ev fr k) (ev fr y)with
  |none=>simp[J]at D
  |some h2=>
   simp only[J,zh,zb,ze]at D;obtain⟨rfl,rfl⟩:=D;obtain⟨m1,w',r1,he,r2⟩:=Og r (C.ev x) (C.ev k) (C.ev y) J;exact⟨m1,.skip,undef,w',by simp[execOp,r1],.inr ⟨rfl,rfl⟩,he,r2,VR.HN m1⟩
 | insert t x k y=>
  simp only[M0]at D;cases J:Ho P g h t (ev fr x) (ev fr k) (ev fr y)with
  |none=>simp[J]at D
  |some h2=>
   simp only[J,zh,zb,ze]at D;obtain⟨rfl,rfl⟩:=D;obtain⟨m1,w',r1,he,r2⟩:=Og r (C.ev x) (C.ev k) (C.ev y) J;exact⟨m1,.skip,undef,w',by simp[execOp,r1],.inr ⟨rfl,rfl⟩,he,r2,VR.HN m1⟩
 | next it s=>
  cases s with
  |false=>simp[M0]at D
  | true =>
   simp only[M0]at D;split at D
   ·rename_i id L;split at D
    ·rename_i s pos W;have O:=C.ev it;rw[L]at O;generalize hq:a.eval it=q at O;cases O with
     | ptr _ _ E N=>
      obtain⟨hbase,S⟩:=r.obj id E _ N W;rw[hbase]at hq;split at D
      ·split at D
       ·rename_i hlt;injection D with D;injection D with e1 e2;subst e1;subst e2;obtain⟨w',q1,q2,q3,_⟩:=KO (P:=P) (w:=w) (o:=.stringIter ⟨⟨s⟩⟩ pos) (o':=.stringIter ⟨⟨s⟩⟩ (pos+(Utf8.decode ⟨⟨s⟩⟩ pos).2)) S (by simp);have Q:pos<(⟨⟨s⟩⟩:ByteArray).size:=hlt;refine⟨m,.value (.tuple #[.bool true,goInt pos,.int .i32 (Utf8.decode ⟨⟨s⟩⟩ pos).1]),_,w',?_,.inl rfl,Bk.ext.refl _ _,r.write N W rfl rfl q3 ⟨hbase,q2⟩,?_⟩
        ·have hget:(getObj E.g).run P w=.ok (.stringIter ⟨⟨s⟩⟩ pos) w:=by simp[getObj,Sem.run,S]
         simp only[execOp,Instr.next,hq,yQ,Sem.run_bind,hget,Result.andThen_ok,zl Q,q1,Sem.run_pure]
        ·exact DD.tuple (.cons (.bool true) (.cons (.int _ _) (.cons (.int _ _) (.nil m))))
       ·rename_i hlt;injection D with D;injection D with e1 e2;subst e1;subst e2;have Q:¬pos<(⟨⟨s⟩⟩:ByteArray).size:=hlt;refine⟨m,.value (.tuple #[.bool false]),_,w,?_,.inl rfl,Bk.ext.refl _ _,r,DD.tuple (.cons (.bool false) (.nil m))⟩;have hget:(getObj E.g).run P w=.ok (.stringIter ⟨⟨s⟩⟩ pos) w:=by simp[getObj,Sem.run,S]
        simp only[execOp,Instr.next,hq,yQ,Sem.run_bind,hget,Result.andThen_ok,zj Q,Sem.run_pure]
      ·cases D
    ·cases D
   ·cases D
 | call c=>
  obtain⟨callee,asE9,ts⟩:=c;cases callee with
  |value f=>simp[M0]at D
  |invoke r mth=>simp[M0]at D
  | builtin b=>
   simp only[M0]at D;have hall:=C.KH asE9.toList;have res:∀(w:World),(resolve a.eval {callee:=.builtin b,args:=asE9,argTypes:=ts} ty).run P w=.ok {target:=.builtin b ts ty (asE9.map fun| .const _=>true|_=>false),args:=asE9.map a.eval} w:=λw=>rfl;have two:∀x y,asE9.toList.map (ev fr)=[x,y]->∃x' y',asE9.map a.eval=#[x',y']/\VR m x x'/\VR m y y':=by
    intro x y heq;rw[heq]at hall;have hlen:(asE9.toList.map a.eval).length=2:=by rw[<-hall.1];rfl
    match hq:asE9.toList.map a.eval,hlen with
    |[x',y'],_=>exact⟨x',y',Array.ext' (by simpa using hq),hall.2 0 x x' rfl (by rw[hq];rfl),hall.2 1 y y' rfl (by rw[hq];rfl)⟩
   split at D
   ·rename_i s x heq;obtain⟨s',x',hsx,hvs,hvx⟩:=two s x heq;obtain⟨m',v',w',r1,r2,r3,r4⟩:=Ti (ty:=ty) r hvs hvx D;exact⟨m',.value v',v',w',by simp[execOp,res,invoke,builtin,hsx,r1],.inl rfl,r2,r3,r4⟩
   ·rename_i s x heq;obtain⟨s',x',hsx,hvs,hvx⟩:=two s x heq;obtain⟨v',w',r1,r2,r3⟩:=Wi (ty:=ty) r hvs hvx D;exact⟨m,.value v',v',w',by simp[execOp,res,invoke,builtin,hsx,r1],.inl rfl,Bk.ext.refl _ _,r2,r3⟩
   ·rename_i s x heq;obtain⟨s',x',hsx,hvs,hvx⟩:=two s x heq;cases J:N3 P g h ts s x with
    |none=>simp[J]at D
    |some h2=>
     simp only[J,zh,zb,ze]at D;obtain⟨rfl,rfl⟩:=D;obtain⟨w',r1,r2⟩:=TS (ty:=ty) r hvs hvx J;exact⟨m,.value (.tuple #[]),.tuple #[],w',by simp[execOp,res,invoke,builtin,hsx,r1],.inl rfl,Bk.ext.refl _ _,r2,VR.HN m⟩
   ·cases D
 |_=>simp[M0]at D
end
end Go.Av
