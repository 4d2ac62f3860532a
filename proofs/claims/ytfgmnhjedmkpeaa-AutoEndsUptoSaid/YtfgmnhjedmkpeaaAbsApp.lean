/-
 A part.
-/
import Derived.Test.YtfgmnhjedmkpeaaAbsOpW
set_option linter.unusedSimpArgs false
namespace Go.Abs
open Go.RowKit
section
variable {P:Program} {w0:World} {m:Aj} {h:AB} {w:World}
theorem H5{x:AA}{x':Value}{n:Nat}(N:VR m x x')(Q:Ib x=some n)(w:World):(Builtin.lenOf x').run P w=.ok n w:=by
 cases N<;>simp[Ib]at Q
 case str s=>subst Q;simp[Builtin.lenOf]
 case By=>subst Q;simp[Builtin.lenOf]
 case slice=>subst Q;simp[Builtin.lenOf]
theorem D6(r:Rel P w0 m h w){z n:Nat}{x:AA}{x':Value}{cs:List AA}(N:VR m x x')(hn:∃l,Ib x=some l/\n<=l)(I:Bv h z n x=some cs):
  ∃ds:List Value,ds.length=n*z/\BT m cs ds/\∀w',w'.heap=w.heap->(Builtin.firstCells z n x').run P w'=.ok ds.toArray w':=by
 unfold Bv at I;split at I
 ·rename_i id o l;cases N with
  | slice _ _ _ cap E a hE hle hc=>
   split at I
   ·rename_i W;injection I with I;subst I;subst W;exact⟨[],by simp,.nil m,λw' _=>by simp[Builtin.firstCells,loadCells,loadCellsFrom]⟩
   ·rename_i W;obtain⟨l',hl',hnl⟩:=hn;simp[Ib]at hl';obtain⟨B,_⟩:=hc (by omega);subst B;obtain⟨ds,h1,h2,h3,_⟩:=r.cells hE I;refine⟨ds,h1,h2,λw' hw'=>?_⟩;have h3':∀(j:Nat) (v:Value),ds[j]?=some v->w'.cell? ((⟨E.g,E.base+o,none⟩:Addr).add j)=some v:=λj v hv=>by
     rw[<-h3 j v hv];simp[World.cell?,hw']
    exact run_firstCells_some w' z n _ l cap ds h1 h3'
 ·rename_i l;cases N;split at I
  ·rename_i W;injection I with I;subst I;subst W;exact⟨[],by simp,.nil m,λw' _=>by simp[Builtin.firstCells]⟩
  ·cases I
 ·rename_i s;split at I
  ·rename_i hz;injection I with I;subst I;subst hz;have:=N.CF;subst this;obtain⟨l',hl',hnl⟩:=hn;simp[Ib]at hl';refine⟨(s.take n).map λ(b:UInt8)=>Value.int .u8 b.toNat,by simp;omega,BT.map _ _ _ λb _=>.int _ _,λw' _=>?_⟩;simp[Builtin.firstCells,GJ]
  ·cases I
 ·cases I
theorem KD{st xt e ty:TypeId}{ts:Array TypeId}{d:TypeDesc}{i:TypeInfo}{base:Option Addr}{sl cap n:Nat}{x' z:Value}{old new:List AA}{ods nds:List Value}
  (F:ts[0]?=some st) (D:ts[1]?=some xt) (hu:P.underlying st=some (.slice e)) (K:P.underlying xt=some d) (U:En d=true) (T:P.info? e=some i) (hz:i.zero=some z) (hzs:z.cells.size=i.size)
  (H:cap<sl+n) (hb1:sl+n<=1099511627776) (hb2:(sl+n)*i.bytes<=1099511627776)
  (Q:∀w:World,(Builtin.lenOf x').run P w=.ok n w)
  (ho1:ods.length=sl*i.size) (hold:∀w',w'.heap=w.heap->(Builtin.firstCells i.size sl (.slice base sl cap)).run P w'=.ok ods.toArray w')
  (hn1:nds.length=n*i.size) (G:∀w',w'.heap=w.heap->(Builtin.firstCells i.size n x').run P w'=.ok nds.toArray w')
  (hvo:BT m old ods) (Z:BT m new nds) (h1:(old++new).all AA.one=true):
  ∃v' w' E,(Builtin.append_ ts ty #[.slice base sl cap,x']).run P w=.ok v' w'/\HX P m w w' E (λk=>.slice (some (k,0)) (sl+n),.cells (some e) 2 (old++new)) v':=by
 obtain⟨c,hc⟩:∃c,c=(Question.appendCap (sl+n) cap e).cut (w.tape w.drawn (.appendCap (sl+n) cap e)):=⟨_,rfl⟩;have hcge:sl+n<=c:=by rw[hc];simp[Question.cut]
 have hch:(choose (.appendCap (sl+n) cap e)).run P w=.ok c w.drew:=by rw[hc];rfl
 have hfit:=growslice_fits (bytes:=i.bytes) H (by omega);obtain⟨row,hrow⟩:∃row,row=ods.toArray++nds.toArray++Builtin.zeroCells z.cells (c - (sl+n)):=⟨_,rfl⟩;have hsize:row.size=c*i.size:=by
  rw[hrow];simp only[Array.size_append,List.size_toArray,ho1,hn1,size_zeroCells,hzs];rw[<-xr,<-xr];congr 1;omega
 have hvall:=hvo.app Z;have hlen:(old++new).length=(sl+n)*i.size:=by rw[hvall.1,wd,ho1,hn1,xr]
 have L:BK P e=some i.size:=by simp[BK,T]
 refine⟨.slice (some ⟨w.heap.size,0,none⟩) (sl+n) c,w.drew.alloc (.cells row e),⟨w.heap.size,0,i.size,c*i.size⟩,?_,B9.alloc_drew w _ _,rfl,by show _<(w.heap.push _).size;simp,λm' hm id hid=>⟨?_,?_⟩⟩
 ·have hzv:∀w:World,(zeroValue e).run P w=.ok z w:=λw=>by simp[zeroValue,typeInfo,T,hz]
  have hti:∀w:World,(typeInfo e).run P w=.ok i w:=λw=>by simp[typeInfo,T]
  have hmark:∀(n:Nat) (w:World),(askRoom n).run P w=.ok () w:=λn w=>by unfold askRoom;split<;>rfl
  have hn63:¬(((sl+n:Nat):Int)>IntKind.i64.max):=by simp[IntKind.max_i64];omega
  have hnotInt:(match d with| .int _=>true|_=>false)=false:=by cases d<;>simp[En]at U<;>rfl
  have hnr:¬(sl+n<=cap):=by omega
  have hnf:¬(Builtin.nextslicecap (sl+n) cap*i.bytes>2^48):=by omega
  have e2:(newRow e row).run P w.drew=.ok ⟨w.heap.size,0,none⟩ (w.drew.alloc (.cells row e)):=C4 w.drew e row;rw[hrow]at e2⊢;clear hnotInt;simp only[Builtin.append_,List.getElem?_toArray,List.getElem?_cons_zero,List.getElem?_cons_succ,F,D,Sem.run_bind,AI w hu,Result.andThen_ok,run_sizeOf w L,AI w K,Sem.run_pure];cases d<;>simp[En]at U<;>
   simp only[xo,if_false,Sem.run_bind,Q,Result.andThen_ok,Sem.run_ite,xg hnr,hn63,false_and,hti,xg hnf,hch,hmark,hold w.drew rfl,G w.drew rfl,hzv,e2,Sem.run_pure,Bool.not_false,if_true]
 ·exact .slice id 0 (sl+n) c _ _ hid hcge (λ_=>⟨by simp,λ_=>by simp⟩)
 ·refine Ff (e:=e) (fz:=(0,0)) (heap_alloc_new w.drew _) rfl (by simp[Ga,Eo L]) (by simp[hsize]) ?_ h1 (by simp);have:row.toList.take (old++new).length=ods++nds:=by
   rw[hrow,hlen];have:(sl+n)*i.size=(ods++nds).length:=by simp[ho1,hn1,xr]
   rw[this];simp only[Array.toList_append];rw[List.take_left]
  rw[this];exact hvall.mono hm
theorem KS{st xt e ty:TypeId}{ts:Array TypeId}{d:TypeDesc}{i:TypeInfo}{base:Addr}{sl cap n:Nat}{x':Value}{nds:List Value}{w1:World}
  (F:ts[0]?=some st) (D:ts[1]?=some xt) (hu:P.underlying st=some (.slice e)) (K:P.underlying xt=some d) (U:En d=true) (T:P.info? e=some i)
  (H:sl+n<=cap) (Q:∀w:World,(Builtin.lenOf x').run P w=.ok n w)
  (G:(Builtin.firstCells i.size n x').run P w=.ok nds.toArray w) (hst:(storeCells (base.add (sl*i.size)) nds).run P w=.ok () w1):
  (Builtin.append_ ts ty #[.slice (some base) sl cap,x']).run P w=.ok (.slice (some base) (sl+n) cap) w1:=by
 have L:BK P e=some i.size:=by simp[BK,T]
 simp only[Builtin.append_,List.getElem?_toArray,List.getElem?_cons_zero,List.getElem?_cons_succ,F,D,Sem.run_bind,AI w hu,Result.andThen_ok,run_sizeOf w L,AI w K,Sem.run_pure];cases d<;>simp[En]at U<;>
  simp only[xo,if_false,Sem.run_bind,Q,Result.andThen_ok,Sem.run_ite,xj H,G,hst,Sem.run_pure,Bool.not_false,if_true]
theorem F0{st xt e ty:TypeId}{ts:Array TypeId}{d:TypeDesc}{i:TypeInfo}{base:Option Addr}{sl cap:Nat}{x':Value}
  (F:ts[0]?=some st) (D:ts[1]?=some xt) (hu:P.underlying st=some (.slice e)) (K:P.underlying xt=some d) (U:En d=true) (T:P.info? e=some i)
  (H:sl<=cap) (Q:∀w:World,(Builtin.lenOf x').run P w=.ok 0 w) (G:(Builtin.firstCells i.size 0 x').run P w=.ok #[] w):
  (Builtin.append_ ts ty #[.slice base sl cap,x']).run P w=.ok (.slice base sl cap) w:=by
 have L:BK P e=some i.size:=by simp[BK,T]
 simp only[Builtin.append_,List.getElem?_toArray,List.getElem?_cons_zero,List.getElem?_cons_succ,F,D,Sem.run_bind,AI w hu,Result.andThen_ok,run_sizeOf w L,AI w K,Sem.run_pure];cases d<;>simp[En]at U<;>cases base<;>
  simp[Q,H,G,storeCells]
theorem HC(r : Rel P w0 m h w){g:Gd}{st xt e ty:TypeId}{ts:Array TypeId}{d:TypeDesc}{i:TypeInfo}{rr:Option (Nat×Nat)}{sl n:Nat}{x v:AA}{s' x':Value}{h':AB}
  (F:ts[0]?=some st) (D:ts[1]?=some xt) (hu:P.underlying st=some (.slice e)) (K:P.underlying xt=some d) (U:En d=true) (T:P.info? e=some i)
  (M:VR m (.slice rr sl) s') (N:VR m x x') (O:Ib x=some n) (B:appendCore g h e i rr sl n x=some (v,h')):
  ∃m' v' w',(Builtin.append_ ts ty #[s',x']).run P w=.ok v' w'/\(∀id,id<h.size->m' id=m id)/\Rel P w0 m' h' w'/\VR m' v v':=by
 have Q:=λw=>H5 (P:=P) N O w;unfold appendCore at B;split at B
 ·-- nothing is appended
  rename_i W;subst W;injection B with B;injection B with e1 e2;subst e1;subst e2;have G:(Builtin.firstCells i.size 0 x').run P w=.ok #[] w:=by
   cases N<;>simp[Ib]at O<;>simp[Builtin.firstCells,loadCells,loadCellsFrom]
  cases M with
  |By=>exact⟨m,_,w,F0 F D hu K U T (xe _) Q G,λ_ _=>rfl,r,.By⟩
  |slice id o _ cap E a hE hle hc=>exact⟨m,_,w,F0 F D hu K U T hle Q G,λ_ _=>rfl,r,.slice id o sl cap E a hE hle hc⟩
 ·rename_i hn0;split at B
  ·rename_i hb;obtain⟨hb0,hb1,hb2,hb3⟩:=hb;cases hz:i.zero with
   |none=>simp[hz]at hb3
   | some z =>
    simp only[hz,qZ,qV]at hb3;split at B
    ·rename_i new old hfn J;split at B
     ·rename_i h1;obtain⟨nds,hn1,Z,G⟩:=D6 r N ⟨n,O,xe _⟩ hfn;obtain⟨ods,ho1,hvo,hold⟩:=D6 r M ⟨sl,rfl,xe _⟩ J;have grow:∀(h1':AB) (cap:Nat) (base:Option Addr),s'=.slice base sl cap->cap<sl+n->h1'.size=h.size->Rel P w0 m h1' w->
        ∃m' v' w',(Builtin.append_ ts ty #[s',x']).run P w=.ok v' w'/\(∀id,id<h.size->m' id=m id)/\Rel P w0 m' (h1'.push (.cells (some e) 2 (old++new))) w'/\VR m' (.slice (some (h.size,0)) (sl+n)) v':=by
       intro h1' cap base hs' H L rel;subst hs';obtain⟨v',w',E,g1,t1,t2,_,t4⟩:=KD (ty:=ty) F D hu K U T hz hb3 H hb1 hb2 Q ho1 hold hn1 G hvo Z h1;have hle:=Aj.Gl (m:=m) E (r.fresh (xe h.size));obtain⟨q1,q2⟩:=t4 (m.upd h.size E) hle h.size (Aj.CR m _ E);refine⟨m.upd h.size E,v',w',g1,λid hid=>Aj.HG m E (by omega),?_,q1⟩;rw[<-L]at q2⊢;exact rel.new t1 t2 q2
      split at B
      ·-- onto nil
       injection B with B;injection B with e1 e2;subst e1;subst e2;cases M;exact grow h 0 none rfl (by omega) rfl r
      ·rename_i id o;split at B
       ·rename_i e' cs hg;split at B
        ·rename_i hmay;obtain⟨_,he⟩:=hmay;subst he;injection B with B;injection B with e1 e2;subst e1;subst e2;cases M with
         | slice _ _ _ cap E a hE hle hc=>
          have rk:Rel P w0 m (h.set id (.cells (some e') 0 cs)) w:=r.kill hg;by_cases H:sl+n<=cap
          ·-- in place
           obtain⟨haa,hbd⟩:=hc (by omega);subst haa;obtain⟨hesz,R⟩:=r.obj id E _ hE hg;have hesz':E.Lw=i.size:=by rw[hesz];simp[Ga,Program.cellsOf,T]
           have hbd:=hbd (by omega);rw[hesz']at hbd;obtain⟨cur,et,fz,c1,c2,c3,c4⟩:=R (by omega);have hfit:E.base+o+(sl+n)*i.size<=cur.size:=by
            have:=Nat.mul_le_mul_right i.size H;omega
           have e3:E.base+o+sl*i.size+0+nds.length<=cur.size:=by rw[hn1];rw[xr]at hfit;omega
           obtain⟨w1,r1,r2,r3,_⟩:=EL (P:=P) E.g (E.base+o+sl*i.size) et fz nds 0 cur w c1 e3 (λu hu'=>by
            obtain⟨j,hj⟩:=xZ.1 hu';have hj':j<new.length:=by rw[Z.1];exact(List.getElem?_eq_some_iff.1 hj).1
            refine(Z.2 j _ u (List.getElem?_eq_getElem hj') hj).one (xk.1 h1 _ ?_)
            exact wo.2 (.inr (List.getElem_mem hj'))) (by rw[c2];exact c4 rfl)
           have hrun:(Builtin.append_ ts ty #[.slice (some ⟨E.g,E.base+o,none⟩) sl cap,x']).run P w=.ok (.slice (some ⟨E.g,E.base+o,none⟩) (sl+n) cap) w1:=
            KS F D hu K U T H Q (G w rfl) (by rw[Addr.add_lit];exact r1)
           have hle':=Aj.Gl (m:=m) ⟨E.g,E.base+o,i.size,E.total⟩ (r.fresh (xe h.size));have hB:=r.own id E _ hE hg rfl;have hobj':F3 P (m.upd h.size ⟨E.g,E.base+o,i.size,E.total⟩) w1 ⟨E.g,E.base+o,i.size,E.total⟩ (.cells (some e') 2 (old++new)):=by
            refine⟨by simp[Ga,Program.cellsOf,T],λ_=>⟨_,et,fz,r2,?_,λj a B=>⟨xk.1 h1 a (xd B),?_⟩,λ_=>c4 rfl⟩⟩
            ·rw[<-c2];simp;omega
            ·have hcl:(cur.toList.take (E.base+o+sl*i.size+0)).length=E.base+o+sl*i.size:=by simp;omega
             have holl:old.length=sl*i.size:=by rw[hvo.1,ho1]
             rw[List.getElem?_append]at B;split at B
             ·rename_i hj;have hcc:cs[o+j]?=some a:=by
               simp only[Bv]at J;split at J
               ·injection J with J;subst J;simp at B
               ·unfold BQ at J;rw[hg]at J;simp only at J;split at J
                ·injection J with J;subst J;rw[List.getElem?_take]at B;split at B
                 ·rwa [List.getElem?_drop]at B
                 ·cases B
                ·cases J
              obtain⟨_,c,hc',hvc⟩:=c3 (o+j) a hcc;refine⟨c,?_,hvc.mono hle'⟩;have:(cur.toList.take (E.base+o+sl*i.size+0))[E.base+o+j]?=some c:=by
               rw[List.getElem?_take,xj (by omega)];rw[<-xA]at hc';simpa using hc'
              simp only[List.getElem?_toArray];rw[List.getElem?_append_left (List.getElem?_eq_some_iff.1 this).1];exact this
             ·rename_i hj;obtain⟨y,hy,hvy⟩:=Z.at_ B;refine⟨y,?_,hvy.mono hle'⟩;simp only[List.getElem?_toArray];rw[List.getElem?_append_right (by omega),hcl,List.getElem?_append_left (by have:=(List.getElem?_eq_some_iff.1 hy).1;omega)];rw[<-hy];congr 1;omega
           refine⟨m.upd h.size ⟨E.g,E.base+o,i.size,E.total⟩,_,w1,hrun,λj hj=>Aj.HG m _ (by omega),?_,?_⟩
           ·refine(rk.ghost (.cells (some e') 2 (old++new))).place (E:=⟨E.g,E.base+o,i.size,E.total⟩) r3 hB (λid2 E2 o2 h2 V hl2=>?_) (r.fresh (xe _)) ?_ hobj'
            ·have hid2:=r.Kg id2 E2 h2;rw[AB.Bp _ _ (by simpa using hid2)]at V;by_cases he2:id2=id
             ·subst he2;rw[h.B0 _ hid2]at V;injection V with V;subst V;simp[Ay.live]at hl2
             ·rw[h.Bw _ (h.Ar hg) he2]at V;exact λe=>r.sep id id2 E E2 _ o2 (λe=>he2 e.symm) hE h2 hg V rfl hl2 e.symm
            ·exact AB.A8 _ _
           ·refine .slice h.size 0 (sl+n) cap ⟨E.g,E.base+o,i.size,E.total⟩ _ (Aj.CR m _ _) H (λ_=>⟨by simp,λ_=>by simpa using hbd⟩)
          ·exact grow _ cap (some a) rfl (by omega) rfl rk
        ·cases B
       ·cases B
     ·cases B
    ·cases B
  ·cases B
theorem Ix(r:Rel P w0 m h w){g:Gd}{ts:Array TypeId}{ty:TypeId}{s x v:AA}{s' x':Value}{h':AB}(M:VR m s s')(N:VR m x x')(B:GM P g h ts s x=some (v,h')):
  ∃m' v' w',(Builtin.append_ ts ty #[s',x']).run P w=.ok v' w'/\(∀id,id<h.size->m' id=m id)/\Rel P w0 m' h' w'/\VR m' v v':=by
 unfold GM at B;split at B
 ·rename_i st xt rr sl n F D O;split at B
  ·rename_i e dd hu K;split at B
   ·rename_i i T;split at B
    ·rename_i U;exact HC r F D hu K U T M N O B
    ·cases B
   ·cases B
  ·cases B
 ·cases B
theorem KA(r:Rel P w0 m h w){g:Gd}{ts:Array TypeId}{ty:TypeId}{d x v:AA}{d' x':Value}{h':AB}(U:VR m d d')(N:VR m x x')(B:J3 P g h ts d x=some (v,h')):
  ∃v' w',(Builtin.copy_ ts ty #[d',x']).run P w=.ok v' w'/\Rel P w0 m h' w'/\VR m v v':=by
 unfold J3 at B;split at B
 ·rename_i dt rr dl sl hts O;split at B
  ·rename_i e hu;split at B
   ·rename_i z hz;have Q:=λw=>H5 (P:=P) N O w;split at B
    ·rename_i new id o I;obtain⟨ds,n1,hv,hfc⟩:=D6 r N ⟨sl,O,Nat.min_le_left _ _⟩ I;cases U with
     | slice _ _ _ cap E a hE hle hc=>
      split at B
      ·rename_i W;injection B with B;injection B with e1 e2;subst e1;subst e2;have hnil:ds=[]:=xl (by rw[n1,W];simp);subst hnil;refine⟨.int .i64 0,w,?_,r,.int _ _⟩;have S:=hfc w rfl;rw[W]at S;have X:Nat.min sl dl=0:=W;simp[Builtin.copy_,hts,AI w hu,Q,run_sizeOf w hz,X,S,storeCells,goInt]
      ·rename_i W;cases hsc:BN g h id o new with
       |none=>simp[hsc]at B
       |some h2=>
        simp only[hsc,qZ,qV,qY]at B;obtain⟨rfl,rfl⟩:=B;obtain⟨haa,_⟩:=hc (by omega);subst haa;obtain⟨w',r1,r2⟩:=Eh r hE hv hsc;refine⟨.int .i64 (min sl dl:Nat),w',?_,r2,.int _ _⟩;have X:Nat.min sl dl=min sl dl:=rfl;simp[Builtin.copy_,hts,AI w hu,Q,run_sizeOf w hz,X,hfc w rfl,r1,goInt]
    ·rename_i new I;split at B
     ·rename_i W;injection B with B;injection B with e1 e2;subst e1;subst e2;obtain⟨ds,n1,hv,hfc⟩:=D6 r N ⟨sl,O,Nat.min_le_left _ _⟩ I;have hnil:ds=[]:=xl (by rw[n1,W];simp);subst hnil;cases U;refine⟨.int .i64 0,w,?_,r,.int _ _⟩;have S:=hfc w rfl;rw[W]at S;have X:Nat.min sl 0=0:=W;simp[Builtin.copy_,hts,AI w hu,Q,run_sizeOf w hz,S,goInt]
     ·cases B
    ·cases B
   ·cases B
  ·cases B
 ·cases B
theorem L8(r:Rel P w0 m h w){g:Gd}{fr:Fr}{a:Act}(I:FR m fr a){o:Oper}{v:AA}{h':AB}(C:GF P g h fr o.op=some (v,h')):
  ∃m' n v' w',(execOp a.eval o).run P w=.ok n w'/\Nh n v'/\(∀id,id<h.size->m' id=m id)/\Rel P w0 m' h' w'/\VR m' v v':=by
 obtain⟨dst,op,ty,pos,aft,gd⟩:=o;simp only at C;cases op with
 | store t x y=>
  simp only[GF]at C;split at C
  ·rename_i id o N;cases M:FL P g h t id o (ev fr y)with
   |none=>simp[M]at C
   | some h2=>
    simp only[M,qZ,qV,qY]at C;obtain⟨rfl,rfl⟩:=C;have hv:=I.ev x;rw[N]at hv;generalize hq:a.eval x=q at hv;cases hv with
    |ptr _ _ E hE=>
     obtain⟨w',r1,r2⟩:=JZ r hE (I.ev y) M;exact⟨m,.skip,undef,w',by simp[execOp,Instr.storeAt,Instr.sureAddr,hq,r1],.inr ⟨rfl,rfl⟩,λ_ _=>rfl,r2,VR.Em m⟩
  ·cases C
 | mapUpdate t x k y=>
  simp only[GF]at C;cases M:FJ P g h t (ev fr x) (ev fr k) (ev fr y)with
  |none=>simp[M]at C
  |some h2=>
   simp only[M,qZ,qV,qY]at C;obtain⟨rfl,rfl⟩:=C;obtain⟨w',r1,r2⟩:=HT r (I.ev x) (I.ev k) (I.ev y) M;exact⟨m,.skip,undef,w',by simp[execOp,r1],.inr ⟨rfl,rfl⟩,λ_ _=>rfl,r2,VR.Em m⟩
 | insert t x k y=>
  simp only[GF]at C;cases M:FJ P g h t (ev fr x) (ev fr k) (ev fr y)with
  |none=>simp[M]at C
  |some h2=>
   simp only[M,qZ,qV,qY]at C;obtain⟨rfl,rfl⟩:=C;obtain⟨w',r1,r2⟩:=HT r (I.ev x) (I.ev k) (I.ev y) M;exact⟨m,.skip,undef,w',by simp[execOp,r1],.inr ⟨rfl,rfl⟩,λ_ _=>rfl,r2,VR.Em m⟩
 | next it s=>
  cases s with
  |false=>simp[GF]at C
  | true =>
   simp only[GF]at C;split at C
   ·rename_i id N;split at C
    ·rename_i s pos hg;have hv:=I.ev it;rw[N]at hv;generalize hq:a.eval it=q at hv;cases hv with
     | ptr _ _ E hE=>
      obtain⟨hbase,R⟩:=r.obj id E _ hE hg;rw[hbase]at hq;split at C
      ·split at C
       ·rename_i hlt;injection C with C;injection C with e1 e2;subst e1;subst e2;obtain⟨w',q1,q2,q3,_⟩:=EO (P:=P) (w:=w) (o:=.stringIter ⟨⟨s⟩⟩ pos) (o':=.stringIter ⟨⟨s⟩⟩ (pos+(Utf8.decode ⟨⟨s⟩⟩ pos).2)) R (by simp);have L:pos<(⟨⟨s⟩⟩:ByteArray).size:=hlt;refine⟨m,.value (.tuple #[.bool true,goInt pos,.int .i32 (Utf8.decode ⟨⟨s⟩⟩ pos).1]),_,w',?_,.inl rfl,λ_ _=>rfl,r.write hE hg rfl rfl q3 ⟨hbase,q2⟩,?_⟩
        ·have Ia:(getObj E.g).run P w=.ok (.stringIter ⟨⟨s⟩⟩ pos) w:=by simp[getObj,Sem.run,R]
         simp only[execOp,Instr.next,hq,wB,Sem.run_bind,Ia,Result.andThen_ok,xj L,q1,Sem.run_pure]
        ·exact BT.tuple (.cons (.bool true) (.cons (.int _ _) (.cons (.int _ _) (.nil m))))
       ·rename_i hlt;injection C with C;injection C with e1 e2;subst e1;subst e2;have L:¬pos<(⟨⟨s⟩⟩:ByteArray).size:=hlt;refine⟨m,.value (.tuple #[.bool false]),_,w,?_,.inl rfl,λ_ _=>rfl,r,BT.tuple (.cons (.bool false) (.nil m))⟩;have Ia:(getObj E.g).run P w=.ok (.stringIter ⟨⟨s⟩⟩ pos) w:=by simp[getObj,Sem.run,R]
        simp only[execOp,Instr.next,hq,wB,Sem.run_bind,Ia,Result.andThen_ok,xg L,Sem.run_pure]
      ·cases C
    ·cases C
   ·cases C
 | call c=>
  obtain⟨callee,asE9,ts⟩:=c;cases callee with
  |value f=>simp[GF]at C
  |invoke r mth=>simp[GF]at C
  | builtin b=>
   simp only[GF]at C;have Y:=I.SC asE9.toList;have res:∀(w:World),(resolve a.eval {callee:=.builtin b,args:=asE9,argTypes:=ts} ty).run P w=.ok {target:=.builtin b ts ty (asE9.map fun| .const _=>true|_=>false),args:=asE9.map a.eval} w:=λw=>rfl;have two:∀x y,asE9.toList.map (ev fr)=[x,y]->∃x' y',asE9.map a.eval=#[x',y']/\VR m x x'/\VR m y y':=by
    intro x y heq;rw[heq]at Y;have hlen:(asE9.toList.map a.eval).length=2:=by rw[<-Y.1];rfl
    match hq:asE9.toList.map a.eval,hlen with
    |[x',y'],_=>exact⟨x',y',Array.ext' (by simpa using hq),Y.2 0 x x' rfl (by rw[hq];rfl),Y.2 1 y y' rfl (by rw[hq];rfl)⟩
   split at C
   ·rename_i s x heq;obtain⟨s',x',hsx,hvs,hvx⟩:=two s x heq;obtain⟨m',v',w',r1,r2,r3,r4⟩:=Ix (ty:=ty) r hvs hvx C;exact⟨m',.value v',v',w',by simp[execOp,res,invoke,builtin,hsx,r1],.inl rfl,r2,r3,r4⟩
   ·rename_i s x heq;obtain⟨s',x',hsx,hvs,hvx⟩:=two s x heq;obtain⟨v',w',r1,r2,r3⟩:=KA (ty:=ty) r hvs hvx C;exact⟨m,.value v',v',w',by simp[execOp,res,invoke,builtin,hsx,r1],.inl rfl,λ_ _=>rfl,r2,r3⟩
   ·rename_i s x heq;obtain⟨s',x',hsx,hvs,hvx⟩:=two s x heq;cases M:Fj P g h ts s x with
    |none=>simp[M]at C
    |some h2=>
     simp only[M,qZ,qV,qY]at C;obtain⟨rfl,rfl⟩:=C;obtain⟨w',r1,r2⟩:=I8 (ty:=ty) r hvs hvx M;exact⟨m,.value (.tuple #[]),.tuple #[],w',by simp[execOp,res,invoke,builtin,hsx,r1],.inl rfl,λ_ _=>rfl,r2,VR.Em m⟩
   ·cases C
 |_=>simp[GF]at C
end
end Go.Abs
