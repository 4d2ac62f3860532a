/-
 A part.
-/
import Derived.Test.YtfgmnhjedmkpeaaAvOpN
set_option linter.unusedSimpArgs false
namespace Go.Av
open Go.RowKit
section
variable {P:Program} {w0:World} {m:Aj} {h:AB} {w:World}
def Nh(n:Next)(v:Value):Prop:=n=.value v\/(n=.skip/\v=undef)
theorem EL(g off:Nat)(e:TypeId)(fz:Nat×Nat):∀(vs:List Value) (i:Nat) (cur:Array Value) (w:World),w.heap[g]?=some (.cells cur e fz)->off+i+vs.length<=cur.size->
  (∀v∈vs,v.oneCell'=true)->(∀j,j<cur.size->¬(fz.1<=j/\j<fz.2))->
  ∃w',(storeCells ⟨g,off,none⟩ vs i).run P w=.ok () w'/\w'.heap[g]?=some (.cells ⟨cur.toList.take (off+i)++(vs++cur.toList.drop (off+i+vs.length))⟩ e fz)/\B9 w w' g/\w'.heap.size=w.heap.size
 |[],i,cur,w,I,_,_,_=>by
  refine⟨w,by simp[storeCells],?_,B9.refl w g,rfl⟩;rw[I];congr 2;apply Array.ext';simp
 | v::vs,i,cur,w,I,X,h1,T=>by
  simp only[zT]at X;have hcell:w.cell? ⟨g,off+i,none⟩=some cur[off+i]:=by
   rw[cell_of_row w g (off+i) cur e fz I];exact Array.getElem?_eq_getElem (by omega)
  have hfr:w.frozen? ⟨g,off+i,none⟩=false:=by
   have:=T (off+i) (by omega);simp only[World.frozen?,I];simp only[yQ,zl];omega
  have B:(store ((⟨g,off,none⟩:Addr).add i) v).run P w=.ok () (w.setCell ⟨g,off+i,none⟩ v):=by
   rw[Addr.add_lit,run_store P w _ v _ (h1 v (by simp)),hcell];simp[hfr]
  have hg1:(w.setCell ⟨g,off+i,none⟩ v).heap[g]?=some (.cells (cur.setIfInBounds (off+i) v) e fz):=by
   simp[World.setCell,Array.getElem?_modify,I]
  obtain⟨w',r1,r2,r3,r4⟩:=EL g off e fz vs (i+1) (cur.setIfInBounds (off+i) v) _ hg1 (by simp;omega) (λu hu=>h1 u (by simp[hu])) (by simpa using T);refine⟨w',by simp[storeCells,B,r1],?_,?_,?_⟩
  ·rw[r2];congr 2;have hlen:cur.toList.length=cur.size:=by simp
   apply Array.ext';show(cur.setIfInBounds (off+i) v).toList.take (off+(i+1))++(vs++(cur.setIfInBounds (off+i) v).toList.drop (off+(i+1)+vs.length))=cur.toList.take (off+i)++(v::vs++cur.toList.drop (off+i+(v::vs).length));rw[qI];generalize cur.toList=L at hlen;have e1:L.set (off+i) v=L.take (off+i)++v::L.drop (off+i+1):=by
    rw[yn,zk (by omega)]
   have hl2:(L.take (off+i)).length=off+i:=by simp;omega
   rw[e1,show off+(i+1)+vs.length=(L.take (off+i)).length+(1+vs.length) by omega,yD,
    show off+(i+1)=(L.take (off+i)).length+1 by omega,yE,zU,show 1+vs.length=vs.length+1 by omega,qk,yN]
   simp only[ql,List.take_zero,yU,yg,zT];rw[show off+i+1+vs.length=off+i+(vs.length+1) by omega]
  ·have t1:B9 w (w.setCell ⟨g,off+i,none⟩ v) g:=⟨rfl,rfl,rfl,by simp[World.setCell],λk N S=>Below.heap_setCell w ⟨g,off+i,none⟩ v k S⟩;exact t1.trans r3
  ·rw[r4];simp[World.setCell]
theorem Eh(r:Rel P w0 m h w){g:Gd}{id o:Nat}{E:Gg}{new:List AA}{ds:List Value}{h':AB}(hE:m id=some E)(J:BT m new ds)(B:BN g h id o new=some h'):
  ∃w',(storeCells ⟨E.g,E.base+o,none⟩ ds).run P w=.ok () w'/\Rel P w0 m h' w':=by
 unfold BN at B;split at B
 ·rename_i gr cs I;split at B
  ·rename_i O;obtain⟨_,hb2,hb3⟩:=O;injection B with B;subst B;obtain⟨hesz,M⟩:=r.obj id E _ hE I;obtain⟨cur,e,fz,c1,c2,c3,c4⟩:=M (by omega);have T:=c4 rfl;have hin:∀j,j<cs.length->E.base+j<cur.size:=λj K=>by
    obtain⟨_,c,hc,_⟩:=c3 j _ (List.getElem?_eq_getElem K);exact(Array.getElem?_eq_some_iff.1 hc).1
   have hlen:E.base+o+0+ds.length<=cur.size\/ds=[]:=by
    rcases yA ds.length with h0|h0
    ·right;exact zi h0
    ·left;have:=hin (o+new.length - 1) (by have:=J.1;omega);have:=J.1;omega
   rcases hlen with hlen|hnil
   ·obtain⟨w',r1,r2,r3,r4⟩:=EL (P:=P) E.g (E.base+o) e fz ds 0 cur w c1 hlen (λv hv'=>by
     obtain⟨j,K⟩:=qf.1 hv';have hj':j<new.length:=by rw[J.1];exact(List.getElem?_eq_some_iff.1 K).1
     exact(J.2 j _ v (List.getElem?_eq_getElem hj') K).one (zC.1 hb3 _ (zY hj'))) (by rw[c2];exact T.no)
    refine⟨w',r1,r.write hE I rfl rfl r3 ⟨⟨⟨hesz.1.1,λh=>by cases h⟩,hesz.2⟩,λ_=>⟨_,e,fz,r2,?_,λj a C=>?_,λ_=>T⟩⟩⟩
    ·rw[<-c2];simp;omega
    ·unfold CN at C;rw[List.getElem?_append]at C;split at C
     ·rename_i K;rw[List.getElem?_take]at C;split at C
      ·rename_i hjo;obtain⟨a1,c,hc,hvc⟩:=c3 j a C;refine⟨a1,c,?_,hvc⟩;have:(cur.toList.take (E.base+o+0))[E.base+j]?=some c:=by
        rw[List.getElem?_take,zk (by omega)];simpa using hc
       simp only[List.getElem?_toArray];rw[List.getElem?_append_left (List.getElem?_eq_some_iff.1 this).1];exact this
      ·cases C
     ·rename_i K;have htl:(cs.take o).length=o:=by simp at K⊢;omega
      rw[htl]at C K;have hctl:(cur.toList.take (E.base+o+0)).length=E.base+o:=by simp;omega
      rw[List.getElem?_append]at C;split at C
      ·rename_i hjn;obtain⟨y,hy,hvy⟩:=J.at_ C;refine⟨zC.1 hb3 _ (zI C),y,?_,hvy⟩;simp only[List.getElem?_toArray];rw[List.getElem?_append_right (by omega),hctl,show E.base+j - (E.base+o)=j - o by omega,List.getElem?_append_left (List.getElem?_eq_some_iff.1 hy).1];exact hy
      ·rename_i hjn;rw[List.getElem?_drop]at C;obtain⟨a1,c,hc,hvc⟩:=c3 _ a C;refine⟨a1,c,?_,hvc⟩;have X:=J.1;simp only[List.getElem?_toArray];rw[List.getElem?_append_right (by omega),hctl,List.getElem?_append_right (by omega),List.getElem?_drop];rw[show E.base+o+0+ds.length+(E.base+j - (E.base+o) - ds.length)=E.base+(o+new.length+(j - o - new.length)) by omega];simpa using hc
   ·subst hnil;have hn:new=[]:=zi (by simpa using J.1);subst hn;refine⟨w,by simp[storeCells],?_⟩;refine r.write hE I rfl rfl (B9.refl w _) ?_;have:CN cs o []=cs:=by simp[CN]
    rw[this];exact r.obj id E _ hE I
  ·cases B
 ·cases B
theorem JZ(r:Rel P w0 m h w){g:Gd}{t:TypeId}{id o:Nat}{E:Gg}{x:AA}{x':Value}{h':AB}(hE:m id=some E)(R:VR m x x')(B:FL P g h t id o x=some h'):
  ∃w',(storeVar t ⟨E.g,E.base+o,none⟩ x').run P w=.ok () w'/\Rel P w0 m h' w':=by
 unfold FL at B;split at B
 ·rename_i new n hnew hn;split at B
  ·rename_i X;have J:=R.cells hnew;obtain⟨w',r1,r2⟩:=Eh r hE J B;refine⟨w',?_,r2⟩;have:x'.cells.size=n:=by rw[<-X,J.1];simp
   simp[storeVar,run_sizeOf w hn,this,r1]
  ·cases B
 ·cases B
theorem J9{x y:AA}(B:Ju x y=true):x=y:=by
 unfold Ju at B;split at B
 ·simp only[zf,zq,z3]at B;obtain⟨rfl,rfl⟩:=B;rfl
 ·simp only[z3]at B;rw[B]
 ·simp only[z3]at B;rw[B]
 ·cases B
theorem ID:∀(a b:List AA),a.length=b.length->((a.zip b).all λp=>Ju p.1 p.2)=true->a=b
 |[],[],_,_=>rfl
 |[],_::_,X,_=>by simp at X
 |_::_,[],X,_=>by simp at X
 |x::a,y::b,X,B=>by
  simp only[List.zip_cons_cons,yJ,zf]at B;rw[J9 B.1,ID a b (by simpa using X) B.2]
theorem Mv{x y:AA}(B:Js x y=true):x=y:=by
 unfold Js at B;split at B
 ·rename_i a b;simp only[zf,z3]at B;rw[ID a b B.1 B.2]
 ·exact J9 B
theorem HA(old new:Value)(w:World):∃v w',(Instr.keyThatStays old new).run P w=.ok v w'/\(v=old\/v=new)/\(w'=w\/w'=w.drew):=by
 unfold Instr.keyThatStays;by_cases O:Instr.sameBits 10000 old new=true
 ·exact⟨new,w,by simp[O],.inr rfl,.inl rfl⟩
 ·have hch:(choose (.extern "map.whichKeyStays" 2)).run P w=.ok ((Question.extern "map.whichKeyStays" 2).cut (w.tape w.drawn (.extern "map.whichKeyStays" 2))) w.drew:=rfl;simp only[O,zF,if_false,Sem.run_bind,hch,Result.andThen_ok,Sem.run_pure];by_cases h0:(Question.extern "map.whichKeyStays" 2).cut (w.tape w.drawn (.extern "map.whichKeyStays" 2))=0
  ·exact⟨new,w.drew,by simp[h0],.inr rfl,.inr rfl⟩
  ·exact⟨old,w.drew,by simp[h0],.inl rfl,.inr rfl⟩
theorem EO{w:World}{g:Nat}{o o':Obj}(W:w.heap[g]?=some o)(hc:∀a b c,o≠.cells a b c):
  ∃w',(setObj g o').run P w=.ok () w'/\w'.heap[g]?=some o'/\B9 w w' g/\w'.heap.size=w.heap.size:=by
 have hlt:g<w.heap.size:=(Array.getElem?_eq_some_iff.1 W).1;refine⟨{w with heap:=w.heap.setIfInBounds g o'},?_,?_,⟨rfl,rfl,rfl,by simp,λk N S=>?_⟩,by simp⟩
 ·cases o with
  |cells a b c=>exact absurd rfl (hc a b c)
  |_=>simp[setObj,Sem.run,W]
 ·simp[hlt]
 ·simp[Ne.symm S]
theorem UF{k:AA}{a:Value}(C:VR m k a){en:MapEntry}{v:Value}(O:VR m k en.key)(Z:Js k k=true:=by assumption):L7 {en with key:=a,val:=v}=L7 en:=by
 unfold L7;dsimp only;generalize en.key=y at O;cases k with
 |str s=>rw[C.CF,O.CF]
 |int=>cases C;cases O;rfl
 |bool=>cases C;cases O;rfl
 |agg=>cases C;cases O;rfl
 |_=>simp[Js,Ju]at Z
theorem PJ{kt:TypeId}{k:AA}{k':Value}{es:List (AA×AA)}{en:Array MapEntry}(N:VR m k k'){s:ByteArray}(B:k'=.string s)(c2:es.length=en.size)
    (c3:∀(i:Nat) (a b:AA) (e:MapEntry),es[i]?=some (a,b)->en[i]?=some e->VR m a e.key/\VR m b e.val) {n:Nat} (Y:ET P kt k es n=some none):s∉en.toList.filterMap L7:=by
  subst B;intro hm;obtain⟨e,he,Q⟩:=qr.1 hm;obtain⟨i,hi,rfl⟩:=yW he;have hi':i<es.length:=by rw[c2];simpa using hi
  have J:=(c3 i es[i].1 es[i].2 en.toList[i] (by simp[List.getElem?_eq_getElem hi']) (by rw[<-Array.getElem?_toList];exact List.getElem?_eq_getElem hi)).1;have D:en.toList[i].key=.string s:=by
    unfold L7 at Q;split at Q
    · rename_i s' h;injection Q with Q;subst Q;exact h
    · cases Q
  rw[D]at J;have key:∀(es:List (AA×AA)) (n:Nat),ET P kt k es n=some none->∀x∈es,GZ P 10000 kt k x.1=some false:=by
    intro es
    induction es with
    |nil=>intro n _ x R;cases R
    | cons p es ih=>
      intro n h x R;obtain⟨a,b⟩:=p;unfold ET at h;split at h
      · cases h
      · rename_i Z
        rcases zP.1 R with rfl|R
        · exact Z
        · exact ih _ h x R
      · cases h
  have Z:=key es n Y es[i] (zY hi');generalize es[i].1=a at J Z;unfold GZ at Z;split at Z
  all_goals first
    |(cases Z;done)
    |(exfalso;cases N;done)
    |(exfalso;cases J;done)
    | (have e1:=N.CF
       have e2:=J.CF;have e3:=e1.symm.trans e2;injection e3 with e3;injection e3 with e3;injection e3 with e3;subst e3
       simp at Z)
theorem HT(r:Rel P w0 m h w){g:Gd}{t:TypeId}{x k v:AA}{x' k' v':Value}{h':AB}(R:VR m x x')(N:VR m k k')(J:VR m v v')(B:FJ P g h t x k v=some h'):
  ∃w',(Instr.mapUpdate t x' k' v').run P w=.ok () w'/\Rel P w0 m h' w':=by
 unfold FJ at B;split at B
 ·rename_i kt et id hu;split at B
  ·rename_i O;obtain⟨D,_⟩:=O;obtain⟨d,hd⟩:=FH D;cases R with
   | map _ E hE=>
    split at B
    ·rename_i es I;obtain⟨H,M⟩:=r.obj id E _ hE I;obtain⟨en,clock,c1,c2,c3,c4⟩:=LU.two (M (by omega)) (by decide);have V:∀e (w:World),(Instr.checkKey e 10000 kt k').run P w=.ok () w:=λe w=>Eb 20 10000 kt k k' e (by omega) N D;split at B
     ·rename_i i v0 Y;obtain⟨res',f1,f2⟩:=CO (w:=w) N hd (by rw[c2,yz]) (λj a b e C he=>c3 j a b e C (by simpa using he)) Y;cases res' with
      |none=>exact f2.elim
      | some p=>
       obtain⟨i',u'⟩:=p;obtain⟨hi,_,hil,_⟩:=f2;subst hi;split at B
       ·rename_i k0 v1 hki;split at B
        ·rename_i hsame;injection B with B;subst B;have hke:=Mv hsame;subst hke;have G:i<en.size:=by omega
         have hold:VR m k0 en[i].key:=(c3 i k0 v1 en[i] hki (Array.getElem?_eq_getElem G)).1;obtain⟨kk,w1,s1,s2,s3⟩:=HA (P:=P) (en[i].key) k' w;have hkk:VR m k0 kk:=by rcases s2 with rfl|rfl;exact hold;exact N
         have hw1:w1.heap=w.heap:=by rcases s3 with e|e<;>rw[e]<;>rfl
         have t1:B9 w w1 E.g:=by rcases s3 with e|e<;>rw[e];exact B9.refl w _;exact(B9.refl w _).drew
         obtain⟨w2,q1,q2,q3,_⟩:=EO (P:=P) (w:=w1) (o:=.map en clock) (o':=.map (en.modify i λe=>{e with key:=kk,val:=v'}) clock) (by rw[hw1];exact c1) (by simp);refine⟨w2,?_,?_⟩
         ·have e1:((en[i]?).map (·.key)).getD k'=en[i].key:=by simp[G]
          simp only[Instr.mapUpdate,Sem.run_bind,AI w hu,Result.andThen_ok,getObj,Sem.run,c1,V,f1,e1,s1];exact q1
         ·refine r.write hE I rfl rfl (t1.trans q3) ⟨H,λ_=>LU.of ⟨_,clock,q2,by simpa using c2,λj a b e C he=>?_,c4.modify G (UF hkk hold)⟩ (by decide)⟩;rw[List.getElem?_set]at C;simp only[Array.getElem?_modify]at he;by_cases K:i=j
          ·subst K;have hil2:i<es.length:=hil;simp only[hil2,if_true,za,zb]at C;obtain⟨rfl,rfl⟩:=C;simp only[Array.getElem?_eq_getElem G,if_true,ze,za]at he;subst he;exact⟨hkk,J⟩
          ·rw[zh K]at C he;exact c3 j a b e C he
        ·cases B
       ·cases B
     ·rename_i Y;injection B with B;subst B;obtain⟨res',f1,f2⟩:=CO (w:=w) N hd (by rw[c2,yz]) (λj a b e C he=>c3 j a b e C (by simpa using he)) Y;cases res' with
      |some p=>exact f2.elim
      | none=>
       obtain⟨w2,q1,q2,q3,_⟩:=EO (P:=P) (w:=w) (o:=.map en clock) (o':=.map (en.push {key:=k',val:=v',born:=clock}) (clock+1)) c1 (by simp);refine⟨w2,?_,?_⟩
       ·simp only[Instr.mapUpdate,Sem.run_bind,AI w hu,Result.andThen_ok,getObj,Sem.run,c1,V,f1];exact q1
       ·refine r.write hE I rfl rfl q3 ⟨H,λ_=>LU.of ⟨_,_,q2,by simp[c2],λj a b e C he=>?_,c4.push λs B=>PJ N B c2 c3 Y⟩ (by decide)⟩;rw[Array.getElem?_push]at he;by_cases K:j=en.size
        ·subst K;rw[zk rfl]at he;injection he with he;subst he;rw[List.getElem?_append_right (by omega),c2,qU]at C;simp at C;obtain⟨rfl,rfl⟩:=C;exact⟨N,J⟩
        ·rw[zh K]at he;have hjl:j<es.length:=by rw[c2];exact(Array.getElem?_eq_some_iff.1 he).1
         rw[List.getElem?_append_left hjl]at C;exact c3 j a b e C he
     ·cases B
    ·cases B
  ·cases B
 ·cases B
theorem I8(r:Rel P w0 m h w){g:Gd}{ts:Array TypeId}{ty:TypeId}{x k:AA}{x' k':Value}{h':AB}(R:VR m x x')(N:VR m k k')(B:Fj P g h ts x k=some h'):
  ∃w',(Builtin.delete_ ts ty #[x',k']).run P w=.ok (.tuple #[]) w'/\Rel P w0 m h' w':=by
 unfold Fj at B;split at B
 ·cases B
 ·rename_i t ht;split at B
  ·rename_i kt et id hu;split at B
   ·rename_i O;obtain⟨D,_⟩:=O;obtain⟨d,hd⟩:=FH D;cases R with
    | map _ E hE=>
     split at B
     ·rename_i es I;obtain⟨H,M⟩:=r.obj id E _ hE I;obtain⟨en,clock,c1,c2,c3,c4⟩:=LU.two (M (by omega)) (by decide);have V:∀e (w:World),(Instr.checkKey e 10000 kt k').run P w=.ok () w:=λe w=>Eb 20 10000 kt k k' e (by omega) N D;split at B
      ·rename_i i v0 Y;injection B with B;subst B;obtain⟨res',f1,f2⟩:=CO (w:=w) N hd (by rw[c2,yz]) (λj a b e C he=>c3 j a b e C (by simpa using he)) Y;cases res' with
       |none=>exact f2.elim
       | some p=>
        obtain⟨i',u'⟩:=p;obtain⟨hi,_,hil,_⟩:=f2;subst hi;have G:i<en.size:=by omega
        obtain⟨w2,q1,q2,q3,_⟩:=EO (P:=P) (w:=w) (o:=.map en clock) (o':=.map (en.eraseIdxIfInBounds i) clock) c1 (by simp);refine⟨w2,?_,?_⟩
        ·simp[Builtin.delete_,ht,AI w hu,getObj,Sem.run,c1,V,f1,q1]
        ·refine r.write hE I rfl rfl q3 ⟨H,λ_=>LU.of ⟨_,_,q2,?_,λj a b e C he=>?_,c4.erase i⟩ (by decide)⟩
         ·simp[Array.eraseIdxIfInBounds,G,List.length_eraseIdx,c2]
         ·have U:(en.toList.eraseIdx i)[j]?=some e:=by
           rw[<-he];simp[Array.eraseIdxIfInBounds,G,<-Array.getElem?_toList]
          rw[List.getElem?_eraseIdx]at C U;split at C
          ·rename_i K;rw[zk K]at U;exact c3 j a b e C (by simpa using U)
          ·rename_i K;rw[zh K]at U;exact c3 (j+1) a b e C (by simpa using U)
      ·rename_i Y;injection B with B;subst B;obtain⟨res',f1,f2⟩:=CO (w:=w) N hd (by rw[c2,yz]) (λj a b e C he=>c3 j a b e C (by simpa using he)) Y;cases res' with
       |some p=>exact f2.elim
       | none=>
        obtain⟨w2,q1,q2,q3,_⟩:=EO (P:=P) (w:=w) (o:=.map en clock) (o':=.map en clock) c1 (by simp);refine⟨w2,?_,?_⟩
        ·simp[Builtin.delete_,ht,AI w hu,getObj,Sem.run,c1,V,f1,q1]
        ·have rr:=r.write (o':=.map 2 es) hE I rfl rfl q3 ⟨H,λ_=>LU.of ⟨en,clock,q2,c2,c3,c4⟩ (by decide)⟩;have same:∀i,(h.set id (.map 2 es)).get i=h.get i:=λi=>by
          rw[h.FN _ _ _ (h.Ar I)];split
          ·rename_i e;rw[e,I]
          ·rfl
         exact⟨rr.below,rr.Kg,λi F o hF W=>rr.obj i F o hF (by rw[same];exact W),λi F o hF W=>rr.own i F o hF (by rw[same];exact W),λi j F F' o o' S h1 h2 g1 g2=>rr.sep i j F F' o o' S h1 h2 (by rw[same];exact g1) (by rw[same];exact g2),rr.fz,λi F o hF W=>rr.Ke i F o hF (by rw[same];exact W),rr.df,λi F o hF W=>rr.Py i F o hF (by rw[same];exact W)⟩
      ·cases B
     ·cases B
   ·cases B
  ·cases B
end
end Go.Av
