/-
 A part.
-/
import Derived.Test.YthhonebaoidfgaaGreatDoorAvOpN
set_option linter.unusedSimpArgs false
namespace Go.Av
open Go.RowKit
section
variable {P:Program} {w0:World} {m:Bk} {h:AF} {w:World}
def ao(n:Next)(v:Value):Prop:=n=.value v\/(n=.skip/\v=undef)
theorem KM(g off:Nat)(e:TypeId)(fz:Nat×Nat):∀(vs:List Value) (i:Nat) (cur:Array Value) (w:World),w.heap[g]?=some (.cells cur e fz)->off+i+vs.length<=cur.size->
  (∀v∈vs,v.oneCell'=true)->(∀j,j<cur.size->¬(fz.1<=j/\j<fz.2))->
  ∃w',(storeCells ⟨g,off,none⟩ vs i).run P w=.ok () w'/\w'.heap[g]?=some (.cells ⟨cur.toList.take (off+i)++(vs++cur.toList.drop (off+i+vs.length))⟩ e fz)/\Fs w w' g/\w'.heap.size=w.heap.size
 |[],i,cur,w,J,_,_,_=>by
  refine⟨w,by simp[storeCells],?_,Fs.refl w g,rfl⟩;rw[J];congr 2;apply Array.ext';simp
 | v::vs,i,cur,w,J,Y,h1,U=>by
  simp only[zG]at Y;have hcell:w.cell? ⟨g,off+i,none⟩=some cur[off+i]:=by
   rw[cell_of_row w g (off+i) cur e fz J];exact Array.getElem?_eq_getElem om
  have hfr:w.frozen? ⟨g,off+i,none⟩=false:=by
   have:=U (off+i) om;simp only[World.frozen?,J];simp only[yv,zD];omega
  have B:(store ((⟨g,off,none⟩:Addr).add i) v).run P w=.ok () (w.setCell ⟨g,off+i,none⟩ v):=by
   rw[Addr.add_lit,run_store P w _ v _ (h1 v (by simp)),hcell];simp[hfr]
  have hg1:(w.setCell ⟨g,off+i,none⟩ v).heap[g]?=some (.cells (cur.setIfInBounds (off+i) v) e fz):=by
   simp[World.setCell,Array.getElem?_modify,J]
  obtain⟨w',r1,r2,r3,r4⟩:=KM g off e fz vs (i+1) (cur.setIfInBounds (off+i) v) _ hg1 (by simp;omega) (λu hu=>h1 u (by simp[hu])) (by simpa using U);refine⟨w',by simp[storeCells,B,r1],?_,?_,?_⟩
  ·rw[r2];congr 2;have hlen:cur.toList.length=cur.size:=by simp
   apply Array.ext';show(cur.setIfInBounds (off+i) v).toList.take (off+(i+1))++(vs++(cur.setIfInBounds (off+i) v).toList.drop (off+(i+1)+vs.length))=cur.toList.take (off+i)++(v::vs++cur.toList.drop (off+i+(v::vs).length));rw[xw];generalize cur.toList=L at hlen;have e1:L.set (off+i) v=L.take (off+i)++v::L.drop (off+i+1):=by
    rw[yV,zl om]
   have hl2:(L.take (off+i)).length=off+i:=by simp;omega
   rw[e1,show off+(i+1)+vs.length=(L.take (off+i)).length+(1+vs.length) by omega,qg,
    show off+(i+1)=(L.take (off+i)).length+1 by omega,qh,zC,show 1+vs.length=vs.length+1 by omega,qn,qr]
   simp only[qo,qE,yL,ye,zG];rw[show off+i+1+vs.length=off+i+(vs.length+1) by omega]
  ·have t1:Fs w (w.setCell ⟨g,off+i,none⟩ v) g:=⟨rfl,rfl,rfl,by simp[World.setCell],λk hk T=>Below.heap_setCell w ⟨g,off+i,none⟩ v k T⟩;exact t1.trans r3
  ·rw[r4];simp[World.setCell]
theorem WA(gr:Option TypeId)(l:List AD):(OU gr l).length=l.length:=by cases gr<;>simp[OU]
theorem aT{l:List AD}(h:l.all AD.one=true):(l.map Av.GV).all AD.one=true:=by
 rw[zr]at h⊢;intro x R;obtain⟨y,hy,rfl⟩:=zZ.1 R;have:=h y hy;unfold Av.GV;split
 ·rfl
 ·exact this
theorem LL(r:Rel P w0 m h w){g:Gd}{id o:Nat}{E:OR}{new:List AD}{ds:List Value}{h':AF}(Q:m id=some E)(D:DD m new ds)(B:EK g h id o new=some h'):
  ∃w',(storeCells ⟨E.g,E.base+o,none⟩ ds).run P w=.ok () w'/\Rel P w0 m h' w':=by
 unfold EK at B;split at B
 ·rename_i gr cs J;split at B
  ·rename_i O;obtain⟨_,hb2,N⟩:=O;injection B with B;subst B;replace D:DD m (OU gr new) ds:=by cases gr with|none=>exact D|some t=>exact D.GV
   replace N:(OU gr new).all AD.one=true:=by cases gr with|none=>exact N|some t=>exact aT N
   replace hb2:o+(OU gr new).length<=cs.length:=by rw[WA];exact hb2
   revert D hb2 N;generalize OU gr new=nw;clear new;revert nw;intro new D N hb2;obtain⟨hesz,M⟩:=r.obj id E _ Q J;obtain⟨cur,e,fz,c1,c2,c3,c4⟩:=M om;have U:=c4 rfl;have hin:∀j,j<cs.length->E.base+j<cur.size:=λj K=>by
    obtain⟨_,c,hc,_⟩:=c3 j _ (List.getElem?_eq_getElem K);exact(Array.getElem?_eq_some_iff.1 hc).1
   have hlen:E.base+o+0+ds.length<=cur.size\/ds=[]:=by
    rcases qa ds.length with h0|h0
    ·right;exact zx h0
    ·left;have:=hin (o+new.length - 1) (by have:=D.1;omega);have:=D.1;omega
   rcases hlen with hlen|hnil
   ·obtain⟨w',r1,r2,r3,r4⟩:=KM (P:=P) E.g (E.base+o) e fz ds 0 cur w c1 hlen (λv hv'=>by
     obtain⟨j,K⟩:=q9.1 hv';have hj':j<new.length:=by rw[D.1];exact(List.getElem?_eq_some_iff.1 K).1
     exact(D.2 j _ v (List.getElem?_eq_getElem hj') K).one (zr.1 N _ (zP hj'))) (by rw[c2];exact U.no)
    refine⟨w',r1,r.write Q J rfl rfl r3 ⟨⟨⟨hesz.1.1,λh=>by cases h⟩,hesz.2⟩,λ_=>⟨_,e,fz,r2,?_,λj a C=>?_,λ_=>U⟩⟩⟩
    ·rw[<-c2];simp;omega
    ·unfold FY at C;rw[List.getElem?_append]at C;split at C
     ·rename_i K;rw[List.getElem?_take]at C;split at C
      ·rename_i hjo;obtain⟨a1,c,hc,hvc⟩:=c3 j a C;refine⟨a1,c,?_,hvc⟩;have:(cur.toList.take (E.base+o+0))[E.base+j]?=some c:=by
        rw[List.getElem?_take,zl om];simpa using hc
       simp only[List.getElem?_toArray];rw[List.getElem?_append_left (List.getElem?_eq_some_iff.1 this).1];exact this
      ·cases C
     ·rename_i K;have htl:(cs.take o).length=o:=by simp at K⊢;omega
      rw[htl]at C K;have hctl:(cur.toList.take (E.base+o+0)).length=E.base+o:=by simp;omega
      rw[List.getElem?_append]at C;split at C
      ·rename_i hjn;obtain⟨y,hy,hvy⟩:=D.at_ C;refine⟨zr.1 N _ (zN C),y,?_,hvy⟩;simp only[List.getElem?_toArray];rw[List.getElem?_append_right om,hctl,show E.base+j - (E.base+o)=j - o by omega,List.getElem?_append_left (List.getElem?_eq_some_iff.1 hy).1];exact hy
      ·rename_i hjn;rw[List.getElem?_drop]at C;obtain⟨a1,c,hc,hvc⟩:=c3 _ a C;refine⟨a1,c,?_,hvc⟩;have Y:=D.1;simp only[List.getElem?_toArray];rw[List.getElem?_append_right om,hctl,List.getElem?_append_right om,List.getElem?_drop];rw[show E.base+o+0+ds.length+(E.base+j - (E.base+o) - ds.length)=E.base+(o+new.length+(j - o - new.length)) by omega];simpa using hc
   ·subst hnil;have hn:new=[]:=zx (by simpa using D.1);subst hn;refine⟨w,by simp[storeCells],?_⟩;refine r.write Q J rfl rfl (Fs.refl w _) ?_;have:FY cs o []=cs:=by simp[FY]
    rw[this];exact r.obj id E _ Q J
  ·cases B
 ·cases B
theorem Up(r:Rel P w0 m h w){g:Gd}{t:TypeId}{id o:Nat}{E:OR}{x:AD}{x':Value}{h':AF}(Q:m id=some E)(R:VR m x x')(B:N1 P g h t id o x=some h'):
  ∃w',(storeVar t ⟨E.g,E.base+o,none⟩ x').run P w=.ok () w'/\Rel P w0 m h' w':=by
 unfold N1 at B;split at B
 ·rename_i new n hnew hn;split at B
  ·rename_i Y;have D:=R.cells hnew;obtain⟨w',r1,r2⟩:=LL r Q D B;refine⟨w',?_,r2⟩;have:x'.cells.size=n:=by rw[<-Y,D.1];simp
   simp[storeVar,run_sizeOf w hn,this,r1]
  ·cases B
 ·cases B
theorem V4{x y:AD}(B:Qr x y=true):x=y:=by
 unfold Qr at B;split at B
 ·simp only[zf,zy,yN]at B;obtain⟨rfl,rfl⟩:=B;rfl
 ·simp only[yN]at B;rw[B]
 ·simp only[yN]at B;rw[B]
 ·cases B
theorem S6:∀(a b:List AD),a.length=b.length->((a.zip b).all λp=>Qr p.1 p.2)=true->a=b
 |[],[],_,_=>rfl
 |[],_::_,Y,_=>by simp at Y
 |_::_,[],Y,_=>by simp at Y
 |x::a,y::b,Y,B=>by
  simp only[List.zip_cons_cons,ya,zf]at B;rw[V4 B.1,S6 a b (by simpa using Y) B.2]
theorem bN{x y:AD}(B:Nn x y=true):x=y:=by
 unfold Nn at B;split at B
 ·rename_i a b;simp only[zf,yN]at B;rw[S6 a b B.1 B.2]
 ·exact V4 B
theorem P9(JY new:Value)(w:World):∃v w',(Instr.keyThatStays JY new).run P w=.ok v w'/\(v=JY\/v=new)/\(w'=w\/w'=w.drew):=by
 unfold Instr.keyThatStays;by_cases O:Instr.sameBits 10000 JY new=true
 ·exact⟨new,w,by simp[O],.inr rfl,.inl rfl⟩
 ·have hch:(choose (.extern "map.whichKeyStays" 2)).run P w=.ok ((Question.extern "map.whichKeyStays" 2).cut (w.tape w.drawn (.extern "map.whichKeyStays" 2))) w.drew:=rfl;simp only[O,yM,if_false,Sem.run_bind,hch,Result.andThen_ok,Sem.run_pure];by_cases h0:(Question.extern "map.whichKeyStays" 2).cut (w.tape w.drawn (.extern "map.whichKeyStays" 2))=0
  ·exact⟨new,w.drew,by simp[h0],.inr rfl,.inr rfl⟩
  ·exact⟨JY,w.drew,by simp[h0],.inl rfl,.inr rfl⟩
theorem KO{w:World}{g:Nat}{o o':Obj}(X:w.heap[g]?=some o)(hc:∀a b c,o≠.cells a b c):
  ∃w',(setObj g o').run P w=.ok () w'/\w'.heap[g]?=some o'/\Fs w w' g/\w'.heap.size=w.heap.size:=by
 have hlt:g<w.heap.size:=(Array.getElem?_eq_some_iff.1 X).1;refine⟨{w with heap:=w.heap.setIfInBounds g o'},?_,?_,⟨rfl,rfl,rfl,by simp,λk hk T=>?_⟩,by simp⟩
 ·cases o with
  |cells a b c=>exact absurd rfl (hc a b c)
  |_=>simp[setObj,Sem.run,X]
 ·simp[hlt]
 ·simp[Ne.symm T]
theorem ez{k:AD}{a:Value}(C:VR m k a){en:MapEntry}{v:Value}(O:VR m k en.key)(hq:Nn k k=true:=by assumption):Nr {en with key:=a,val:=v}=Nr en:=by
 unfold Nr;dsimp only;generalize en.key=y at O;cases k with
 |str s=>rw[C.Em,O.Em]
 |int=>cases C;cases O;rfl
 |bool=>cases C;cases O;rfl
 |agg=>cases C;cases O;rfl
 |_=>simp[Nn,Qr]at hq
theorem Wu{kt:TypeId}{k:AD}{k':Value}{es:List (AD×AD)}{en:Array MapEntry}(hk:VR m k k'){s:ByteArray}(B:k'=.string s)(c2:es.length=en.size)
    (c3:∀(i:Nat) (a b:AD) (e:MapEntry),es[i]?=some (a,b)->en[i]?=some e->VR m a e.key/\VR m b e.val) {n:Nat} (Z:EL P kt k es n=some none):s∉en.toList.filterMap Nr:=by
  subst B;intro hm;obtain⟨e,he,S⟩:=qF.1 hm;obtain⟨i,hi,rfl⟩:=yS he;have hi':i<es.length:=by rw[c2];simpa using hi
  have D:=(c3 i es[i].1 es[i].2 en.toList[i] (by simp[List.getElem?_eq_getElem hi']) (by rw[<-Array.getElem?_toList];exact List.getElem?_eq_getElem hi)).1;have G:en.toList[i].key=.string s:=by
    unfold Nr at S;split at S
    · rename_i s' h;injection S with S;subst S;exact h
    · cases S
  rw[G]at D;have key:∀(es:List (AD×AD)) (n:Nat),EL P kt k es n=some none->∀x∈es,Il P 10000 kt k x.1=some false:=by
    intro es
    induction es with
    |nil=>intro n _ x R;cases R
    | cons p es ih=>
      intro n h x R;obtain⟨a,b⟩:=p;unfold EL at h;split at h
      · cases h
      · rename_i hq
        rcases zF.1 R with rfl|R
        · exact hq
        · exact ih _ h x R
      · cases h
  have hq:=key es n Z es[i] (zP hi');generalize es[i].1=a at D hq;unfold Il at hq;split at hq
  all_goals first
    |(cases hq;done)
    |(exfalso;cases hk;done)
    |(exfalso;cases D;done)
    | (have e1:=hk.Em
       have e2:=D.Em;have e3:=e1.symm.trans e2;injection e3 with e3;injection e3 with e3;injection e3 with e3;subst e3
       simp at hq)
theorem TW(r:Rel P w0 m h w){g:Gd}{t:TypeId}{x k v:AD}{x' k' v':Value}{h':AF}(R:VR m x x')(hk:VR m k k')(D:VR m v v')(B:J8 P g h t x k v=some h'):
  ∃w',(Instr.mapUpdate t x' k' v').run P w=.ok () w'/\Rel P w0 m h' w':=by
 unfold J8 at B;split at B
 ·rename_i kt et id hu;split at B
  ·rename_i O;obtain⟨G,_⟩:=O;obtain⟨d,hd⟩:=ME G;cases R with
   | map _ E Q=>
    split at B
    ·rename_i es J;obtain⟨I,M⟩:=r.obj id E _ Q J;obtain⟨en,clock,c1,c2,c3,c4⟩:=M4.two (M om) (by decide);have W:∀e (w:World),(Instr.checkKey e 10000 kt k').run P w=.ok () w:=λe w=>LC 20 10000 kt k k' e om hk G;split at B
     ·rename_i i v0 Z;obtain⟨res',f1,f2⟩:=HC (w:=w) hk hd (by rw[c2,yB]) (λj a b e C he=>c3 j a b e C (by simpa using he)) Z;cases res' with
      |none=>exact f2.elim
      | some p=>
       obtain⟨i',u'⟩:=p;obtain⟨hi,_,hil,_⟩:=f2;subst hi;split at B
       ·rename_i k0 v1 hki;split at B
        ·rename_i hsame;injection B with B;subst B;have hke:=bN hsame;subst hke;have H:i<en.size:=by omega
         have hold:VR m k0 en[i].key:=(c3 i k0 v1 en[i] hki (Array.getElem?_eq_getElem H)).1;obtain⟨kk,w1,s1,s2,s3⟩:=P9 (P:=P) (en[i].key) k' w;have hkk:VR m k0 kk:=by rcases s2 with rfl|rfl;exact hold;exact hk
         have hw1:w1.heap=w.heap:=by rcases s3 with e|e<;>rw[e]<;>rfl
         have t1:Fs w w1 E.g:=by rcases s3 with e|e<;>rw[e];exact Fs.refl w _;exact(Fs.refl w _).drew
         obtain⟨w2,q1,q2,q3,_⟩:=KO (P:=P) (w:=w1) (o:=.map en clock) (o':=.map (en.modify i λe=>{e with key:=kk,val:=v'}) clock) (by rw[hw1];exact c1) (by simp);refine⟨w2,?_,?_⟩
         ·have e1:((en[i]?).map (·.key)).getD k'=en[i].key:=by simp[H]
          simp only[Instr.mapUpdate,Sem.run_bind,BE w hu,Result.andThen_ok,getObj,Sem.run,c1,W,f1,e1,s1];exact q1
         ·refine r.write Q J rfl rfl (t1.trans q3) ⟨I,λ_=>M4.of ⟨_,clock,q2,by simpa using c2,λj a b e C he=>?_,c4.modify H (ez hkk hold)⟩ (by decide)⟩;rw[List.getElem?_set]at C;simp only[Array.getElem?_modify]at he;by_cases K:i=j
          ·subst K;have hil2:i<es.length:=hil;simp only[hil2,if_true,zb,ze]at C;obtain⟨rfl,rfl⟩:=C;simp only[Array.getElem?_eq_getElem H,if_true,zh,zb]at he;subst he;exact⟨hkk,D⟩
          ·rw[zj K]at C he;exact c3 j a b e C he
        ·cases B
       ·cases B
     ·rename_i Z;injection B with B;subst B;obtain⟨res',f1,f2⟩:=HC (w:=w) hk hd (by rw[c2,yB]) (λj a b e C he=>c3 j a b e C (by simpa using he)) Z;cases res' with
      |some p=>exact f2.elim
      | none=>
       obtain⟨w2,q1,q2,q3,_⟩:=KO (P:=P) (w:=w) (o:=.map en clock) (o':=.map (en.push {key:=k',val:=v',born:=clock}) (clock+1)) c1 (by simp);refine⟨w2,?_,?_⟩
       ·simp only[Instr.mapUpdate,Sem.run_bind,BE w hu,Result.andThen_ok,getObj,Sem.run,c1,W,f1];exact q1
       ·refine r.write Q J rfl rfl q3 ⟨I,λ_=>M4.of ⟨_,_,q2,by simp[c2],λj a b e C he=>?_,c4.push λs B=>Wu hk B c2 c3 Z⟩ (by decide)⟩;rw[Array.getElem?_push]at he;by_cases K:j=en.size
        ·subst K;rw[zl rfl]at he;injection he with he;subst he;rw[List.getElem?_append_right om,c2,Nat.sub_self]at C;simp at C;obtain⟨rfl,rfl⟩:=C;exact⟨hk,D⟩
        ·rw[zj K]at he;have hjl:j<es.length:=by rw[c2];exact(Array.getElem?_eq_some_iff.1 he).1
         rw[List.getElem?_append_left hjl]at C;exact c3 j a b e C he
     ·cases B
    ·cases B
  ·cases B
 ·cases B
theorem TS(r:Rel P w0 m h w){g:Gd}{ts:Array TypeId}{ty:TypeId}{x k:AD}{x' k':Value}{h':AF}(R:VR m x x')(hk:VR m k k')(B:N3 P g h ts x k=some h'):
  ∃w',(Builtin.delete_ ts ty #[x',k']).run P w=.ok (.tuple #[]) w'/\Rel P w0 m h' w':=by
 unfold N3 at B;split at B
 ·cases B
 ·rename_i t ht;split at B
  ·rename_i kt et id hu;split at B
   ·rename_i O;obtain⟨G,_⟩:=O;obtain⟨d,hd⟩:=ME G;cases R with
    | map _ E Q=>
     split at B
     ·rename_i es J;obtain⟨I,M⟩:=r.obj id E _ Q J;obtain⟨en,clock,c1,c2,c3,c4⟩:=M4.two (M om) (by decide);have W:∀e (w:World),(Instr.checkKey e 10000 kt k').run P w=.ok () w:=λe w=>LC 20 10000 kt k k' e om hk G;split at B
      ·rename_i i v0 Z;injection B with B;subst B;obtain⟨res',f1,f2⟩:=HC (w:=w) hk hd (by rw[c2,yB]) (λj a b e C he=>c3 j a b e C (by simpa using he)) Z;cases res' with
       |none=>exact f2.elim
       | some p=>
        obtain⟨i',u'⟩:=p;obtain⟨hi,_,hil,_⟩:=f2;subst hi;have H:i<en.size:=by omega
        obtain⟨w2,q1,q2,q3,_⟩:=KO (P:=P) (w:=w) (o:=.map en clock) (o':=.map (en.eraseIdxIfInBounds i) clock) c1 (by simp);refine⟨w2,?_,?_⟩
        ·simp[Builtin.delete_,ht,BE w hu,getObj,Sem.run,c1,W,f1,q1]
        ·refine r.write Q J rfl rfl q3 ⟨I,λ_=>M4.of ⟨_,_,q2,?_,λj a b e C he=>?_,c4.erase i⟩ (by decide)⟩
         ·simp[Array.eraseIdxIfInBounds,H,List.length_eraseIdx,c2]
         ·have V:(en.toList.eraseIdx i)[j]?=some e:=by
           rw[<-he];simp[Array.eraseIdxIfInBounds,H,<-Array.getElem?_toList]
          rw[List.getElem?_eraseIdx]at C V;split at C
          ·rename_i K;rw[zl K]at V;exact c3 j a b e C (by simpa using V)
          ·rename_i K;rw[zj K]at V;exact c3 (j+1) a b e C (by simpa using V)
      ·rename_i Z;injection B with B;subst B;obtain⟨res',f1,f2⟩:=HC (w:=w) hk hd (by rw[c2,yB]) (λj a b e C he=>c3 j a b e C (by simpa using he)) Z;cases res' with
       |some p=>exact f2.elim
       | none=>
        obtain⟨w2,q1,q2,q3,_⟩:=KO (P:=P) (w:=w) (o:=.map en clock) (o':=.map en clock) c1 (by simp);refine⟨w2,?_,?_⟩
        ·simp[Builtin.delete_,ht,BE w hu,getObj,Sem.run,c1,W,f1,q1]
        ·have rr:=r.write (o':=.map 2 es) Q J rfl rfl q3 ⟨I,λ_=>M4.of ⟨en,clock,q2,c2,c3,c4⟩ (by decide)⟩;have same:∀i,(h.set id (.map 2 es)).get i=h.get i:=λi=>by
          rw[h.J6 _ _ _ (h.CA J)];split
          ·rename_i e;rw[e,J]
          ·rfl
         exact⟨rr.below,rr.Q2,λi F o hF X=>rr.obj i F o hF (by rw[same];exact X),λi F o hF X=>rr.own i F o hF (by rw[same];exact X),λi j F F' o o' T h1 h2 g1 g2=>rr.sep i j F F' o o' T h1 h2 (by rw[same];exact g1) (by rw[same];exact g2),rr.fz,λi F o hF X=>rr.K1 i F o hF (by rw[same];exact X),rr.df,λi F o hF X=>rr.Re i F o hF (by rw[same];exact X)⟩
      ·cases B
     ·cases B
   ·cases B
  ·cases B
end
end Go.Av
