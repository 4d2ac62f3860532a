/-
 A part.
-/
import Derived.Test.YtfgmnhjedmkpeaaAvOpR
set_option linter.unusedSimpArgs false
namespace Go.Av
open Go.RowKit
section
variable {P:Program} {m:Aj} (w:World)
theorem C4(e:TypeId)(cs:Array Value):(newRow e cs).run P w=.ok ⟨w.heap.size,0,none⟩ (w.alloc (.cells cs e)):=rfl
def HX(P:Program)(m:Aj)(w w':World)(E:Gg)(x:Mc)(v':Value):Prop:=
 B9 w w' E.g/\E.g=w.heap.size/\E.g<w'.heap.size/\∀m':Aj,m.le m'->∀id,m' id=some E->VR m' (x.1 id) v'/\F3 P m' w' E x.2
theorem Ff{m':Aj}{gr:Option TypeId}{cs:List AA}{ds:Array Value}{e:TypeId}{E:Gg}{w':World}{fz:Nat×Nat}(hg:w'.heap[E.g]?=some (.cells ds e fz))(Z:E.base=0)(D:E.Lw=Ga P gr)(ht:E.total=ds.size)
  (K:BT m' cs (ds.toList.take cs.length)) (h1:cs.all AA.one=true) (I:QU E.total fz):F3 P m' w' E (.cells gr 2 cs):=by
 refine⟨⟨⟨D,λh=>by cases h⟩,λ_ _=>Z⟩,λ_=>⟨ds,e,fz,hg,ht.symm,λj a ha=>⟨zC.1 h1 a (zI ha),?_⟩,λ_=>I⟩⟩;obtain⟨y,N,hvy⟩:=K.at_ ha;rw[List.getElem?_take]at N;split at N
 ·exact⟨y,by rw[Z,qt];simpa using N,hvy⟩
 ·cases N
theorem GH{t:TypeId}{x:AA}{x':Value}{n:Mc}(H:VR m x x')(h:Ez x=some n):
  ∃v' w' E,(newVar t x').run P w=.ok (v':Addr) w'/\HX P m w w' E n (.pointer (some v')):=by
 unfold Ez at h;split at h
 ·rename_i cs hcs;split at h
  ·rename_i h1;injection h with h;subst h;refine⟨⟨w.heap.size,0,none⟩,w.alloc (.cells x'.cells t),⟨w.heap.size,0,0,x'.cells.size⟩,by simp[newVar,C4],B9.alloc w _ _,rfl,by simp,λm' hm id hid=>⟨?_,?_⟩⟩
   ·simpa using VR.ptr (m:=m') id 0 _ hid
   ·have K:=(H.mono hm).cells hcs;have X:cs.length=x'.cells.size:=by rw[K.1];simp
    exact Ff (e:=t) (fz:=(0,0)) (heap_alloc_new w _) rfl rfl rfl (by rw[X,zV (by simp)];exact K) h1 (.inl rfl)
  ·cases h
 ·cases h
theorem H7(z:List AA):∀(n j:Nat),j<n*z.length->(CK z n)[j]?=z[j%z.length]?
 |0,j,h=>by simp at h
 | n+1,j,h=>by
  unfold CK;have D:0<z.length:=by
   rcases yA z.length with L|L
   ·rw[L]at h;simp at h
   ·exact L
  by_cases hj:j<z.length
  ·rw[List.getElem?_append_left hj,y6 hj]
  ·have h':j<n*z.length+z.length:=by rw[yl,qi]at h;exact h
   rw[List.getElem?_append_right (by omega),H7 z n (j - z.length) (by omega),<-Nat.mod_eq_sub_mod (by omega)]
theorem Cw(z:List AA):∀n,(CK z n).length=n*z.length
 |0=>by simp[CK]
 |n+1=>by simp[CK,Cw z n,yl];omega
theorem Gs{z:List AA}{z':Value}(D:BT m z z'.cells.toList)(n k:Nat)(hk:k=n*z.length):BT m (CK z n) ((Array.range k).map λi=>z'.cells[i%z'.cells.size]!).toList:=by
 subst hk;have X:z.length=z'.cells.size:=by rw[D.1];simp
 refine⟨by simp[Cw],λi x y H N=>?_⟩;have G:i<n*z.length:=by have:=(List.getElem?_eq_some_iff.1 H).1;rwa [Cw]at this
 rw[H7 z n i G]at H;have hzp:0<z.length:=by
  rcases yA z.length with L|L
  ·rw[L]at G;simp at G
  ·exact L
 have hm:i%z.length<z'.cells.size:=by rw[<-X];exact Nat.mod_lt _ hzp
 simp only[y5,Array.toList_range,List.getElem?_map,List.getElem?_range G,ze,za]at N;subst N;rw[<-X,getElem!_pos z'.cells (i%z.length) hm];exact D.2 _ x _ H (by simp[hm])
theorem IU{z:List AA}(h:z.all AA.one=true):∀n,(CK z n).all AA.one=true
 |0=>by simp[CK]
 |n+1=>by simp only[CK,qD,h,IU h n];rfl
theorem Eo{t:TypeId}{n:Nat}(h:BK P t=some n):P.cellsOf t=n:=by
 unfold BK at h;unfold Program.cellsOf;rw[h];rfl
theorem Gu{t:TypeId}{len:Nat}{parts:List (Nat×AA)}{parts':Array (Nat×Value)}{n:Mc}(X:parts.length=parts'.toList.length)
  (hp:∀(j i i':Nat) (x:AA) (y:Value),parts[j]?=some (i,x)->parts'.toList[j]?=some (i',y)->i=i'/\VR m x y) (h:FE P t len parts=some n):
  ∃v' w' E,(Instr.buildSlice t len parts').run P w=.ok v' w'/\HX P m w w' E n v':=by
 unfold FE at h;split at h
 ·rename_i e hu;split at h
  ·rename_i sz z F D;split at h
   ·rename_i Z;obtain⟨hb1,hb2,hb3⟩:=Z;split at h
    ·rename_i cs R;split at h
     ·rename_i h1;injection h with h;subst h;cases hz0:Ew P e with
      |none=>simp[hz0]at D
      | some zv=>
       simp only[hz0,zd]at D;obtain⟨i,zz,G,J,hvz⟩:=DU (m:=m) hz0;have B:=hvz.cells D;have hzl:z.length=zz.cells.size:=by rw[B.1];simp
       have C:=Gs B len (len*sz) (by rw[hb2]);obtain⟨ds',f1,f2⟩:=Ek (m:=m) (place:=λi=>some (i*sz,sz)) parts parts'.toList _ _ cs X hp C R;have hlen:cs.length=ds'.size:=by rw[f2.1];simp
       have M:(zeroValue e).run P w=.ok zz w:=by simp[zeroValue,typeInfo,G,J]
       have hcl:∀(parts:List (Nat×AA)) (a b:List AA),Fe (λi=>some (i*sz,sz)) a parts=some b->b.length=a.length:=by
        intro parts
        induction parts with
        |nil=>intro a b U;simp[Fe]at U;rw[U]
        | cons p ps ih=>
         intro a b U;obtain⟨i,x⟩:=p;unfold Fe at U;split at U
         ·rename_i off size new e1 e2;split at U
          ·rename_i Z;rw[ih _ _ U];simp[CN];omega
          ·cases U
         ·cases U
       have hds:ds'.size=len*sz:=by rw[<-hlen,hcl _ _ _ R,Cw,hb2]
       refine⟨.slice (some ⟨w.heap.size,0,none⟩) len len,w.alloc (.cells ds' e),⟨w.heap.size,0,sz,len*sz⟩,?_,B9.alloc w _ _,rfl,by simp,λm' hm id hid=>⟨?_,?_⟩⟩
       ·have hb1':¬(len*sz>2^24):=by omega
        by_cases L:len*sz=0
        ·have hlen0:len=0:=by
          rcases yC.1 L with h|h
          ·exact h
          ·omega
         subst hlen0;have f1':Instr.fill (λi=>some (i*sz,sz)) #[] parts'.toList=some ds':=by simpa[Array.range_zero']using f1
         simp[Instr.buildSlice,AI w hu,run_sizeOf w F,C4,f1',Array.range_zero']
        ·simp only[Instr.buildSlice,Sem.run_bind,AI w hu,Result.andThen_ok,run_sizeOf w F,Sem.run_ite,zh hb1',Sem.run_pure,zh L,M];rw[f1];simp[C4]
       ·refine .slice id 0 len len _ _ hid (zr _) (λ_=>⟨by simp,λ_=>by simp⟩)
       ·exact Ff (e:=e) (fz:=(0,0)) (heap_alloc_new w _) rfl (by simp[Ga,Eo F]) (by simp[hds]) (by rw[yh,hlen,zV (by simp)];exact(f2.mono hm).GU) h1 (.inl rfl)
     ·cases h
    ·cases h
   ·cases h
  ·cases h
 ·cases h
theorem Gr{w:World}{g:Nat}{cs:Array Value}{e:TypeId}(hg:w.heap[g]?=some (.cells cs e (0,0))):
  ∃w',(markStringish ⟨g,0,none⟩).run P w=.ok () w'/\w'.heap[g]?=some (.cells cs e (cs.size,cs.size+1))/\B9 w w' g/\w'.heap.size=w.heap.size:=by
 refine⟨w.freeze {block:=g,off:=cs.size} 1,?_,?_,?_,?_⟩
 ·simp[markStringish,shape,freeze,Sem.run,World.shape?,hg]
 ·simp[World.freeze,Array.getElem?_modify,hg]
 ·refine⟨rfl,rfl,rfl,by simp[World.freeze],λk hk Q=>?_⟩;simp[World.freeze,Array.getElem?_modify,Ne.symm Q]
 ·simp[World.freeze]
theorem K6{w:World}{a:Addr}{g:Nat}{cs:Array Value}{e:TypeId}{fz:Nat×Nat}(ha:a.block=g)(hg:w.heap[g]?=some (.cells cs e fz))(I:QU cs.size fz):
  ∃w' fz',(markStringish a).run P w=.ok () w'/\w'.heap[g]?=some (.cells cs e fz')/\QU cs.size fz'/\B9 w w' g:=by
 subst ha;obtain⟨lo,G⟩:=fz;refine⟨w.freeze {block:=a.block,off:=cs.size} 1,(if lo==G then(cs.size,cs.size+1)else(min lo cs.size,max G (cs.size+1))),?_,?_,?_,?_⟩
 ·simp[markStringish,shape,freeze,Sem.run,World.shape?,hg]
 ·simp[World.freeze,Array.getElem?_modify,hg]
 ·unfold QU at I⊢;split
  ·exact .inr (zr _)
  ·rename_i Q;rcases I with I|I
   ·exact absurd (by simpa using I) Q
   ·right;simp only;simp only at I;omega
 ·refine⟨rfl,rfl,rfl,by simp[World.freeze],λk hk Q=>?_⟩;simp[World.freeze,Array.getElem?_modify,Ne.symm Q]
def D7(s:List UInt8)(c:Nat):Array Value:=(s.map λ(b:UInt8)=>Value.int .u8 b.toNat).toArray++Array.replicate (c - s.length) (.int .u8 0)
theorem Jf(s:List UInt8)(c:Nat)(h:s.length<=c):(D7 s c).size=c:=by simp[D7];omega
theorem KH{src dst:TypeId}{x:AA}{x':Value}{n:Mc}(H:VR m x x')(h:MU P src dst x=some n):
  ∃v' w' E,(convert src dst x').run P w=.ok v' w'/\HX P m w w' E n v':=by
 unfold MU at h;split at h
 ·rename_i d e s hs hd;split at h
  ·rename_i he F;split at h
   ·rename_i hlen;injection h with h;subst h;have:=H.CF;subst this;obtain⟨c,hc⟩:∃c,c=(Question.appendCap s.length 0 e).cut (w.tape w.drawn (.appendCap s.length 0 e)):=⟨_,rfl⟩;have Y:s.length<=c:=by rw[hc];simp[Question.cut]
    have V:=Jf s c Y;have hblk:(w.drew.alloc (.cells (D7 s c) e)).heap[w.heap.size]?=some (.cells (D7 s c) e (0,0)):=heap_alloc_new w.drew _;obtain⟨w',r1,r2,r3,r4⟩:=Gr (P:=P) hblk;refine⟨.slice (some ⟨w.heap.size,0,none⟩) s.length c,w',⟨w.heap.size,0,1,c⟩,?_,(B9.alloc_drew w _ _).trans r3,rfl,by rw[r4];show _<(w.heap.push _).size;simp,λm' hm id hid=>⟨?_,?_⟩⟩
    ·have hch:(choose (.appendCap s.length 0 e)).run P w=.ok c w.drew:=by rw[hc];rfl
     have hmap:((⟨⟨s⟩⟩:ByteArray).data.map λb=>Value.int .u8 b.toNat)=(s.map λ(b:UInt8)=>Value.int .u8 b.toNat).toArray:=by simp
     simp only[convert,Sem.run_bind,AI w hs,AI w hd,AI w he,Result.andThen_ok,Conv.stringToBytes];rw[show(⟨⟨s⟩⟩:ByteArray).size=s.length from rfl,hch,hmap];simp only[Result.andThen_ok];have W:(newRow e (D7 s c)).run P w.drew=.ok ⟨w.heap.size,0,none⟩ (w.drew.alloc (.cells (D7 s c) e)):=C4 w.drew e _;unfold D7 at W r1;rw[W];simp only[Result.andThen_ok,r1,Sem.run_pure]
    ·exact .slice id 0 s.length c _ _ hid Y (λ_=>⟨by simp,λ_=>by simp⟩)
    ·refine Ff (e:=e) (fz:=(c,c+1)) (by rw[r2,V]) rfl (by simp[Ga,Eo F]) (by simp[V]) ?_ ?_ (.inr (zr _))
     ·have:(D7 s c).toList.take (s.map λ(b:UInt8)=>AA.int .u8 b.toNat).length=s.map (λ(b:UInt8)=>Value.int .u8 b.toNat):=by
       simp[D7]
      rw[this];exact BT.map _ _ s λb _=>.int _ _
     ·simp[zC,AA.one]
   ·cases h
  ·cases h
 ·cases h
theorem HF{t:TypeId}{l c:AA}{l' c':Value}{n:Mc}(X:VR m l l')(hc:VR m c c')(h:Et P t l c=some n):
  ∃v' w' E,(Instr.makeSlice t l' c').run P w=.ok v' w'/\HX P m w w' E n v':=by
 unfold Et at h;split at h
 ·rename_i e kl a kc b hu;have:=X.BS;subst this;have:=hc.BS;subst this;split at h
  ·rename_i i G;split at h
   ·rename_i z D;split at h
    ·rename_i zc T;simp only[zg]at T;obtain⟨zc0,T,hzc'⟩:=T;split at h
     ·rename_i Z;obtain⟨b1,b2,b3,b4,b5,b6⟩:=Z;injection h with h;subst h;cases J:i.zero with
      |none=>simp[J]at D
      | some zz=>
       simp only[J,ze,za]at D;subst D;have B:=((VR.NC m zz).cells T).GU;rw[hzc']at B;have hzl:zc.length=zz.cells.size:=by rw[B.1];simp
       have F:BK P e=some i.size:=by simp[BK,G]
       have wl:IntKind.i64.wrap a=a:=by simp[IntKind.wrap,IntKind.signed,IntKind.bits];omega
       have wc:IntKind.i64.wrap b=b:=by simp[IntKind.wrap,IntKind.signed,IntKind.bits];omega
       have C:=Gs B b.toNat (b.toNat*i.size) (by rw[b5]);obtain⟨row,O⟩:∃row,row=((Array.range (b.toNat*i.size)).map λj=>zz.cells[j%zz.cells.size]!):=⟨_,rfl⟩;have hrs:row.size=b.toNat*i.size:=by rw[O];simp
       rw[<-O]at C;refine⟨.slice (some ⟨w.heap.size,0,none⟩) a.toNat b.toNat,w.alloc (.cells row e),⟨w.heap.size,0,i.size,b.toNat*i.size⟩,?_,B9.alloc w _ _,rfl,by simp,λm' hm id hid=>⟨?_,?_⟩⟩
       ·have big1:¬(b<0):=by omega
        have big2:¬(((i.bytes:Int)*b)>2^48):=by omega
        have big3:¬(a<0):=by omega
        have big4:¬(a>b):=by omega
        have room:¬(b.toNat*i.bytes>roomBytes):=by
         have e1:((b.toNat*i.bytes:Nat):Int)=(i.bytes:Int)*b:=by
          rw[qE,Int.toNat_of_nonneg (by omega),Int.mul_comm]
         simp only[roomBytes];omega
        have M:(zeroValue e).run P w=.ok zz w:=by simp[zeroValue,typeInfo,G,J]
        have hti:(typeInfo e).run P w=.ok i w:=by simp[typeInfo,G]
        have hcond:(((decide (b<0)||decide ((i.bytes:Int)*b>2^48))||decide (a<0)||decide (a>b))=true)=False:=by
         simp;omega
        simp only[Instr.makeSlice,Sem.run_bind,AI w hu,Result.andThen_ok,asInt,asIntOf,Sem.run_pure,hti,wl,wc,Sem.run_ite,hcond,if_false,askRoom,zh room,run_sizeOf w F];by_cases L:b.toNat*i.size=0
        ·have hr0:row=#[]:=by apply qy;rw[hrs,L]
         simp[L,hr0,C4,Array.range_zero']
        ·simp only[zh L,M,Result.andThen_ok];rw[<-O];simp[C4]
       ·exact .slice id 0 a.toNat b.toNat _ _ hid (by omega) (λ_=>⟨by simp,λ_=>by simp⟩)
       ·exact Ff (e:=e) (fz:=(0,0)) (heap_alloc_new w _) rfl (by simp[Ga,Eo F]) (by simp[hrs]) (by rw[Cw,b5,<-hrs,zV (by simp)];exact C.mono hm) (IU b6 _) (.inl rfl)
     ·cases h
    ·cases h
   ·cases h
  ·cases h
 ·cases h
theorem JC{fr:Fr}{a:Act}(I:FR m fr a){o:Oper}{n:Mc}(h:Ii P fr o.op=some n):∃v' w' E,(execOp a.eval o).run P w=.ok (.value v') w'/\HX P m w w' E n v':=by
 obtain⟨dst,op,ty,pos,aft,gd⟩:=o;simp only at h;have lift:∀{s:Sem Value},(∃v' w' E,s.run P w=.ok v' w'/\HX P m w w' E n v')->∃v' w' E,(do pure (.value (<-s)):Sem Next).run P w=.ok (.value v') w'/\HX P m w w' E n v':=by
  rintro s ⟨v',w',E,h1,S⟩;exact⟨v',w',E,by simp[h1],S⟩
 cases op with
 | alloc e=>
  simp only[Ii]at h;cases D:Ew P e with
  |none=>simp[D]at h
  |some z=>
   simp only[D,zd]at h;obtain⟨i,zz,G,J,hvz⟩:=DU (m:=m) D;obtain⟨v',w',E,h1,S⟩:=GH (P:=P) (t:=e) w hvz h;have M:(zeroValue e).run P w=.ok zz w:=by simp[zeroValue,typeInfo,G,J]
   exact lift ⟨_,w',E,by simp[Instr.alloc,M,h1],S⟩
 |box e x=>
  simp only[Ii]at h;obtain⟨v',w',E,h1,S⟩:=GH (P:=P) (t:=e) w (I.ev x) h;exact lift ⟨_,w',E,by simp[Instr.box,h1],S⟩
 | buildSlice t len parts=>
  simp only[Ii]at h;have hp:∀(j i i':Nat) (x:AA) (y:Value),(parts.toList.map λ(i,x)=>(i,ev fr x))[j]?=some (i,x)->(parts.map λ(i,x)=>(i,a.eval x)).toList[j]?=some (i',y)->i=i'/\VR m x y:=by
   intro j i i' x y H N;simp only[List.getElem?_map,y5]at H N;cases hj:parts.toList[j]? with
   |none=>simp[hj]at H
   |some p=>
    simp only[hj,ze,za,zb]at H N;obtain⟨rfl,rfl⟩:=H;obtain⟨rfl,rfl⟩:=N;exact⟨rfl,I.ev p.2⟩
  obtain⟨v',w',E,h1,S⟩:=Gu (P:=P) w (by simp) hp h;exact lift ⟨v',w',E,h1,S⟩
 |convert s d x=>
  simp only[Ii]at h;obtain⟨v',w',E,h1,S⟩:=KH (P:=P) w (I.ev x) h;exact lift ⟨v',w',E,h1,S⟩
 | makeMap t r=>
  cases r with
  |some r=>simp[Ii]at h
  |none=>
   simp only[Ii,za]at h;subst h;refine lift ⟨.map (some w.heap.size),w.alloc (.map #[] 0),⟨w.heap.size,0,0,0⟩,by simp[Instr.makeMap],B9.alloc w _ _,rfl,by simp,λm' hm id hid=>⟨VR.map id _ hid,rfl,λ_=>LU.of ⟨#[],0,heap_alloc_new w _,rfl,λi k v e h=>by simp at h,JR.nil⟩ (by decide)⟩⟩
 |makeSlice t l c=>
  simp only[Ii]at h;obtain⟨v',w',E,h1,S⟩:=HF (P:=P) w (I.ev l) (I.ev c) h;exact lift ⟨v',w',E,h1,S⟩
 | makeChan t n=>
  simp only[Ii]at h;split at h
  ·rename_i dir e k n0 hu H;split at h
   ·rename_i i G;split at h
    ·rename_i Z;injection h with h;subst h;have K:=I.ev n;rw[H]at K;have K:=K.BS;have hn:n0=((n0.toNat:Nat):Int):=by omega
     refine lift ⟨.chan (some w.heap.size),w.alloc (.chan n0.toNat #[] false 0 0 false),⟨w.heap.size,0,0,0⟩,?_,B9.alloc w _ _,rfl,by simp,λm' hm id hid=>⟨VR.chan id _ hid,#[],0,0,heap_alloc_new w _,.nil _⟩⟩;have n1:¬(n0<0):=by omega
     have n2:¬(9223372036854775807<n0):=by omega
     have n3:¬(281474976710544<(i.bytes:Int)*n0):=by omega
     simp[Instr.makeChan,K,asInt,asIntOf,run_underlying hu,typeInfo,G,n1,n2,n3,IntKind.max,IntKind.bits,IntKind.signed]
    ·cases h
   ·cases h
  ·cases h
 | range t x=>
  simp only[Ii]at h;split at h
  ·rename_i s hu H;injection h with h;subst h;have K:=I.ev x;rw[H]at K;have K:=K.CF;refine lift ⟨.pointer (some ⟨w.heap.size,0,none⟩),w.alloc (.stringIter ⟨⟨s⟩⟩ 0),⟨w.heap.size,0,0,0⟩,by simp[Instr.range,AI w hu,K],B9.alloc w _ _,rfl,by simp,λm' hm id hid=>⟨by simpa using VR.ptr (m:=m') id 0 _ hid,rfl,heap_alloc_new w _⟩⟩
  ·cases h
 |_=>simp[Ii]at h
end
end Go.Av
