/-
 A part.
-/
import Derived.Test.YtfgmnhjedmkpeaaAbsOpR
set_option linter.unusedSimpArgs false
namespace Go.Abs
open Go.RowKit
section
variable {P:Program} {m:Aj} (w:World)
theorem C4(e:TypeId)(cs:Array Value):(newRow e cs).run P w=.ok ⟨w.heap.size,0,none⟩ (w.alloc (.cells cs e)):=rfl
def HX(P:Program)(m:Aj)(w w':World)(E:Gg)(x:Mc)(v':Value):Prop:=
 B9 w w' E.g/\E.g=w.heap.size/\E.g<w'.heap.size/\∀m':Aj,m.le m'->∀id,m' id=some E->VR m' (x.1 id) v'/\F3 P m' w' E x.2
theorem Ff{m':Aj}{gr:Option TypeId}{cs:List AA}{ds:Array Value}{e:TypeId}{E:Gg}{w':World}{fz:Nat×Nat}(hg:w'.heap[E.g]?=some (.cells ds e fz))(hb:E.base=0)(D:E.Lw=Ga P gr)(ht:E.total=ds.size)
  (Q:BT m' cs (ds.toList.take cs.length)) (h1:cs.all AA.one=true) (V:∀j,j<E.total->¬(fz.1<=j/\j<fz.2)):F3 P m' w' E (.cells gr 2 cs):=by
 refine⟨D,λ_=>⟨ds,e,fz,hg,ht.symm,λj a ha=>⟨xk.1 h1 a (xd ha),?_⟩,λ_=>V⟩⟩;obtain⟨y,L,hvy⟩:=Q.at_ ha;rw[List.getElem?_take]at L;split at L
 ·exact⟨y,by rw[hb,xV];simpa using L,hvy⟩
 ·cases L
theorem GH{t:TypeId}{x:AA}{x':Value}{n:Mc}(H:VR m x x')(h:Ez x=some n):
  ∃v' w' E,(newVar t x').run P w=.ok (v':Addr) w'/\HX P m w w' E n (.pointer (some v')):=by
 unfold Ez at h;split at h
 ·rename_i cs hcs;split at h
  ·rename_i h1;injection h with h;subst h;refine⟨⟨w.heap.size,0,none⟩,w.alloc (.cells x'.cells t),⟨w.heap.size,0,0,x'.cells.size⟩,by simp[newVar,C4],B9.alloc w _ _,rfl,by simp,λm' hm id hid=>⟨?_,?_⟩⟩
   ·simpa using VR.ptr (m:=m') id 0 _ hid
   ·have Q:=(H.mono hm).cells hcs;have U:cs.length=x'.cells.size:=by rw[Q.1];simp
    exact Ff (e:=t) (fz:=(0,0)) (heap_alloc_new w _) rfl rfl rfl (by rw[U,xG (by simp)];exact Q) h1 (by simp)
  ·cases h
 ·cases h
theorem H7(z:List AA):∀(n j:Nat),j<n*z.length->(CK z n)[j]?=z[j%z.length]?
 |0,j,h=>by simp at h
 | n+1,j,h=>by
  unfold CK;have D:0<z.length:=by
   rcases xE z.length with I|I
   ·rw[I]at h;simp at h
   ·exact I
  by_cases hj:j<z.length
  ·rw[List.getElem?_append_left hj,Nat.mod_eq_of_lt hj]
  ·have h':j<n*z.length+z.length:=by rw[xr,Nat.one_mul]at h;exact h
   rw[List.getElem?_append_right (by omega),H7 z n (j - z.length) (by omega),<-Nat.mod_eq_sub_mod (by omega)]
theorem Cw(z:List AA):∀n,(CK z n).length=n*z.length
 |0=>by simp[CK]
 |n+1=>by simp[CK,Cw z n,xr];omega
theorem Gs{z:List AA}{z':Value}(D:BT m z z'.cells.toList)(n k:Nat)(hk:k=n*z.length):BT m (CK z n) ((Array.range k).map λi=>z'.cells[i%z'.cells.size]!).toList:=by
 subst hk;have U:z.length=z'.cells.size:=by rw[D.1];simp
 refine⟨by simp[Cw],λi x y H L=>?_⟩;have J:i<n*z.length:=by have:=(List.getElem?_eq_some_iff.1 H).1;rwa [Cw]at this
 rw[H7 z n i J]at H;have hzp:0<z.length:=by
  rcases xE z.length with I|I
  ·rw[I]at J;simp at J
  ·exact I
 have hm:i%z.length<z'.cells.size:=by rw[<-U];exact Nat.mod_lt _ hzp
 simp only[xT,Array.toList_range,List.getElem?_map,List.getElem?_range J,qZ,qV]at L;subst L;rw[<-U,getElem!_pos z'.cells (i%z.length) hm];exact D.2 _ x _ H (by simp[hm])
theorem IU{z:List AA}(h:z.all AA.one=true):∀n,(CK z n).all AA.one=true
 |0=>by simp[CK]
 |n+1=>by simp only[CK,List.all_append,h,IU h n];rfl
theorem Eo{t:TypeId}{n:Nat}(h:BK P t=some n):P.cellsOf t=n:=by
 unfold BK at h;unfold Program.cellsOf;rw[h];rfl
theorem Gu{t:TypeId}{len:Nat}{parts:List (Nat×AA)}{parts':Array (Nat×Value)}{n:Mc}(U:parts.length=parts'.toList.length)
  (hp:∀(j i i':Nat) (x:AA) (y:Value),parts[j]?=some (i,x)->parts'.toList[j]?=some (i',y)->i=i'/\VR m x y) (h:FE P t len parts=some n):
  ∃v' w' E,(Instr.buildSlice t len parts').run P w=.ok v' w'/\HX P m w w' E n v':=by
 unfold FE at h;split at h
 ·rename_i e hu;split at h
  ·rename_i sz z F D;split at h
   ·rename_i hb;obtain⟨hb1,hb2,hb3⟩:=hb;split at h
    ·rename_i cs N;split at h
     ·rename_i h1;injection h with h;subst h;cases X:Ew P e with
      |none=>simp[X]at D
      | some zv=>
       simp only[X,qW]at D;obtain⟨i,zz,J,G,Y⟩:=DU (m:=m) X;have B:=Y.cells D;have hzl:z.length=zz.cells.size:=by rw[B.1];simp
       have C:=Gs B len (len*sz) (by rw[hb2]);obtain⟨ds',f1,f2⟩:=Ek (m:=m) (place:=λi=>some (i*sz,sz)) parts parts'.toList _ _ cs U hp C N;have hlen:cs.length=ds'.size:=by rw[f2.1];simp
       have K:(zeroValue e).run P w=.ok zz w:=by simp[zeroValue,typeInfo,J,G]
       have hcl:∀(parts:List (Nat×AA)) (a b:List AA),Fe (λi=>some (i*sz,sz)) a parts=some b->b.length=a.length:=by
        intro parts
        induction parts with
        |nil=>intro a b R;simp[Fe]at R;rw[R]
        | cons p ps ih=>
         intro a b R;obtain⟨i,x⟩:=p;unfold Fe at R;split at R
         ·rename_i off size new e1 e2;split at R
          ·rename_i hb;rw[ih _ _ R];simp[CN];omega
          ·cases R
         ·cases R
       have hds:ds'.size=len*sz:=by rw[<-hlen,hcl _ _ _ N,Cw,hb2]
       refine⟨.slice (some ⟨w.heap.size,0,none⟩) len len,w.alloc (.cells ds' e),⟨w.heap.size,0,sz,len*sz⟩,?_,B9.alloc w _ _,rfl,by simp,λm' hm id hid=>⟨?_,?_⟩⟩
       ·have hb1':¬(len*sz>2^24):=by omega
        by_cases I:len*sz=0
        ·have hlen0:len=0:=by
          rcases Nat.mul_eq_zero.1 I with h|h
          ·exact h
          ·omega
         subst hlen0;have f1':Instr.fill (λi=>some (i*sz,sz)) #[] parts'.toList=some ds':=by simpa[Array.range_zero']using f1
         simp[Instr.buildSlice,AI w hu,run_sizeOf w F,C4,f1',Array.range_zero']
        ·simp only[Instr.buildSlice,Sem.run_bind,AI w hu,Result.andThen_ok,run_sizeOf w F,Sem.run_ite,xg hb1',Sem.run_pure,xg I,K];rw[f1];simp[C4]
       ·refine .slice id 0 len len _ _ hid (xe _) (λ_=>⟨by simp,λ_=>by simp⟩)
       ·exact Ff (e:=e) (fz:=(0,0)) (heap_alloc_new w _) rfl (by simp[Ga,Eo F]) (by simp[hds]) (by rw[hlen,xG (by simp)];exact f2.mono hm) h1 (by simp)
     ·cases h
    ·cases h
   ·cases h
  ·cases h
 ·cases h
theorem Gr{w:World}{g:Nat}{cs:Array Value}{e:TypeId}(hg:w.heap[g]?=some (.cells cs e (0,0))):
  ∃w',(markStringish ⟨g,0,none⟩).run P w=.ok () w'/\w'.heap[g]?=some (.cells cs e (cs.size,cs.size+1))/\B9 w w' g/\w'.heap.size=w.heap.size:=by
 refine⟨w.freeze {block:=g,off:=cs.size} 1,?_,?_,?_,?_⟩
 ·simp[markStringish,shape,freeze,Sem.run,World.shape?,hg]
 ·simp[World.freeze,Array.getElem?_modify,hg]
 ·refine⟨rfl,rfl,rfl,by simp[World.freeze],λk hk hne=>?_⟩;simp[World.freeze,Array.getElem?_modify,Ne.symm hne]
 ·simp[World.freeze]
def D7(s:List UInt8)(c:Nat):Array Value:=(s.map λ(b:UInt8)=>Value.int .u8 b.toNat).toArray++Array.replicate (c - s.length) (.int .u8 0)
theorem Jf(s:List UInt8)(c:Nat)(h:s.length<=c):(D7 s c).size=c:=by simp[D7];omega
theorem KH{src dst:TypeId}{x:AA}{x':Value}{n:Mc}(H:VR m x x')(h:MU P src dst x=some n):
  ∃v' w' E,(convert src dst x').run P w=.ok v' w'/\HX P m w w' E n v':=by
 unfold MU at h;split at h
 ·rename_i d e s hs hd;split at h
  ·rename_i he F;split at h
   ·rename_i hlen;injection h with h;subst h;have:=H.CF;subst this;obtain⟨c,hc⟩:∃c,c=(Question.appendCap s.length 0 e).cut (w.tape w.drawn (.appendCap s.length 0 e)):=⟨_,rfl⟩;have W:s.length<=c:=by rw[hc];simp[Question.cut]
    have S:=Jf s c W;have hblk:(w.drew.alloc (.cells (D7 s c) e)).heap[w.heap.size]?=some (.cells (D7 s c) e (0,0)):=heap_alloc_new w.drew _;obtain⟨w',r1,r2,r3,r4⟩:=Gr (P:=P) hblk;refine⟨.slice (some ⟨w.heap.size,0,none⟩) s.length c,w',⟨w.heap.size,0,1,c⟩,?_,(B9.alloc_drew w _ _).trans r3,rfl,by rw[r4];show _<(w.heap.push _).size;simp,λm' hm id hid=>⟨?_,?_⟩⟩
    ·have hch:(choose (.appendCap s.length 0 e)).run P w=.ok c w.drew:=by rw[hc];rfl
     have hmap:((⟨⟨s⟩⟩:ByteArray).data.map λb=>Value.int .u8 b.toNat)=(s.map λ(b:UInt8)=>Value.int .u8 b.toNat).toArray:=by simp
     simp only[convert,Sem.run_bind,AI w hs,AI w hd,AI w he,Result.andThen_ok,Conv.stringToBytes];rw[show(⟨⟨s⟩⟩:ByteArray).size=s.length from rfl,hch,hmap];simp only[Result.andThen_ok];have T:(newRow e (D7 s c)).run P w.drew=.ok ⟨w.heap.size,0,none⟩ (w.drew.alloc (.cells (D7 s c) e)):=C4 w.drew e _;unfold D7 at T r1;rw[T];simp only[Result.andThen_ok,r1,Sem.run_pure]
    ·exact .slice id 0 s.length c _ _ hid W (λ_=>⟨by simp,λ_=>by simp⟩)
    ·refine Ff (e:=e) (fz:=(c,c+1)) (by rw[r2,S]) rfl (by simp[Ga,Eo F]) (by simp[S]) ?_ ?_ (λj hj=>by simp at hj;simp;omega)
     ·have:(D7 s c).toList.take (s.map λ(b:UInt8)=>AA.int .u8 b.toNat).length=s.map (λ(b:UInt8)=>Value.int .u8 b.toNat):=by
       simp[D7]
      rw[this];exact BT.map _ _ s λb _=>.int _ _
     ·simp[xk,AA.one]
   ·cases h
  ·cases h
 ·cases h
theorem HF{t:TypeId}{l c:AA}{l' c':Value}{n:Mc}(U:VR m l l')(hc:VR m c c')(h:Et P t l c=some n):
  ∃v' w' E,(Instr.makeSlice t l' c').run P w=.ok v' w'/\HX P m w w' E n v':=by
 unfold Et at h;split at h
 ·rename_i e kl a kc b hu;have:=U.BS;subst this;have:=hc.BS;subst this;split at h
  ·rename_i i J;split at h
   ·rename_i z D;split at h
    ·rename_i zc hzc;split at h
     ·rename_i hb;obtain⟨b1,b2,b3,b4,b5,b6⟩:=hb;injection h with h;subst h;cases G:i.zero with
      |none=>simp[G]at D
      | some zz=>
       simp only[G,qZ,qV]at D;subst D;have B:=(VR.NC m zz).cells hzc;have hzl:zc.length=zz.cells.size:=by rw[B.1];simp
       have F:BK P e=some i.size:=by simp[BK,J]
       have wl:IntKind.i64.wrap a=a:=by simp[IntKind.wrap,IntKind.signed,IntKind.bits];omega
       have wc:IntKind.i64.wrap b=b:=by simp[IntKind.wrap,IntKind.signed,IntKind.bits];omega
       have C:=Gs B b.toNat (b.toNat*i.size) (by rw[b5]);obtain⟨row,M⟩:∃row,row=((Array.range (b.toNat*i.size)).map λj=>zz.cells[j%zz.cells.size]!):=⟨_,rfl⟩;have Z:row.size=b.toNat*i.size:=by rw[M];simp
       rw[<-M]at C;refine⟨.slice (some ⟨w.heap.size,0,none⟩) a.toNat b.toNat,w.alloc (.cells row e),⟨w.heap.size,0,i.size,b.toNat*i.size⟩,?_,B9.alloc w _ _,rfl,by simp,λm' hm id hid=>⟨?_,?_⟩⟩
       ·have big1:¬(b<0):=by omega
        have big2:¬(((i.bytes:Int)*b)>2^48):=by omega
        have big3:¬(a<0):=by omega
        have big4:¬(a>b):=by omega
        have room:¬(b.toNat*i.bytes>roomBytes):=by
         have e1:((b.toNat*i.bytes:Nat):Int)=(i.bytes:Int)*b:=by
          rw[Int.natCast_mul,Int.toNat_of_nonneg (by omega),Int.mul_comm]
         simp only[roomBytes];omega
        have K:(zeroValue e).run P w=.ok zz w:=by simp[zeroValue,typeInfo,J,G]
        have hti:(typeInfo e).run P w=.ok i w:=by simp[typeInfo,J]
        have hcond:(((decide (b<0)||decide ((i.bytes:Int)*b>2^48))||decide (a<0)||decide (a>b))=true)=False:=by
         simp;omega
        simp only[Instr.makeSlice,Sem.run_bind,AI w hu,Result.andThen_ok,asInt,asIntOf,Sem.run_pure,hti,wl,wc,Sem.run_ite,hcond,if_false,askRoom,xg room,run_sizeOf w F];by_cases I:b.toNat*i.size=0
        ·have hr0:row=#[]:=by apply Array.eq_empty_of_size_eq_zero;rw[Z,I]
         simp[I,hr0,C4,Array.range_zero']
        ·simp only[xg I,K,Result.andThen_ok];rw[<-M];simp[C4]
       ·exact .slice id 0 a.toNat b.toNat _ _ hid (by omega) (λ_=>⟨by simp,λ_=>by simp⟩)
       ·exact Ff (e:=e) (fz:=(0,0)) (heap_alloc_new w _) rfl (by simp[Ga,Eo F]) (by simp[Z]) (by rw[Cw,b5,<-Z,xG (by simp)];exact C.mono hm) (IU b6 _) (by simp)
     ·cases h
    ·cases h
   ·cases h
  ·cases h
 ·cases h
theorem JC{fr:Fr}{a:Act}(V:FR m fr a){o:Oper}{n:Mc}(h:Ii P fr o.op=some n):∃v' w' E,(execOp a.eval o).run P w=.ok (.value v') w'/\HX P m w w' E n v':=by
 obtain⟨dst,op,ty,pos,aft,gd⟩:=o;simp only at h;have lift:∀{s:Sem Value},(∃v' w' E,s.run P w=.ok v' w'/\HX P m w w' E n v')->∃v' w' E,(do pure (.value (<-s)):Sem Next).run P w=.ok (.value v') w'/\HX P m w w' E n v':=by
  rintro s ⟨v',w',E,h1,O⟩;exact⟨v',w',E,by simp[h1],O⟩
 cases op with
 | alloc e=>
  simp only[Ii]at h;cases D:Ew P e with
  |none=>simp[D]at h
  |some z=>
   simp only[D,qW]at h;obtain⟨i,zz,J,G,Y⟩:=DU (m:=m) D;obtain⟨v',w',E,h1,O⟩:=GH (P:=P) (t:=e) w Y h;have K:(zeroValue e).run P w=.ok zz w:=by simp[zeroValue,typeInfo,J,G]
   exact lift ⟨_,w',E,by simp[Instr.alloc,K,h1],O⟩
 |box e x=>
  simp only[Ii]at h;obtain⟨v',w',E,h1,O⟩:=GH (P:=P) (t:=e) w (V.ev x) h;exact lift ⟨_,w',E,by simp[Instr.box,h1],O⟩
 | buildSlice t len parts=>
  simp only[Ii]at h;have hp:∀(j i i':Nat) (x:AA) (y:Value),(parts.toList.map λ(i,x)=>(i,ev fr x))[j]?=some (i,x)->(parts.map λ(i,x)=>(i,a.eval x)).toList[j]?=some (i',y)->i=i'/\VR m x y:=by
   intro j i i' x y H L;simp only[List.getElem?_map,xT]at H L;cases hj:parts.toList[j]? with
   |none=>simp[hj]at H
   |some p=>
    simp only[hj,qZ,qV,qY]at H L;obtain⟨rfl,rfl⟩:=H;obtain⟨rfl,rfl⟩:=L;exact⟨rfl,V.ev p.2⟩
  obtain⟨v',w',E,h1,O⟩:=Gu (P:=P) w (by simp) hp h;exact lift ⟨v',w',E,h1,O⟩
 |convert s d x=>
  simp only[Ii]at h;obtain⟨v',w',E,h1,O⟩:=KH (P:=P) w (V.ev x) h;exact lift ⟨v',w',E,h1,O⟩
 | makeMap t r=>
  cases r with
  |some r=>simp[Ii]at h
  |none=>
   simp only[Ii,qV]at h;subst h;refine lift ⟨.map (some w.heap.size),w.alloc (.map #[] 0),⟨w.heap.size,0,0,0⟩,by simp[Instr.makeMap],B9.alloc w _ _,rfl,by simp,λm' hm id hid=>⟨VR.map id _ hid,rfl,λ_=>⟨#[],0,heap_alloc_new w _,rfl,λi k v e h=>by simp at h⟩⟩⟩
 |makeSlice t l c=>
  simp only[Ii]at h;obtain⟨v',w',E,h1,O⟩:=HF (P:=P) w (V.ev l) (V.ev c) h;exact lift ⟨v',w',E,h1,O⟩
 | range t x=>
  simp only[Ii]at h;split at h
  ·rename_i s hu H;injection h with h;subst h;have Q:=V.ev x;rw[H]at Q;have Q:=Q.CF;refine lift ⟨.pointer (some ⟨w.heap.size,0,none⟩),w.alloc (.stringIter ⟨⟨s⟩⟩ 0),⟨w.heap.size,0,0,0⟩,by simp[Instr.range,AI w hu,Q],B9.alloc w _ _,rfl,by simp,λm' hm id hid=>⟨by simpa using VR.ptr (m:=m') id 0 _ hid,rfl,heap_alloc_new w _⟩⟩
  ·cases h
 |_=>simp[Ii]at h
end
end Go.Abs
