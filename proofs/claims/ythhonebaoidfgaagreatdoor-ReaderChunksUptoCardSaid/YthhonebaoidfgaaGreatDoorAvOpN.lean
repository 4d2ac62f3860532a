/-
 A part.
-/
import Derived.Test.YthhonebaoidfgaaGreatDoorAvOpR
set_option linter.unusedSimpArgs false
namespace Go.Av
open Go.RowKit
section
variable {P:Program} {m:Bk} (w:World)
theorem IP(e:TypeId)(cs:Array Value):(newRow e cs).run P w=.ok ⟨w.heap.size,0,none⟩ (w.alloc (.cells cs e)):=rfl
def Qt(P:Program)(m:Bk)(w w':World)(E:OR)(x:dE)(v':Value):Prop:=
 Fs w w' E.g/\E.g=w.heap.size/\E.g<w'.heap.size/\∀m':Bk,m.le m'->∀id,m' id=some E->VR m' (x.1 id) v'/\MW P m' w' E x.2
theorem Lp{m':Bk}{gr:Option TypeId}{cs:List AD}{ds:Array Value}{e:TypeId}{E:OR}{w':World}{fz:Nat×Nat}(hg:w'.heap[E.g]?=some (.cells ds e fz))(W:E.base=0)(D:E.Y7=K2 P gr)(ht:E.total=ds.size)
  (J:DD m' cs (ds.toList.take cs.length)) (h1:cs.all AD.one=true) (H:XX E.total fz):MW P m' w' E (.cells gr 2 cs):=by
 refine⟨⟨⟨D,λh=>by cases h⟩,λ_ _=>W⟩,λ_=>⟨ds,e,fz,hg,ht.symm,λj a ha=>⟨zr.1 h1 a (zN ha),?_⟩,λ_=>H⟩⟩;obtain⟨y,L,hvy⟩:=J.at_ ha;rw[List.getElem?_take]at L;split at L
 ·exact⟨y,by rw[W,yz];simpa using L,hvy⟩
 ·cases L
theorem Om{t:TypeId}{x:AD}{x':Value}{n:dE}(G:VR m x x')(h:RX x=some n):
  ∃v' w' E,(newVar t x').run P w=.ok (v':Addr) w'/\Qt P m w w' E n (.pointer (some v')):=by
 unfold RX at h;split at h
 ·rename_i cs hcs;split at h
  ·rename_i h1;injection h with h;subst h;refine⟨⟨w.heap.size,0,none⟩,w.alloc (.cells x'.cells t),⟨w.heap.size,0,0,x'.cells.size⟩,by simp[newVar,IP],Fs.alloc w _ _,rfl,by simp,λm' hm id hid=>⟨?_,?_⟩⟩
   ·simpa using VR.ptr (m:=m') id 0 _ hid
   ·have J:=(G.mono hm).cells hcs;have U:cs.length=x'.cells.size:=by rw[J.1];simp
    exact Lp (e:=t) (fz:=(0,0)) (heap_alloc_new w _) rfl rfl rfl (by rw[U,zB (by simp)];exact J) h1 (.inl rfl)
  ·cases h
 ·cases h
theorem Sp(z:List AD):∀(n j:Nat),j<n*z.length->(G2 z n)[j]?=z[j%z.length]?
 |0,j,h=>by simp at h
 | n+1,j,h=>by
  unfold G2;have D:0<z.length:=by
   rcases qa z.length with h0|h0
   ·rw[h0]at h;simp at h
   ·exact h0
  by_cases hj:j<z.length
  ·rw[List.getElem?_append_left hj,Nat.mod_eq_of_lt hj]
  ·have h':j<n*z.length+z.length:=by rw[yC,qy]at h;exact h
   rw[List.getElem?_append_right om,Sp z n (j - z.length) om,<-Nat.mod_eq_sub_mod om]
theorem Hz(z:List AD):∀n,(G2 z n).length=n*z.length
 |0=>by simp[G2]
 |n+1=>by simp[G2,Hz z n,yC];omega
theorem Px{z:List AD}{z':Value}(D:DD m z z'.cells.toList)(n k:Nat)(hk:k=n*z.length):DD m (G2 z n) ((Array.range k).map λi=>z'.cells[i%z'.cells.size]!).toList:=by
 subst hk;have U:z.length=z'.cells.size:=by rw[D.1];simp
 refine⟨by simp[Hz],λi x y G L=>?_⟩;have hi:i<n*z.length:=by have:=(List.getElem?_eq_some_iff.1 G).1;rwa [Hz]at this
 rw[Sp z n i hi]at G;have hzp:0<z.length:=by
  rcases qa z.length with h0|h0
  ·rw[h0]at hi;simp at hi
  ·exact h0
 have hm:i%z.length<z'.cells.size:=by rw[<-U];exact xx _ hzp
 simp only[qO,Array.toList_range,List.getElem?_map,List.getElem?_range hi,zh,zb]at L;subst L;rw[<-U,getElem!_pos z'.cells (i%z.length) hm];exact D.2 _ x _ G (by simp[hm])
theorem Rl{z:List AD}(h:z.all AD.one=true):∀n,(G2 z n).all AD.one=true
 |0=>by simp[G2]
 |n+1=>by simp only[G2,qe,h,Rl h n];rfl
theorem Kk{t:TypeId}{n:Nat}(h:DK P t=some n):P.cellsOf t=n:=by
 unfold DK at h;unfold Program.cellsOf;rw[h];rfl
theorem PI{t:TypeId}{len:Nat}{parts:List (Nat×AD)}{parts':Array (Nat×Value)}{n:dE}(U:parts.length=parts'.toList.length)
  (hp:∀(j i i':Nat) (x:AD) (y:Value),parts[j]?=some (i,x)->parts'.toList[j]?=some (i',y)->i=i'/\VR m x y) (h:NI P t len parts=some n):
  ∃v' w' E,(Instr.buildSlice t len parts').run P w=.ok v' w'/\Qt P m w w' E n v':=by
 unfold NI at h;split at h
 ·rename_i e hu;split at h
  ·rename_i sz z F D;split at h
   ·rename_i W;obtain⟨hb1,hb2,hb3⟩:=W;split at h
    ·rename_i cs O;split at h
     ·rename_i h1;injection h with h;subst h;cases X:Is P e with
      |none=>simp[X]at D
      | some zv=>
       simp only[X,za]at D;obtain⟨i,zz,hi,I,Y⟩:=Ie (m:=m) X;have B:=Y.cells D;have hzl:z.length=zz.cells.size:=by rw[B.1];simp
       have C:=Px B len (len*sz) (by rw[hb2]);obtain⟨ds',f1,f2⟩:=K3 (m:=m) (place:=λi=>some (i*sz,sz)) parts parts'.toList _ _ cs U hp C O;have hlen:cs.length=ds'.size:=by rw[f2.1];simp
       have K:(zeroValue e).run P w=.ok zz w:=by simp[zeroValue,typeInfo,hi,I]
       have hcl:∀(parts:List (Nat×AD)) (a b:List AD),Mi (λi=>some (i*sz,sz)) a parts=some b->b.length=a.length:=by
        intro parts
        induction parts with
        |nil=>intro a b R;simp[Mi]at R;rw[R]
        | cons p ps ih=>
         intro a b R;obtain⟨i,x⟩:=p;unfold Mi at R;split at R
         ·rename_i off size new e1 e2;split at R
          ·rename_i W;rw[ih _ _ R];simp[FY];omega
          ·cases R
         ·cases R
       have hds:ds'.size=len*sz:=by rw[<-hlen,hcl _ _ _ O,Hz,hb2]
       refine⟨.slice (some ⟨w.heap.size,0,none⟩) len len,w.alloc (.cells ds' e),⟨w.heap.size,0,sz,len*sz⟩,?_,Fs.alloc w _ _,rfl,by simp,λm' hm id hid=>⟨?_,?_⟩⟩
       ·have hb1':¬(len*sz>2^24):=by omega
        by_cases h0:len*sz=0
        ·have hlen0:len=0:=by
          rcases qX.1 h0 with h|h
          ·exact h
          ·omega
         subst hlen0;have f1':Instr.fill (λi=>some (i*sz,sz)) #[] parts'.toList=some ds':=by simpa[Array.range_zero']using f1
         simp[Instr.buildSlice,BE w hu,run_sizeOf w F,IP,f1',Array.range_zero']
        ·simp only[Instr.buildSlice,Sem.run_bind,BE w hu,Result.andThen_ok,run_sizeOf w F,Sem.run_ite,zj hb1',Sem.run_pure,zj h0,K];rw[f1];simp[IP]
       ·refine .slice id 0 len len _ _ hid (zw _) (λ_=>⟨by simp,λ_=>by simp⟩)
       ·exact Lp (e:=e) (fz:=(0,0)) (heap_alloc_new w _) rfl (by simp[K2,Kk F]) (by simp[hds]) (by rw[yo,hlen,zB (by simp)];exact(f2.mono hm).GV) h1 (.inl rfl)
     ·cases h
    ·cases h
   ·cases h
  ·cases h
 ·cases h
theorem Po{w:World}{g:Nat}{cs:Array Value}{e:TypeId}(hg:w.heap[g]?=some (.cells cs e (0,0))):
  ∃w',(markStringish ⟨g,0,none⟩).run P w=.ok () w'/\w'.heap[g]?=some (.cells cs e (cs.size,cs.size+1))/\Fs w w' g/\w'.heap.size=w.heap.size:=by
 refine⟨w.freeze {block:=g,off:=cs.size} 1,?_,?_,?_,?_⟩
 ·simp[markStringish,shape,freeze,Sem.run,World.shape?,hg]
 ·simp[World.freeze,Array.getElem?_modify,hg]
 ·refine⟨rfl,rfl,rfl,by simp[World.freeze],λk hk N=>?_⟩;simp[World.freeze,Array.getElem?_modify,Ne.symm N]
 ·simp[World.freeze]
theorem On{w:World}{a:Addr}{g:Nat}{cs:Array Value}{e:TypeId}{fz:Nat×Nat}(ha:a.block=g)(hg:w.heap[g]?=some (.cells cs e fz))(H:XX cs.size fz):
  ∃w' fz',(markStringish a).run P w=.ok () w'/\w'.heap[g]?=some (.cells cs e fz')/\XX cs.size fz'/\Fs w w' g:=by
 subst ha;obtain⟨lo,hi⟩:=fz;refine⟨w.freeze {block:=a.block,off:=cs.size} 1,(if lo==hi then(cs.size,cs.size+1)else(min lo cs.size,max hi (cs.size+1))),?_,?_,?_,?_⟩
 ·simp[markStringish,shape,freeze,Sem.run,World.shape?,hg]
 ·simp[World.freeze,Array.getElem?_modify,hg]
 ·unfold XX at H⊢;split
  ·exact .inr (zw _)
  ·rename_i N;rcases H with H|H
   ·exact absurd (by simpa using H) N
   ·right;simp only;simp only at H;omega
 ·refine⟨rfl,rfl,rfl,by simp[World.freeze],λk hk N=>?_⟩;simp[World.freeze,Array.getElem?_modify,Ne.symm N]
def KF(s:List UInt8)(c:Nat):Array Value:=(s.map λ(b:UInt8)=>Value.int .u8 b.toNat).toArray++Array.replicate (c - s.length) (.int .u8 0)
theorem VL(s:List UInt8)(c:Nat)(h:s.length<=c):(KF s c).size=c:=by simp[KF];omega
theorem Wc{src dst:TypeId}{x:AD}{x':Value}{n:dE}(G:VR m x x')(h:YP P src dst x=some n):
  ∃v' w' E,(convert src dst x').run P w=.ok v' w'/\Qt P m w w' E n v':=by
 unfold YP at h;split at h
 ·rename_i d e s hs hd;split at h
  ·rename_i he F;split at h
   ·rename_i hlen;injection h with h;subst h;have:=G.Em;subst this;obtain⟨c,hc⟩:∃c,c=(Question.appendCap s.length 0 e).cut (w.tape w.drawn (.appendCap s.length 0 e)):=⟨_,rfl⟩;have V:s.length<=c:=by rw[hc];simp[Question.cut]
    have S:=VL s c V;have hblk:(w.drew.alloc (.cells (KF s c) e)).heap[w.heap.size]?=some (.cells (KF s c) e (0,0)):=heap_alloc_new w.drew _;obtain⟨w',r1,r2,r3,r4⟩:=Po (P:=P) hblk;refine⟨.slice (some ⟨w.heap.size,0,none⟩) s.length c,w',⟨w.heap.size,0,1,c⟩,?_,(Fs.alloc_drew w _ _).trans r3,rfl,by rw[r4];show _<(w.heap.push _).size;simp,λm' hm id hid=>⟨?_,?_⟩⟩
    ·have hch:(choose (.appendCap s.length 0 e)).run P w=.ok c w.drew:=by rw[hc];rfl
     have hmap:((⟨⟨s⟩⟩:ByteArray).data.map λb=>Value.int .u8 b.toNat)=(s.map λ(b:UInt8)=>Value.int .u8 b.toNat).toArray:=by simp
     simp only[convert,Sem.run_bind,BE w hs,BE w hd,BE w he,Result.andThen_ok,Conv.stringToBytes];rw[show(⟨⟨s⟩⟩:ByteArray).size=s.length from rfl,hch,hmap];simp only[Result.andThen_ok];have T:(newRow e (KF s c)).run P w.drew=.ok ⟨w.heap.size,0,none⟩ (w.drew.alloc (.cells (KF s c) e)):=IP w.drew e _;unfold KF at T r1;rw[T];simp only[Result.andThen_ok,r1,Sem.run_pure]
    ·exact .slice id 0 s.length c _ _ hid V (λ_=>⟨by simp,λ_=>by simp⟩)
    ·refine Lp (e:=e) (fz:=(c,c+1)) (by rw[r2,S]) rfl (by simp[K2,Kk F]) (by simp[S]) ?_ ?_ (.inr (zw _))
     ·have:(KF s c).toList.take (s.map λ(b:UInt8)=>AD.int .u8 b.toNat).length=s.map (λ(b:UInt8)=>Value.int .u8 b.toNat):=by
       simp[KF]
      rw[this];exact DD.map _ _ s λb _=>.int _ _
     ·simp[zr,AD.one]
   ·cases h
  ·cases h
 ·cases h
theorem QG{t:TypeId}{l c:AD}{l' c':Value}{n:dE}(U:VR m l l')(hc:VR m c c')(h:Md P t l c=some n):
  ∃v' w' E,(Instr.makeSlice t l' c').run P w=.ok v' w'/\Qt P m w w' E n v':=by
 unfold Md at h;split at h
 ·rename_i e kl a kc b hu;have:=U.C9;subst this;have:=hc.C9;subst this;split at h
  ·rename_i i hi;split at h
   ·rename_i z D;split at h
    ·rename_i zc Q;simp only[zk]at Q;obtain⟨zc0,Q,hzc'⟩:=Q;split at h
     ·rename_i W;obtain⟨b1,b2,b3,b4,b5,b6⟩:=W;injection h with h;subst h;cases I:i.zero with
      |none=>simp[I]at D
      | some zz=>
       simp only[I,zh,zb]at D;subst D;have B:=((VR.dm m zz).cells Q).GV;rw[hzc']at B;have hzl:zc.length=zz.cells.size:=by rw[B.1];simp
       have F:DK P e=some i.size:=by simp[DK,hi]
       have wl:IntKind.i64.wrap a=a:=by simp[IntKind.wrap,IntKind.signed,IntKind.bits];omega
       have wc:IntKind.i64.wrap b=b:=by simp[IntKind.wrap,IntKind.signed,IntKind.bits];omega
       have C:=Px B b.toNat (b.toNat*i.size) (by rw[b5]);obtain⟨row,M⟩:∃row,row=((Array.range (b.toNat*i.size)).map λj=>zz.cells[j%zz.cells.size]!):=⟨_,rfl⟩;have Z:row.size=b.toNat*i.size:=by rw[M];simp
       rw[<-M]at C;refine⟨.slice (some ⟨w.heap.size,0,none⟩) a.toNat b.toNat,w.alloc (.cells row e),⟨w.heap.size,0,i.size,b.toNat*i.size⟩,?_,Fs.alloc w _ _,rfl,by simp,λm' hm id hid=>⟨?_,?_⟩⟩
       ·have big1:¬(b<0):=by omega
        have big2:¬(((i.bytes:Int)*b)>2^48):=by omega
        have big3:¬(a<0):=by omega
        have big4:¬(a>b):=by omega
        have room:¬(b.toNat*i.bytes>roomBytes):=by
         have e1:((b.toNat*i.bytes:Nat):Int)=(i.bytes:Int)*b:=by
          rw[Int.natCast_mul,yJ om,Int.mul_comm]
         simp only[roomBytes];omega
        have K:(zeroValue e).run P w=.ok zz w:=by simp[zeroValue,typeInfo,hi,I]
        have hti:(typeInfo e).run P w=.ok i w:=by simp[typeInfo,hi]
        have hcond:(((decide (b<0)||decide ((i.bytes:Int)*b>2^48))||decide (a<0)||decide (a>b))=true)=False:=by
         simp;omega
        simp only[Instr.makeSlice,Sem.run_bind,BE w hu,Result.andThen_ok,asInt,asIntOf,Sem.run_pure,hti,wl,wc,Sem.run_ite,hcond,if_false,askRoom,zj room,run_sizeOf w F];by_cases h0:b.toNat*i.size=0
        ·have hr0:row=#[]:=by apply yA;rw[Z,h0]
         simp[h0,hr0,IP,Array.range_zero']
        ·simp only[zj h0,K,Result.andThen_ok];rw[<-M];simp[IP]
       ·exact .slice id 0 a.toNat b.toNat _ _ hid om (λ_=>⟨by simp,λ_=>by simp⟩)
       ·exact Lp (e:=e) (fz:=(0,0)) (heap_alloc_new w _) rfl (by simp[K2,Kk F]) (by simp[Z]) (by rw[Hz,b5,<-Z,zB (by simp)];exact C.mono hm) (Rl b6 _) (.inl rfl)
     ·cases h
    ·cases h
   ·cases h
  ·cases h
 ·cases h
theorem UI{fr:Fr}{a:Act}(H:FR m fr a){o:Oper}{n:dE}(h:TH P fr o.op=some n):∃v' w' E,(execOp a.eval o).run P w=.ok (.value v') w'/\Qt P m w w' E n v':=by
 obtain⟨dst,op,ty,pos,aft,gd⟩:=o;simp only at h;have lift:∀{s:Sem Value},(∃v' w' E,s.run P w=.ok v' w'/\Qt P m w w' E n v')->∃v' w' E,(do pure (.value (<-s)):Sem Next).run P w=.ok (.value v') w'/\Qt P m w w' E n v':=by
  rintro s ⟨v',w',E,h1,h2⟩;exact⟨v',w',E,by simp[h1],h2⟩
 cases op with
 | alloc e=>
  simp only[TH]at h;cases D:Is P e with
  |none=>simp[D]at h
  |some z=>
   simp only[D,za]at h;obtain⟨i,zz,hi,I,Y⟩:=Ie (m:=m) D;obtain⟨v',w',E,h1,h2⟩:=Om (P:=P) (t:=e) w Y h;have K:(zeroValue e).run P w=.ok zz w:=by simp[zeroValue,typeInfo,hi,I]
   exact lift ⟨_,w',E,by simp[Instr.alloc,K,h1],h2⟩
 |box e x=>
  simp only[TH]at h;obtain⟨v',w',E,h1,h2⟩:=Om (P:=P) (t:=e) w (H.ev x) h;exact lift ⟨_,w',E,by simp[Instr.box,h1],h2⟩
 | buildSlice t len parts=>
  simp only[TH]at h;have hp:∀(j i i':Nat) (x:AD) (y:Value),(parts.toList.map λ(i,x)=>(i,ev fr x))[j]?=some (i,x)->(parts.map λ(i,x)=>(i,a.eval x)).toList[j]?=some (i',y)->i=i'/\VR m x y:=by
   intro j i i' x y G L;simp only[List.getElem?_map,qO]at G L;cases hj:parts.toList[j]? with
   |none=>simp[hj]at G
   |some p=>
    simp only[hj,zh,zb,ze]at G L;obtain⟨rfl,rfl⟩:=G;obtain⟨rfl,rfl⟩:=L;exact⟨rfl,H.ev p.2⟩
  obtain⟨v',w',E,h1,h2⟩:=PI (P:=P) w (by simp) hp h;exact lift ⟨v',w',E,h1,h2⟩
 |convert s d x=>
  simp only[TH]at h;obtain⟨v',w',E,h1,h2⟩:=Wc (P:=P) w (H.ev x) h;exact lift ⟨v',w',E,h1,h2⟩
 | makeMap t r=>
  cases r with
  |some r=>simp[TH]at h
  |none=>
   simp only[TH,zb]at h;subst h;refine lift ⟨.map (some w.heap.size),w.alloc (.map #[] 0),⟨w.heap.size,0,0,0⟩,by simp[Instr.makeMap],Fs.alloc w _ _,rfl,by simp,λm' hm id hid=>⟨VR.map id _ hid,rfl,λ_=>M4.of ⟨#[],0,heap_alloc_new w _,rfl,λi k v e h=>by simp at h,Kp.nil⟩ (by decide)⟩⟩
 |makeSlice t l c=>
  simp only[TH]at h;obtain⟨v',w',E,h1,h2⟩:=QG (P:=P) w (H.ev l) (H.ev c) h;exact lift ⟨v',w',E,h1,h2⟩
 | makeChan t n=>
  simp only[TH]at h;split at h
  ·rename_i dir e k n0 hu G;split at h
   ·rename_i i hi;split at h
    ·rename_i W;injection h with h;subst h;have J:=H.ev n;rw[G]at J;have J:=J.C9;have hn:n0=((n0.toNat:Nat):Int):=by omega
     refine lift ⟨.chan (some w.heap.size),w.alloc (.chan n0.toNat #[] false 0 0 false),⟨w.heap.size,0,0,0⟩,?_,Fs.alloc w _ _,rfl,by simp,λm' hm id hid=>⟨VR.chan id _ hid,#[],0,0,heap_alloc_new w _,.nil _⟩⟩;have n1:¬(n0<0):=by omega
     have n2:¬(9223372036854775807<n0):=by omega
     have n3:¬(281474976710544<(i.bytes:Int)*n0):=by omega
     simp[Instr.makeChan,J,asInt,asIntOf,run_underlying hu,typeInfo,hi,n1,n2,n3,IntKind.max,IntKind.bits,IntKind.signed]
    ·cases h
   ·cases h
  ·cases h
 | range t x=>
  simp only[TH]at h;split at h
  ·rename_i s hu G;injection h with h;subst h;have J:=H.ev x;rw[G]at J;have J:=J.Em;refine lift ⟨.pointer (some ⟨w.heap.size,0,none⟩),w.alloc (.stringIter ⟨⟨s⟩⟩ 0),⟨w.heap.size,0,0,0⟩,by simp[Instr.range,BE w hu,J],Fs.alloc w _ _,rfl,by simp,λm' hm id hid=>⟨by simpa using VR.ptr (m:=m') id 0 _ hid,rfl,heap_alloc_new w _⟩⟩
  ·cases h
 |_=>simp[TH]at h
end
end Go.Av
