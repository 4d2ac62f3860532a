/-
 A part.
-/
import Derived.Test.YtlddjbgohnlihaaGreatDoorAvOpR
set_option linter.unusedSimpArgs false
namespace Go.Av
open Go.RowKit
section
variable {P:Program} {m:BD} (w:World)
theorem G0(e:TypeId)(cs:Array Value):(newRow e cs).run P w=.ok ⟨w.heap.size,0,none⟩ (w.alloc (.cells cs e)):=rfl
def Om(P:Program)(m:BD)(w w':World)(E:Mb)(x:Xc)(v':Value):Prop:=
 Ex w w' E.g∧E.g=w.heap.size∧E.g<w'.heap.size∧∀m':BD,m.le m'→∀id,m' id=some E→VR m' (x.1 id) v'∧K3 P m' w' E x.2
theorem Lg{m':BD}{gr:Option TypeId}{cs:List AB}{ds:Array Value}{e:TypeId}{E:Mb}{w':World}{fz:Nat×Nat}(hg:w'.heap[E.g]?=some (.cells ds e fz))(X:E.base=0)(D:E.V8=Ks P gr)(ht:E.total=ds.size)
  (J:CM m' cs (ds.toList.take cs.length)) (h1:cs.all AB.one=true) (H:Us E.total fz):K3 P m' w' E (.cells gr 2 cs):=by
 refine⟨⟨⟨D,fun h=>by cases h⟩,fun _ _=>X⟩,fun _=>⟨ds,e,fz,hg,ht.symm,fun j a ha=>⟨zn.1 h1 a (zQ ha),?_⟩,fun _=>H⟩⟩;obtain⟨y,M,hvy⟩:=J.at_ ha;rw[List.getElem?_take]at M;split at M
 ·exact⟨y,by rw[X,yq];simpa using M,hvy⟩
 ·cases M
theorem Me{t:TypeId}{x:AB}{x':Value}{n:Xc}(G:VR m x x')(h:O7 x=some n):
  ∃v' w' E,(newVar t x').run P w=.ok (v':Addr) w'∧Om P m w w' E n (.pointer (some v')):=by
 unfold O7 at h;split at h
 ·rename_i cs hcs;split at h
  ·rename_i h1;injection h with h;subst h;refine⟨⟨w.heap.size,0,none⟩,w.alloc (.cells x'.cells t),⟨w.heap.size,0,0,x'.cells.size⟩,by simp[newVar,G0],Ex.alloc w _ _,rfl,by simp,fun m' hm id hid=>⟨?_,?_⟩⟩
   ·simpa using VR.ptr (m:=m') id 0 _ hid
   ·have J:=(G.mono hm).cells hcs;have V:cs.length=x'.cells.size:=by rw[J.1];simp
    exact Lg (e:=t) (fz:=(0,0)) (heap_alloc_new w _) rfl rfl rfl (by rw[V,zI (by simp)];exact J) h1 (.inl rfl)
  ·cases h
 ·cases h
theorem QS(z:List AB):∀(n j:Nat),j<n*z.length→(Fa z n)[j]?=z[j%z.length]?
 |0,j,h=>by simp at h
 | n+1,j,h=>by
  unfold Fa;have D:0<z.length:=by
   rcases yv z.length with K|K
   ·rw[K]at h;simp at h
   ·exact K
  by_cases hj:j<z.length
  ·rw[List.getElem?_append_left hj,xj hj]
  ·have h':j<n*z.length+z.length:=by rw[yC,qC]at h;exact h
   rw[List.getElem?_append_right (by omega),QS z n (j - z.length) (by omega),←Nat.mod_eq_sub_mod (by omega)]
theorem Gk(z:List AB):∀n,(Fa z n).length=n*z.length
 |0=>by simp[Fa]
 |n+1=>by simp[Fa,Gk z n,yC];omega
theorem Nb{z:List AB}{z':Value}(D:CM m z z'.cells.toList)(n k:Nat)(hk:k=n*z.length):CM m (Fa z n) ((Array.range k).map fun i=>z'.cells[i%z'.cells.size]!).toList:=by
 subst hk;have V:z.length=z'.cells.size:=by rw[D.1];simp
 refine⟨by simp[Gk],fun i x y G M=>?_⟩;have hi:i<n*z.length:=by have:=(List.getElem?_eq_some_iff.1 G).1;rwa [Gk]at this
 rw[QS z n i hi]at G;have hzp:0<z.length:=by
  rcases yv z.length with K|K
  ·rw[K]at hi;simp at hi
  ·exact K
 have hm:i%z.length<z'.cells.size:=by rw[←V];exact qh _ hzp
 simp only[qO,Array.toList_range,List.getElem?_map,List.getElem?_range hi,zj,zd]at M;subst M;rw[←V,getElem!_pos z'.cells (i%z.length) hm];exact D.2 _ x _ G (by simp[hm])
theorem Pv{z:List AB}(h:z.all AB.one=true):∀n,(Fa z n).all AB.one=true
 |0=>by simp[Fa]
 |n+1=>by simp only[Fa,qi,h,Pv h n];rfl
theorem KZ{t:TypeId}{n:Nat}(h:CP P t=some n):P.cellsOf t=n:=by
 unfold CP at h;unfold Program.cellsOf;rw[h];rfl
theorem No{t:TypeId}{len:Nat}{parts:List (Nat×AB)}{parts':Array (Nat×Value)}{n:Xc}(V:parts.length=parts'.toList.length)
  (hp:∀(j i i':Nat) (x:AB) (y:Value),parts[j]?=some (i,x)→parts'.toList[j]?=some (i',y)→i=i'∧VR m x y) (h:LN P t len parts=some n):
  ∃v' w' E,(Instr.buildSlice t len parts').run P w=.ok v' w'∧Om P m w w' E n v':=by
 unfold LN at h;split at h
 ·rename_i e hu;split at h
  ·rename_i sz z F D;split at h
   ·rename_i X;obtain⟨hb1,hb2,hb3⟩:=X;split at h
    ·rename_i cs Q;split at h
     ·rename_i h1;injection h with h;subst h;cases Y:JE P e with
      |none=>simp[Y]at D
      | some zv=>
       simp only[Y,za]at D;obtain⟨i,zz,hi,I,Z⟩:=IF (m:=m) Y;have B:=Z.cells D;have hzl:z.length=zz.cells.size:=by rw[B.1];simp
       have C:=Nb B len (len*sz) (by rw[hb2]);obtain⟨ds',f1,f2⟩:=Jm (m:=m) (place:=fun i=>some (i*sz,sz)) parts parts'.toList _ _ cs V hp C Q;have hlen:cs.length=ds'.size:=by rw[f2.1];simp
       have L:(zeroValue e).run P w=.ok zz w:=by simp[zeroValue,typeInfo,hi,I]
       have hcl:∀(parts:List (Nat×AB)) (a b:List AB),Ku (fun i=>some (i*sz,sz)) a parts=some b→b.length=a.length:=by
        intro parts
        induction parts with
        |nil=>intro a b S;simp[Ku]at S;rw[S]
        | cons p ps ih=>
         intro a b S;obtain⟨i,x⟩:=p;unfold Ku at S;split at S
         ·rename_i off size new e1 e2;split at S
          ·rename_i X;rw[ih _ _ S];simp[Ev];omega
          ·cases S
         ·cases S
       have hds:ds'.size=len*sz:=by rw[←hlen,hcl _ _ _ Q,Gk,hb2]
       refine⟨.slice (some ⟨w.heap.size,0,none⟩) len len,w.alloc (.cells ds' e),⟨w.heap.size,0,sz,len*sz⟩,?_,Ex.alloc w _ _,rfl,by simp,fun m' hm id hid=>⟨?_,?_⟩⟩
       ·have hb1':¬(len*sz>2^24):=by omega
        by_cases K:len*sz=0
        ·have hlen0:len=0:=by
          rcases qV.1 K with h|h
          ·exact h
          ·omega
         subst hlen0;have f1':Instr.fill (fun i=>some (i*sz,sz)) #[] parts'.toList=some ds':=by simpa[Array.range_zero']using f1
         simp[Instr.buildSlice,Al w hu,run_sizeOf w F,G0,f1',Array.range_zero']
        ·simp only[Instr.buildSlice,Sem.run_bind,Al w hu,Result.andThen_ok,run_sizeOf w F,Sem.run_ite,zk hb1',Sem.run_pure,zk K,L];rw[f1];simp[G0]
       ·refine .slice id 0 len len _ _ hid (zC _) (fun _=>⟨by simp,fun _=>by simp⟩)
       ·exact Lg (e:=e) (fz:=(0,0)) (heap_alloc_new w _) rfl (by simp[Ks,KZ F]) (by simp[hds]) (by rw[yy,hlen,zI (by simp)];exact(f2.mono hm).FM) h1 (.inl rfl)
     ·cases h
    ·cases h
   ·cases h
  ·cases h
 ·cases h
theorem NX{w:World}{g:Nat}{cs:Array Value}{e:TypeId}(hg:w.heap[g]?=some (.cells cs e (0,0))):
  ∃w',(markStringish ⟨g,0,none⟩).run P w=.ok () w'∧w'.heap[g]?=some (.cells cs e (cs.size,cs.size+1))∧Ex w w' g∧w'.heap.size=w.heap.size:=by
 refine⟨w.freeze {block:=g,off:=cs.size} 1,?_,?_,?_,?_⟩
 ·simp[markStringish,shape,freeze,Sem.run,World.shape?,hg]
 ·simp[World.freeze,Array.getElem?_modify,hg]
 ·refine⟨rfl,rfl,rfl,by simp[World.freeze],fun k hk O=>?_⟩;simp[World.freeze,Array.getElem?_modify,Ne.symm O]
 ·simp[World.freeze]
theorem M5{w:World}{a:Addr}{g:Nat}{cs:Array Value}{e:TypeId}{fz:Nat×Nat}(ha:a.block=g)(hg:w.heap[g]?=some (.cells cs e fz))(H:Us cs.size fz):
  ∃w' fz',(markStringish a).run P w=.ok () w'∧w'.heap[g]?=some (.cells cs e fz')∧Us cs.size fz'∧Ex w w' g:=by
 subst ha;obtain⟨lo,hi⟩:=fz;refine⟨w.freeze {block:=a.block,off:=cs.size} 1,(if lo==hi then(cs.size,cs.size+1)else(min lo cs.size,max hi (cs.size+1))),?_,?_,?_,?_⟩
 ·simp[markStringish,shape,freeze,Sem.run,World.shape?,hg]
 ·simp[World.freeze,Array.getElem?_modify,hg]
 ·unfold Us at H⊢;split
  ·exact .inr (zC _)
  ·rename_i O;rcases H with H|H
   ·exact absurd (by simpa using H) O
   ·right;simp only;simp only at H;omega
 ·refine⟨rfl,rfl,rfl,by simp[World.freeze],fun k hk O=>?_⟩;simp[World.freeze,Array.getElem?_modify,Ne.symm O]
def Ij(s:List UInt8)(c:Nat):Array Value:=(s.map fun(b:UInt8)=>Value.int .u8 b.toNat).toArray++Array.replicate (c - s.length) (.int .u8 0)
theorem R3(s:List UInt8)(c:Nat)(h:s.length≤c):(Ij s c).size=c:=by simp[Ij];omega
theorem TK{src dst:TypeId}{x:AB}{x':Value}{n:Xc}(G:VR m x x')(h:XP P src dst x=some n):
  ∃v' w' E,(convert src dst x').run P w=.ok v' w'∧Om P m w w' E n v':=by
 unfold XP at h;split at h
 ·rename_i d e s hs hd;split at h
  ·rename_i he F;split at h
   ·rename_i hlen;injection h with h;subst h;have:=G.EZ;subst this;obtain⟨c,hc⟩:∃c,c=(Question.appendCap s.length 0 e).cut (w.tape w.drawn (.appendCap s.length 0 e)):=⟨_,rfl⟩;have W:s.length≤c:=by rw[hc];simp[Question.cut]
    have T:=R3 s c W;have hblk:(w.drew.alloc (.cells (Ij s c) e)).heap[w.heap.size]?=some (.cells (Ij s c) e (0,0)):=heap_alloc_new w.drew _;obtain⟨w',r1,r2,r3,r4⟩:=NX (P:=P) hblk;refine⟨.slice (some ⟨w.heap.size,0,none⟩) s.length c,w',⟨w.heap.size,0,1,c⟩,?_,(Ex.alloc_drew w _ _).trans r3,rfl,by rw[r4];show _<(w.heap.push _).size;simp,fun m' hm id hid=>⟨?_,?_⟩⟩
    ·have hch:(choose (.appendCap s.length 0 e)).run P w=.ok c w.drew:=by rw[hc];rfl
     have hmap:((⟨⟨s⟩⟩:ByteArray).data.map fun b=>Value.int .u8 b.toNat)=(s.map fun(b:UInt8)=>Value.int .u8 b.toNat).toArray:=by simp
     simp only[convert,Sem.run_bind,Al w hs,Al w hd,Al w he,Result.andThen_ok,Conv.stringToBytes];rw[show(⟨⟨s⟩⟩:ByteArray).size=s.length from rfl,hch,hmap];simp only[Result.andThen_ok];have U:(newRow e (Ij s c)).run P w.drew=.ok ⟨w.heap.size,0,none⟩ (w.drew.alloc (.cells (Ij s c) e)):=G0 w.drew e _;unfold Ij at U r1;rw[U];simp only[Result.andThen_ok,r1,Sem.run_pure]
    ·exact .slice id 0 s.length c _ _ hid W (fun _=>⟨by simp,fun _=>by simp⟩)
    ·refine Lg (e:=e) (fz:=(c,c+1)) (by rw[r2,T]) rfl (by simp[Ks,KZ F]) (by simp[T]) ?_ ?_ (.inr (zC _))
     ·have:(Ij s c).toList.take (s.map fun(b:UInt8)=>AB.int .u8 b.toNat).length=s.map (fun(b:UInt8)=>Value.int .u8 b.toNat):=by
       simp[Ij]
      rw[this];exact CM.map _ _ s fun b _=>.int _ _
     ·simp[zn,AB.one]
   ·cases h
  ·cases h
 ·cases h
theorem Nx{t:TypeId}{l c:AB}{l' c':Value}{n:Xc}(V:VR m l l')(hc:VR m c c')(h:Kp P t l c=some n):
  ∃v' w' E,(Instr.makeSlice t l' c').run P w=.ok v' w'∧Om P m w w' E n v':=by
 unfold Kp at h;split at h
 ·rename_i e kl a kc b hu;have:=V.B1;subst this;have:=hc.B1;subst this;split at h
  ·rename_i i hi;split at h
   ·rename_i z D;split at h
    ·rename_i zc R;simp only[zl]at R;obtain⟨zc0,R,hzc'⟩:=R;split at h
     ·rename_i X;obtain⟨b1,b2,b3,b4,b5,b6⟩:=X;injection h with h;subst h;cases I:i.zero with
      |none=>simp[I]at D
      | some zz=>
       simp only[I,zj,zd]at D;subst D;have B:=((VR.ZL m zz).cells R).FM;rw[hzc']at B;have hzl:zc.length=zz.cells.size:=by rw[B.1];simp
       have F:CP P e=some i.size:=by simp[CP,hi]
       have wl:IntKind.i64.wrap a=a:=by simp[IntKind.wrap,IntKind.signed,IntKind.bits];omega
       have wc:IntKind.i64.wrap b=b:=by simp[IntKind.wrap,IntKind.signed,IntKind.bits];omega
       have C:=Nb B b.toNat (b.toNat*i.size) (by rw[b5]);obtain⟨row,N⟩:∃row,row=((Array.range (b.toNat*i.size)).map fun j=>zz.cells[j%zz.cells.size]!):=⟨_,rfl⟩;have hrs:row.size=b.toNat*i.size:=by rw[N];simp
       rw[←N]at C;refine⟨.slice (some ⟨w.heap.size,0,none⟩) a.toNat b.toNat,w.alloc (.cells row e),⟨w.heap.size,0,i.size,b.toNat*i.size⟩,?_,Ex.alloc w _ _,rfl,by simp,fun m' hm id hid=>⟨?_,?_⟩⟩
       ·have big1:¬(b<0):=by omega
        have big2:¬(((i.bytes:Int)*b)>2^48):=by omega
        have big3:¬(a<0):=by omega
        have big4:¬(a>b):=by omega
        have room:¬(b.toNat*i.bytes>roomBytes):=by
         have e1:((b.toNat*i.bytes:Nat):Int)=(i.bytes:Int)*b:=by
          rw[Int.natCast_mul,y3 (by omega),Int.mul_comm]
         simp only[roomBytes];omega
        have L:(zeroValue e).run P w=.ok zz w:=by simp[zeroValue,typeInfo,hi,I]
        have hti:(typeInfo e).run P w=.ok i w:=by simp[typeInfo,hi]
        have hcond:(((decide (b<0)||decide ((i.bytes:Int)*b>2^48))||decide (a<0)||decide (a>b))=true)=False:=by
         simp;omega
        simp only[Instr.makeSlice,Sem.run_bind,Al w hu,Result.andThen_ok,asInt,asIntOf,Sem.run_pure,hti,wl,wc,Sem.run_ite,hcond,if_false,askRoom,zk room,run_sizeOf w F];by_cases K:b.toNat*i.size=0
        ·have hr0:row=#[]:=by apply qd;rw[hrs,K]
         simp[K,hr0,G0,Array.range_zero']
        ·simp only[zk K,L,Result.andThen_ok];rw[←N];simp[G0]
       ·exact .slice id 0 a.toNat b.toNat _ _ hid (by omega) (fun _=>⟨by simp,fun _=>by simp⟩)
       ·exact Lg (e:=e) (fz:=(0,0)) (heap_alloc_new w _) rfl (by simp[Ks,KZ F]) (by simp[hrs]) (by rw[Gk,b5,←hrs,zI (by simp)];exact C.mono hm) (Pv b6 _) (.inl rfl)
     ·cases h
    ·cases h
   ·cases h
  ·cases h
 ·cases h
theorem Qz{fr:Fr}{a:Act}(H:FR m fr a){o:Oper}{n:Xc}(h:Qg P fr o.op=some n):∃v' w' E,(execOp a.eval o).run P w=.ok (.value v') w'∧Om P m w w' E n v':=by
 obtain⟨dst,op,ty,pos,aft,gd⟩:=o;simp only at h;have lift:∀{s:Sem Value},(∃v' w' E,s.run P w=.ok v' w'∧Om P m w w' E n v')→∃v' w' E,(do pure (.value (←s)):Sem Next).run P w=.ok (.value v') w'∧Om P m w w' E n v':=by
  rintro s ⟨v',w',E,h1,h2⟩;exact⟨v',w',E,by simp[h1],h2⟩
 cases op with
 | alloc e=>
  simp only[Qg]at h;cases D:JE P e with
  |none=>simp[D]at h
  |some z=>
   simp only[D,za]at h;obtain⟨i,zz,hi,I,Z⟩:=IF (m:=m) D;obtain⟨v',w',E,h1,h2⟩:=Me (P:=P) (t:=e) w Z h;have L:(zeroValue e).run P w=.ok zz w:=by simp[zeroValue,typeInfo,hi,I]
   exact lift ⟨_,w',E,by simp[Instr.alloc,L,h1],h2⟩
 |box e x=>
  simp only[Qg]at h;obtain⟨v',w',E,h1,h2⟩:=Me (P:=P) (t:=e) w (H.ev x) h;exact lift ⟨_,w',E,by simp[Instr.box,h1],h2⟩
 | buildSlice t len parts=>
  simp only[Qg]at h;have hp:∀(j i i':Nat) (x:AB) (y:Value),(parts.toList.map fun(i,x)=>(i,ev fr x))[j]?=some (i,x)→(parts.map fun(i,x)=>(i,a.eval x)).toList[j]?=some (i',y)→i=i'∧VR m x y:=by
   intro j i i' x y G M;simp only[List.getElem?_map,qO]at G M;cases hj:parts.toList[j]? with
   |none=>simp[hj]at G
   |some p=>
    simp only[hj,zj,zd,zg]at G M;obtain⟨rfl,rfl⟩:=G;obtain⟨rfl,rfl⟩:=M;exact⟨rfl,H.ev p.2⟩
  obtain⟨v',w',E,h1,h2⟩:=No (P:=P) w (by simp) hp h;exact lift ⟨v',w',E,h1,h2⟩
 |convert s d x=>
  simp only[Qg]at h;obtain⟨v',w',E,h1,h2⟩:=TK (P:=P) w (H.ev x) h;exact lift ⟨v',w',E,h1,h2⟩
 | makeMap t r=>
  cases r with
  |some r=>simp[Qg]at h
  |none=>
   simp only[Qg,zd]at h;subst h;refine lift ⟨.map (some w.heap.size),w.alloc (.map #[] 0),⟨w.heap.size,0,0,0⟩,by simp[Instr.makeMap],Ex.alloc w _ _,rfl,by simp,fun m' hm id hid=>⟨VR.map id _ hid,rfl,fun _=>MQ.of ⟨#[],0,heap_alloc_new w _,rfl,fun i k v e h=>by simp at h,KR.nil⟩ (by decide)⟩⟩
 |makeSlice t l c=>
  simp only[Qg]at h;obtain⟨v',w',E,h1,h2⟩:=Nx (P:=P) w (H.ev l) (H.ev c) h;exact lift ⟨v',w',E,h1,h2⟩
 | makeChan t n=>
  simp only[Qg]at h;split at h
  ·rename_i dir e k n0 hu G;split at h
   ·rename_i i hi;split at h
    ·rename_i X;injection h with h;subst h;have J:=H.ev n;rw[G]at J;have J:=J.B1;have hn:n0=((n0.toNat:Nat):Int):=by omega
     refine lift ⟨.chan (some w.heap.size),w.alloc (.chan n0.toNat #[] false 0 0 false),⟨w.heap.size,0,0,0⟩,?_,Ex.alloc w _ _,rfl,by simp,fun m' hm id hid=>⟨VR.chan id _ hid,#[],0,0,heap_alloc_new w _,.nil _⟩⟩;have n1:¬(n0<0):=by omega
     have n2:¬(9223372036854775807<n0):=by omega
     have n3:¬(281474976710544<(i.bytes:Int)*n0):=by omega
     simp[Instr.makeChan,J,asInt,asIntOf,run_underlying hu,typeInfo,hi,n1,n2,n3,IntKind.max,IntKind.bits,IntKind.signed]
    ·cases h
   ·cases h
  ·cases h
 | range t x=>
  simp only[Qg]at h;split at h
  ·rename_i s hu G;injection h with h;subst h;have J:=H.ev x;rw[G]at J;have J:=J.EZ;refine lift ⟨.pointer (some ⟨w.heap.size,0,none⟩),w.alloc (.stringIter ⟨⟨s⟩⟩ 0),⟨w.heap.size,0,0,0⟩,by simp[Instr.range,Al w hu,J],Ex.alloc w _ _,rfl,by simp,fun m' hm id hid=>⟨by simpa using VR.ptr (m:=m') id 0 _ hid,rfl,heap_alloc_new w _⟩⟩
  ·cases h
 |_=>simp[Qg]at h
end
end Go.Av
