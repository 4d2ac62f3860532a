/-
 A part.
-/
import Derived.Test.YtgkbpgefomapgaaGreatDoorAvOpR
set_option linter.unusedSimpArgs false
namespace Go.Av
open Go.RowKit
section
variable {P:Program} {m:CU} (w:World)
theorem IE(e:TypeId)(cs:Array Value):(newRow e cs).run P w=.ok ⟨w.heap.size,0,none⟩ (w.alloc (.cells cs e)):=rfl
def Pk(P:Program)(m:CU)(w w':World)(E:NQ)(x:XU)(v':Value):Prop:=
 GS w w' E.g/\E.g=w.heap.size/\E.g<w'.heap.size/\∀m':CU,m.le m'->∀id,m' id=some E->VR m' (x.1 id) v'/\Oe P m' w' E x.2
theorem K3{m':CU}{gr:Option TypeId}{cs:List AE}{ds:Array Value}{e:TypeId}{E:NQ}{w':World}{fz:Nat×Nat}(hg:w'.heap[E.g]?=some (.cells ds e fz))(X:E.base=0)(D:E.VX=MP P gr)(ht:E.total=ds.size)
  (J:Dt m' cs (ds.toList.take cs.length)) (h1:cs.all AE.one=true) (H:Ua E.total fz):Oe P m' w' E (.cells gr 2 cs):=by
 refine⟨⟨⟨D,λh=>by cases h⟩,λ_ _=>X⟩,λ_=>⟨ds,e,fz,hg,ht.symm,λj a ha=>⟨zF.1 h1 a (zI ha),?_⟩,λ_=>H⟩⟩;obtain⟨y,L,hvy⟩:=J.at_ ha;rw[List.getElem?_take]at L;split at L
 ·exact⟨y,by rw[X,qx];simpa using L,hvy⟩
 ·cases L
theorem NO{t:TypeId}{x:AE}{x':Value}{n:XU}(G:VR m x x')(h:P1 x=some n):
  ∃v' w' E,(newVar t x').run P w=.ok (v':Addr) w'/\Pk P m w w' E n (.pointer (some v')):=by
 unfold P1 at h;split at h
 ·rename_i cs hcs;split at h
  ·rename_i h1;injection h with h;subst h;refine⟨⟨w.heap.size,0,none⟩,w.alloc (.cells x'.cells t),⟨w.heap.size,0,0,x'.cells.size⟩,by simp[newVar,IE],GS.alloc w _ _,rfl,by simp,λm' hm id hid=>⟨?_,?_⟩⟩
   ·simpa using VR.ptr (m:=m') id 0 _ hid
   ·have J:=(G.mono hm).cells hcs;have V:cs.length=x'.cells.size:=by rw[J.1];simp
    exact K3 (e:=t) (fz:=(0,0)) (heap_alloc_new w _) rfl rfl rfl (by rw[V,zU (by simp)];exact J) h1 (.inl rfl)
  ·cases h
 ·cases h
theorem QT(z:List AE):∀(n j:Nat),j<n*z.length->(G2 z n)[j]?=z[j%z.length]?
 |0,j,h=>by simp at h
 | n+1,j,h=>by
  unfold G2;have D:0<z.length:=by
   rcases yK z.length with h0|h0
   ·rw[h0]at h;simp at h
   ·exact h0
  by_cases hj:j<z.length
  ·rw[List.getElem?_append_left hj,Nat.mod_eq_of_lt hj]
  ·have h':j<n*z.length+z.length:=by rw[yh,qB]at h;exact h
   rw[List.getElem?_append_right (by omega),QT z n (j - z.length) (by omega),<-Nat.mod_eq_sub_mod (by omega)]
theorem H4(z:List AE):∀n,(G2 z n).length=n*z.length
 |0=>by simp[G2]
 |n+1=>by simp[G2,H4 z n,yh];omega
theorem Oc{z:List AE}{z':Value}(D:Dt m z z'.cells.toList)(n k:Nat)(hk:k=n*z.length):Dt m (G2 z n) ((Array.range k).map λi=>z'.cells[i%z'.cells.size]!).toList:=by
 subst hk;have V:z.length=z'.cells.size:=by rw[D.1];simp
 refine⟨by simp[H4],λi x y G L=>?_⟩;have hi:i<n*z.length:=by have:=(List.getElem?_eq_some_iff.1 G).1;rwa [H4]at this
 rw[QT z n i hi]at G;have hzp:0<z.length:=by
  rcases yK z.length with h0|h0
  ·rw[h0]at hi;simp at hi
  ·exact h0
 have hm:i%z.length<z'.cells.size:=by rw[<-V];exact Nat.mod_lt _ hzp
 simp only[qd,Array.toList_range,List.getElem?_map,List.getElem?_range hi,zf,zd]at L;subst L;rw[<-V,getElem!_pos z'.cells (i%z.length) hm];exact D.2 _ x _ G (by simp[hm])
theorem Ql{z:List AE}(h:z.all AE.one=true):∀n,(G2 z n).all AE.one=true
 |0=>by simp[G2]
 |n+1=>by simp only[G2,qG,h,Ql h n];rfl
theorem KS{t:TypeId}{n:Nat}(h:Dn P t=some n):P.cellsOf t=n:=by
 unfold Dn at h;unfold Program.cellsOf;rw[h];rfl
theorem Oi{t:TypeId}{len:Nat}{parts:List (Nat×AE)}{parts':Array (Nat×Value)}{n:XU}(V:parts.length=parts'.toList.length)
  (hp:∀(j i i':Nat) (x:AE) (y:Value),parts[j]?=some (i,x)->parts'.toList[j]?=some (i',y)->i=i'/\VR m x y) (h:Ml P t len parts=some n):
  ∃v' w' E,(Instr.buildSlice t len parts').run P w=.ok v' w'/\Pk P m w w' E n v':=by
 unfold Ml at h;split at h
 ·rename_i e hu;split at h
  ·rename_i sz z F D;split at h
   ·rename_i X;obtain⟨hb1,hb2,hb3⟩:=X;split at h
    ·rename_i cs O;split at h
     ·rename_i h1;injection h with h;subst h;cases Y:I2 P e with
      |none=>simp[Y]at D
      | some zv=>
       simp only[Y,za]at D;obtain⟨i,zz,hi,I,Z⟩:=JS (m:=m) Y;have B:=Z.cells D;have hzl:z.length=zz.cells.size:=by rw[B.1];simp
       have C:=Oc B len (len*sz) (by rw[hb2]);obtain⟨ds',f1,f2⟩:=Kd (m:=m) (place:=λi=>some (i*sz,sz)) parts parts'.toList _ _ cs V hp C O;have hlen:cs.length=ds'.size:=by rw[f2.1];simp
       have K:(zeroValue e).run P w=.ok zz w:=by simp[zeroValue,typeInfo,hi,I]
       have hcl:∀(parts:List (Nat×AE)) (a b:List AE),L6 (λi=>some (i*sz,sz)) a parts=some b->b.length=a.length:=by
        intro parts
        induction parts with
        |nil=>intro a b S;simp[L6]at S;rw[S]
        | cons p ps ih=>
         intro a b S;obtain⟨i,x⟩:=p;unfold L6 at S;split at S
         ·rename_i off size new e1 e2;split at S
          ·rename_i X;rw[ih _ _ S];simp[Fz];omega
          ·cases S
         ·cases S
       have hds:ds'.size=len*sz:=by rw[<-hlen,hcl _ _ _ O,H4,hb2]
       refine⟨.slice (some ⟨w.heap.size,0,none⟩) len len,w.alloc (.cells ds' e),⟨w.heap.size,0,sz,len*sz⟩,?_,GS.alloc w _ _,rfl,by simp,λm' hm id hid=>⟨?_,?_⟩⟩
       ·have hb1':¬(len*sz>2^24):=by omega
        by_cases h0:len*sz=0
        ·have hlen0:len=0:=by
          rcases yj.1 h0 with h|h
          ·exact h
          ·omega
         subst hlen0;have f1':Instr.fill (λi=>some (i*sz,sz)) #[] parts'.toList=some ds':=by simpa[Array.range_zero']using f1
         simp[Instr.buildSlice,BJ w hu,run_sizeOf w F,IE,f1',Array.range_zero']
        ·simp only[Instr.buildSlice,Sem.run_bind,BJ w hu,Result.andThen_ok,run_sizeOf w F,Sem.run_ite,zm hb1',Sem.run_pure,zm h0,K];rw[f1];simp[IE]
       ·refine .slice id 0 len len _ _ hid (zo _) (λ_=>⟨by simp,λ_=>by simp⟩)
       ·exact K3 (e:=e) (fz:=(0,0)) (heap_alloc_new w _) rfl (by simp[MP,KS F]) (by simp[hds]) (by rw[yq,hlen,zU (by simp)];exact(f2.mono hm).II) h1 (.inl rfl)
     ·cases h
    ·cases h
   ·cases h
  ·cases h
 ·cases h
theorem Nz{w:World}{g:Nat}{cs:Array Value}{e:TypeId}(hg:w.heap[g]?=some (.cells cs e (0,0))):
  ∃w',(markStringish ⟨g,0,none⟩).run P w=.ok () w'/\w'.heap[g]?=some (.cells cs e (cs.size,cs.size+1))/\GS w w' g/\w'.heap.size=w.heap.size:=by
 refine⟨w.freeze {block:=g,off:=cs.size} 1,?_,?_,?_,?_⟩
 ·simp[markStringish,shape,freeze,Sem.run,World.shape?,hg]
 ·simp[World.freeze,Array.getElem?_modify,hg]
 ·refine⟨rfl,rfl,rfl,by simp[World.freeze],λk hk N=>?_⟩;simp[World.freeze,Array.getElem?_modify,Ne.symm N]
 ·simp[World.freeze]
theorem Nh{w:World}{a:Addr}{g:Nat}{cs:Array Value}{e:TypeId}{fz:Nat×Nat}(ha:a.block=g)(hg:w.heap[g]?=some (.cells cs e fz))(H:Ua cs.size fz):
  ∃w' fz',(markStringish a).run P w=.ok () w'/\w'.heap[g]?=some (.cells cs e fz')/\Ua cs.size fz'/\GS w w' g:=by
 subst ha;obtain⟨lo,hi⟩:=fz;refine⟨w.freeze {block:=a.block,off:=cs.size} 1,(if lo==hi then(cs.size,cs.size+1)else(min lo cs.size,max hi (cs.size+1))),?_,?_,?_,?_⟩
 ·simp[markStringish,shape,freeze,Sem.run,World.shape?,hg]
 ·simp[World.freeze,Array.getElem?_modify,hg]
 ·unfold Ua at H⊢;split
  ·exact .inr (zo _)
  ·rename_i N;rcases H with H|H
   ·exact absurd (by simpa using H) N
   ·right;simp only;simp only at H;omega
 ·refine⟨rfl,rfl,rfl,by simp[World.freeze],λk hk N=>?_⟩;simp[World.freeze,Array.getElem?_modify,Ne.symm N]
def Jt(s:List UInt8)(c:Nat):Array Value:=(s.map λ(b:UInt8)=>Value.int .u8 b.toNat).toArray++Array.replicate (c - s.length) (.int .u8 0)
theorem Sx(s:List UInt8)(c:Nat)(h:s.length<=c):(Jt s c).size=c:=by simp[Jt];omega
theorem TI{src dst:TypeId}{x:AE}{x':Value}{n:XU}(G:VR m x x')(h:Vx P src dst x=some n):
  ∃v' w' E,(convert src dst x').run P w=.ok v' w'/\Pk P m w w' E n v':=by
 unfold Vx at h;split at h
 ·rename_i d e s hs hd;split at h
  ·rename_i he F;split at h
   ·rename_i hlen;injection h with h;subst h;have:=G.Ff;subst this;obtain⟨c,hc⟩:∃c,c=(Question.appendCap s.length 0 e).cut (w.tape w.drawn (.appendCap s.length 0 e)):=⟨_,rfl⟩;have W:s.length<=c:=by rw[hc];simp[Question.cut]
    have T:=Sx s c W;have hblk:(w.drew.alloc (.cells (Jt s c) e)).heap[w.heap.size]?=some (.cells (Jt s c) e (0,0)):=heap_alloc_new w.drew _;obtain⟨w',r1,r2,r3,r4⟩:=Nz (P:=P) hblk;refine⟨.slice (some ⟨w.heap.size,0,none⟩) s.length c,w',⟨w.heap.size,0,1,c⟩,?_,(GS.alloc_drew w _ _).trans r3,rfl,by rw[r4];show _<(w.heap.push _).size;simp,λm' hm id hid=>⟨?_,?_⟩⟩
    ·have hch:(choose (.appendCap s.length 0 e)).run P w=.ok c w.drew:=by rw[hc];rfl
     have hmap:((⟨⟨s⟩⟩:ByteArray).data.map λb=>Value.int .u8 b.toNat)=(s.map λ(b:UInt8)=>Value.int .u8 b.toNat).toArray:=by simp
     simp only[convert,Sem.run_bind,BJ w hs,BJ w hd,BJ w he,Result.andThen_ok,Conv.stringToBytes];rw[show(⟨⟨s⟩⟩:ByteArray).size=s.length from rfl,hch,hmap];simp only[Result.andThen_ok];have U:(newRow e (Jt s c)).run P w.drew=.ok ⟨w.heap.size,0,none⟩ (w.drew.alloc (.cells (Jt s c) e)):=IE w.drew e _;unfold Jt at U r1;rw[U];simp only[Result.andThen_ok,r1,Sem.run_pure]
    ·exact .slice id 0 s.length c _ _ hid W (λ_=>⟨by simp,λ_=>by simp⟩)
    ·refine K3 (e:=e) (fz:=(c,c+1)) (by rw[r2,T]) rfl (by simp[MP,KS F]) (by simp[T]) ?_ ?_ (.inr (zo _))
     ·have:(Jt s c).toList.take (s.map λ(b:UInt8)=>AE.int .u8 b.toNat).length=s.map (λ(b:UInt8)=>Value.int .u8 b.toNat):=by
       simp[Jt]
      rw[this];exact Dt.map _ _ s λb _=>.int _ _
     ·simp[zF,AE.one]
   ·cases h
  ·cases h
 ·cases h
theorem PI{t:TypeId}{l c:AE}{l' c':Value}{n:XU}(V:VR m l l')(hc:VR m c c')(h:Lx P t l c=some n):
  ∃v' w' E,(Instr.makeSlice t l' c').run P w=.ok v' w'/\Pk P m w w' E n v':=by
 unfold Lx at h;split at h
 ·rename_i e kl a kc b hu;have:=V.EN;subst this;have:=hc.EN;subst this;split at h
  ·rename_i i hi;split at h
   ·rename_i z D;split at h
    ·rename_i zc R;simp only[zg]at R;obtain⟨zc0,R,hzc'⟩:=R;split at h
     ·rename_i X;obtain⟨b1,b2,b3,b4,b5,b6⟩:=X;injection h with h;subst h;cases I:i.zero with
      |none=>simp[I]at D
      | some zz=>
       simp only[I,zf,zd]at D;subst D;have B:=((VR.YC m zz).cells R).II;rw[hzc']at B;have hzl:zc.length=zz.cells.size:=by rw[B.1];simp
       have F:Dn P e=some i.size:=by simp[Dn,hi]
       have wl:IntKind.i64.wrap a=a:=by simp[IntKind.wrap,IntKind.signed,IntKind.bits];omega
       have wc:IntKind.i64.wrap b=b:=by simp[IntKind.wrap,IntKind.signed,IntKind.bits];omega
       have C:=Oc B b.toNat (b.toNat*i.size) (by rw[b5]);obtain⟨row,M⟩:∃row,row=((Array.range (b.toNat*i.size)).map λj=>zz.cells[j%zz.cells.size]!):=⟨_,rfl⟩;have hrs:row.size=b.toNat*i.size:=by rw[M];simp
       rw[<-M]at C;refine⟨.slice (some ⟨w.heap.size,0,none⟩) a.toNat b.toNat,w.alloc (.cells row e),⟨w.heap.size,0,i.size,b.toNat*i.size⟩,?_,GS.alloc w _ _,rfl,by simp,λm' hm id hid=>⟨?_,?_⟩⟩
       ·have big1:¬(b<0):=by omega
        have big2:¬(((i.bytes:Int)*b)>2^48):=by omega
        have big3:¬(a<0):=by omega
        have big4:¬(a>b):=by omega
        have room:¬(b.toNat*i.bytes>roomBytes):=by
         have e1:((b.toNat*i.bytes:Nat):Int)=(i.bytes:Int)*b:=by
          rw[Int.natCast_mul,Int.toNat_of_nonneg (by omega),Int.mul_comm]
         simp only[roomBytes];omega
        have K:(zeroValue e).run P w=.ok zz w:=by simp[zeroValue,typeInfo,hi,I]
        have hti:(typeInfo e).run P w=.ok i w:=by simp[typeInfo,hi]
        have hcond:(((decide (b<0)||decide ((i.bytes:Int)*b>2^48))||decide (a<0)||decide (a>b))=true)=False:=by
         simp;omega
        simp only[Instr.makeSlice,Sem.run_bind,BJ w hu,Result.andThen_ok,asInt,asIntOf,Sem.run_pure,hti,wl,wc,Sem.run_ite,hcond,if_false,askRoom,zm room,run_sizeOf w F];by_cases h0:b.toNat*i.size=0
        ·have hr0:row=#[]:=by apply Array.eq_empty_of_size_eq_zero;rw[hrs,h0]
         simp[h0,hr0,IE,Array.range_zero']
        ·simp only[zm h0,K,Result.andThen_ok];rw[<-M];simp[IE]
       ·exact .slice id 0 a.toNat b.toNat _ _ hid (by omega) (λ_=>⟨by simp,λ_=>by simp⟩)
       ·exact K3 (e:=e) (fz:=(0,0)) (heap_alloc_new w _) rfl (by simp[MP,KS F]) (by simp[hrs]) (by rw[H4,b5,<-hrs,zU (by simp)];exact C.mono hm) (Ql b6 _) (.inl rfl)
     ·cases h
    ·cases h
   ·cases h
  ·cases h
 ·cases h
theorem R1{fr:Fr}{a:Act}(H:FR m fr a){o:Oper}{n:XU}(h:RC P fr o.op=some n):∃v' w' E,(execOp a.eval o).run P w=.ok (.value v') w'/\Pk P m w w' E n v':=by
 obtain⟨dst,op,ty,pos,P4,gd⟩:=o;simp only at h;have lift:∀{s:Sem Value},(∃v' w' E,s.run P w=.ok v' w'/\Pk P m w w' E n v')->∃v' w' E,(do pure (.value (<-s)):Sem Next).run P w=.ok (.value v') w'/\Pk P m w w' E n v':=by
  rintro s ⟨v',w',E,h1,Q⟩;exact⟨v',w',E,by simp[h1],Q⟩
 cases op with
 | alloc e=>
  simp only[RC]at h;cases D:I2 P e with
  |none=>simp[D]at h
  |some z=>
   simp only[D,za]at h;obtain⟨i,zz,hi,I,Z⟩:=JS (m:=m) D;obtain⟨v',w',E,h1,Q⟩:=NO (P:=P) (t:=e) w Z h;have K:(zeroValue e).run P w=.ok zz w:=by simp[zeroValue,typeInfo,hi,I]
   exact lift ⟨_,w',E,by simp[Instr.alloc,K,h1],Q⟩
 |box e x=>
  simp only[RC]at h;obtain⟨v',w',E,h1,Q⟩:=NO (P:=P) (t:=e) w (H.ev x) h;exact lift ⟨_,w',E,by simp[Instr.box,h1],Q⟩
 | buildSlice t len parts=>
  simp only[RC]at h;have hp:∀(j i i':Nat) (x:AE) (y:Value),(parts.toList.map λ(i,x)=>(i,ev fr x))[j]?=some (i,x)->(parts.map λ(i,x)=>(i,a.eval x)).toList[j]?=some (i',y)->i=i'/\VR m x y:=by
   intro j i i' x y G L;simp only[List.getElem?_map,qd]at G L;cases hj:parts.toList[j]? with
   |none=>simp[hj]at G
   |some p=>
    simp only[hj,zf,zd,ze]at G L;obtain⟨rfl,rfl⟩:=G;obtain⟨rfl,rfl⟩:=L;exact⟨rfl,H.ev p.2⟩
  obtain⟨v',w',E,h1,Q⟩:=Oi (P:=P) w (by simp) hp h;exact lift ⟨v',w',E,h1,Q⟩
 |convert s d x=>
  simp only[RC]at h;obtain⟨v',w',E,h1,Q⟩:=TI (P:=P) w (H.ev x) h;exact lift ⟨v',w',E,h1,Q⟩
 | makeMap t r=>
  cases r with
  |some r=>simp[RC]at h
  |none=>
   simp only[RC,zd]at h;subst h;refine lift ⟨.map (some w.heap.size),w.alloc (.map #[] 0),⟨w.heap.size,0,0,0⟩,by simp[Instr.makeMap],GS.alloc w _ _,rfl,by simp,λm' hm id hid=>⟨VR.map id _ hid,rfl,λ_=>OY.of ⟨#[],0,heap_alloc_new w _,rfl,λi k v e h=>by simp at h,LW.nil⟩ (by decide)⟩⟩
 |makeSlice t l c=>
  simp only[RC]at h;obtain⟨v',w',E,h1,Q⟩:=PI (P:=P) w (H.ev l) (H.ev c) h;exact lift ⟨v',w',E,h1,Q⟩
 | makeChan t n=>
  simp only[RC]at h;split at h
  ·rename_i dir e k n0 hu G;split at h
   ·rename_i i hi;split at h
    ·rename_i X;injection h with h;subst h;have J:=H.ev n;rw[G]at J;have J:=J.EN;have hn:n0=((n0.toNat:Nat):Int):=by omega
     refine lift ⟨.chan (some w.heap.size),w.alloc (.chan n0.toNat #[] false 0 0 false),⟨w.heap.size,0,0,0⟩,?_,GS.alloc w _ _,rfl,by simp,λm' hm id hid=>⟨VR.chan id _ hid,#[],0,0,heap_alloc_new w _,.nil _⟩⟩;have n1:¬(n0<0):=by omega
     have n2:¬(9223372036854775807<n0):=by omega
     have n3:¬(281474976710544<(i.bytes:Int)*n0):=by omega
     simp[Instr.makeChan,J,asInt,asIntOf,run_underlying hu,typeInfo,hi,n1,n2,n3,IntKind.max,IntKind.bits,IntKind.signed]
    ·cases h
   ·cases h
  ·cases h
 | range t x=>
  simp only[RC]at h;split at h
  ·rename_i s hu G;injection h with h;subst h;have J:=H.ev x;rw[G]at J;have J:=J.Ff;refine lift ⟨.pointer (some ⟨w.heap.size,0,none⟩),w.alloc (.stringIter ⟨⟨s⟩⟩ 0),⟨w.heap.size,0,0,0⟩,by simp[Instr.range,BJ w hu,J],GS.alloc w _ _,rfl,by simp,λm' hm id hid=>⟨by simpa using VR.ptr (m:=m') id 0 _ hid,rfl,heap_alloc_new w _⟩⟩
  ·cases h
 |_=>simp[RC]at h
end
end Go.Av
