/-
  Several texts in one.
-/
import Derived.Test.YtfgmnhjedmkpeaaAvOpR
set_option linter.unusedSimpArgs false
/-
 A part.
-/
section
namespace Go.Av
open Go.RowKit
section
variable {P:Program} {m:BU} (w:World)
theorem FX(e:TypeId)(cs:Array Value):(newRow e cs).run P w=.ok ⟨w.heap.size,0,none⟩ (w.alloc (.cells cs e)):=rfl
def KL(P:Program)(m:BU)(w w':World)(E:Ii)(x:Pz)(v':Value):Prop:=
 Dn w w' E.g/\E.g=w.heap.size/\E.g<w'.heap.size/\∀m':BU,m.le m'->∀id,m' id=some E->VR m' (x.1 id) v'/\IV P m' w' E x.2
theorem JC{m':BU}{gr:Option TypeId}{cs:List AD}{ds:Array Value}{e:TypeId}{E:Ii}{w':World}{fz:Nat×Nat}(I:w'.heap[E.g]?=some (.cells ds e fz))(S:E.base=0)(W:E.QG=Kv P gr)(ht:E.total=ds.size)
  (G:B5 m' cs (ds.toList.take cs.length)) (h1:cs.all AD.one=true) (J:Rk E.total fz):IV P m' w' E (.cells gr 2 cs):=by
 refine⟨⟨⟨W,λh=>by cases h⟩,λ_ _=>S⟩,λ_=>⟨ds,e,fz,I,ht.symm,λj a C=>⟨zC.1 h1 a (zQ C),?_⟩,λ_=>J⟩⟩;obtain⟨y,hy,hvy⟩:=G.at_ C;rw[List.getElem?_take]at hy;split at hy
 ·exact⟨y,by rw[S,qt];simpa using hy,hvy⟩
 ·cases hy
theorem Ho{t:TypeId}{x:AD}{x':Value}{n:Pz}(H:VR m x x')(h:I7 x=some n):
  ∃v' w' E,(newVar t x').run P w=.ok (v':Addr) w'/\KL P m w w' E n (.pointer (some v')):=by
 unfold I7 at h;split at h
 ·rename_i cs hcs;split at h
  ·rename_i h1;injection h with h;subst h;refine⟨⟨w.heap.size,0,none⟩,w.alloc (.cells x'.cells t),⟨w.heap.size,0,0,x'.cells.size⟩,by simp[newVar,FX],Dn.alloc w _ _,rfl,by simp,λm' hm id hid=>⟨?_,?_⟩⟩
   ·simpa using VR.ptr (m:=m') id 0 _ hid
   ·have G:=(H.mono hm).cells hcs;have U:cs.length=x'.cells.size:=by rw[G.1];simp
    exact JC (e:=t) (fz:=(0,0)) (heap_alloc_new w _) rfl rfl rfl (by rw[U,zM (by simp)];exact G) h1 (.inl rfl)
  ·cases h
 ·cases h
theorem KC(z:List AD):∀(n j:Nat),j<n*z.length->(Cs z n)[j]?=z[j%z.length]?
 |0,j,h=>by simp at h
 | n+1,j,h=>by
  unfold Cs;have W:0<z.length:=by
   rcases yJ z.length with T|T
   ·rw[T]at h;simp at h
   ·exact T
  by_cases M:j<z.length
  ·rw[List.getElem?_append_left M,qw M]
  ·have h':j<n*z.length+z.length:=by rw[yj,qg]at h;exact h
   rw[List.getElem?_append_right (by omega),KC z n (j - z.length) (by omega),<-Nat.mod_eq_sub_mod (by omega)]
theorem D5(z:List AD):∀n,(Cs z n).length=n*z.length
 |0=>by simp[Cs]
 |n+1=>by simp[Cs,D5 z n,yj];omega
theorem Ji{z:List AD}{z':Value}(W:B5 m z z'.cells.toList)(n k:Nat)(V:k=n*z.length):B5 m (Cs z n) ((Array.range k).map λi=>z'.cells[i%z'.cells.size]!).toList:=by
 subst V;have U:z.length=z'.cells.size:=by rw[W.1];simp
 refine⟨by simp[D5],λi x y H hy=>?_⟩;have hi:i<n*z.length:=by have:=(List.getElem?_eq_some_iff.1 H).1;rwa [D5]at this
 rw[KC z n i hi]at H;have hzp:0<z.length:=by
  rcases yJ z.length with T|T
  ·rw[T]at hi;simp at hi
  ·exact T
 have hm:i%z.length<z'.cells.size:=by rw[<-U];exact Nat.mod_lt _ hzp
 simp only[yY,Array.toList_range,List.getElem?_map,List.getElem?_range hi,zf,zd]at hy;subst hy;rw[<-U,getElem!_pos z'.cells (i%z.length) hm];exact W.2 _ x _ H (by simp[hm])
theorem Jx{z:List AD}(h:z.all AD.one=true):∀n,(Cs z n).all AD.one=true
 |0=>by simp[Cs]
 |n+1=>by simp only[Cs,qC,h,Jx h n];rfl
theorem Ix{t:TypeId}{n:Nat}(h:B9 P t=some n):P.cellsOf t=n:=by
 unfold B9 at h;unfold Program.cellsOf;rw[h];rfl
theorem NR{t:TypeId}{len:Nat}{parts:List (Nat×AD)}{parts':Array (Nat×Value)}{n:Pz}(U:parts.length=parts'.toList.length)
  (hp:∀(j i i':Nat) (x:AD) (y:Value),parts[j]?=some (i,x)->parts'.toList[j]?=some (i',y)->i=i'/\VR m x y) (h:KR P t len parts=some n):
  ∃v' w' E,(Instr.buildSlice t len parts').run P w=.ok v' w'/\KL P m w w' E n v':=by
 unfold KR at h;split at h
 ·rename_i e hu;split at h
  ·rename_i sz z X W;split at h
   ·rename_i S;obtain⟨hb1,hb2,hb3⟩:=S;split at h
    ·rename_i cs hfill;split at h
     ·rename_i h1;injection h with h;subst h;cases hz0:GN P e with
      |none=>simp[hz0]at W
      | some zv=>
       simp only[hz0,za]at W;obtain⟨i,zz,hi,Z,hvz⟩:=Fp (m:=m) hz0;have D:=hvz.cells W;have hzl:z.length=zz.cells.size:=by rw[D.1];simp
       have K:=Ji D len (len*sz) (by rw[hb2]);obtain⟨ds',f1,f2⟩:=GO (m:=m) (place:=λi=>some (i*sz,sz)) parts parts'.toList _ _ cs U hp K hfill;have hlen:cs.length=ds'.size:=by rw[f2.1];simp
       have hzv:(zeroValue e).run P w=.ok zz w:=by simp[zeroValue,typeInfo,hi,Z]
       have hcl:∀(parts:List (Nat×AD)) (a b:List AD),Hd (λi=>some (i*sz,sz)) a parts=some b->b.length=a.length:=by
        intro parts
        induction parts with
        |nil=>intro a b hh;simp[Hd]at hh;rw[hh]
        | cons p ps ih=>
         intro a b hh;obtain⟨i,x⟩:=p;unfold Hd at hh;split at hh
         ·rename_i off size new e1 e2;split at hh
          ·rename_i S;rw[ih _ _ hh];simp[Cu];omega
          ·cases hh
         ·cases hh
       have hds:ds'.size=len*sz:=by rw[<-hlen,hcl _ _ _ hfill,D5,hb2]
       refine⟨.slice (some ⟨w.heap.size,0,none⟩) len len,w.alloc (.cells ds' e),⟨w.heap.size,0,sz,len*sz⟩,?_,Dn.alloc w _ _,rfl,by simp,λm' hm id hid=>⟨?_,?_⟩⟩
       ·have hb1':¬(len*sz>2^24):=by omega
        by_cases T:len*sz=0
        ·have hlen0:len=0:=by
          rcases ym.1 T with h|h
          ·exact h
          ·omega
         subst hlen0;have f1':Instr.fill (λi=>some (i*sz,sz)) #[] parts'.toList=some ds':=by simpa[Array.range_zero']using f1
         simp[Instr.buildSlice,Ah w hu,run_sizeOf w X,FX,f1',Array.range_zero']
        ·simp only[Instr.buildSlice,Sem.run_bind,Ah w hu,Result.andThen_ok,run_sizeOf w X,Sem.run_ite,zk hb1',Sem.run_pure,zk T,hzv];rw[f1];simp[FX]
       ·refine .slice id 0 len len _ _ hid (zq _) (λ_=>⟨by simp,λ_=>by simp⟩)
       ·exact JC (e:=e) (fz:=(0,0)) (heap_alloc_new w _) rfl (by simp[Kv,Ix X]) (by simp[hds]) (by rw[yn,hlen,zM (by simp)];exact(f2.mono hm).IG) h1 (.inl rfl)
     ·cases h
    ·cases h
   ·cases h
  ·cases h
 ·cases h
theorem NY{w:World}{g:Nat}{cs:Array Value}{e:TypeId}(I:w.heap[g]?=some (.cells cs e (0,0))):
  ∃w',(markStringish ⟨g,0,none⟩).run P w=.ok () w'/\w'.heap[g]?=some (.cells cs e (cs.size,cs.size+1))/\Dn w w' g/\w'.heap.size=w.heap.size:=by
 refine⟨w.freeze {block:=g,off:=cs.size} 1,?_,?_,?_,?_⟩
 ·simp[markStringish,shape,freeze,Sem.run,World.shape?,I]
 ·simp[World.freeze,Array.getElem?_modify,I]
 ·refine⟨rfl,rfl,rfl,by simp[World.freeze],λk V N=>?_⟩;simp[World.freeze,Array.getElem?_modify,Ne.symm N]
 ·simp[World.freeze]
theorem NB{w:World}{a:Addr}{g:Nat}{cs:Array Value}{e:TypeId}{fz:Nat×Nat}(C:a.block=g)(I:w.heap[g]?=some (.cells cs e fz))(J:Rk cs.size fz):
  ∃w' fz',(markStringish a).run P w=.ok () w'/\w'.heap[g]?=some (.cells cs e fz')/\Rk cs.size fz'/\Dn w w' g:=by
 subst C;obtain⟨lo,hi⟩:=fz;refine⟨w.freeze {block:=a.block,off:=cs.size} 1,(if lo==hi then(cs.size,cs.size+1)else(min lo cs.size,max hi (cs.size+1))),?_,?_,?_,?_⟩
 ·simp[markStringish,shape,freeze,Sem.run,World.shape?,I]
 ·simp[World.freeze,Array.getElem?_modify,I]
 ·unfold Rk at J⊢;split
  ·exact .inr (zq _)
  ·rename_i N;rcases J with J|J
   ·exact absurd (by simpa using J) N
   ·right;simp only;simp only at J;omega
 ·refine⟨rfl,rfl,rfl,by simp[World.freeze],λk V N=>?_⟩;simp[World.freeze,Array.getElem?_modify,Ne.symm N]
def Jn(s:List UInt8)(c:Nat):Array Value:=(s.map λ(b:UInt8)=>Value.int .u8 b.toNat).toArray++Array.replicate (c - s.length) (.int .u8 0)
theorem QM(s:List UInt8)(c:Nat)(h:s.length<=c):(Jn s c).size=c:=by simp[Jn];omega
theorem RD{src dst:TypeId}{x:AD}{x':Value}{n:Pz}(H:VR m x x')(h:Uj P src dst x=some n):
  ∃v' w' E,(convert src dst x').run P w=.ok v' w'/\KL P m w w' E n v':=by
 unfold Uj at h;split at h
 ·rename_i d e s B hd;split at h
  ·rename_i he X;split at h
   ·rename_i hlen;injection h with h;subst h;have:=H.C3;subst this;obtain⟨c,hc⟩:∃c,c=(Question.appendCap s.length 0 e).cut (w.tape w.drawn (.appendCap s.length 0 e)):=⟨_,rfl⟩;have hcge:s.length<=c:=by rw[hc];simp[Question.cut]
    have hsz0:=QM s c hcge;have hblk:(w.drew.alloc (.cells (Jn s c) e)).heap[w.heap.size]?=some (.cells (Jn s c) e (0,0)):=heap_alloc_new w.drew _;obtain⟨w',r1,r2,r3,r4⟩:=NY (P:=P) hblk;refine⟨.slice (some ⟨w.heap.size,0,none⟩) s.length c,w',⟨w.heap.size,0,1,c⟩,?_,(Dn.alloc_drew w _ _).trans r3,rfl,by rw[r4];show _<(w.heap.push _).size;simp,λm' hm id hid=>⟨?_,?_⟩⟩
    ·have hch:(choose (.appendCap s.length 0 e)).run P w=.ok c w.drew:=by rw[hc];rfl
     have hmap:((⟨⟨s⟩⟩:ByteArray).data.map λb=>Value.int .u8 b.toNat)=(s.map λ(b:UInt8)=>Value.int .u8 b.toNat).toArray:=by simp
     simp only[convert,Sem.run_bind,Ah w B,Ah w hd,Ah w he,Result.andThen_ok,Conv.stringToBytes];rw[show(⟨⟨s⟩⟩:ByteArray).size=s.length from rfl,hch,hmap];simp only[Result.andThen_ok];have hnew:(newRow e (Jn s c)).run P w.drew=.ok ⟨w.heap.size,0,none⟩ (w.drew.alloc (.cells (Jn s c) e)):=FX w.drew e _;unfold Jn at hnew r1;rw[hnew];simp only[Result.andThen_ok,r1,Sem.run_pure]
    ·exact .slice id 0 s.length c _ _ hid hcge (λ_=>⟨by simp,λ_=>by simp⟩)
    ·refine JC (e:=e) (fz:=(c,c+1)) (by rw[r2,hsz0]) rfl (by simp[Kv,Ix X]) (by simp[hsz0]) ?_ ?_ (.inr (zq _))
     ·have:(Jn s c).toList.take (s.map λ(b:UInt8)=>AD.int .u8 b.toNat).length=s.map (λ(b:UInt8)=>Value.int .u8 b.toNat):=by
       simp[Jn]
      rw[this];exact B5.map _ _ s λb _=>.int _ _
     ·simp[zC,AD.one]
   ·cases h
  ·cases h
 ·cases h
theorem I0{t:TypeId}{l c:AD}{l' c':Value}{n:Pz}(U:VR m l l')(hc:VR m c c')(h:GW P t l c=some n):
  ∃v' w' E,(Instr.makeSlice t l' c').run P w=.ok v' w'/\KL P m w w' E n v':=by
 unfold GW at h;split at h
 ·rename_i e kl a kc b hu;have:=U.CG;subst this;have:=hc.CG;subst this;split at h
  ·rename_i i hi;split at h
   ·rename_i z W;split at h
    ·rename_i zc hzc;simp only[zh]at hzc;obtain⟨zc0,hzc,hzc'⟩:=hzc;split at h
     ·rename_i S;obtain⟨b1,b2,b3,b4,b5,b6⟩:=S;injection h with h;subst h;cases Z:i.zero with
      |none=>simp[Z]at W
      | some zz=>
       simp only[Z,zf,zd]at W;subst W;have D:=((VR.Pf m zz).cells hzc).IG;rw[hzc']at D;have hzl:zc.length=zz.cells.size:=by rw[D.1];simp
       have X:B9 P e=some i.size:=by simp[B9,hi]
       have wl:IntKind.i64.wrap a=a:=by simp[IntKind.wrap,IntKind.signed,IntKind.bits];omega
       have wc:IntKind.i64.wrap b=b:=by simp[IntKind.wrap,IntKind.signed,IntKind.bits];omega
       have K:=Ji D b.toNat (b.toNat*i.size) (by rw[b5]);obtain⟨row,hrow⟩:∃row,row=((Array.range (b.toNat*i.size)).map λj=>zz.cells[j%zz.cells.size]!):=⟨_,rfl⟩;have hrs:row.size=b.toNat*i.size:=by rw[hrow];simp
       rw[<-hrow]at K;refine⟨.slice (some ⟨w.heap.size,0,none⟩) a.toNat b.toNat,w.alloc (.cells row e),⟨w.heap.size,0,i.size,b.toNat*i.size⟩,?_,Dn.alloc w _ _,rfl,by simp,λm' hm id hid=>⟨?_,?_⟩⟩
       ·have big1:¬(b<0):=by omega
        have big2:¬(((i.bytes:Int)*b)>2^48):=by omega
        have big3:¬(a<0):=by omega
        have big4:¬(a>b):=by omega
        have room:¬(b.toNat*i.bytes>roomBytes):=by
         have e1:((b.toNat*i.bytes:Nat):Int)=(i.bytes:Int)*b:=by
          rw[Int.natCast_mul,Int.toNat_of_nonneg (by omega),Int.mul_comm]
         simp only[roomBytes];omega
        have hzv:(zeroValue e).run P w=.ok zz w:=by simp[zeroValue,typeInfo,hi,Z]
        have hti:(typeInfo e).run P w=.ok i w:=by simp[typeInfo,hi]
        have hcond:(((decide (b<0)||decide ((i.bytes:Int)*b>2^48))||decide (a<0)||decide (a>b))=true)=False:=by
         simp;omega
        simp only[Instr.makeSlice,Sem.run_bind,Ah w hu,Result.andThen_ok,asInt,asIntOf,Sem.run_pure,hti,wl,wc,Sem.run_ite,hcond,if_false,askRoom,zk room,run_sizeOf w X];by_cases T:b.toNat*i.size=0
        ·have hr0:row=#[]:=by apply Array.eq_empty_of_size_eq_zero;rw[hrs,T]
         simp[T,hr0,FX,Array.range_zero']
        ·simp only[zk T,hzv,Result.andThen_ok];rw[<-hrow];simp[FX]
       ·exact .slice id 0 a.toNat b.toNat _ _ hid (by omega) (λ_=>⟨by simp,λ_=>by simp⟩)
       ·exact JC (e:=e) (fz:=(0,0)) (heap_alloc_new w _) rfl (by simp[Kv,Ix X]) (by simp[hrs]) (by rw[D5,b5,<-hrs,zM (by simp)];exact K.mono hm) (Jx b6 _) (.inl rfl)
     ·cases h
    ·cases h
   ·cases h
  ·cases h
 ·cases h
theorem K2{fr:Fr}{a:Act}(J:FR m fr a){o:Oper}{n:Pz}(h:L1 P fr o.op=some n):∃v' w' E,(execOp a.eval o).run P w=.ok (.value v') w'/\KL P m w w' E n v':=by
 obtain⟨dst,op,ty,pos,aft,gd⟩:=o;simp only at h;have lift:∀{s:Sem Value},(∃v' w' E,s.run P w=.ok v' w'/\KL P m w w' E n v')->∃v' w' E,(do pure (.value (<-s)):Sem Next).run P w=.ok (.value v') w'/\KL P m w w' E n v':=by
  rintro s ⟨v',w',E,h1,h2⟩;exact⟨v',w',E,by simp[h1],h2⟩
 cases op with
 | alloc e=>
  simp only[L1]at h;cases W:GN P e with
  |none=>simp[W]at h
  |some z=>
   simp only[W,za]at h;obtain⟨i,zz,hi,Z,hvz⟩:=Fp (m:=m) W;obtain⟨v',w',E,h1,h2⟩:=Ho (P:=P) (t:=e) w hvz h;have hzv:(zeroValue e).run P w=.ok zz w:=by simp[zeroValue,typeInfo,hi,Z]
   exact lift ⟨_,w',E,by simp[Instr.alloc,hzv,h1],h2⟩
 |box e x=>
  simp only[L1]at h;obtain⟨v',w',E,h1,h2⟩:=Ho (P:=P) (t:=e) w (J.ev x) h;exact lift ⟨_,w',E,by simp[Instr.box,h1],h2⟩
 | buildSlice t len parts=>
  simp only[L1]at h;have hp:∀(j i i':Nat) (x:AD) (y:Value),(parts.toList.map λ(i,x)=>(i,ev fr x))[j]?=some (i,x)->(parts.map λ(i,x)=>(i,a.eval x)).toList[j]?=some (i',y)->i=i'/\VR m x y:=by
   intro j i i' x y H hy;simp only[List.getElem?_map,yY]at H hy;cases M:parts.toList[j]? with
   |none=>simp[M]at H
   |some p=>
    simp only[M,zf,zd,ze]at H hy;obtain⟨rfl,rfl⟩:=H;obtain⟨rfl,rfl⟩:=hy;exact⟨rfl,J.ev p.2⟩
  obtain⟨v',w',E,h1,h2⟩:=NR (P:=P) w (by simp) hp h;exact lift ⟨v',w',E,h1,h2⟩
 |convert s d x=>
  simp only[L1]at h;obtain⟨v',w',E,h1,h2⟩:=RD (P:=P) w (J.ev x) h;exact lift ⟨v',w',E,h1,h2⟩
 | makeMap t r=>
  cases r with
  |some r=>simp[L1]at h
  |none=>
   simp only[L1,zd]at h;subst h;refine lift ⟨.map (some w.heap.size),w.alloc (.map #[] 0),⟨w.heap.size,0,0,0⟩,by simp[Instr.makeMap],Dn.alloc w _ _,rfl,by simp,λm' hm id hid=>⟨VR.map id _ hid,rfl,λ_=>N2.of ⟨#[],0,heap_alloc_new w _,rfl,λi k v e h=>by simp at h,K6.nil⟩ (by decide)⟩⟩
 |makeSlice t l c=>
  simp only[L1]at h;obtain⟨v',w',E,h1,h2⟩:=I0 (P:=P) w (J.ev l) (J.ev c) h;exact lift ⟨v',w',E,h1,h2⟩
 | makeChan t n=>
  simp only[L1]at h;split at h
  ·rename_i dir e k n0 hu H;split at h
   ·rename_i i hi;split at h
    ·rename_i S;injection h with h;subst h;have G:=J.ev n;rw[H]at G;have G:=G.CG;have hn:n0=((n0.toNat:Nat):Int):=by omega
     refine lift ⟨.chan (some w.heap.size),w.alloc (.chan n0.toNat #[] false 0 0 false),⟨w.heap.size,0,0,0⟩,?_,Dn.alloc w _ _,rfl,by simp,λm' hm id hid=>⟨VR.chan id _ hid,#[],0,0,heap_alloc_new w _,.nil _⟩⟩;have n1:¬(n0<0):=by omega
     have n2:¬(9223372036854775807<n0):=by omega
     have n3:¬(281474976710544<(i.bytes:Int)*n0):=by omega
     simp[Instr.makeChan,G,asInt,asIntOf,run_underlying hu,typeInfo,hi,n1,n2,n3,IntKind.max,IntKind.bits,IntKind.signed]
    ·cases h
   ·cases h
  ·cases h
 | range t x=>
  simp only[L1]at h;split at h
  ·rename_i s hu H;injection h with h;subst h;have G:=J.ev x;rw[H]at G;have G:=G.C3;refine lift ⟨.pointer (some ⟨w.heap.size,0,none⟩),w.alloc (.stringIter ⟨⟨s⟩⟩ 0),⟨w.heap.size,0,0,0⟩,by simp[Instr.range,Ah w hu,G],Dn.alloc w _ _,rfl,by simp,λm' hm id hid=>⟨by simpa using VR.ptr (m:=m') id 0 _ hid,rfl,heap_alloc_new w _⟩⟩
  ·cases h
 |_=>simp[L1]at h
end
end Go.Av
end
/-
 A part.
-/
section
namespace Go.Av
open Go.RowKit
section
variable {P:Program} {w0:World} {m:BU} {h:AE} {w:World}
def O5(n:Next)(v:Value):Prop:=n=.value v\/(n=.skip/\v=undef)
theorem GI(g off:Nat)(e:TypeId)(fz:Nat×Nat):∀(vs:List Value) (i:Nat) (cur:Array Value) (w:World),w.heap[g]?=some (.cells cur e fz)->off+i+vs.length<=cur.size->
  (∀v∈vs,v.oneCell'=true)->(∀j,j<cur.size->¬(fz.1<=j/\j<fz.2))->
  ∃w',(storeCells ⟨g,off,none⟩ vs i).run P w=.ok () w'/\w'.heap[g]?=some (.cells ⟨cur.toList.take (off+i)++(vs++cur.toList.drop (off+i+vs.length))⟩ e fz)/\Dn w w' g/\w'.heap.size=w.heap.size
 |[],i,cur,w,I,_,_,_=>by
  refine⟨w,by simp[storeCells],?_,Dn.refl w g,rfl⟩;rw[I];congr 2;apply Array.ext';simp
 | v::vs,i,cur,w,I,U,h1,hfz=>by
  simp only[zP]at U;have hcell:w.cell? ⟨g,off+i,none⟩=some cur[off+i]:=by
   rw[cell_of_row w g (off+i) cur e fz I];exact Array.getElem?_eq_getElem (by omega)
  have hfr:w.frozen? ⟨g,off+i,none⟩=false:=by
   have:=hfz (off+i) (by omega);simp only[World.frozen?,I];simp only[yB,zr];omega
  have B:(store ((⟨g,off,none⟩:Addr).add i) v).run P w=.ok () (w.setCell ⟨g,off+i,none⟩ v):=by
   rw[Addr.add_lit,run_store P w _ v _ (h1 v (by simp)),hcell];simp[hfr]
  have hg1:(w.setCell ⟨g,off+i,none⟩ v).heap[g]?=some (.cells (cur.setIfInBounds (off+i) v) e fz):=by
   simp[World.setCell,Array.getElem?_modify,I]
  obtain⟨w',r1,r2,r3,r4⟩:=GI g off e fz vs (i+1) (cur.setIfInBounds (off+i) v) _ hg1 (by simp;omega) (λu hu=>h1 u (by simp[hu])) (by simpa using hfz);refine⟨w',by simp[storeCells,B,r1],?_,?_,?_⟩
  ·rw[r2];congr 2;have hlen:cur.toList.length=cur.size:=by simp
   apply Array.ext';show(cur.setIfInBounds (off+i) v).toList.take (off+(i+1))++(vs++(cur.setIfInBounds (off+i) v).toList.drop (off+(i+1)+vs.length))=cur.toList.take (off+i)++(v::vs++cur.toList.drop (off+i+(v::vs).length));rw[qH];generalize cur.toList=L at hlen;have e1:L.set (off+i) v=L.take (off+i)++v::L.drop (off+i+1):=by
    rw[yd,zj (by omega)]
   have hl2:(L.take (off+i)).length=off+i:=by simp;omega
   rw[e1,show off+(i+1)+vs.length=(L.take (off+i)).length+(1+vs.length) by omega,yC,
    show off+(i+1)=(L.take (off+i)).length+1 by omega,yD,zR,show 1+vs.length=vs.length+1 by omega,qj,yU]
   simp only[qk,List.take_zero,yP,z8,zP];rw[show off+i+1+vs.length=off+i+(vs.length+1) by omega]
  ·have t1:Dn w (w.setCell ⟨g,off+i,none⟩ v) g:=⟨rfl,rfl,rfl,by simp[World.setCell],λk V N=>Below.heap_setCell w ⟨g,off+i,none⟩ v k N⟩;exact t1.trans r3
  ·rw[r4];simp[World.setCell]
theorem Fw(r:Rel P w0 m h w){g:Gd}{id o:Nat}{E:Ii}{new:List AD}{ds:List Value}{h':AE}(hE:m id=some E)(G:B5 m new ds)(B:By g h id o new=some h'):
  ∃w',(storeCells ⟨E.g,E.base+o,none⟩ ds).run P w=.ok () w'/\Rel P w0 m h' w':=by
 unfold By at B;split at B
 ·rename_i gr cs I;split at B
  ·rename_i S;obtain⟨_,hb2,hb3⟩:=S;injection B with B;subst B;obtain⟨hesz,Y⟩:=r.obj id E _ hE I;obtain⟨cur,e,fz,c1,c2,c3,c4⟩:=Y (by omega);have hfz:=c4 rfl;have hin:∀j,j<cs.length->E.base+j<cur.size:=λj M=>by
    obtain⟨_,c,hc,_⟩:=c3 j _ (List.getElem?_eq_getElem M);exact(Array.getElem?_eq_some_iff.1 hc).1
   have hlen:E.base+o+0+ds.length<=cur.size\/ds=[]:=by
    rcases yJ ds.length with T|T
    ·right;exact zw T
    ·left;have:=hin (o+new.length - 1) (by have:=G.1;omega);have:=G.1;omega
   rcases hlen with hlen|hnil
   ·obtain⟨w',r1,r2,r3,r4⟩:=GI (P:=P) E.g (E.base+o) e fz ds 0 cur w c1 hlen (λv hv'=>by
     obtain⟨j,M⟩:=yM.1 hv';have hj':j<new.length:=by rw[G.1];exact(List.getElem?_eq_some_iff.1 M).1
     exact(G.2 j _ v (List.getElem?_eq_getElem hj') M).one (zC.1 hb3 _ (yE hj'))) (by rw[c2];exact hfz.no)
    refine⟨w',r1,r.write hE I rfl rfl r3 ⟨⟨⟨hesz.1.1,λh=>by cases h⟩,hesz.2⟩,λ_=>⟨_,e,fz,r2,?_,λj a C=>?_,λ_=>hfz⟩⟩⟩
    ·rw[<-c2];simp;omega
    ·unfold Cu at C;rw[List.getElem?_append]at C;split at C
     ·rename_i M;rw[List.getElem?_take]at C;split at C
      ·rename_i hjo;obtain⟨a1,c,hc,hvc⟩:=c3 j a C;refine⟨a1,c,?_,hvc⟩;have:(cur.toList.take (E.base+o+0))[E.base+j]?=some c:=by
        rw[List.getElem?_take,zj (by omega)];simpa using hc
       simp only[List.getElem?_toArray];rw[List.getElem?_append_left (List.getElem?_eq_some_iff.1 this).1];exact this
      ·cases C
     ·rename_i M;have htl:(cs.take o).length=o:=by simp at M⊢;omega
      rw[htl]at C M;have hctl:(cur.toList.take (E.base+o+0)).length=E.base+o:=by simp;omega
      rw[List.getElem?_append]at C;split at C
      ·rename_i hjn;obtain⟨y,hy,hvy⟩:=G.at_ C;refine⟨zC.1 hb3 _ (zQ C),y,?_,hvy⟩;simp only[List.getElem?_toArray];rw[List.getElem?_append_right (by omega),hctl,show E.base+j - (E.base+o)=j - o by omega,List.getElem?_append_left (List.getElem?_eq_some_iff.1 hy).1];exact hy
      ·rename_i hjn;rw[List.getElem?_drop]at C;obtain⟨a1,c,hc,hvc⟩:=c3 _ a C;refine⟨a1,c,?_,hvc⟩;have U:=G.1;simp only[List.getElem?_toArray];rw[List.getElem?_append_right (by omega),hctl,List.getElem?_append_right (by omega),List.getElem?_drop];rw[show E.base+o+0+ds.length+(E.base+j - (E.base+o) - ds.length)=E.base+(o+new.length+(j - o - new.length)) by omega];simpa using hc
   ·subst hnil;have hn:new=[]:=zw (by simpa using G.1);subst hn;refine⟨w,by simp[storeCells],?_⟩;refine r.write hE I rfl rfl (Dn.refl w _) ?_;have:Cu cs o []=cs:=by simp[Cu]
    rw[this];exact r.obj id E _ hE I
  ·cases B
 ·cases B
theorem Lj(r:Rel P w0 m h w){g:Gd}{t:TypeId}{id o:Nat}{E:Ii}{x:AD}{x':Value}{h':AE}(hE:m id=some E)(H:VR m x x')(B:HA P g h t id o x=some h'):
  ∃w',(storeVar t ⟨E.g,E.base+o,none⟩ x').run P w=.ok () w'/\Rel P w0 m h' w':=by
 unfold HA at B;split at B
 ·rename_i new n hnew hn;split at B
  ·rename_i U;have G:=H.cells hnew;obtain⟨w',r1,r2⟩:=Fw r hE G B;refine⟨w',?_,r2⟩;have:x'.cells.size=n:=by rw[<-U,G.1];simp
   simp[storeVar,run_sizeOf w hn,this,r1]
  ·cases B
 ·cases B
theorem Qo{x y:AD}(B:PN x y=true):x=y:=by
 unfold PN at B;split at B
 ·simp only[zg,zx,zT]at B;obtain⟨rfl,rfl⟩:=B;rfl
 ·simp only[zT]at B;rw[B]
 ·simp only[zT]at B;rw[B]
 ·cases B
theorem O4:∀(a b:List AD),a.length=b.length->((a.zip b).all λp=>PN p.1 p.2)=true->a=b
 |[],[],_,_=>rfl
 |[],_::_,U,_=>by simp at U
 |_::_,[],U,_=>by simp at U
 |x::a,y::b,U,B=>by
  simp only[List.zip_cons_cons,yG,zg]at B;rw[Qo B.1,O4 a b (by simpa using U) B.2]
theorem UE{x y:AD}(B:Mm x y=true):x=y:=by
 unfold Mm at B;split at B
 ·rename_i a b;simp only[zg,zT]at B;rw[O4 a b B.1 B.2]
 ·exact Qo B
theorem OM(old new:Value)(w:World):∃v w',(Instr.keyThatStays old new).run P w=.ok v w'/\(v=old\/v=new)/\(w'=w\/w'=w.drew):=by
 unfold Instr.keyThatStays;by_cases S:Instr.sameBits 10000 old new=true
 ·exact⟨new,w,by simp[S],.inr rfl,.inl rfl⟩
 ·have hch:(choose (.extern "map.whichKeyStays" 2)).run P w=.ok ((Question.extern "map.whichKeyStays" 2).cut (w.tape w.drawn (.extern "map.whichKeyStays" 2))) w.drew:=rfl;simp only[S,zB,if_false,Sem.run_bind,hch,Result.andThen_ok,Sem.run_pure];by_cases T:(Question.extern "map.whichKeyStays" 2).cut (w.tape w.drawn (.extern "map.whichKeyStays" 2))=0
  ·exact⟨new,w.drew,by simp[T],.inr rfl,.inr rfl⟩
  ·exact⟨old,w.drew,by simp[T],.inl rfl,.inr rfl⟩
theorem Ju{w:World}{g:Nat}{o o':Obj}(ho:w.heap[g]?=some o)(hc:∀a b c,o≠.cells a b c):
  ∃w',(setObj g o').run P w=.ok () w'/\w'.heap[g]?=some o'/\Dn w w' g/\w'.heap.size=w.heap.size:=by
 have hlt:g<w.heap.size:=(Array.getElem?_eq_some_iff.1 ho).1;refine⟨{w with heap:=w.heap.setIfInBounds g o'},?_,?_,⟨rfl,rfl,rfl,by simp,λk V N=>?_⟩,by simp⟩
 ·cases o with
  |cells a b c=>exact absurd rfl (hc a b c)
  |_=>simp[setObj,Sem.run,ho]
 ·simp[hlt]
 ·simp[Ne.symm N]
theorem VX{k:AD}{a:Value}(C:VR m k a){en:MapEntry}{v:Value}(S:VR m k en.key)(hq:Mm k k=true:=by assumption):OC {en with key:=a,val:=v}=OC en:=by
 unfold OC;dsimp only;generalize en.key=y at S;cases k with
 |str s=>rw[C.C3,S.C3]
 |int=>cases C;cases S;rfl
 |bool=>cases C;cases S;rfl
 |agg=>cases C;cases S;rfl
 |_=>simp[Mm,PN]at hq
theorem Qc{kt:TypeId}{k:AD}{k':Value}{es:List (AD×AD)}{en:Array MapEntry}(V:VR m k k'){s:ByteArray}(B:k'=.string s)(c2:es.length=en.size)
    (c3:∀(i:Nat) (a b:AD) (e:MapEntry),es[i]?=some (a,b)->en[i]?=some e->VR m a e.key/\VR m b e.val) {n:Nat} (J:FN P kt k es n=some none):s∉en.toList.filterMap OC:=by
  subst B;intro hm;obtain⟨e,he,hse⟩:=qo.1 hm;obtain⟨i,hi,rfl⟩:=List.getElem_of_mem he;have hi':i<es.length:=by rw[c2];simpa using hi
  have G:=(c3 i es[i].1 es[i].2 en.toList[i] (by simp[List.getElem?_eq_getElem hi']) (by rw[<-Array.getElem?_toList];exact List.getElem?_eq_getElem hi)).1;have O:en.toList[i].key=.string s:=by
    unfold OC at hse;split at hse
    · rename_i s' h;injection hse with hse;subst hse;exact h
    · cases hse
  rw[O]at G;have key:∀(es:List (AD×AD)) (n:Nat),FN P kt k es n=some none->∀x∈es,Hb P 10000 kt k x.1=some false:=by
    intro es
    induction es with
    |nil=>intro n _ x H;cases H
    | cons p es ih=>
      intro n h x H;obtain⟨a,b⟩:=p;unfold FN at h;split at h
      · cases h
      · rename_i hq
        rcases ye.1 H with rfl|H
        · exact hq
        · exact ih _ h x H
      · cases h
  have hq:=key es n J es[i] (yE hi');generalize es[i].1=a at G hq;unfold Hb at hq;split at hq
  all_goals first
    |(cases hq;done)
    |(exfalso;cases V;done)
    |(exfalso;cases G;done)
    | (have e1:=V.C3
       have e2:=G.C3;have e3:=e1.symm.trans e2;injection e3 with e3;injection e3 with e3;injection e3 with e3;subst e3
       simp at hq)
theorem Pn(r:Rel P w0 m h w){g:Gd}{t:TypeId}{x k v:AD}{x' k' v':Value}{h':AE}(H:VR m x x')(V:VR m k k')(G:VR m v v')(B:Le P g h t x k v=some h'):
  ∃w',(Instr.mapUpdate t x' k' v').run P w=.ok () w'/\Rel P w0 m h' w':=by
 unfold Le at B;split at B
 ·rename_i kt et id hu;split at B
  ·rename_i S;obtain⟨O,_⟩:=S;obtain⟨d,hd⟩:=LK O;cases H with
   | map _ E hE=>
    split at B
    ·rename_i es I;obtain⟨R,Y⟩:=r.obj id E _ hE I;obtain⟨en,clock,c1,c2,c3,c4⟩:=N2.two (Y (by omega)) (by decide);have hck:∀e (w:World),(Instr.checkKey e 10000 kt k').run P w=.ok () w:=λe w=>KO 20 10000 kt k k' e (by omega) V O;split at B
     ·rename_i i v0 J;obtain⟨res',f1,f2⟩:=Gt (w:=w) V hd (by rw[c2,yv]) (λj a b e C he=>c3 j a b e C (by simpa using he)) J;cases res' with
      |none=>exact f2.elim
      | some p=>
       obtain⟨i',u'⟩:=p;obtain⟨hi,_,hil,_⟩:=f2;subst hi;split at B
       ·rename_i k0 v1 hki;split at B
        ·rename_i hsame;injection B with B;subst B;have hke:=UE hsame;subst hke;have Q:i<en.size:=by omega
         have hold:VR m k0 en[i].key:=(c3 i k0 v1 en[i] hki (Array.getElem?_eq_getElem Q)).1;obtain⟨kk,w1,s1,s2,s3⟩:=OM (P:=P) (en[i].key) k' w;have hkk:VR m k0 kk:=by rcases s2 with rfl|rfl;exact hold;exact V
         have hw1:w1.heap=w.heap:=by rcases s3 with e|e<;>rw[e]<;>rfl
         have t1:Dn w w1 E.g:=by rcases s3 with e|e<;>rw[e];exact Dn.refl w _;exact(Dn.refl w _).drew
         obtain⟨w2,q1,q2,q3,_⟩:=Ju (P:=P) (w:=w1) (o:=.map en clock) (o':=.map (en.modify i λe=>{e with key:=kk,val:=v'}) clock) (by rw[hw1];exact c1) (by simp);refine⟨w2,?_,?_⟩
         ·have e1:((en[i]?).map (·.key)).getD k'=en[i].key:=by simp[Q]
          simp only[Instr.mapUpdate,Sem.run_bind,Ah w hu,Result.andThen_ok,getObj,Sem.run,c1,hck,f1,e1,s1];exact q1
         ·refine r.write hE I rfl rfl (t1.trans q3) ⟨R,λ_=>N2.of ⟨_,clock,q2,by simpa using c2,λj a b e C he=>?_,c4.modify Q (VX hkk hold)⟩ (by decide)⟩;rw[List.getElem?_set]at C;simp only[Array.getElem?_modify]at he;by_cases M:i=j
          ·subst M;have hil2:i<es.length:=hil;simp only[hil2,if_true,zd,ze]at C;obtain⟨rfl,rfl⟩:=C;simp only[Array.getElem?_eq_getElem Q,if_true,zf,zd]at he;subst he;exact⟨hkk,G⟩
          ·rw[zk M]at C he;exact c3 j a b e C he
        ·cases B
       ·cases B
     ·rename_i J;injection B with B;subst B;obtain⟨res',f1,f2⟩:=Gt (w:=w) V hd (by rw[c2,yv]) (λj a b e C he=>c3 j a b e C (by simpa using he)) J;cases res' with
      |some p=>exact f2.elim
      | none=>
       obtain⟨w2,q1,q2,q3,_⟩:=Ju (P:=P) (w:=w) (o:=.map en clock) (o':=.map (en.push {key:=k',val:=v',born:=clock}) (clock+1)) c1 (by simp);refine⟨w2,?_,?_⟩
       ·simp only[Instr.mapUpdate,Sem.run_bind,Ah w hu,Result.andThen_ok,getObj,Sem.run,c1,hck,f1];exact q1
       ·refine r.write hE I rfl rfl q3 ⟨R,λ_=>N2.of ⟨_,_,q2,by simp[c2],λj a b e C he=>?_,c4.push λs B=>Qc V B c2 c3 J⟩ (by decide)⟩;rw[Array.getElem?_push]at he;by_cases M:j=en.size
        ·subst M;rw[zj rfl]at he;injection he with he;subst he;rw[List.getElem?_append_right (by omega),c2,Nat.sub_self]at C;simp at C;obtain⟨rfl,rfl⟩:=C;exact⟨V,G⟩
        ·rw[zk M]at he;have hjl:j<es.length:=by rw[c2];exact(Array.getElem?_eq_some_iff.1 he).1
         rw[List.getElem?_append_left hjl]at C;exact c3 j a b e C he
     ·cases B
    ·cases B
  ·cases B
 ·cases B
theorem Pl(r:Rel P w0 m h w){g:Gd}{ts:Array TypeId}{ty:TypeId}{x k:AD}{x' k':Value}{h':AE}(H:VR m x x')(V:VR m k k')(B:Md P g h ts x k=some h'):
  ∃w',(Builtin.delete_ ts ty #[x',k']).run P w=.ok (.tuple #[]) w'/\Rel P w0 m h' w':=by
 unfold Md at B;split at B
 ·cases B
 ·rename_i t ht;split at B
  ·rename_i kt et id hu;split at B
   ·rename_i S;obtain⟨O,_⟩:=S;obtain⟨d,hd⟩:=LK O;cases H with
    | map _ E hE=>
     split at B
     ·rename_i es I;obtain⟨R,Y⟩:=r.obj id E _ hE I;obtain⟨en,clock,c1,c2,c3,c4⟩:=N2.two (Y (by omega)) (by decide);have hck:∀e (w:World),(Instr.checkKey e 10000 kt k').run P w=.ok () w:=λe w=>KO 20 10000 kt k k' e (by omega) V O;split at B
      ·rename_i i v0 J;injection B with B;subst B;obtain⟨res',f1,f2⟩:=Gt (w:=w) V hd (by rw[c2,yv]) (λj a b e C he=>c3 j a b e C (by simpa using he)) J;cases res' with
       |none=>exact f2.elim
       | some p=>
        obtain⟨i',u'⟩:=p;obtain⟨hi,_,hil,_⟩:=f2;subst hi;have Q:i<en.size:=by omega
        obtain⟨w2,q1,q2,q3,_⟩:=Ju (P:=P) (w:=w) (o:=.map en clock) (o':=.map (en.eraseIdxIfInBounds i) clock) c1 (by simp);refine⟨w2,?_,?_⟩
        ·simp[Builtin.delete_,ht,Ah w hu,getObj,Sem.run,c1,hck,f1,q1]
        ·refine r.write hE I rfl rfl q3 ⟨R,λ_=>N2.of ⟨_,_,q2,?_,λj a b e C he=>?_,c4.erase i⟩ (by decide)⟩
         ·simp[Array.eraseIdxIfInBounds,Q,List.length_eraseIdx,c2]
         ·have he':(en.toList.eraseIdx i)[j]?=some e:=by
           rw[<-he];simp[Array.eraseIdxIfInBounds,Q,<-Array.getElem?_toList]
          rw[List.getElem?_eraseIdx]at C he';split at C
          ·rename_i M;rw[zj M]at he';exact c3 j a b e C (by simpa using he')
          ·rename_i M;rw[zk M]at he';exact c3 (j+1) a b e C (by simpa using he')
      ·rename_i J;injection B with B;subst B;obtain⟨res',f1,f2⟩:=Gt (w:=w) V hd (by rw[c2,yv]) (λj a b e C he=>c3 j a b e C (by simpa using he)) J;cases res' with
       |some p=>exact f2.elim
       | none=>
        obtain⟨w2,q1,q2,q3,_⟩:=Ju (P:=P) (w:=w) (o:=.map en clock) (o':=.map en clock) c1 (by simp);refine⟨w2,?_,?_⟩
        ·simp[Builtin.delete_,ht,Ah w hu,getObj,Sem.run,c1,hck,f1,q1]
        ·have rr:=r.write (o':=.map 2 es) hE I rfl rfl q3 ⟨R,λ_=>N2.of ⟨en,clock,q2,c2,c3,c4⟩ (by decide)⟩;have same:∀i,(h.set id (.map 2 es)).get i=h.get i:=λi=>by
          rw[h.G5 _ _ _ (h.BZ I)];split
          ·rename_i e;rw[e,I]
          ·rfl
         exact⟨rr.below,rr.On,λi F o hF ho=>rr.obj i F o hF (by rw[same];exact ho),λi F o hF ho=>rr.own i F o hF (by rw[same];exact ho),λi j F F' o o' N h1 h2 g1 g2=>rr.sep i j F F' o o' N h1 h2 (by rw[same];exact g1) (by rw[same];exact g2),rr.fz,λi F o hF ho=>rr.Nc i F o hF (by rw[same];exact ho),rr.df,λi F o hF ho=>rr.St i F o hF (by rw[same];exact ho)⟩
      ·cases B
     ·cases B
   ·cases B
  ·cases B
end
end Go.Av
end
