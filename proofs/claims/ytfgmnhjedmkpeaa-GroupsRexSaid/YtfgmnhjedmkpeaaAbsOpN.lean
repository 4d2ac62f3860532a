/-
 A part.
-/
import Derived.Test.YtfgmnhjedmkpeaaAbsOpR
set_option linter.unusedSimpArgs false
namespace Go.Abs
open Go.RowKit
section
variable {P:Program} {m:BU} (w:World)
theorem FX(e:TypeId)(cs:Array Value):(newRow e cs).run P w=.ok ⟨w.heap.size,0,none⟩ (w.alloc (.cells cs e)):=rfl
def KL(P:Program)(m:BU)(w w':World)(E:Ii)(x:Pz)(v':Value):Prop:=
 Dn w w' E.g/\E.g=w.heap.size/\E.g<w'.heap.size/\∀m':BU,m.le m'->∀id,m' id=some E->VR m' (x.1 id) v'/\IV P m' w' E x.2
theorem JC{m':BU}{gr:Option TypeId}{cs:List AD}{ds:Array Value}{e:TypeId}{E:Ii}{w':World}{fz:Nat×Nat}(hg:w'.heap[E.g]?=some (.cells ds e fz))(S:E.base=0)(D:E.QG=Kv P gr)(ht:E.total=ds.size)
  (R:B5 m' cs (ds.toList.take cs.length)) (h1:cs.all AD.one=true) (Q:∀j,j<E.total->¬(fz.1<=j/\j<fz.2)):IV P m' w' E (.cells gr 2 cs):=by
 refine⟨D,λ_=>⟨ds,e,fz,hg,ht.symm,λj a U=>⟨xg.1 h1 a (q9 U),?_⟩,λ_=>Q⟩⟩;obtain⟨y,J,hvy⟩:=R.at_ U;rw[List.getElem?_take]at J;split at J
 ·exact⟨y,by rw[S,xN];simpa using J,hvy⟩
 ·cases J
theorem Ho{t:TypeId}{x:AD}{x':Value}{n:Pz}(N:VR m x x')(h:I7 x=some n):
  ∃v' w' E,(newVar t x').run P w=.ok (v':Addr) w'/\KL P m w w' E n (.pointer (some v')):=by
 unfold I7 at h;split at h
 ·rename_i cs hcs;split at h
  ·rename_i h1;injection h with h;subst h;refine⟨⟨w.heap.size,0,none⟩,w.alloc (.cells x'.cells t),⟨w.heap.size,0,0,x'.cells.size⟩,by simp[newVar,FX],Dn.alloc w _ _,rfl,by simp,λm' hm id hid=>⟨?_,?_⟩⟩
   ·simpa using VR.ptr (m:=m') id 0 _ hid
   ·have R:=(N.mono hm).cells hcs;have M:cs.length=x'.cells.size:=by rw[R.1];simp
    exact JC (e:=t) (fz:=(0,0)) (heap_alloc_new w _) rfl rfl rfl (by rw[M,xO (by simp)];exact R) h1 (by simp)
  ·cases h
 ·cases h
theorem KC(z:List AD):∀(n j:Nat),j<n*z.length->(Cs z n)[j]?=z[j%z.length]?
 |0,j,h=>by simp at h
 | n+1,j,h=>by
  unfold Cs;have D:0<z.length:=by
   rcases xx z.length with H|H
   ·rw[H]at h;simp at h
   ·exact H
  by_cases T:j<z.length
  ·rw[List.getElem?_append_left T,Nat.mod_eq_of_lt T]
  ·have h':j<n*z.length+z.length:=by rw[xJ,Nat.one_mul]at h;exact h
   rw[List.getElem?_append_right (by omega),KC z n (j - z.length) (by omega),<-Nat.mod_eq_sub_mod (by omega)]
theorem D5(z:List AD):∀n,(Cs z n).length=n*z.length
 |0=>by simp[Cs]
 |n+1=>by simp[Cs,D5 z n,xJ];omega
theorem Ji{z:List AD}{z':Value}(D:B5 m z z'.cells.toList)(n k:Nat)(hk:k=n*z.length):B5 m (Cs z n) ((Array.range k).map λi=>z'.cells[i%z'.cells.size]!).toList:=by
 subst hk;have M:z.length=z'.cells.size:=by rw[D.1];simp
 refine⟨by simp[D5],λi x y N J=>?_⟩;have hi:i<n*z.length:=by have:=(List.getElem?_eq_some_iff.1 N).1;rwa [D5]at this
 rw[KC z n i hi]at N;have hzp:0<z.length:=by
  rcases xx z.length with H|H
  ·rw[H]at hi;simp at hi
  ·exact H
 have hm:i%z.length<z'.cells.size:=by rw[<-M];exact Nat.mod_lt _ hzp
 simp only[xW,Array.toList_range,List.getElem?_map,List.getElem?_range hi,q8,qU]at J;subst J;rw[<-M,getElem!_pos z'.cells (i%z.length) hm];exact D.2 _ x _ N (by simp[hm])
theorem Jx{z:List AD}(h:z.all AD.one=true):∀n,(Cs z n).all AD.one=true
 |0=>by simp[Cs]
 |n+1=>by simp only[Cs,List.all_append,h,Jx h n];rfl
theorem Ix{t:TypeId}{n:Nat}(h:B9 P t=some n):P.cellsOf t=n:=by
 unfold B9 at h;unfold Program.cellsOf;rw[h];rfl
theorem I0{t:TypeId}{l c:AD}{l' c':Value}{n:Pz}(M:VR m l l')(hc:VR m c c')(h:GW P t l c=some n):
  ∃v' w' E,(Instr.makeSlice t l' c').run P w=.ok v' w'/\KL P m w w' E n v':=by
 unfold GW at h;split at h
 ·rename_i e kl a kc b hu;have:=M.CG;subst this;have:=hc.CG;subst this;split at h
  ·rename_i i hi;split at h
   ·rename_i z D;split at h
    ·rename_i zc hzc;split at h
     ·rename_i S;obtain⟨b1,b2,b3,b4,b5,b6⟩:=S;injection h with h;subst h;cases G:i.zero with
      |none=>simp[G]at D
      | some zz=>
       simp only[G,q8,qU]at D;subst D;have C:=(VR.Pf m zz).cells hzc;have hzl:zc.length=zz.cells.size:=by rw[C.1];simp
       have O:B9 P e=some i.size:=by simp[B9,hi]
       have wl:IntKind.i64.wrap a=a:=by simp[IntKind.wrap,IntKind.signed,IntKind.bits];omega
       have wc:IntKind.i64.wrap b=b:=by simp[IntKind.wrap,IntKind.signed,IntKind.bits];omega
       have B:=Ji C b.toNat (b.toNat*i.size) (by rw[b5]);obtain⟨row,F⟩:∃row,row=((Array.range (b.toNat*i.size)).map λj=>zz.cells[j%zz.cells.size]!):=⟨_,rfl⟩;have K:row.size=b.toNat*i.size:=by rw[F];simp
       rw[<-F]at B;refine⟨.slice (some ⟨w.heap.size,0,none⟩) a.toNat b.toNat,w.alloc (.cells row e),⟨w.heap.size,0,i.size,b.toNat*i.size⟩,?_,Dn.alloc w _ _,rfl,by simp,λm' hm id hid=>⟨?_,?_⟩⟩
       ·have big1:¬(b<0):=by omega
        have big2:¬(((i.bytes:Int)*b)>2^48):=by omega
        have big3:¬(a<0):=by omega
        have big4:¬(a>b):=by omega
        have room:¬(b.toNat*i.bytes>roomBytes):=by
         have e1:((b.toNat*i.bytes:Nat):Int)=(i.bytes:Int)*b:=by
          rw[Int.natCast_mul,Int.toNat_of_nonneg (by omega),Int.mul_comm]
         simp only[roomBytes];omega
        have I:(zeroValue e).run P w=.ok zz w:=by simp[zeroValue,typeInfo,hi,G]
        have hti:(typeInfo e).run P w=.ok i w:=by simp[typeInfo,hi]
        have hcond:(((decide (b<0)||decide ((i.bytes:Int)*b>2^48))||decide (a<0)||decide (a>b))=true)=False:=by
         simp;omega
        simp only[Instr.makeSlice,Sem.run_bind,Ah w hu,Result.andThen_ok,asInt,asIntOf,Sem.run_pure,hti,wl,wc,Sem.run_ite,hcond,if_false,askRoom,xd room,run_sizeOf w O];by_cases H:b.toNat*i.size=0
        ·have hr0:row=#[]:=by apply Array.eq_empty_of_size_eq_zero;rw[K,H]
         simp[H,hr0,FX,Array.range_zero']
        ·simp only[xd H,I,Result.andThen_ok];rw[<-F];simp[FX]
       ·exact .slice id 0 a.toNat b.toNat _ _ hid (by omega) (λ_=>⟨by simp,λ_=>by simp⟩)
       ·exact JC (e:=e) (fz:=(0,0)) (heap_alloc_new w _) rfl (by simp[Kv,Ix O]) (by simp[K]) (by rw[D5,b5,<-K,xO (by simp)];exact B.mono hm) (Jx b6 _) (by simp)
     ·cases h
    ·cases h
   ·cases h
  ·cases h
 ·cases h
theorem K2{fr:Fr}{a:Act}(Q:FR m fr a){o:Oper}{n:Pz}(h:L1 P fr o.op=some n):∃v' w' E,(execOp a.eval o).run P w=.ok (.value v') w'/\KL P m w w' E n v':=by
 obtain⟨dst,op,ty,pos,aft,gd⟩:=o;simp only at h;have lift:∀{s:Sem Value},(∃v' w' E,s.run P w=.ok v' w'/\KL P m w w' E n v')->∃v' w' E,(do pure (.value (<-s)):Sem Next).run P w=.ok (.value v') w'/\KL P m w w' E n v':=by
  rintro s ⟨v',w',E,h1,L⟩;exact⟨v',w',E,by simp[h1],L⟩
 cases op with
 | alloc e=>
  simp only[L1]at h;cases D:GN P e with
  |none=>simp[D]at h
  |some z=>
   simp only[D,qQ]at h;obtain⟨i,zz,hi,G,hvz⟩:=Fp (m:=m) D;obtain⟨v',w',E,h1,L⟩:=Ho (P:=P) (t:=e) w hvz h;have I:(zeroValue e).run P w=.ok zz w:=by simp[zeroValue,typeInfo,hi,G]
   exact lift ⟨_,w',E,by simp[Instr.alloc,I,h1],L⟩
 |box e x=>
  simp only[L1]at h;obtain⟨v',w',E,h1,L⟩:=Ho (P:=P) (t:=e) w (Q.ev x) h;exact lift ⟨_,w',E,by simp[Instr.box,h1],L⟩
 |makeSlice t l c=>
  simp only[L1]at h;obtain⟨v',w',E,h1,L⟩:=I0 (P:=P) w (Q.ev l) (Q.ev c) h;exact lift ⟨v',w',E,h1,L⟩
 |_=>simp[L1]at h
end
end Go.Abs
