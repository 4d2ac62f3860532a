/-
 A part.
-/
import Derived.Test.YtgkbpgefomapgaaGreatDoorAvHeap
import Derived.Laws.Tables
import Derived.Laws.Strings
import Derived.Laws.StructEq
import Derived.ChangeKeysEq
set_option linter.unusedSimpArgs false
namespace Go.Av
open Go.RowKit
section
variable {P:Program} (w:World)
theorem BJ{t:TypeId}{d:TypeDesc}(h:P.underlying t=some d):(underlying t).run P w=.ok d w:=run_underlying h w
theorem run_sizeOf{t:TypeId}{n:Nat}(h:Dn P t=some n):(sizeOf t).run P w=.ok n w:=by
 unfold Dn at h;cases hi:P.info? t with
 |none=>simp[hi]at h
 |some i=>simp[hi]at h;subst h;simp[sizeOf,typeInfo,hi]
theorem Mz{t:TypeId}{b:Bool}(h:Ly P t=some b):(isAgg t).run P w=.ok b w:=by
 unfold Ly at h;cases hu:P.underlying t with
 |none=>simp[hu]at h
 |some d=>
  simp only[isAgg,Sem.run_bind,BJ w hu,Result.andThen_ok];rw[hu]at h;cases d<;>simp at h<;>subst h<;>rfl
theorem JZ{m:CU}{t:TypeId}{cs:List AE}{ds:Array Value}{off:Nat}{x:AE}(G:Dt m cs ds.toList)(h:IN P t cs off=some x):
  ∃y,(part t ds off).run P w=.ok y w/\VR m x y:=by
 unfold IN at h;cases E:Ly P t with
 |none=>simp[E]at h
 | some b=>
  cases b with
  | true=>
   simp only[E]at h;cases F:Dn P t with
   |none=>simp[F]at h
   | some n=>
    simp only[F,za]at h;split at h
    ·rename_i hle;injection h with h;subst h;refine⟨.agg (ds.extract off (off+n)),by simp[part,Mz w E,run_sizeOf w F],Dt.agg ?_⟩;have:=(G.drop off).take n;simpa[Array.toList_extract]using this
    ·cases h
  |false=>
   simp only[E]at h;obtain⟨y,B,G⟩:=G.at_ h;have hy':ds[off]?=some y:=by simpa using B
   exact⟨y,by simp[part,Mz w E,hy'],G⟩
theorem N2{m:CU}(eq:TypeId->AE->AE->Option Bool)(d:Nat)
  (ih:∀t x y x' y' b,VR m x x'->VR m y y'->eq t x y=some b->(Op.equalIn d t x' y').run P w=.ok b w)
  (xs ys:List AE) (xs' ys':Array Value) (C:Dt m xs xs'.toList) (B:Dt m ys ys'.toList):
  ∀(fs:List Field) (b:Bool),eqFields P eq xs ys fs=some b->(Op.eqFields d xs' ys' fs).run P w=.ok b w
 |[],b,h=>by simp[eqFields]at h;subst h;simp[Op.eqFields]
 | f ::fs,b,h=>by
  have rec_:=N2 eq d ih xs ys xs' ys' C B fs b;unfold eqFields at h;unfold Op.eqFields;by_cases F:f.name="_"
  ·rw[zk F]at h;rw[zm (by simpa using F)];exact rec_ h
  ·rw[zm F]at h;rw[zk F];split at h
   ·rename_i a c E hc;obtain⟨a',ra,va⟩:=JZ w C E;obtain⟨c',rc,vc⟩:=JZ w B hc;split at h
    ·rename_i he;have:=ih _ _ _ _ _ _ va vc he;simpa[ra,rc,this]using rec_ h
    ·rename_i he;injection h with h;subst h;have:=ih _ _ _ _ _ _ va vc he;simp[ra,rc,this]
    ·cases h
   ·cases h
theorem Pa{m:CU}(eq:TypeId->AE->AE->Option Bool)(d:Nat)
  (ih:∀t x y x' y' b,VR m x x'->VR m y y'->eq t x y=some b->(Op.equalIn d t x' y').run P w=.ok b w)
  (e:TypeId) (z:Nat) (xs ys:List AE) (xs' ys':Array Value) (C:Dt m xs xs'.toList) (B:Dt m ys ys'.toList):
  ∀(n i:Nat) (b:Bool),L0 P eq e z xs ys n i=some b->(Op.eqItems d e z xs' ys' (List.range' i n)).run P w=.ok b w
 |0,i,b,h=>by simp[L0]at h;subst h;simp[Op.eqItems]
 | n+1,i,b,h=>by
  have rec_:=Pa eq d ih e z xs ys xs' ys' C B n (i+1) b;unfold L0 at h;rw[List.range'_succ];unfold Op.eqItems;split at h
  ·rename_i a c E hc;obtain⟨a',ra,va⟩:=JZ w C E;obtain⟨c',rc,vc⟩:=JZ w B hc;split at h
   ·rename_i he;have:=ih _ _ _ _ _ _ va vc he;simpa[ra,rc,this]using rec_ h
   ·rename_i he;injection h with h;subst h;have:=ih _ _ _ _ _ _ va vc he;simp[ra,rc,this]
   ·cases h
  ·cases h
theorem WV(a b:List UInt8):((⟨⟨a⟩⟩:ByteArray)==⟨⟨b⟩⟩)=(a==b):=by
 rw[beq_toListBytes,ByteArray.toList_eq,ByteArray.toList_eq]
theorem Ka{m:CU}:∀(d:Nat) (t:TypeId) (x y:AE) (x' y':Value) (b:Bool),VR m x x'->VR m y y'->Jc P d t x y=some b->(Op.equalIn d t x' y').run P w=.ok b w
 |0,_,_,_,_,_,_,_,_,h=>by simp[Jc]at h
 | d +1,t,x,y,x',y',b,C,B,h=>by
  have ih:=Ka (m:=m) d;unfold Jc at h;cases hu:P.underlying t with
  |none=>simp[hu]at h
  | some u=>
   rw[hu]at h;split at h
   ·rename_i e;injection e with e;subst e;injection h with h;subst h;cases C;cases B;simp[Op.equalIn,BJ w hu]
   ·rename_i e;injection e with e;subst e;cases C;cases B;split at h
    ·rename_i hk;injection h with h;subst h;subst hk;simp[Op.equalIn,BJ w hu]
    ·cases h
   ·rename_i e;injection e with e;subst e;injection h with h;subst h;rw[C.Ff,B.Ff];simp[Op.equalIn,BJ w hu,WV]
   ·rename_i e;injection e with e;subst e;injection h with h;subst h;cases C;cases B<;>simp[Op.equalIn,BJ w hu]
   ·rename_i e;injection e with e;subst e;injection h with h;subst h;cases C;cases B<;>simp[Op.equalIn,BJ w hu]
   ·rename_i e;injection e with e;subst e;injection h with h;subst h;cases C;cases B<;>simp[Op.equalIn,BJ w hu]
   ·rename_i e;injection e with e;subst e;injection h with h;subst h;cases C;cases B<;>simp[Op.equalIn,BJ w hu]
   ·rename_i e;injection e with e;subst e;injection h with h;subst h;cases C;cases B<;>simp[Op.equalIn,BJ w hu]
   ·rename_i e;injection e with e;subst e;injection h with h;subst h;cases C;cases B<;>simp[Op.equalIn,BJ w hu]
   ·rename_i e;injection e with e;subst e;injection h with h;subst h;cases C;cases B<;>simp[Op.equalIn,BJ w hu]
   ·rename_i e;injection e with e;subst e;injection h with h;subst h;cases C;cases B<;>simp[Op.equalIn,BJ w hu]
   ·rename_i fs xs ys e;injection e with e;subst e;obtain⟨xs',rfl,vx⟩:=C.Hn;obtain⟨ys',rfl,vy⟩:=B.Hn;split at h
    ·cases h
    ·rename_i hs;have I:P.fieldsOf t=fs:=by simp[Program.fieldsOf,hu]
     rw[run_equalIn_struct w d t xs' ys' (by rw[I];exact hu) (by simpa using hs),I];exact N2 w (Jc P d) d ih _ _ _ _ vx vy _ _ h
   ·rename_i n e xs ys eq;injection eq with eq;subst eq;obtain⟨xs',rfl,vx⟩:=C.Hn;obtain⟨ys',rfl,vy⟩:=B.Hn;cases H:Dn P e with
    |none=>simp[H]at h
    | some z=>
     rw[H,za]at h;have D:=H;unfold Dn at D;cases hi:P.info? e with
     |none=>simp[hi]at D
     |some i=>
      have hc:P.cellsOf e=z:=by simp[hi]at D;simp[Program.cellsOf,hi,D]
      rw[run_equalIn_array w d xs' ys' hu hi,hc,List.range_eq_range'];exact Pa w (Jc P d) d ih e z _ _ _ _ vx vy _ _ _ h
   ·cases h
end
end Go.Av
