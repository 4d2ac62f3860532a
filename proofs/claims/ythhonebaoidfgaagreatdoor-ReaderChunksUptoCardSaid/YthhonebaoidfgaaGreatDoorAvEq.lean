/-
 A part.
-/
import Derived.Test.YthhonebaoidfgaaGreatDoorAvHeap
import Derived.Laws.Tables
import Derived.Laws.Strings
import Derived.Laws.StructEq
import Derived.ChangeKeysEq
set_option linter.unusedSimpArgs false
namespace Go.Av
open Go.RowKit
section
variable {P:Program} (w:World)
theorem BE{t:TypeId}{d:TypeDesc}(h:P.underlying t=some d):(underlying t).run P w=.ok d w:=run_underlying h w
theorem run_sizeOf{t:TypeId}{n:Nat}(h:DK P t=some n):(sizeOf t).run P w=.ok n w:=by
 unfold DK at h;cases hi:P.info? t with
 |none=>simp[hi]at h
 |some i=>simp[hi]at h;subst h;simp[sizeOf,typeInfo,hi]
theorem N7{t:TypeId}{b:Bool}(h:La P t=some b):(isAgg t).run P w=.ok b w:=by
 unfold La at h;cases hu:P.underlying t with
 |none=>simp[hu]at h
 |some d=>
  simp only[isAgg,Sem.run_bind,BE w hu,Result.andThen_ok];rw[hu]at h;cases d<;>simp at h<;>subst h<;>rfl
theorem Ja{m:Bk}{t:TypeId}{cs:List AD}{ds:Array Value}{off:Nat}{x:AD}(G:DD m cs ds.toList)(h:GU P t cs off=some x):
  ∃y,(part t ds off).run P w=.ok y w/\VR m x y:=by
 unfold GU at h;cases E:La P t with
 |none=>simp[E]at h
 | some b=>
  cases b with
  | true=>
   simp only[E]at h;cases F:DK P t with
   |none=>simp[F]at h
   | some n=>
    simp only[F,za]at h;split at h
    ·rename_i hle;injection h with h;subst h;refine⟨.agg (ds.extract off (off+n)),by simp[part,N7 w E,run_sizeOf w F],DD.agg ?_⟩;have:=(G.drop off).take n;simpa[Array.toList_extract]using this
    ·cases h
  |false=>
   simp only[E]at h;obtain⟨y,B,G⟩:=G.at_ h;have hy':ds[off]?=some y:=by simpa using B
   exact⟨y,by simp[part,N7 w E,hy'],G⟩
theorem P0{m:Bk}(eq:TypeId->AD->AD->Option Bool)(d:Nat)
  (ih:∀t x y x' y' b,VR m x x'->VR m y y'->eq t x y=some b->(Op.equalIn d t x' y').run P w=.ok b w)
  (xs ys:List AD) (xs' ys':Array Value) (C:DD m xs xs'.toList) (B:DD m ys ys'.toList):
  ∀(fs:List Field) (b:Bool),eqFields P eq xs ys fs=some b->(Op.eqFields d xs' ys' fs).run P w=.ok b w
 |[],b,h=>by simp[eqFields]at h;subst h;simp[Op.eqFields]
 | f ::fs,b,h=>by
  have rec_:=P0 eq d ih xs ys xs' ys' C B fs b;unfold eqFields at h;unfold Op.eqFields;by_cases F:f.name="_"
  ·rw[zl F]at h;rw[zj (by simpa using F)];exact rec_ h
  ·rw[zj F]at h;rw[zl F];split at h
   ·rename_i a c E hc;obtain⟨a',ra,va⟩:=Ja w C E;obtain⟨c',rc,vc⟩:=Ja w B hc;split at h
    ·rename_i he;have:=ih _ _ _ _ _ _ va vc he;simpa[ra,rc,this]using rec_ h
    ·rename_i he;injection h with h;subst h;have:=ih _ _ _ _ _ _ va vc he;simp[ra,rc,this]
    ·cases h
   ·cases h
theorem Qo{m:Bk}(eq:TypeId->AD->AD->Option Bool)(d:Nat)
  (ih:∀t x y x' y' b,VR m x x'->VR m y y'->eq t x y=some b->(Op.equalIn d t x' y').run P w=.ok b w)
  (e:TypeId) (z:Nat) (xs ys:List AD) (xs' ys':Array Value) (C:DD m xs xs'.toList) (B:DD m ys ys'.toList):
  ∀(n i:Nat) (b:Bool),KA P eq e z xs ys n i=some b->(Op.eqItems d e z xs' ys' (List.range' i n)).run P w=.ok b w
 |0,i,b,h=>by simp[KA]at h;subst h;simp[Op.eqItems]
 | n+1,i,b,h=>by
  have rec_:=Qo eq d ih e z xs ys xs' ys' C B n (i+1) b;unfold KA at h;rw[List.range'_succ];unfold Op.eqItems;split at h
  ·rename_i a c E hc;obtain⟨a',ra,va⟩:=Ja w C E;obtain⟨c',rc,vc⟩:=Ja w B hc;split at h
   ·rename_i he;have:=ih _ _ _ _ _ _ va vc he;simpa[ra,rc,this]using rec_ h
   ·rename_i he;injection h with h;subst h;have:=ih _ _ _ _ _ _ va vc he;simp[ra,rc,this]
   ·cases h
  ·cases h
theorem Zx(a b:List UInt8):((⟨⟨a⟩⟩:ByteArray)==⟨⟨b⟩⟩)=(a==b):=by
 rw[beq_toListBytes,ByteArray.toList_eq,ByteArray.toList_eq]
theorem LA{m:Bk}:∀(d:Nat) (t:TypeId) (x y:AD) (x' y':Value) (b:Bool),VR m x x'->VR m y y'->Il P d t x y=some b->(Op.equalIn d t x' y').run P w=.ok b w
 |0,_,_,_,_,_,_,_,_,h=>by simp[Il]at h
 | d +1,t,x,y,x',y',b,C,B,h=>by
  have ih:=LA (m:=m) d;unfold Il at h;cases hu:P.underlying t with
  |none=>simp[hu]at h
  | some u=>
   rw[hu]at h;split at h
   ·rename_i e;injection e with e;subst e;injection h with h;subst h;cases C;cases B;simp[Op.equalIn,BE w hu]
   ·rename_i e;injection e with e;subst e;cases C;cases B;split at h
    ·rename_i hk;injection h with h;subst h;subst hk;simp[Op.equalIn,BE w hu]
    ·cases h
   ·rename_i e;injection e with e;subst e;injection h with h;subst h;rw[C.Em,B.Em];simp[Op.equalIn,BE w hu,Zx]
   ·rename_i e;injection e with e;subst e;injection h with h;subst h;cases C;cases B<;>simp[Op.equalIn,BE w hu]
   ·rename_i e;injection e with e;subst e;injection h with h;subst h;cases C;cases B<;>simp[Op.equalIn,BE w hu]
   ·rename_i e;injection e with e;subst e;injection h with h;subst h;cases C;cases B<;>simp[Op.equalIn,BE w hu]
   ·rename_i e;injection e with e;subst e;injection h with h;subst h;cases C;cases B<;>simp[Op.equalIn,BE w hu]
   ·rename_i e;injection e with e;subst e;injection h with h;subst h;cases C;cases B<;>simp[Op.equalIn,BE w hu]
   ·rename_i e;injection e with e;subst e;injection h with h;subst h;cases C;cases B<;>simp[Op.equalIn,BE w hu]
   ·rename_i e;injection e with e;subst e;injection h with h;subst h;cases C;cases B<;>simp[Op.equalIn,BE w hu]
   ·rename_i e;injection e with e;subst e;injection h with h;subst h;cases C;cases B<;>simp[Op.equalIn,BE w hu]
   ·rename_i fs xs ys e;injection e with e;subst e;obtain⟨xs',rfl,vx⟩:=C.Hf;obtain⟨ys',rfl,vy⟩:=B.Hf;split at h
    ·cases h
    ·rename_i hs;have I:P.fieldsOf t=fs:=by simp[Program.fieldsOf,hu]
     rw[run_equalIn_struct w d t xs' ys' (by rw[I];exact hu) (by simpa using hs),I];exact P0 w (Il P d) d ih _ _ _ _ vx vy _ _ h
   ·rename_i n e xs ys eq;injection eq with eq;subst eq;obtain⟨xs',rfl,vx⟩:=C.Hf;obtain⟨ys',rfl,vy⟩:=B.Hf;cases H:DK P e with
    |none=>simp[H]at h
    | some z=>
     rw[H,za]at h;have D:=H;unfold DK at D;cases hi:P.info? e with
     |none=>simp[hi]at D
     |some i=>
      have hc:P.cellsOf e=z:=by simp[hi]at D;simp[Program.cellsOf,hi,D]
      rw[run_equalIn_array w d xs' ys' hu hi,hc,List.range_eq_range'];exact Qo w (Il P d) d ih e z _ _ _ _ vx vy _ _ _ h
   ·cases h
end
end Go.Av
