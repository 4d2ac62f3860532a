/-
 A part.
-/
import Derived.Test.YtfgmnhjedmkpeaaAbsHeap
import Derived.Laws.Tables
import Derived.Laws.Strings
import Derived.Laws.StructEq
import Derived.ChangeKeysEq
set_option linter.unusedSimpArgs false
namespace Go.Abs
open Go.RowKit
section
variable {P:Program} (w:World)
theorem Ah{t:TypeId}{d:TypeDesc}(h:P.underlying t=some d):(underlying t).run P w=.ok d w:=run_underlying h w
theorem run_sizeOf{t:TypeId}{n:Nat}(h:B9 P t=some n):(sizeOf t).run P w=.ok n w:=by
 unfold B9 at h;cases hi:P.info? t with
 |none=>simp[hi]at h
 |some i=>simp[hi]at h;subst h;simp[sizeOf,typeInfo,hi]
theorem HZ{t:TypeId}{b:Bool}(h:Hi P t=some b):(isAgg t).run P w=.ok b w:=by
 unfold Hi at h;cases hu:P.underlying t with
 |none=>simp[hu]at h
 |some d=>
  simp only[isAgg,Sem.run_bind,Ah w hu,Result.andThen_ok];rw[hu]at h;cases d<;>simp at h<;>subst h<;>rfl
theorem FL{m:BU}{t:TypeId}{cs:List AD}{ds:Array Value}{off:Nat}{x:AD}(G:B5 m cs ds.toList)(h:EV P t cs off=some x):
  ∃y,(part t ds off).run P w=.ok y w/\VR m x y:=by
 unfold EV at h;cases E:Hi P t with
 |none=>simp[E]at h
 | some b=>
  cases b with
  | true=>
   simp only[E]at h;cases F:B9 P t with
   |none=>simp[F]at h
   | some n=>
    simp only[F,qQ]at h;split at h
    ·rename_i hle;injection h with h;subst h;refine⟨.agg (ds.extract off (off+n)),by simp[part,HZ w E,run_sizeOf w F],B5.agg ?_⟩;have:=(G.drop off).take n;simpa[Array.toList_extract]using this
    ·cases h
  |false=>
   simp only[E]at h;obtain⟨y,B,G⟩:=G.at_ h;have hy':ds[off]?=some y:=by simpa using B
   exact⟨y,by simp[part,HZ w E,hy'],G⟩
theorem IT{m:BU}(eq:TypeId->AD->AD->Option Bool)(d:Nat)
  (ih:∀t x y x' y' b,VR m x x'->VR m y y'->eq t x y=some b->(Op.equalIn d t x' y').run P w=.ok b w)
  (xs ys:List AD) (xs' ys':Array Value) (C:B5 m xs xs'.toList) (B:B5 m ys ys'.toList):
  ∀(fs:List Field) (b:Bool),eqFields P eq xs ys fs=some b->(Op.eqFields d xs' ys' fs).run P w=.ok b w
 |[],b,h=>by simp[eqFields]at h;subst h;simp[Op.eqFields]
 | f ::fs,b,h=>by
  have rec_:=IT eq d ih xs ys xs' ys' C B fs b;unfold eqFields at h;unfold Op.eqFields;by_cases F:f.name="_"
  ·rw[xf F]at h;rw[xd (by simpa using F)];exact rec_ h
  ·rw[xd F]at h;rw[xf F];split at h
   ·rename_i a c E hc;obtain⟨a',ra,va⟩:=FL w C E;obtain⟨c',rc,vc⟩:=FL w B hc;split at h
    ·rename_i he;have:=ih _ _ _ _ _ _ va vc he;simpa[ra,rc,this]using rec_ h
    ·rename_i he;injection h with h;subst h;have:=ih _ _ _ _ _ _ va vc he;simp[ra,rc,this]
    ·cases h
   ·cases h
theorem JG{m:BU}(eq:TypeId->AD->AD->Option Bool)(d:Nat)
  (ih:∀t x y x' y' b,VR m x x'->VR m y y'->eq t x y=some b->(Op.equalIn d t x' y').run P w=.ok b w)
  (e:TypeId) (z:Nat) (xs ys:List AD) (xs' ys':Array Value) (C:B5 m xs xs'.toList) (B:B5 m ys ys'.toList):
  ∀(n i:Nat) (b:Bool),GQ P eq e z xs ys n i=some b->(Op.eqItems d e z xs' ys' (List.range' i n)).run P w=.ok b w
 |0,i,b,h=>by simp[GQ]at h;subst h;simp[Op.eqItems]
 | n+1,i,b,h=>by
  have rec_:=JG eq d ih e z xs ys xs' ys' C B n (i+1) b;unfold GQ at h;rw[List.range'_succ];unfold Op.eqItems;split at h
  ·rename_i a c E hc;obtain⟨a',ra,va⟩:=FL w C E;obtain⟨c',rc,vc⟩:=FL w B hc;split at h
   ·rename_i he;have:=ih _ _ _ _ _ _ va vc he;simpa[ra,rc,this]using rec_ h
   ·rename_i he;injection h with h;subst h;have:=ih _ _ _ _ _ _ va vc he;simp[ra,rc,this]
   ·cases h
  ·cases h
theorem OH(a b:List UInt8):((⟨⟨a⟩⟩:ByteArray)==⟨⟨b⟩⟩)=(a==b):=by
 rw[beq_toListBytes,ByteArray.toList_eq,ByteArray.toList_eq]
theorem G2{m:BU}:∀(d:Nat) (t:TypeId) (x y:AD) (x' y':Value) (b:Bool),VR m x x'->VR m y y'->Hb P d t x y=some b->(Op.equalIn d t x' y').run P w=.ok b w
 |0,_,_,_,_,_,_,_,_,h=>by simp[Hb]at h
 | d +1,t,x,y,x',y',b,C,B,h=>by
  have ih:=G2 (m:=m) d;unfold Hb at h;cases hu:P.underlying t with
  |none=>simp[hu]at h
  | some u=>
   rw[hu]at h;split at h
   ·rename_i e;injection e with e;subst e;injection h with h;subst h;cases C;cases B;simp[Op.equalIn,Ah w hu]
   ·rename_i e;injection e with e;subst e;cases C;cases B;split at h
    ·rename_i hk;injection h with h;subst h;subst hk;simp[Op.equalIn,Ah w hu]
    ·cases h
   ·rename_i e;injection e with e;subst e;injection h with h;subst h;rw[C.C3,B.C3];simp[Op.equalIn,Ah w hu,OH]
   ·rename_i e;injection e with e;subst e;injection h with h;subst h;cases C;cases B<;>simp[Op.equalIn,Ah w hu]
   ·rename_i e;injection e with e;subst e;injection h with h;subst h;cases C;cases B;simp[Op.equalIn,Ah w hu]
   ·rename_i e;injection e with e;subst e;injection h with h;subst h;cases C;cases B<;>simp[Op.equalIn,Ah w hu]
   ·rename_i e;injection e with e;subst e;injection h with h;subst h;cases C;cases B;simp[Op.equalIn,Ah w hu]
   ·rename_i e;injection e with e;subst e;injection h with h;subst h;cases C;cases B<;>simp[Op.equalIn,Ah w hu]
   ·rename_i e;injection e with e;subst e;injection h with h;subst h;cases C;cases B;simp[Op.equalIn,Ah w hu]
   ·rename_i e;injection e with e;subst e;injection h with h;subst h;cases C;cases B;simp[Op.equalIn,Ah w hu]
   ·rename_i e;injection e with e;subst e;injection h with h;subst h;cases C;cases B;simp[Op.equalIn,Ah w hu]
   ·rename_i e;injection e with e;subst e;injection h with h;subst h;cases C;cases B;simp[Op.equalIn,Ah w hu]
   ·rename_i fs xs ys e;injection e with e;subst e;obtain⟨xs',rfl,vx⟩:=C.D1;obtain⟨ys',rfl,vy⟩:=B.D1;split at h
    ·cases h
    ·rename_i hs;have I:P.fieldsOf t=fs:=by simp[Program.fieldsOf,hu]
     rw[run_equalIn_struct w d t xs' ys' (by rw[I];exact hu) (by simpa using hs),I];exact IT w (Hb P d) d ih _ _ _ _ vx vy _ _ h
   ·rename_i n e xs ys eq;injection eq with eq;subst eq;obtain⟨xs',rfl,vx⟩:=C.D1;obtain⟨ys',rfl,vy⟩:=B.D1;cases H:B9 P e with
    |none=>simp[H]at h
    | some z=>
     rw[H,qQ]at h;have D:=H;unfold B9 at D;cases hi:P.info? e with
     |none=>simp[hi]at D
     |some i=>
      have hc:P.cellsOf e=z:=by simp[hi]at D;simp[Program.cellsOf,hi,D]
      rw[run_equalIn_array w d xs' ys' hu hi,hc,List.range_eq_range'];exact JG w (Hb P d) d ih e z _ _ _ _ vx vy _ _ _ h
   ·cases h
end
end Go.Abs
