/-
 A part.
-/
import Derived.Test.YtfgmnhjedmkpeaaAbsHeap
import Derived.Laws.Tables
import Derived.Laws.Strings
import Derived.Laws.StructEq
import Derived.ChangeKeysEq
set_option linter.unusedSimpArgs false
namespace Go.Abs
open Go.RowKit
section
variable {P:Program} (w:World)
theorem AI{t:TypeId}{d:TypeDesc}(h:P.underlying t=some d):(underlying t).run P w=.ok d w:=run_underlying h w
theorem run_sizeOf{t:TypeId}{n:Nat}(h:BK P t=some n):(sizeOf t).run P w=.ok n w:=by
 unfold BK at h;cases G:P.info? t with
 |none=>simp[G]at h
 |some i=>simp[G]at h;subst h;simp[sizeOf,typeInfo,G]
theorem F7{t:TypeId}{b:Bool}(h:Er P t=some b):(isAgg t).run P w=.ok b w:=by
 unfold Er at h;cases hu:P.underlying t with
 |none=>simp[hu]at h
 |some d=>
  simp only[isAgg,Sem.run_bind,AI w hu,Result.andThen_ok];rw[hu]at h;cases d<;>simp at h<;>subst h<;>rfl
theorem Dq{m:Aj}{t:TypeId}{cs:List AA}{ds:Array Value}{off:Nat}{x:AA}(H:BT m cs ds.toList)(h:Dw P t cs off=some x):
  ∃y,(part t ds off).run P w=.ok y w/\VR m x y:=by
 unfold Dw at h;cases E:Er P t with
 |none=>simp[E]at h
 | some b=>
  cases b with
  | true=>
   simp only[E]at h;cases F:BK P t with
   |none=>simp[F]at h
   | some n=>
    simp only[F,qW]at h;split at h
    ·rename_i hle;injection h with h;subst h;refine⟨.agg (ds.extract off (off+n)),by simp[part,F7 w E,run_sizeOf w F],BT.agg ?_⟩;have:=(H.drop off).take n;simpa[Array.toList_extract]using this
    ·cases h
  |false=>
   simp only[E]at h;obtain⟨y,B,H⟩:=H.at_ h;have hy':ds[off]?=some y:=by simpa using B
   exact⟨y,by simp[part,F7 w E,hy'],H⟩
theorem G1{m:Aj}(eq:TypeId->AA->AA->Option Bool)(d:Nat)
  (ih:∀t x y x' y' b,VR m x x'->VR m y y'->eq t x y=some b->(Op.equalIn d t x' y').run P w=.ok b w)
  (xs ys:List AA) (xs' ys':Array Value) (C:BT m xs xs'.toList) (B:BT m ys ys'.toList):
  ∀(fs:List Field) (b:Bool),eqFields P eq xs ys fs=some b->(Op.eqFields d xs' ys' fs).run P w=.ok b w
 |[],b,h=>by simp[eqFields]at h;subst h;simp[Op.eqFields]
 | f ::fs,b,h=>by
  have rec_:=G1 eq d ih xs ys xs' ys' C B fs b;unfold eqFields at h;unfold Op.eqFields;by_cases F:f.name="_"
  ·rw[xj F]at h;rw[xg (by simpa using F)];exact rec_ h
  ·rw[xg F]at h;rw[xj F];split at h
   ·rename_i a c E hc;obtain⟨a',ra,va⟩:=Dq w C E;obtain⟨c',rc,vc⟩:=Dq w B hc;split at h
    ·rename_i he;have:=ih _ _ _ _ _ _ va vc he;simpa[ra,rc,this]using rec_ h
    ·rename_i he;injection h with h;subst h;have:=ih _ _ _ _ _ _ va vc he;simp[ra,rc,this]
    ·cases h
   ·cases h
theorem Hh{m:Aj}(eq:TypeId->AA->AA->Option Bool)(d:Nat)
  (ih:∀t x y x' y' b,VR m x x'->VR m y y'->eq t x y=some b->(Op.equalIn d t x' y').run P w=.ok b w)
  (e:TypeId) (z:Nat) (xs ys:List AA) (xs' ys':Array Value) (C:BT m xs xs'.toList) (B:BT m ys ys'.toList):
  ∀(n i:Nat) (b:Bool),GB P eq e z xs ys n i=some b->(Op.eqItems d e z xs' ys' (List.range' i n)).run P w=.ok b w
 |0,i,b,h=>by simp[GB]at h;subst h;simp[Op.eqItems]
 | n+1,i,b,h=>by
  have rec_:=Hh eq d ih e z xs ys xs' ys' C B n (i+1) b;unfold GB at h;rw[List.range'_succ];unfold Op.eqItems;split at h
  ·rename_i a c E hc;obtain⟨a',ra,va⟩:=Dq w C E;obtain⟨c',rc,vc⟩:=Dq w B hc;split at h
   ·rename_i he;have:=ih _ _ _ _ _ _ va vc he;simpa[ra,rc,this]using rec_ h
   ·rename_i he;injection h with h;subst h;have:=ih _ _ _ _ _ _ va vc he;simp[ra,rc,this]
   ·cases h
  ·cases h
theorem L5(a b:List UInt8):((⟨⟨a⟩⟩:ByteArray)==⟨⟨b⟩⟩)=(a==b):=by
 rw[beq_toListBytes,ByteArray.toList_eq,ByteArray.toList_eq]
theorem Ef{m:Aj}:∀(d:Nat) (t:TypeId) (x y:AA) (x' y':Value) (b:Bool),VR m x x'->VR m y y'->GZ P d t x y=some b->(Op.equalIn d t x' y').run P w=.ok b w
 |0,_,_,_,_,_,_,_,_,h=>by simp[GZ]at h
 | d +1,t,x,y,x',y',b,C,B,h=>by
  have ih:=Ef (m:=m) d;unfold GZ at h;cases hu:P.underlying t with
  |none=>simp[hu]at h
  | some u=>
   rw[hu]at h;split at h
   ·rename_i e;injection e with e;subst e;injection h with h;subst h;cases C;cases B;simp[Op.equalIn,AI w hu]
   ·rename_i e;injection e with e;subst e;cases C;cases B;split at h
    ·rename_i hk;injection h with h;subst h;subst hk;simp[Op.equalIn,AI w hu]
    ·cases h
   ·rename_i e;injection e with e;subst e;injection h with h;subst h;rw[C.CF,B.CF];simp[Op.equalIn,AI w hu,L5]
   ·rename_i e;injection e with e;subst e;injection h with h;subst h;cases C;cases B<;>simp[Op.equalIn,AI w hu]
   ·rename_i e;injection e with e;subst e;injection h with h;subst h;cases C;cases B;simp[Op.equalIn,AI w hu]
   ·rename_i e;injection e with e;subst e;injection h with h;subst h;cases C;cases B<;>simp[Op.equalIn,AI w hu]
   ·rename_i e;injection e with e;subst e;injection h with h;subst h;cases C;cases B;simp[Op.equalIn,AI w hu]
   ·rename_i e;injection e with e;subst e;injection h with h;subst h;cases C;cases B<;>simp[Op.equalIn,AI w hu]
   ·rename_i e;injection e with e;subst e;injection h with h;subst h;cases C;cases B;simp[Op.equalIn,AI w hu]
   ·rename_i e;injection e with e;subst e;injection h with h;subst h;cases C;cases B;simp[Op.equalIn,AI w hu]
   ·rename_i e;injection e with e;subst e;injection h with h;subst h;cases C;cases B;simp[Op.equalIn,AI w hu]
   ·rename_i e;injection e with e;subst e;injection h with h;subst h;cases C;cases B;simp[Op.equalIn,AI w hu]
   ·rename_i fs xs ys e;injection e with e;subst e;obtain⟨xs',rfl,vx⟩:=C.Cn;obtain⟨ys',rfl,vy⟩:=B.Cn;split at h
    ·cases h
    ·rename_i hs;have J:P.fieldsOf t=fs:=by simp[Program.fieldsOf,hu]
     rw[run_equalIn_struct w d t xs' ys' (by rw[J];exact hu) (by simpa using hs),J];exact G1 w (GZ P d) d ih _ _ _ _ vx vy _ _ h
   ·rename_i n e xs ys eq;injection eq with eq;subst eq;obtain⟨xs',rfl,vx⟩:=C.Cn;obtain⟨ys',rfl,vy⟩:=B.Cn;cases I:BK P e with
    |none=>simp[I]at h
    | some z=>
     rw[I,qW]at h;have D:=I;unfold BK at D;cases G:P.info? e with
     |none=>simp[G]at D
     |some i=>
      have hc:P.cellsOf e=z:=by simp[G]at D;simp[Program.cellsOf,G,D]
      rw[run_equalIn_array w d xs' ys' hu G,hc,List.range_eq_range'];exact Hh w (GZ P d) d ih e z _ _ _ _ vx vy _ _ _ h
   ·cases h
end
end Go.Abs
