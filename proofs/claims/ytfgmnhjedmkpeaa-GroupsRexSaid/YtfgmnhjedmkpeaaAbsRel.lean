/-
 A part.
-/
import Derived.Test.YtfgmnhjedmkpeaaAbsDef
import Derived.Below
import Derived.Laws.Entries
set_option linter.unusedSimpArgs false
namespace Go.Abs
open Go.RowKit
theorem GS{α:Type}(i j:Nat)(a b:α):(bif Nat.beq i j then a else b)=if i=j then a else b:=by
 by_cases h:i=j
 ·subst h;simp[wg]
 ·have:Nat.beq i j=false:=by
   cases e:Nat.beq i j
   ·rfl
   ·exact absurd (xu e) h
  simp[this,h]
theorem Tr.HN{α:Type}(l r:Tr α)(v:Option α)(j:Nat):(Tr.node l v r).get j=if j=0 then v else if j%2=1 then l.get (j / 2)else r.get (j / 2 - 1):=by
 simp only[Tr.get,GS]
theorem Tr.PB{α:Type}(f:Nat)(l r:Tr α)(v:Option α)(i:Nat)(x:α):Tr.set (f+1) (.node l v r) i x=
  if i=0 then .node l (some x) r else if i%2=1 then .node (Tr.set f l (i / 2) x) v r else .node l v (Tr.set f r (i / 2 - 1) x):=by
 simp only[Tr.set,GS]
theorem Tr.PA{α:Type}(f:Nat)(i:Nat)(x:α):Tr.set (f+1) .leaf i x=Tr.set (f+1) (.node .leaf none .leaf) i x:=by
 simp only[Tr.set]
theorem Tr.G5{α:Type}:∀(f:Nat) (t:Tr α) (i j:Nat) (x:α),i<f->(Tr.set f t i x).get j=if j=i then some x else t.get j
 |0,_,_,_,_,h=>absurd h (by omega)
 | f + 1,t,i,j,x,h=>by
  have ih:=λt i j=>Tr.G5 f t i j x;have key:∀l v r,(Tr.set (f+1) (.node l v r) i x).get j=if j=i then some x else(Tr.node l v r).get j:=by
   intro l v r;rw[Tr.PB,Tr.HN];by_cases hi:i=0
   ·subst hi;rw[xf rfl,Tr.HN];by_cases F:j=0
    ·rw[xf F,xf F]
    ·simp only[xd F]
   ·rw [xd hi];by_cases h1:i%2=1
    ·rw[xf h1,Tr.HN];by_cases F:j=0
     ·rw[xf F,xf F,xd (by omega)]
     ·rw[xd F,xd F];by_cases I:j%2=1
      ·rw[xf I,xf I,ih _ _ _ (by omega)];by_cases J:j=i
       ·rw[xf J,xf (by omega)]
       ·rw[xd J,xd (by omega)]
      ·rw[xd I,xd I,xd (by omega)]
    ·rw[xd h1,Tr.HN];by_cases F:j=0
     ·rw[xf F,xf F,xd (by omega)]
     ·rw[xd F,xd F];by_cases I:j%2=1
      ·rw[xf I,xf I,xd (by omega)]
      ·rw[xd I,xd I,ih _ _ _ (by omega)];by_cases J:j=i
       ·rw[xf J,xf (by omega)]
       ·rw[xd J,xd (by omega)]
  cases t with
  |node l v r=>exact key l v r
  |leaf=>
   rw[Tr.PA,key];congr 1;rw[Tr.HN];simp[Tr.get]
section
variable (h:AE)
@[simp] theorem AE.size_set (i:Nat) (o:Br):(h.set i o).size=h.size:=rfl
@[simp] theorem AE.size_push (o:Br):(h.push o).size=h.size+1:=rfl
theorem AE.GF{i:Nat}(hi:h.size<=i):h.get i=none:=by
 have:Nat.blt i h.size=false:=by
  cases e:Nat.blt i h.size
  ·rfl
  ·rw[wb]at e;omega
 simp[AE.get,this]
theorem AE.BZ{i:Nat}{o:Br}(hi:h.get i=some o):i<h.size:=by
 rcases xk i h.size with G|G
 ·exact G
 ·rw[h.GF G]at hi;cases hi
theorem AE.get_eq{i:Nat}(hi:i<h.size):h.get i=h.tr.get i:=by
 have:Nat.blt i h.size=true:=by rw[wb];exact hi
 simp[AE.get,this]
theorem AE.G5(i j:Nat)(o:Br)(hi:i<h.size):(h.set i o).get j=if j=i then some o else h.get j:=by
 by_cases F:j<h.size
 ·rw[AE.get_eq _ (by simpa using F),AE.get_eq _ F];exact Tr.G5 _ _ _ _ _ (by omega)
 ·rw[AE.GF _ (by simpa using Nat.le_of_not_lt F),AE.GF _ (Nat.le_of_not_lt F),xd (by omega)]
theorem AE.Cf{i:Nat}(o:Br)(hi:i<h.size):(h.set i o).get i=some o:=by rw[h.G5 _ _ _ hi,xf rfl]
theorem AE.Cj{i j:Nat}(o:Br)(hi:i<h.size)(hne:j≠i):(h.set i o).get j=h.get j:=by rw[h.G5 _ _ _ hi,xd hne]
theorem AE.KA(o:Br)(j:Nat):(h.push o).get j=if j=h.size then some o else h.get j:=by
 by_cases F:j<h.size+1
 ·rw[AE.get_eq _ (by simpa using F)];show(Tr.set (h.size+1) h.tr h.size o).get j=_;rw[Tr.G5 _ _ _ _ _ (by omega)];by_cases e:j=h.size
  ·simp[e]
  ·rw[xd e,xd e,AE.get_eq _ (by omega)]
 ·rw[AE.GF _ (by simp;omega),xd (by omega),AE.GF _ (by omega)]
theorem AE.Bh(o:Br):(h.push o).get h.size=some o:=by rw[h.KA,xf rfl]
theorem AE.Cc(o:Br){j:Nat}(F:j<h.size):(h.push o).get j=h.get j:=by rw[h.KA,xd (by omega)]
end
theorem H0:∀(l:List AD) (i:Nat),nth l i=l.getD i (.tuple [])
 |[],i=>by simp[nth]
 |a::l,0=>by simp[nth]
 |a::l,i+1=>by simpa[nth]using H0 l i
theorem GR(l:List AD)(i j:Nat)(v:AD):nth (l.set i v) j=if i=j/\i<l.length then v else nth l j:=by
 simp only[H0,qY,List.getElem?_set];by_cases h:i=j
 ·subst h;by_cases G:i<l.length<;>simp[G]
 ·simp[h]
@[simp] theorem Rf (fr:Fr) (d:Option Tmp) (v:AD):(put fr d v).length=fr.length:=by cases d<;>simp[put]
structure Ii where
 g:Nat
 base:Nat
 QG:Nat
 total:Nat
abbrev BU:=Nat->Option Ii
inductive VR(m:BU):AD->Value->Prop where
 |undef (v:Value):VR m .undef v
 |bool (b:Bool):VR m (.bool b) (.bool b)
 |int (k:IntKind) (n:Int):VR m (.int k n) (.int k n)
 |str (s:ByteArray):VR m (.str s.data.toList) (.string s)
 |Il:VR m (.ptr none) (.pointer none)
 |ptr (id o:Nat) (E:Ii):m id=some E->VR m (.ptr (some (id,o))) (.pointer (some ⟨E.g,E.base+o,none⟩))
 |GM (g o:Nat):VR m (.GM g o) (.pointer (some ⟨g,o,none⟩))
 |Db:VR m (.slice none 0) (.slice none 0 0)
 |slice (id o len cap:Nat) (E:Ii) (a:Addr):m id=some E->len<=cap->(cap≠0->a=⟨E.g,E.base+o,none⟩/\(E.QG≠0->E.base+o+cap*E.QG<=E.total))->VR m (.slice (some (id,o)) len) (.slice (some a) len cap)
 |Iv:VR m (.map none) (.map none)
 |map (id:Nat) (E:Ii):m id=some E->VR m (.map (some id)) (.map (some E.g))
 |Hc:VR m (.chan none) (.chan none)
 |func (fn:Fn) (a b:List AD) (c d:Array Value):a.length=c.size->(∀(i:Nat) (x:AD) (y:Value),a[i]?=some x->c[i]?=some y->VR m x y)->b.length=d.size->(∀(i:Nat) (x:AD) (y:Value),b[i]?=some x->d[i]?=some y->VR m x y)->VR m (.func fn a b) (.func fn c d)
 |nilFunc:VR m .nilFunc .nilFunc
 |iface (t:TypeId) (x:AD) (y:Value):VR m x y->VR m (.iface t x) (.iface t y)
 |nilIface:VR m .nilIface .nilIface
 |agg (a:List AD) (c:Array Value):a.length=c.size->(∀(i:Nat) (x:AD) (y:Value),a[i]?=some x->c[i]?=some y->VR m x y)->VR m (.agg a) (.agg c)
 |tuple (a:List AD) (c:Array Value):a.length=c.size->(∀(i:Nat) (x:AD) (y:Value),a[i]?=some x->c[i]?=some y->VR m x y)->VR m (.tuple a) (.tuple c)
def B5(m:BU)(a:List AD)(c:List Value):Prop:=a.length=c.length/\∀(i:Nat) (x:AD) (y:Value),a[i]?=some x->c[i]?=some y->VR m x y
def BU.le(m m':BU):Prop:=∀id E,m id=some E->m' id=some E
theorem VR.mono{m m':BU}(hm:m.le m'){x:AD}{y:Value}(h:VR m x y):VR m' x y:=by
 induction h with
 |undef v=>exact .undef v
 |bool b=>exact .bool b
 |int k n=>exact .int k n
 |str s=>exact .str s
 |Il=>exact .Il
 |ptr id o E h=>exact .ptr id o E (hm _ _ h)
 |GM g o=>exact .GM g o
 |Db=>exact .Db
 |slice id o len cap E a h G hc=>exact .slice id o len cap E a (hm _ _ h) G hc
 |Iv=>exact .Iv
 |map id E h=>exact .map id E (hm _ _ h)
 |Hc=>exact .Hc
 |func fn a b c d h1 _ I _ i1 i2=>exact .func fn a b c d h1 i1 I i2
 |nilFunc=>exact .nilFunc
 |iface t x y _ ih=>exact .iface t x y ih
 |nilIface=>exact .nilIface
 |agg a c h _ ih=>exact .agg a c h ih
 |tuple a c h _ ih=>exact .tuple a c h ih
theorem VR.back{m m':BU}(hm:m.le m'){x:AD}{y:Value}(h:VR m x y):∀{z:Value},VR m' x z->VR m x z:=by
 induction h with
 |undef v=>intro z _;exact .undef z
 |bool b=>intro z C;cases C;exact .bool b
 |int k n=>intro z C;cases C;exact .int k n
 |str s=>intro z C;generalize hs:s.data.toList=l at C;cases C;exact .str _
 |Il=>intro z C;cases C;exact .Il
 | ptr id o E h=>
  intro z C;cases C with
  |ptr _ _ E' h'=>
   have:=(hm _ _ h).symm.trans h';injection this with this;subst this;exact .ptr id o _ h
 |GM g o=>intro z C;cases C;exact .GM g o
 |Db=>intro z C;cases C;exact .Db
 | slice id o len cap E a h G hc=>
  intro z C;cases C with
  |slice _ _ _ cap' E' a' h' hl' hc'=>
   have:=(hm _ _ h).symm.trans h';injection this with this;subst this;exact .slice id o len cap' _ a' h hl' hc'
 |Iv=>intro z C;cases C;exact .Iv
 | map id E h=>
  intro z C;cases C with
  |map _ E' h'=>
   have:=(hm _ _ h).symm.trans h';injection this with this;subst this;exact .map id _ h
 |Hc=>intro z C;cases C;exact .Hc
 | func fn a b c d h1 k1 I k2 i1 i2=>
  intro z C;cases C with
  | func _ _ _ c' d' h1' k1' h2' k2'=>
   refine .func fn a b c' d' h1' (λi x y B D=>?_) h2' (λi x y B D=>?_)
   ·have hi:i<c.size:=by have:=(List.getElem?_eq_some_iff.1 B).1;omega
    exact i1 i x _ B (Array.getElem?_eq_getElem hi) (k1' i x y B D)
   ·have hi:i<d.size:=by have:=(List.getElem?_eq_some_iff.1 B).1;omega
    exact i2 i x _ B (Array.getElem?_eq_getElem hi) (k2' i x y B D)
 |nilFunc=>intro z C;cases C;exact .nilFunc
 |iface t x y _ ih=>intro z C;cases C with|iface _ _ y' h'=>exact .iface t x y' (ih h')
 |nilIface=>intro z C;cases C;exact .nilIface
 | agg a c h k ih=>
  intro z C;cases C with
  |agg _ c' h' k'=>
   refine .agg a c' h' (λi x y B D=>?_);have hi:i<c.size:=by have:=(List.getElem?_eq_some_iff.1 B).1;omega
   exact ih i x _ B (Array.getElem?_eq_getElem hi) (k' i x y B D)
 | tuple a c h k ih=>
  intro z C;cases C with
  |tuple _ c' h' k'=>
   refine .tuple a c' h' (λi x y B D=>?_);have hi:i<c.size:=by have:=(List.getElem?_eq_some_iff.1 B).1;omega
   exact ih i x _ B (Array.getElem?_eq_getElem hi) (k' i x y B D)
theorem B5.mono{m m':BU}(hm:m.le m'){a:List AD}{c:List Value}(h:B5 m a c):B5 m' a c:=⟨h.1,λi x y B D=>(h.2 i x y B D).mono hm⟩
theorem B5.nil(m:BU):B5 m [] []:=⟨rfl,λi x y h=>by simp at h⟩
theorem B5.cons{m:BU}{x:AD}{y:Value}{a:List AD}{c:List Value}(h:VR m x y)(k:B5 m a c):B5 m (x::a) (y::c):=by
 refine⟨by simp[k.1],λi u v hu H=>?_⟩;cases i with
 |zero=>simp at hu H;subst hu;subst H;exact h
 |succ i=>exact k.2 i u v (by simpa using hu) (by simpa using H)
theorem B5.app{m:BU}{a b:List AD}{c d:List Value}(h:B5 m a c)(k:B5 m b d):B5 m (a++b) (c++d):=by
 refine⟨by simp[h.1,k.1],λi x y B D=>?_⟩;by_cases hi:i<a.length
 ·rw[List.getElem?_append_left hi]at B;rw[List.getElem?_append_left (by rw[<-h.1];exact hi)]at D;exact h.2 i x y B D
 ·rw[List.getElem?_append_right (by omega)]at B;rw[List.getElem?_append_right (by rw[<-h.1];omega),<-h.1]at D;exact k.2 _ x y B D
theorem B5.take{m:BU}{a:List AD}{c:List Value}(h:B5 m a c)(n:Nat):B5 m (a.take n) (c.take n):=by
 refine⟨by simp[h.1],λi x y B D=>?_⟩;rw[List.getElem?_take]at B D;split at B
 ·rename_i hi;rw[xf hi]at D;exact h.2 i x y B D
 ·cases B
theorem B5.drop{m:BU}{a:List AD}{c:List Value}(h:B5 m a c)(n:Nat):B5 m (a.drop n) (c.drop n):=by
 refine⟨by simp[h.1],λi x y B D=>?_⟩;rw[List.getElem?_drop]at B D;exact h.2 _ x y B D
theorem B5.map{m:BU}{α:Type}(f:α->AD)(g:α->Value):∀(l:List α),(∀x∈l,VR m (f x) (g x))->B5 m (l.map f) (l.map g)
 |[],_=>.nil m
 |x::l,h=>.cons (h x (by simp)) (B5.map f g l λy D=>h y (by simp[D]))
theorem B5.Cu{m:BU}{a b:List AD}{c d:List Value}(h:B5 m a c)(k:B5 m b d)(o:Nat):B5 m (Cu a o b) (c.take o++(d++c.drop (o+d.length))):=by
 unfold Abs.Cu;rw[k.1];exact(h.take o).app (k.app (h.drop _))
theorem B5.at_{m:BU}{a:List AD}{c:List Value}(h:B5 m a c){i:Nat}{x:AD}(B:a[i]?=some x):∃y,c[i]?=some y/\VR m x y:=by
 have hi:i<c.length:=by rw[<-h.1];exact(List.getElem?_eq_some_iff.1 B).1
 exact⟨_,List.getElem?_eq_getElem hi,h.2 i x _ B (List.getElem?_eq_getElem hi)⟩
theorem B5.PZ{m:BU}{a:List AD}{c:Array Value}(h:VR m (.agg a) (.agg c)):B5 m a c.toList:=by
 cases h with
 |agg _ _ G H=>exact⟨by simpa using G,λi x y B D=>H i x y B (by simpa using D)⟩
theorem B5.agg{m:BU}{a:List AD}{c:Array Value}(h:B5 m a c.toList):VR m (.agg a) (.agg c):=
 .agg a c (by simpa using h.1) λi x y B D=>h.2 i x y B (by simpa using D)
theorem B5.tuple{m:BU}{a:List AD}{c:Array Value}(h:B5 m a c.toList):VR m (.tuple a) (.tuple c):=
 .tuple a c (by simpa using h.1) λi x y B D=>h.2 i x y B (by simpa using D)
theorem B5.PV{m:BU}{a:List AD}{c:Array Value}(h:VR m (.tuple a) (.tuple c)):B5 m a c.toList:=by
 cases h with
 |tuple _ _ G H=>exact⟨by simpa using G,λi x y B D=>H i x y B (by simpa using D)⟩
theorem VR.Kl{m:BU}{a:List AD}{v:Value}(h:VR m (.tuple a) v):∃c,v=.tuple c/\B5 m a c.toList:=by
 cases h with
 |tuple _ c G H=>exact⟨c,rfl,B5.PV (.tuple a c G H)⟩
theorem VR.D1{m:BU}{a:List AD}{v:Value}(h:VR m (.agg a) v):∃c,v=.agg c/\B5 m a c.toList:=by
 cases h with
 |agg _ c G H=>exact⟨c,rfl,B5.PZ (.agg a c G H)⟩
theorem VR.C3{m:BU}{s:List UInt8}{v:Value}(h:VR m (.str s) v):v=.string ⟨⟨s⟩⟩:=by
 generalize B:AD.str s=x at h;cases h with
 |str b=>injection B with B;subst B;rfl
 |_=>cases B
theorem VR.I3(m:BU)(v:Value):VR m (I3 v) v:=by
 unfold Abs.I3;split
 ·exact .bool _
 ·exact .int _ _
 ·exact .str _
 ·exact .Il
 ·exact .Db
 ·exact .Iv
 ·exact .Hc
 ·exact .nilFunc
 ·exact .nilIface
 ·exact .undef _
theorem B5.I3(m:BU)(l:List Value):B5 m (l.map Abs.I3) l:=by
 have:=B5.map (m:=m) Abs.I3 id l (λx _=>VR.I3 m x);simpa using this
theorem VR.Pf(m:BU)(v:Value):VR m (Pf v) v:=by
 unfold Abs.Pf;split
 ·exact B5.agg (B5.I3 m _)
 ·exact B5.tuple (B5.I3 m _)
 ·exact VR.I3 m _
theorem VR.cells{m:BU}{x:AD}{v:Value}(h:VR m x v){cs:List AD}(hc:x.cells?=some cs):B5 m cs v.cells.toList:=by
 cases h<;>simp[AD.cells?]at hc
 case agg a c G H=>subst hc;exact B5.PZ (.agg _ c G H)
 all_goals
  subst hc;refine .cons ?_ (.nil m)
  first
   |exact .bool _|exact .int _ _|exact .str _|exact .Il|exact .GM _ _|exact .Db|exact .Iv|exact .Hc|exact .nilFunc|exact .nilIface
   |(constructor<;>assumption)
theorem VR.one{m:BU}{x:AD}{v:Value}(h:VR m x v)(h1:x.one=true):v.oneCell'=true:=by
 cases h<;>first|rfl|simp[AD.one]at h1
end Go.Abs
