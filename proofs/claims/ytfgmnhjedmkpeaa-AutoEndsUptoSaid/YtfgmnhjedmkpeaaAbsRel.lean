/-
 A part.
-/
import Derived.Test.YtfgmnhjedmkpeaaAbsDef
import Derived.Below
import Derived.Laws.Entries
set_option linter.unusedSimpArgs false
namespace Go.Abs
open Go.RowKit
theorem F9{α:Type}(i j:Nat)(a b:α):(bif Nat.beq i j then a else b)=if i=j then a else b:=by
 by_cases h:i=j
 ·subst h;simp[wA]
 ·have:Nat.beq i j=false:=by
   cases e:Nat.beq i j
   ·rfl
   ·exact absurd (xC e) h
  simp[this,h]
theorem Tr.Fv{α:Type}(l r:Tr α)(v:Option α)(j:Nat):(Tr.node l v r).get j=if j=0 then v else if j%2=1 then l.get (j / 2)else r.get (j / 2 - 1):=by
 simp only[Tr.get,F9]
theorem Tr.Nb{α:Type}(f:Nat)(l r:Tr α)(v:Option α)(i:Nat)(x:α):Tr.set (f+1) (.node l v r) i x=
  if i=0 then .node l (some x) r else if i%2=1 then .node (Tr.set f l (i / 2) x) v r else .node l v (Tr.set f r (i / 2 - 1) x):=by
 simp only[Tr.set,F9]
theorem Tr.Ni{α:Type}(f:Nat)(i:Nat)(x:α):Tr.set (f+1) .leaf i x=Tr.set (f+1) (.node .leaf none .leaf) i x:=by
 simp only[Tr.set]
theorem Tr.FN{α:Type}:∀(f:Nat) (t:Tr α) (i j:Nat) (x:α),i<f->(Tr.set f t i x).get j=if j=i then some x else t.get j
 |0,_,_,_,_,h=>absurd h (by omega)
 | f + 1,t,i,j,x,h=>by
  have ih:=λt i j=>Tr.FN f t i j x;have key:∀l v r,(Tr.set (f+1) (.node l v r) i x).get j=if j=i then some x else(Tr.node l v r).get j:=by
   intro l v r;rw[Tr.Nb,Tr.Fv];by_cases F:i=0
   ·subst F;rw[xj rfl,Tr.Fv];by_cases G:j=0
    ·rw[xj G,xj G]
    ·simp only[xg G]
   ·rw [xg F];by_cases h1:i%2=1
    ·rw[xj h1,Tr.Fv];by_cases G:j=0
     ·rw[xj G,xj G,xg (by omega)]
     ·rw[xg G,xg G];by_cases J:j%2=1
      ·rw[xj J,xj J,ih _ _ _ (by omega)];by_cases K:j=i
       ·rw[xj K,xj (by omega)]
       ·rw[xg K,xg (by omega)]
      ·rw[xg J,xg J,xg (by omega)]
    ·rw[xg h1,Tr.Fv];by_cases G:j=0
     ·rw[xj G,xj G,xg (by omega)]
     ·rw[xg G,xg G];by_cases J:j%2=1
      ·rw[xj J,xj J,xg (by omega)]
      ·rw[xg J,xg J,ih _ _ _ (by omega)];by_cases K:j=i
       ·rw[xj K,xj (by omega)]
       ·rw[xg K,xg (by omega)]
  cases t with
  |node l v r=>exact key l v r
  |leaf=>
   rw[Tr.Ni,key];congr 1;rw[Tr.Fv];simp[Tr.get]
section
variable (h:AB)
@[simp] theorem AB.size_set (i:Nat) (o:Ay):(h.set i o).size=h.size:=rfl
@[simp] theorem AB.size_push (o:Ay):(h.push o).size=h.size+1:=rfl
theorem AB.FB{i:Nat}(F:h.size<=i):h.get i=none:=by
 have:Nat.blt i h.size=false:=by
  cases e:Nat.blt i h.size
  ·rfl
  ·rw[wv]at e;omega
 simp[AB.get,this]
theorem AB.Ar{i:Nat}{o:Ay}(F:h.get i=some o):i<h.size:=by
 rcases xp i h.size with H|H
 ·exact H
 ·rw[h.FB H]at F;cases F
theorem AB.get_eq{i:Nat}(F:i<h.size):h.get i=h.tr.get i:=by
 have:Nat.blt i h.size=true:=by rw[wv];exact F
 simp[AB.get,this]
theorem AB.FN(i j:Nat)(o:Ay)(F:i<h.size):(h.set i o).get j=if j=i then some o else h.get j:=by
 by_cases G:j<h.size
 ·rw[AB.get_eq _ (by simpa using G),AB.get_eq _ G];exact Tr.FN _ _ _ _ _ (by omega)
 ·rw[AB.FB _ (by simpa using Nat.le_of_not_lt G),AB.FB _ (Nat.le_of_not_lt G),xg (by omega)]
theorem AB.B0{i:Nat}(o:Ay)(F:i<h.size):(h.set i o).get i=some o:=by rw[h.FN _ _ _ F,xj rfl]
theorem AB.Bw{i j:Nat}(o:Ay)(F:i<h.size)(hne:j≠i):(h.set i o).get j=h.get j:=by rw[h.FN _ _ _ F,xg hne]
theorem AB.IQ(o:Ay)(j:Nat):(h.push o).get j=if j=h.size then some o else h.get j:=by
 by_cases G:j<h.size+1
 ·rw[AB.get_eq _ (by simpa using G)];show(Tr.set (h.size+1) h.tr h.size o).get j=_;rw[Tr.FN _ _ _ _ _ (by omega)];by_cases e:j=h.size
  ·simp[e]
  ·rw[xg e,xg e,AB.get_eq _ (by omega)]
 ·rw[AB.FB _ (by simp;omega),xg (by omega),AB.FB _ (by omega)]
theorem AB.A8(o:Ay):(h.push o).get h.size=some o:=by rw[h.IQ,xj rfl]
theorem AB.Bp(o:Ay){j:Nat}(G:j<h.size):(h.push o).get j=h.get j:=by rw[h.IQ,xg (by omega)]
end
theorem F5:∀(l:List AA) (i:Nat),nth l i=l.getD i (.tuple [])
 |[],i=>by simp[nth]
 |a::l,0=>by simp[nth]
 |a::l,i+1=>by simpa[nth]using F5 l i
theorem Ey(l:List AA)(i j:Nat)(v:AA):nth (l.set i v) j=if i=j/\i<l.length then v else nth l j:=by
 simp only[F5,xb,List.getElem?_set];by_cases h:i=j
 ·subst h;by_cases H:i<l.length<;>simp[H]
 ·simp[h]
@[simp] theorem M8 (fr:Fr) (d:Option Tmp) (v:AA):(put fr d v).length=fr.length:=by cases d<;>simp[put]
structure Gg where
 g:Nat
 base:Nat
 Lw:Nat
 total:Nat
abbrev Aj:=Nat->Option Gg
inductive VR(m:Aj):AA->Value->Prop where
 |undef (v:Value):VR m .undef v
 |bool (b:Bool):VR m (.bool b) (.bool b)
 |int (k:IntKind) (n:Int):VR m (.int k n) (.int k n)
 |str (s:ByteArray):VR m (.str s.data.toList) (.string s)
 |GW:VR m (.ptr none) (.pointer none)
 |ptr (id o:Nat) (E:Gg):m id=some E->VR m (.ptr (some (id,o))) (.pointer (some ⟨E.g,E.base+o,none⟩))
 |EJ (g o:Nat):VR m (.EJ g o) (.pointer (some ⟨g,o,none⟩))
 |By:VR m (.slice none 0) (.slice none 0 0)
 |slice (id o len cap:Nat) (E:Gg) (a:Addr):m id=some E->len<=cap->(cap≠0->a=⟨E.g,E.base+o,none⟩/\(E.Lw≠0->E.base+o+cap*E.Lw<=E.total))->VR m (.slice (some (id,o)) len) (.slice (some a) len cap)
 |GQ:VR m (.map none) (.map none)
 |map (id:Nat) (E:Gg):m id=some E->VR m (.map (some id)) (.map (some E.g))
 |FF:VR m (.chan none) (.chan none)
 |func (fn:Fn) (a b:List AA) (c d:Array Value):a.length=c.size->(∀(i:Nat) (x:AA) (y:Value),a[i]?=some x->c[i]?=some y->VR m x y)->b.length=d.size->(∀(i:Nat) (x:AA) (y:Value),b[i]?=some x->d[i]?=some y->VR m x y)->VR m (.func fn a b) (.func fn c d)
 |nilFunc:VR m .nilFunc .nilFunc
 |iface (t:TypeId) (x:AA) (y:Value):VR m x y->VR m (.iface t x) (.iface t y)
 |nilIface:VR m .nilIface .nilIface
 |agg (a:List AA) (c:Array Value):a.length=c.size->(∀(i:Nat) (x:AA) (y:Value),a[i]?=some x->c[i]?=some y->VR m x y)->VR m (.agg a) (.agg c)
 |tuple (a:List AA) (c:Array Value):a.length=c.size->(∀(i:Nat) (x:AA) (y:Value),a[i]?=some x->c[i]?=some y->VR m x y)->VR m (.tuple a) (.tuple c)
def BT(m:Aj)(a:List AA)(c:List Value):Prop:=a.length=c.length/\∀(i:Nat) (x:AA) (y:Value),a[i]?=some x->c[i]?=some y->VR m x y
def Aj.le(m m':Aj):Prop:=∀id E,m id=some E->m' id=some E
theorem VR.mono{m m':Aj}(hm:m.le m'){x:AA}{y:Value}(h:VR m x y):VR m' x y:=by
 induction h with
 |undef v=>exact .undef v
 |bool b=>exact .bool b
 |int k n=>exact .int k n
 |str s=>exact .str s
 |GW=>exact .GW
 |ptr id o E h=>exact .ptr id o E (hm _ _ h)
 |EJ g o=>exact .EJ g o
 |By=>exact .By
 |slice id o len cap E a h H hc=>exact .slice id o len cap E a (hm _ _ h) H hc
 |GQ=>exact .GQ
 |map id E h=>exact .map id E (hm _ _ h)
 |FF=>exact .FF
 |func fn a b c d h1 _ J _ i1 i2=>exact .func fn a b c d h1 i1 J i2
 |nilFunc=>exact .nilFunc
 |iface t x y _ ih=>exact .iface t x y ih
 |nilIface=>exact .nilIface
 |agg a c h _ ih=>exact .agg a c h ih
 |tuple a c h _ ih=>exact .tuple a c h ih
theorem VR.back{m m':Aj}(hm:m.le m'){x:AA}{y:Value}(h:VR m x y):∀{z:Value},VR m' x z->VR m x z:=by
 induction h with
 |undef v=>intro z _;exact .undef z
 |bool b=>intro z C;cases C;exact .bool b
 |int k n=>intro z C;cases C;exact .int k n
 |str s=>intro z C;generalize hs:s.data.toList=l at C;cases C;exact .str _
 |GW=>intro z C;cases C;exact .GW
 | ptr id o E h=>
  intro z C;cases C with
  |ptr _ _ E' h'=>
   have:=(hm _ _ h).symm.trans h';injection this with this;subst this;exact .ptr id o _ h
 |EJ g o=>intro z C;cases C;exact .EJ g o
 |By=>intro z C;cases C;exact .By
 | slice id o len cap E a h H hc=>
  intro z C;cases C with
  |slice _ _ _ cap' E' a' h' hl' hc'=>
   have:=(hm _ _ h).symm.trans h';injection this with this;subst this;exact .slice id o len cap' _ a' h hl' hc'
 |GQ=>intro z C;cases C;exact .GQ
 | map id E h=>
  intro z C;cases C with
  |map _ E' h'=>
   have:=(hm _ _ h).symm.trans h';injection this with this;subst this;exact .map id _ h
 |FF=>intro z C;cases C;exact .FF
 | func fn a b c d h1 k1 J k2 i1 i2=>
  intro z C;cases C with
  | func _ _ _ c' d' h1' k1' h2' k2'=>
   refine .func fn a b c' d' h1' (λi x y B D=>?_) h2' (λi x y B D=>?_)
   ·have F:i<c.size:=by have:=(List.getElem?_eq_some_iff.1 B).1;omega
    exact i1 i x _ B (Array.getElem?_eq_getElem F) (k1' i x y B D)
   ·have F:i<d.size:=by have:=(List.getElem?_eq_some_iff.1 B).1;omega
    exact i2 i x _ B (Array.getElem?_eq_getElem F) (k2' i x y B D)
 |nilFunc=>intro z C;cases C;exact .nilFunc
 |iface t x y _ ih=>intro z C;cases C with|iface _ _ y' h'=>exact .iface t x y' (ih h')
 |nilIface=>intro z C;cases C;exact .nilIface
 | agg a c h k ih=>
  intro z C;cases C with
  |agg _ c' h' k'=>
   refine .agg a c' h' (λi x y B D=>?_);have F:i<c.size:=by have:=(List.getElem?_eq_some_iff.1 B).1;omega
   exact ih i x _ B (Array.getElem?_eq_getElem F) (k' i x y B D)
 | tuple a c h k ih=>
  intro z C;cases C with
  |tuple _ c' h' k'=>
   refine .tuple a c' h' (λi x y B D=>?_);have F:i<c.size:=by have:=(List.getElem?_eq_some_iff.1 B).1;omega
   exact ih i x _ B (Array.getElem?_eq_getElem F) (k' i x y B D)
theorem BT.mono{m m':Aj}(hm:m.le m'){a:List AA}{c:List Value}(h:BT m a c):BT m' a c:=⟨h.1,λi x y B D=>(h.2 i x y B D).mono hm⟩
theorem BT.nil(m:Aj):BT m [] []:=⟨rfl,λi x y h=>by simp at h⟩
theorem BT.cons{m:Aj}{x:AA}{y:Value}{a:List AA}{c:List Value}(h:VR m x y)(k:BT m a c):BT m (x::a) (y::c):=by
 refine⟨by simp[k.1],λi u v hu I=>?_⟩;cases i with
 |zero=>simp at hu I;subst hu;subst I;exact h
 |succ i=>exact k.2 i u v (by simpa using hu) (by simpa using I)
theorem BT.app{m:Aj}{a b:List AA}{c d:List Value}(h:BT m a c)(k:BT m b d):BT m (a++b) (c++d):=by
 refine⟨by simp[h.1,k.1],λi x y B D=>?_⟩;by_cases F:i<a.length
 ·rw[List.getElem?_append_left F]at B;rw[List.getElem?_append_left (by rw[<-h.1];exact F)]at D;exact h.2 i x y B D
 ·rw[List.getElem?_append_right (by omega)]at B;rw[List.getElem?_append_right (by rw[<-h.1];omega),<-h.1]at D;exact k.2 _ x y B D
theorem BT.take{m:Aj}{a:List AA}{c:List Value}(h:BT m a c)(n:Nat):BT m (a.take n) (c.take n):=by
 refine⟨by simp[h.1],λi x y B D=>?_⟩;rw[List.getElem?_take]at B D;split at B
 ·rename_i F;rw[xj F]at D;exact h.2 i x y B D
 ·cases B
theorem BT.drop{m:Aj}{a:List AA}{c:List Value}(h:BT m a c)(n:Nat):BT m (a.drop n) (c.drop n):=by
 refine⟨by simp[h.1],λi x y B D=>?_⟩;rw[List.getElem?_drop]at B D;exact h.2 _ x y B D
theorem BT.map{m:Aj}{α:Type}(f:α->AA)(g:α->Value):∀(l:List α),(∀x∈l,VR m (f x) (g x))->BT m (l.map f) (l.map g)
 |[],_=>.nil m
 |x::l,h=>.cons (h x (by simp)) (BT.map f g l λy D=>h y (by simp[D]))
theorem BT.CN{m:Aj}{a b:List AA}{c d:List Value}(h:BT m a c)(k:BT m b d)(o:Nat):BT m (CN a o b) (c.take o++(d++c.drop (o+d.length))):=by
 unfold Abs.CN;rw[k.1];exact(h.take o).app (k.app (h.drop _))
theorem BT.at_{m:Aj}{a:List AA}{c:List Value}(h:BT m a c){i:Nat}{x:AA}(B:a[i]?=some x):∃y,c[i]?=some y/\VR m x y:=by
 have F:i<c.length:=by rw[<-h.1];exact(List.getElem?_eq_some_iff.1 B).1
 exact⟨_,List.getElem?_eq_getElem F,h.2 i x _ B (List.getElem?_eq_getElem F)⟩
theorem BT.NK{m:Aj}{a:List AA}{c:Array Value}(h:VR m (.agg a) (.agg c)):BT m a c.toList:=by
 cases h with
 |agg _ _ H I=>exact⟨by simpa using H,λi x y B D=>I i x y B (by simpa using D)⟩
theorem BT.agg{m:Aj}{a:List AA}{c:Array Value}(h:BT m a c.toList):VR m (.agg a) (.agg c):=
 .agg a c (by simpa using h.1) λi x y B D=>h.2 i x y B (by simpa using D)
theorem BT.tuple{m:Aj}{a:List AA}{c:Array Value}(h:BT m a c.toList):VR m (.tuple a) (.tuple c):=
 .tuple a c (by simpa using h.1) λi x y B D=>h.2 i x y B (by simpa using D)
theorem BT.M4{m:Aj}{a:List AA}{c:Array Value}(h:VR m (.tuple a) (.tuple c)):BT m a c.toList:=by
 cases h with
 |tuple _ _ H I=>exact⟨by simpa using H,λi x y B D=>I i x y B (by simpa using D)⟩
theorem VR.G8{m:Aj}{a:List AA}{v:Value}(h:VR m (.tuple a) v):∃c,v=.tuple c/\BT m a c.toList:=by
 cases h with
 |tuple _ c H I=>exact⟨c,rfl,BT.M4 (.tuple a c H I)⟩
theorem VR.Cn{m:Aj}{a:List AA}{v:Value}(h:VR m (.agg a) v):∃c,v=.agg c/\BT m a c.toList:=by
 cases h with
 |agg _ c H I=>exact⟨c,rfl,BT.NK (.agg a c H I)⟩
theorem VR.CF{m:Aj}{s:List UInt8}{v:Value}(h:VR m (.str s) v):v=.string ⟨⟨s⟩⟩:=by
 generalize B:AA.str s=x at h;cases h with
 |str b=>injection B with B;subst B;rfl
 |_=>cases B
theorem VR.HI(m:Aj)(v:Value):VR m (HI v) v:=by
 unfold Abs.HI;split
 ·exact .bool _
 ·exact .int _ _
 ·exact .str _
 ·exact .GW
 ·exact .By
 ·exact .GQ
 ·exact .FF
 ·exact .nilFunc
 ·exact .nilIface
 ·exact .undef _
theorem BT.HI(m:Aj)(l:List Value):BT m (l.map Abs.HI) l:=by
 have:=BT.map (m:=m) Abs.HI id l (λx _=>VR.HI m x);simpa using this
theorem VR.NC(m:Aj)(v:Value):VR m (NC v) v:=by
 unfold Abs.NC;split
 ·exact BT.agg (BT.HI m _)
 ·exact BT.tuple (BT.HI m _)
 ·exact VR.HI m _
theorem VR.cells{m:Aj}{x:AA}{v:Value}(h:VR m x v){cs:List AA}(hc:x.cells?=some cs):BT m cs v.cells.toList:=by
 cases h<;>simp[AA.cells?]at hc
 case agg a c H I=>subst hc;exact BT.NK (.agg _ c H I)
 all_goals
  subst hc;refine .cons ?_ (.nil m)
  first
   |exact .bool _|exact .int _ _|exact .str _|exact .GW|exact .EJ _ _|exact .By|exact .GQ|exact .FF|exact .nilFunc|exact .nilIface
   |(constructor<;>assumption)
theorem VR.one{m:Aj}{x:AA}{v:Value}(h:VR m x v)(h1:x.one=true):v.oneCell'=true:=by
 cases h<;>first|rfl|simp[AA.one]at h1
