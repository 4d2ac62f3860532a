/-
 A part.
-/
import Derived.Test.YthhonebaoidfgaaGreatDoorAvDef
import Derived.Below
import Derived.Laws.Entries
set_option linter.unusedSimpArgs false
namespace Go.Av
open Go.RowKit
theorem J9{α:Type}(i j:Nat)(a b:α):(bif Nat.beq i j then a else b)=if i=j then a else b:=by
 by_cases h:i=j
 ·subst h;simp[yl]
 ·have:Nat.beq i j=false:=by
   cases e:Nat.beq i j
   ·rfl
   ·exact absurd (zt e) h
  simp[this,h]
theorem Tr.NN{α:Type}(l r:Tr α)(v:Option α)(j:Nat):(Tr.node l v r).get j=if j=0 then v else if j%2=1 then l.get (j / 2)else r.get (j / 2 - 1):=by
 simp only[Tr.get,J9]
theorem Tr.aS{α:Type}(f:Nat)(l r:Tr α)(v:Option α)(i:Nat)(x:α):Tr.set (f+1) (.node l v r) i x=
  if i=0 then .node l (some x) r else if i%2=1 then .node (Tr.set f l (i / 2) x) v r else .node l v (Tr.set f r (i / 2 - 1) x):=by
 simp only[Tr.set,J9]
theorem Tr.dV{α:Type}(f:Nat)(i:Nat)(x:α):Tr.set (f+1) .leaf i x=Tr.set (f+1) (.node .leaf none .leaf) i x:=by
 simp only[Tr.set]
theorem Tr.J6{α:Type}:∀(f:Nat) (t:Tr α) (i j:Nat) (x:α),i<f->(Tr.set f t i x).get j=if j=i then some x else t.get j
 |0,_,_,_,_,h=>absurd h om
 | f + 1,t,i,j,x,h=>by
  have ih:=λt i j=>Tr.J6 f t i j x;have key:∀l v r,(Tr.set (f+1) (.node l v r) i x).get j=if j=i then some x else(Tr.node l v r).get j:=by
   intro l v r;rw[Tr.aS,Tr.NN];by_cases hi:i=0
   ·subst hi;rw[zl rfl,Tr.NN];by_cases F:j=0
    ·rw[zl F,zl F]
    ·simp only[zj F]
   ·rw [zj hi];by_cases h1:i%2=1
    ·rw[zl h1,Tr.NN];by_cases F:j=0
     ·rw[zl F,zl F,zj om]
     ·rw[zj F,zj F];by_cases h2:j%2=1
      ·rw[zl h2,zl h2,ih _ _ _ om];by_cases I:j=i
       ·rw[zl I,zl om]
       ·rw[zj I,zj om]
      ·rw[zj h2,zj h2,zj om]
    ·rw[zj h1,Tr.NN];by_cases F:j=0
     ·rw[zl F,zl F,zj om]
     ·rw[zj F,zj F];by_cases h2:j%2=1
      ·rw[zl h2,zl h2,zj om]
      ·rw[zj h2,zj h2,ih _ _ _ om];by_cases I:j=i
       ·rw[zl I,zl om]
       ·rw[zj I,zj om]
  cases t with
  |node l v r=>exact key l v r
  |leaf=>
   rw[Tr.dV,key];congr 1;rw[Tr.NN];simp[Tr.get]
section
variable (h:AF)
@[simp] theorem AF.size_set (i:Nat) (o:Cs):(h.set i o).size=h.size:=rfl
@[simp] theorem AF.size_push (o:Cs):(h.push o).size=h.size+1:=rfl
theorem AF.L2{i:Nat}(hi:h.size<=i):h.get i=none:=by
 have:Nat.blt i h.size=false:=by
  cases e:Nat.blt i h.size
  ·rfl
  ·rw[yH]at e;omega
 simp[AF.get,this]
theorem AF.CA{i:Nat}{o:Cs}(hi:h.get i=some o):i<h.size:=by
 rcases yh i h.size with H|H
 ·exact H
 ·rw[h.L2 H]at hi;cases hi
theorem AF.get_eq{i:Nat}(hi:i<h.size):h.get i=h.tr.get i:=by
 have:Nat.blt i h.size=true:=by rw[yH];exact hi
 simp[AF.get,this]
theorem AF.J6(i j:Nat)(o:Cs)(hi:i<h.size):(h.set i o).get j=if j=i then some o else h.get j:=by
 by_cases F:j<h.size
 ·rw[AF.get_eq _ (by simpa using F),AF.get_eq _ F];exact Tr.J6 _ _ _ _ _ om
 ·rw[AF.L2 _ (by simpa using qx F),AF.L2 _ (qx F),zj om]
theorem AF.get_set_same{i:Nat}(o:Cs)(hi:i<h.size):(h.set i o).get i=some o:=by rw[h.J6 _ _ _ hi,zl rfl]
theorem AF.CN{i j:Nat}(o:Cs)(hi:i<h.size)(hne:j≠i):(h.set i o).get j=h.get j:=by rw[h.J6 _ _ _ hi,zj hne]
theorem AF.Ka(o:Cs)(j:Nat):(h.push o).get j=if j=h.size then some o else h.get j:=by
 by_cases F:j<h.size+1
 ·rw[AF.get_eq _ (by simpa using F)];show(Tr.set (h.size+1) h.tr h.size o).get j=_;rw[Tr.J6 _ _ _ _ _ om];by_cases e:j=h.size
  ·simp[e]
  ·rw[zj e,zj e,AF.get_eq _ om]
 ·rw[AF.L2 _ (by simp;omega),zj om,AF.L2 _ om]
theorem AF.C7(o:Cs):(h.push o).get h.size=some o:=by rw[h.Ka,zl rfl]
theorem AF.Ci(o:Cs){j:Nat}(F:j<h.size):(h.push o).get j=h.get j:=by rw[h.Ka,zj om]
end
theorem Ga:∀(l:List AD) (i:Nat),nth l i=l.getD i (.tuple [])
 |[],i=>by simp[nth]
 |a::l,0=>by simp[nth]
 |a::l,i+1=>by simpa[nth]using Ga l i
theorem G4(l:List AD)(i j:Nat)(v:AD):nth (l.set i v) j=if i=j/\i<l.length then v else nth l j:=by
 simp only[Ga,zo,List.getElem?_set];by_cases h:i=j
 ·subst h;by_cases H:i<l.length<;>simp[H]
 ·simp[h]
@[simp] theorem X9 (fr:Fr) (d:Option Tmp) (v:AD):(put fr d v).length=fr.length:=by cases d<;>simp[put]
structure OR where
 g:Nat
 base:Nat
 Y7:Nat
 total:Nat
structure Bk where
 i:Nat->Option OR
 fz:Nat->Nat->Option Value
 df:Nat->Obj->Prop:=λ_ _=>False
instance:CoeFun Bk (λ_=>Nat->Option OR):=⟨Bk.i⟩
inductive VR(m:Bk):AD->Value->Prop where
 |undef (v:Value):VR m .undef v
 |bool (b:Bool):VR m (.bool b) (.bool b)
 |int (k:IntKind) (n:Int):VR m (.int k n) (.int k n)
 |str (s:ByteArray):VR m (.str s.data.toList) (.string s)
 |nilPtr:VR m (.ptr none) (.pointer none)
 |ptr (id o:Nat) (E:OR):m id=some E->VR m (.ptr (some (id,o))) (.pointer (some ⟨E.g,E.base+o,none⟩))
 |LV (g o:Nat):VR m (.LV g o) (.pointer (some ⟨g,o,none⟩))
 |Eu:VR m (.slice none 0) (.slice none 0 0)
 |GY (a:Addr):VR m (.slice none 0) (.slice (some a) 0 0)
 |slice (id o len cap:Nat) (E:OR) (a:Addr):m id=some E->len<=cap->(cap≠0->a=⟨E.g,E.base+o,none⟩/\(E.Y7≠0->E.base+o+cap*E.Y7<=E.total))->VR m (.slice (some (id,o)) len) (.slice (some a) len cap)
 |NH:VR m (.map none) (.map none)
 |map (id:Nat) (E:OR):m id=some E->VR m (.map (some id)) (.map (some E.g))
 |MH:VR m (.chan none) (.chan none)
 |chan (id:Nat) (E:OR):m id=some E->VR m (.chan (some id)) (.chan (some E.g))
 |func (fn:Fn) (a b:List AD) (c d:Array Value):a.length=c.size->(∀(i:Nat) (x:AD) (y:Value),a[i]?=some x->c[i]?=some y->VR m x y)->b.length=d.size->(∀(i:Nat) (x:AD) (y:Value),b[i]?=some x->d[i]?=some y->VR m x y)->VR m (.func fn a b) (.func fn c d)
 |nilFunc:VR m .nilFunc .nilFunc
 |iface (t:TypeId) (x:AD) (y:Value):VR m x y->VR m (.iface t x) (.iface t y)
 |nilIface:VR m .nilIface .nilIface
 |agg (a:List AD) (c:Array Value):a.length=c.size->(∀(i:Nat) (x:AD) (y:Value),a[i]?=some x->c[i]?=some y->VR m x y)->VR m (.agg a) (.agg c)
 |tuple (a:List AD) (c:Array Value):a.length=c.size->(∀(i:Nat) (x:AD) (y:Value),a[i]?=some x->c[i]?=some y->VR m x y)->VR m (.tuple a) (.tuple c)
 |eP (l:Nat) (E:OR):m l=some E->VR m (.eP l) (.func (.yield E.g) #[] #[])
 |L0 (a:Option Addr) (cap:Nat):VR m (.Im 0 []) (.slice a 0 cap)
 |Im (n cap g o:Nat) (a:List AD) (c:Nat->Value):n<=cap->(∀i,i<a.length->m.fz g (o+i)=some (c i))->(∀(i:Nat) (x:AD),a[i]?=some x->VR m x (c i))->VR m (.Im n a) (.slice (some ⟨g,o,none⟩) n cap)
 |Aw (g o:Nat) (a:List AD) (c:Nat->Value):(∀i,i<a.length->m.fz g (o+i)=some (c i))->(∀(i:Nat) (x:AD),a[i]?=some x->VR m x (c i))->VR m (.Aw a) (.pointer (some ⟨g,o,none⟩))
def DD(m:Bk)(a:List AD)(c:List Value):Prop:=a.length=c.length/\∀(i:Nat) (x:AD) (y:Value),a[i]?=some x->c[i]?=some y->VR m x y
structure Bk.le(m m':Bk):Prop where
 i:∀id E,m id=some E->m' id=some E
 fz:∀g o v,m.fz g o=some v->m'.fz g o=some v
theorem VR.mono{m m':Bk}(hm:m.le m'){x:AD}{y:Value}(h:VR m x y):VR m' x y:=by
 induction h with
 |undef v=>exact .undef v
 |bool b=>exact .bool b
 |int k n=>exact .int k n
 |str s=>exact .str s
 |nilPtr=>exact .nilPtr
 |ptr id o E h=>exact .ptr id o E (hm.i _ _ h)
 |LV g o=>exact .LV g o
 |Eu=>exact .Eu
 |GY a=>exact .GY a
 |slice id o len cap E a h H hc=>exact .slice id o len cap E a (hm.i _ _ h) H hc
 |NH=>exact .NH
 |map id E h=>exact .map id E (hm.i _ _ h)
 |MH=>exact .MH
 |chan id E h=>exact .chan id E (hm.i _ _ h)
 |func fn a b c d h1 _ h2 _ i1 i2=>exact .func fn a b c d h1 i1 h2 i2
 |nilFunc=>exact .nilFunc
 |iface t x y _ ih=>exact .iface t x y ih
 |nilIface=>exact .nilIface
 |agg a c h _ ih=>exact .agg a c h ih
 |tuple a c h _ ih=>exact .tuple a c h ih
 |eP l E h=>exact .eP l E (hm.i _ _ h)
 |L0 a cap=>exact .L0 a cap
 |Im n cap g o a c hc J _ ih=>exact .Im n cap g o a c hc (λi hi=>hm.fz _ _ _ (J i hi)) ih
 |Aw g o a c J _ ih=>exact .Aw g o a c (λi hi=>hm.fz _ _ _ (J i hi)) ih
def Bk.with(m m':Bk):Bk:=⟨m.i,m'.fz,m'.df⟩
theorem VR.back{m m':Bk}(hm:m.le m'){x:AD}{y:Value}(h:VR m x y):∀{z:Value},VR m' x z->VR (m.with m') x z:=by
 induction h with
 |undef v=>intro z _;exact .undef z
 |bool b=>intro z C;cases C;exact .bool b
 |int k n=>intro z C;cases C;exact .int k n
 |str s=>intro z C;generalize hs:s.data.toList=l at C;cases C;exact .str _
 |nilPtr=>intro z C;cases C;exact .nilPtr
 | ptr id o E h=>
  intro z C;cases C with
  |ptr _ _ E' h'=>
   have:=(hm.i _ _ h).symm.trans h';injection this with this;subst this;exact .ptr id o _ h
 |LV g o=>intro z C;cases C;exact .LV g o
 |Eu=>intro z C;cases C<;>first|exact .Eu|exact .GY _
 |GY a=>intro z C;cases C<;>first|exact .Eu|exact .GY _
 | slice id o len cap E a h H hc=>
  intro z C;cases C with
  |slice _ _ _ cap' E' a' h' hl' M=>
   have:=(hm.i _ _ h).symm.trans h';injection this with this;subst this;exact .slice id o len cap' _ a' h hl' M
 |NH=>intro z C;cases C;exact .NH
 | map id E h=>
  intro z C;cases C with
  |map _ E' h'=>
   have:=(hm.i _ _ h).symm.trans h';injection this with this;subst this;exact .map id _ h
 |MH=>intro z C;cases C;exact .MH
 | chan id E h=>
  intro z C;cases C with
  |chan _ E' h'=>
   have:=(hm.i _ _ h).symm.trans h';injection this with this;subst this;exact .chan id _ h
 | func fn a b c d h1 k1 h2 k2 i1 i2=>
  intro z C;cases C with
  | func _ _ _ c' d' h1' k1' h2' k2'=>
   refine .func fn a b c' d' h1' (λi x y B D=>?_) h2' (λi x y B D=>?_)
   ·have hi:i<c.size:=by have:=(List.getElem?_eq_some_iff.1 B).1;omega
    exact i1 i x _ B (Array.getElem?_eq_getElem hi) (k1' i x y B D)
   ·have hi:i<d.size:=by have:=(List.getElem?_eq_some_iff.1 B).1;omega
    exact i2 i x _ B (Array.getElem?_eq_getElem hi) (k2' i x y B D)
 |nilFunc=>intro z C;cases C;exact .nilFunc
 |iface t x y _ ih=>intro z C;cases C with|iface _ _ y' h'=>exact .iface t x y' (ih h')
 |nilIface=>intro z C;cases C;exact .nilIface
 | agg a c h k ih=>
  intro z C;cases C with
  |agg _ c' h' k'=>
   refine .agg a c' h' (λi x y B D=>?_);have hi:i<c.size:=by have:=(List.getElem?_eq_some_iff.1 B).1;omega
   exact ih i x _ B (Array.getElem?_eq_getElem hi) (k' i x y B D)
 | tuple a c h k ih=>
  intro z C;cases C with
  |tuple _ c' h' k'=>
   refine .tuple a c' h' (λi x y B D=>?_);have hi:i<c.size:=by have:=(List.getElem?_eq_some_iff.1 B).1;omega
   exact ih i x _ B (Array.getElem?_eq_getElem hi) (k' i x y B D)
 | eP l E h=>
  intro z C;cases C with
  |eP _ E' h'=>
   have:=(hm.i _ _ h).symm.trans h';injection this with this;subst this;exact .eP l _ h
 |L0 a cap=>intro z C;cases C with
  |L0 a' cap'=>exact .L0 a' cap'
  |Im _ cap' g o _ c hc J G=>exact .Im 0 cap' g o [] c hc (λi hi=>by simp at hi) (λi x B=>by simp at B)
 |Im n cap g o a c hc J G ih=>intro z C;cases C with
  |L0 a' cap'=>exact .L0 a' cap'
  |Im _ cap' g' o' _ c' M L K=>exact .Im n cap' g' o' a c' M L (λi x B=>ih i x B (K i x B))
 |Aw g o a c J G ih=>intro z C;cases C with
  |Aw g' o' _ c' L K=>exact .Aw g' o' a c' L (λi x B=>ih i x B (K i x B))
theorem DD.mono{m m':Bk}(hm:m.le m'){a:List AD}{c:List Value}(h:DD m a c):DD m' a c:=⟨h.1,λi x y B D=>(h.2 i x y B D).mono hm⟩
theorem DD.nil(m:Bk):DD m [] []:=⟨rfl,λi x y h=>by simp at h⟩
theorem DD.cons{m:Bk}{x:AD}{y:Value}{a:List AD}{c:List Value}(h:VR m x y)(k:DD m a c):DD m (x::a) (y::c):=by
 refine⟨by simp[k.1],λi u v hu G=>?_⟩;cases i with
 |zero=>simp at hu G;subst hu;subst G;exact h
 |succ i=>exact k.2 i u v (by simpa using hu) (by simpa using G)
theorem DD.app{m:Bk}{a b:List AD}{c d:List Value}(h:DD m a c)(k:DD m b d):DD m (a++b) (c++d):=by
 refine⟨by simp[h.1,k.1],λi x y B D=>?_⟩;by_cases hi:i<a.length
 ·rw[List.getElem?_append_left hi]at B;rw[List.getElem?_append_left (by rw[<-h.1];exact hi)]at D;exact h.2 i x y B D
 ·rw[List.getElem?_append_right om]at B;rw[List.getElem?_append_right (by rw[<-h.1];omega),<-h.1]at D;exact k.2 _ x y B D
theorem DD.take{m:Bk}{a:List AD}{c:List Value}(h:DD m a c)(n:Nat):DD m (a.take n) (c.take n):=by
 refine⟨by simp[h.1],λi x y B D=>?_⟩;rw[List.getElem?_take]at B D;split at B
 ·rename_i hi;rw[zl hi]at D;exact h.2 i x y B D
 ·cases B
theorem DD.drop{m:Bk}{a:List AD}{c:List Value}(h:DD m a c)(n:Nat):DD m (a.drop n) (c.drop n):=by
 refine⟨by simp[h.1],λi x y B D=>?_⟩;rw[List.getElem?_drop]at B D;exact h.2 _ x y B D
theorem DD.map{m:Bk}{α:Type}(f:α->AD)(g:α->Value):∀(l:List α),(∀x∈l,VR m (f x) (g x))->DD m (l.map f) (l.map g)
 |[],_=>.nil m
 |x::l,h=>.cons (h x (by simp)) (DD.map f g l λy D=>h y (by simp[D]))
theorem DD.FY{m:Bk}{a b:List AD}{c d:List Value}(h:DD m a c)(k:DD m b d)(o:Nat):DD m (FY a o b) (c.take o++(d++c.drop (o+d.length))):=by
 unfold Av.FY;rw[k.1];exact(h.take o).app (k.app (h.drop _))
theorem DD.at_{m:Bk}{a:List AD}{c:List Value}(h:DD m a c){i:Nat}{x:AD}(B:a[i]?=some x):∃y,c[i]?=some y/\VR m x y:=by
 have hi:i<c.length:=by rw[<-h.1];exact(List.getElem?_eq_some_iff.1 B).1
 exact⟨_,List.getElem?_eq_getElem hi,h.2 i x _ B (List.getElem?_eq_getElem hi)⟩
theorem DD.bG{m:Bk}{a:List AD}{c:Array Value}(h:VR m (.agg a) (.agg c)):DD m a c.toList:=by
 cases h with
 |agg _ _ H G=>exact⟨by simpa using H,λi x y B D=>G i x y B (by simpa using D)⟩
theorem DD.agg{m:Bk}{a:List AD}{c:Array Value}(h:DD m a c.toList):VR m (.agg a) (.agg c):=
 .agg a c (by simpa using h.1) λi x y B D=>h.2 i x y B (by simpa using D)
theorem DD.tuple{m:Bk}{a:List AD}{c:Array Value}(h:DD m a c.toList):VR m (.tuple a) (.tuple c):=
 .tuple a c (by simpa using h.1) λi x y B D=>h.2 i x y B (by simpa using D)
theorem DD.dW{m:Bk}{a:List AD}{c:Array Value}(h:VR m (.tuple a) (.tuple c)):DD m a c.toList:=by
 cases h with
 |tuple _ _ H G=>exact⟨by simpa using H,λi x y B D=>G i x y B (by simpa using D)⟩
theorem VR.L4{m:Bk}{a:List AD}{v:Value}(h:VR m (.tuple a) v):∃c,v=.tuple c/\DD m a c.toList:=by
 cases h with
 |tuple _ c H G=>exact⟨c,rfl,DD.dW (.tuple a c H G)⟩
theorem VR.Hf{m:Bk}{a:List AD}{v:Value}(h:VR m (.agg a) v):∃c,v=.agg c/\DD m a c.toList:=by
 cases h with
 |agg _ c H G=>exact⟨c,rfl,DD.bG (.agg a c H G)⟩
theorem VR.Em{m:Bk}{s:List UInt8}{v:Value}(h:VR m (.str s) v):v=.string ⟨⟨s⟩⟩:=by
 generalize B:AD.str s=x at h;cases h with
 |str b=>injection B with B;subst B;rfl
 |_=>cases B
theorem VR.QT(m:Bk)(v:Value):VR m (QT v) v:=by
 unfold Av.QT;split
 ·exact .bool _
 ·exact .int _ _
 ·exact .str _
 ·exact .nilPtr
 ·exact .Eu
 ·exact .NH
 ·exact .MH
 ·exact .nilFunc
 ·exact .nilIface
 ·exact .undef _
theorem DD.QT(m:Bk)(l:List Value):DD m (l.map Av.QT) l:=by
 have:=DD.map (m:=m) Av.QT id l (λx _=>VR.QT m x);simpa using this
theorem VR.dm(m:Bk)(v:Value):VR m (dm v) v:=by
 unfold Av.dm;split
 ·exact DD.agg (DD.QT m _)
 ·exact DD.tuple (DD.QT m _)
 ·exact VR.QT m _
theorem VR.OJ{m:Bk}{g o:Nat}{a:List AD}{c:Nat->Value}(J:∀i,i<a.length->m.fz g (o+i)=some (c i))(G:∀(i:Nat) (x:AD),a[i]?=some x->VR m x (c i))(k:Nat):VR m (.Aw (a.drop k)) (.pointer (some ⟨g,o+k,none⟩)):=
 .Aw g (o+k) _ (λi=>c (k+i)) (λi hi=>by rw[yc]at hi;rw[yG];exact J _ om) (λi x B=>G _ x (by rw[List.getElem?_drop]at B;exact B))
theorem VR.UM{m:Bk}{a:List AD}{v:Value}(h:VR m (.Aw a) v)(k:Nat):VR m (.Aw (a.take k)) v:=by
 cases h with
 |Aw g o _ c J G=>exact .Aw g o _ c (λi hi=>J i (by rw[zA]at hi;omega)) (λi x B=>G i x (by rw[List.getElem?_take]at B;split at B;exact B;cases B))
theorem VR.cells{m:Bk}{x:AD}{v:Value}(h:VR m x v){cs:List AD}(hc:x.cells?=some cs):DD m cs v.cells.toList:=by
 cases h<;>simp[AD.cells?]at hc
 case agg a c H G=>subst hc;exact DD.bG (.agg _ c H G)
 all_goals
  subst hc;refine .cons ?_ (.nil m)
  first
   |exact .bool _|exact .int _ _|exact .str _|exact .nilPtr|exact .LV _ _|exact .Eu|exact .NH|exact .MH|exact .nilFunc|exact .nilIface
   |(constructor<;>assumption)
theorem VR.one{m:Bk}{x:AD}{v:Value}(h:VR m x v)(h1:x.one=true):v.oneCell'=true:=by
 cases h<;>first|rfl|simp[AD.one]at h1
end Go.Av
