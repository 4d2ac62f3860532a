/-
 A part.
-/
import Derived.Test.YtlddjbgohnlihaaGreatDoorAvDef
import Derived.Below
import Derived.Laws.Entries
set_option linter.unusedSimpArgs false
namespace Go.Av
open Go.RowKit
theorem Ik{α:Type}(i j:Nat)(a b:α):(bif Nat.beq i j then a else b)=if i=j then a else b:=by
 by_cases h:i=j
 ·subst h;simp[ym]
 ·have:Nat.beq i j=false:=by
   cases e:Nat.beq i j
   ·rfl
   ·exact absurd (zu e) h
  simp[this,h]
theorem Tr.LC{α:Type}(l r:Tr α)(v:Option α)(j:Nat):(Tr.node l v r).get j=if j=0 then v else if j%2=1 then l.get (j / 2)else r.get (j / 2 - 1):=by
 simp only[Tr.get,Ik]
theorem Tr.YC{α:Type}(f:Nat)(l r:Tr α)(v:Option α)(i:Nat)(x:α):Tr.set (f+1) (.node l v r) i x=
  if i=0 then .node l (some x) r else if i%2=1 then .node (Tr.set f l (i / 2) x) v r else .node l v (Tr.set f r (i / 2 - 1) x):=by
 simp only[Tr.set,Ik]
theorem Tr.Yr{α:Type}(f:Nat)(i:Nat)(x:α):Tr.set (f+1) .leaf i x=Tr.set (f+1) (.node .leaf none .leaf) i x:=by
 simp only[Tr.set]
theorem Tr.Ii{α:Type}:∀(f:Nat) (t:Tr α) (i j:Nat) (x:α),i<f→(Tr.set f t i x).get j=if j=i then some x else t.get j
 |0,_,_,_,_,h=>absurd h (by omega)
 | f + 1,t,i,j,x,h=>by
  have ih:=fun t i j=>Tr.Ii f t i j x;have key:∀l v r,(Tr.set (f+1) (.node l v r) i x).get j=if j=i then some x else(Tr.node l v r).get j:=by
   intro l v r;rw[Tr.YC,Tr.LC];by_cases hi:i=0
   ·subst hi;rw[zm rfl,Tr.LC];by_cases F:j=0
    ·rw[zm F,zm F]
    ·simp only[zk F]
   ·rw [zk hi];by_cases h1:i%2=1
    ·rw[zm h1,Tr.LC];by_cases F:j=0
     ·rw[zm F,zm F,zk (by omega)]
     ·rw[zk F,zk F];by_cases h2:j%2=1
      ·rw[zm h2,zm h2,ih _ _ _ (by omega)];by_cases I:j=i
       ·rw[zm I,zm (by omega)]
       ·rw[zk I,zk (by omega)]
      ·rw[zk h2,zk h2,zk (by omega)]
    ·rw[zk h1,Tr.LC];by_cases F:j=0
     ·rw[zm F,zm F,zk (by omega)]
     ·rw[zk F,zk F];by_cases h2:j%2=1
      ·rw[zm h2,zm h2,zk (by omega)]
      ·rw[zk h2,zk h2,ih _ _ _ (by omega)];by_cases I:j=i
       ·rw[zm I,zm (by omega)]
       ·rw[zk I,zk (by omega)]
  cases t with
  |node l v r=>exact key l v r
  |leaf=>
   rw[Tr.Yr,key];congr 1;rw[Tr.LC];simp[Tr.get]
section
variable (h:AI)
@[simp] theorem AI.size_set (i:Nat) (o:B0):(h.set i o).size=h.size:=rfl
@[simp] theorem AI.size_push (o:B0):(h.push o).size=h.size+1:=rfl
theorem AI.KE{i:Nat}(hi:h.size≤i):h.get i=none:=by
 have:Nat.blt i h.size=false:=by
  cases e:Nat.blt i h.size
  ·rfl
  ·rw[yY]at e;omega
 simp[AI.get,this]
theorem AI.BN{i:Nat}{o:B0}(hi:h.get i=some o):i<h.size:=by
 rcases yg i h.size with H|H
 ·exact H
 ·rw[h.KE H]at hi;cases hi
theorem AI.get_eq{i:Nat}(hi:i<h.size):h.get i=h.tr.get i:=by
 have:Nat.blt i h.size=true:=by rw[yY];exact hi
 simp[AI.get,this]
theorem AI.Ii(i j:Nat)(o:B0)(hi:i<h.size):(h.set i o).get j=if j=i then some o else h.get j:=by
 by_cases F:j<h.size
 ·rw[AI.get_eq _ (by simpa using F),AI.get_eq _ F];exact Tr.Ii _ _ _ _ _ (by omega)
 ·rw[AI.KE _ (by simpa using qz F),AI.KE _ (qz F),zk (by omega)]
theorem AI.get_set_same{i:Nat}(o:B0)(hi:i<h.size):(h.set i o).get i=some o:=by rw[h.Ii _ _ _ hi,zm rfl]
theorem AI.BX{i j:Nat}(o:B0)(hi:i<h.size)(hne:j≠i):(h.set i o).get j=h.get j:=by rw[h.Ii _ _ _ hi,zk hne]
theorem AI.I0(o:B0)(j:Nat):(h.push o).get j=if j=h.size then some o else h.get j:=by
 by_cases F:j<h.size+1
 ·rw[AI.get_eq _ (by simpa using F)];show(Tr.set (h.size+1) h.tr h.size o).get j=_;rw[Tr.Ii _ _ _ _ _ (by omega)];by_cases e:j=h.size
  ·simp[e]
  ·rw[zk e,zk e,AI.get_eq _ (by omega)]
 ·rw[AI.KE _ (by simp;omega),zk (by omega),AI.KE _ (by omega)]
theorem AI.Ct(o:B0):(h.push o).get h.size=some o:=by rw[h.I0,zm rfl]
theorem AI.Bz(o:B0){j:Nat}(F:j<h.size):(h.push o).get j=h.get j:=by rw[h.I0,zk (by omega)]
end
theorem FZ:∀(l:List AB) (i:Nat),nth l i=l.getD i (.tuple [])
 |[],i=>by simp[nth]
 |a::l,0=>by simp[nth]
 |a::l,i+1=>by simpa[nth]using FZ l i
theorem FY(l:List AB)(i j:Nat)(v:AB):nth (l.set i v) j=if i=j∧i<l.length then v else nth l j:=by
 simp only[FZ,zo,List.getElem?_set];by_cases h:i=j
 ·subst h;by_cases H:i<l.length<;>simp[H]
 ·simp[h]
@[simp] theorem bE (fr:Fr) (d:Option Tmp) (v:AB):(put fr d v).length=fr.length:=by cases d<;>simp[put]
structure Mb where
 g:Nat
 base:Nat
 V8:Nat
 total:Nat
structure BD where
 i:Nat→Option Mb
 fz:Nat→Nat→Option Value
 df:Nat→Obj→Prop:=fun _ _=>False
instance:CoeFun BD (fun _=>Nat→Option Mb):=⟨BD.i⟩
inductive VR(m:BD):AB→Value→Prop where
 |undef (v:Value):VR m .undef v
 |bool (b:Bool):VR m (.bool b) (.bool b)
 |int (k:IntKind) (n:Int):VR m (.int k n) (.int k n)
 |str (s:ByteArray):VR m (.str s.data.toList) (.string s)
 |nilPtr:VR m (.ptr none) (.pointer none)
 |ptr (id o:Nat) (E:Mb):m id=some E→VR m (.ptr (some (id,o))) (.pointer (some ⟨E.g,E.base+o,none⟩))
 |Jw (g o:Nat):VR m (.Jw g o) (.pointer (some ⟨g,o,none⟩))
 |Ep:VR m (.slice none 0) (.slice none 0 0)
 |FH (a:Addr):VR m (.slice none 0) (.slice (some a) 0 0)
 |slice (id o len cap:Nat) (E:Mb) (a:Addr):m id=some E→len≤cap→(cap≠0→a=⟨E.g,E.base+o,none⟩∧(E.V8≠0→E.base+o+cap*E.V8≤E.total))→VR m (.slice (some (id,o)) len) (.slice (some a) len cap)
 |LH:VR m (.map none) (.map none)
 |map (id:Nat) (E:Mb):m id=some E→VR m (.map (some id)) (.map (some E.g))
 |Km:VR m (.chan none) (.chan none)
 |chan (id:Nat) (E:Mb):m id=some E→VR m (.chan (some id)) (.chan (some E.g))
 |func (fn:Fn) (a b:List AB) (c d:Array Value):a.length=c.size→(∀(i:Nat) (x:AB) (y:Value),a[i]?=some x→c[i]?=some y→VR m x y)→b.length=d.size→(∀(i:Nat) (x:AB) (y:Value),b[i]?=some x→d[i]?=some y→VR m x y)→VR m (.func fn a b) (.func fn c d)
 |nilFunc:VR m .nilFunc .nilFunc
 |iface (t:TypeId) (x:AB) (y:Value):VR m x y→VR m (.iface t x) (.iface t y)
 |nilIface:VR m .nilIface .nilIface
 |agg (a:List AB) (c:Array Value):a.length=c.size→(∀(i:Nat) (x:AB) (y:Value),a[i]?=some x→c[i]?=some y→VR m x y)→VR m (.agg a) (.agg c)
 |tuple (a:List AB) (c:Array Value):a.length=c.size→(∀(i:Nat) (x:AB) (y:Value),a[i]?=some x→c[i]?=some y→VR m x y)→VR m (.tuple a) (.tuple c)
 |Zf (l:Nat) (E:Mb):m l=some E→VR m (.Zf l) (.func (.yield E.g) #[] #[])
 |KQ (a:Option Addr) (cap:Nat):VR m (.HU 0 []) (.slice a 0 cap)
 |HU (n cap g o:Nat) (a:List AB) (c:Nat→Value):n≤cap→(∀i,i<a.length→m.fz g (o+i)=some (c i))→(∀(i:Nat) (x:AB),a[i]?=some x→VR m x (c i))→VR m (.HU n a) (.slice (some ⟨g,o,none⟩) n cap)
 |A0 (g o:Nat) (a:List AB) (c:Nat→Value):(∀i,i<a.length→m.fz g (o+i)=some (c i))→(∀(i:Nat) (x:AB),a[i]?=some x→VR m x (c i))→VR m (.A0 a) (.pointer (some ⟨g,o,none⟩))
def CM(m:BD)(a:List AB)(c:List Value):Prop:=a.length=c.length∧∀(i:Nat) (x:AB) (y:Value),a[i]?=some x→c[i]?=some y→VR m x y
structure BD.le(m m':BD):Prop where
 i:∀id E,m id=some E→m' id=some E
 fz:∀g o v,m.fz g o=some v→m'.fz g o=some v
theorem VR.mono{m m':BD}(hm:m.le m'){x:AB}{y:Value}(h:VR m x y):VR m' x y:=by
 induction h with
 |undef v=>exact .undef v
 |bool b=>exact .bool b
 |int k n=>exact .int k n
 |str s=>exact .str s
 |nilPtr=>exact .nilPtr
 |ptr id o E h=>exact .ptr id o E (hm.i _ _ h)
 |Jw g o=>exact .Jw g o
 |Ep=>exact .Ep
 |FH a=>exact .FH a
 |slice id o len cap E a h H hc=>exact .slice id o len cap E a (hm.i _ _ h) H hc
 |LH=>exact .LH
 |map id E h=>exact .map id E (hm.i _ _ h)
 |Km=>exact .Km
 |chan id E h=>exact .chan id E (hm.i _ _ h)
 |func fn a b c d h1 _ h2 _ i1 i2=>exact .func fn a b c d h1 i1 h2 i2
 |nilFunc=>exact .nilFunc
 |iface t x y _ ih=>exact .iface t x y ih
 |nilIface=>exact .nilIface
 |agg a c h _ ih=>exact .agg a c h ih
 |tuple a c h _ ih=>exact .tuple a c h ih
 |Zf l E h=>exact .Zf l E (hm.i _ _ h)
 |KQ a cap=>exact .KQ a cap
 |HU n cap g o a c hc J _ ih=>exact .HU n cap g o a c hc (fun i hi=>hm.fz _ _ _ (J i hi)) ih
 |A0 g o a c J _ ih=>exact .A0 g o a c (fun i hi=>hm.fz _ _ _ (J i hi)) ih
def BD.with(m m':BD):BD:=⟨m.i,m'.fz,m'.df⟩
theorem VR.back{m m':BD}(hm:m.le m'){x:AB}{y:Value}(h:VR m x y):∀{z:Value},VR m' x z→VR (m.with m') x z:=by
 induction h with
 |undef v=>intro z _;exact .undef z
 |bool b=>intro z C;cases C;exact .bool b
 |int k n=>intro z C;cases C;exact .int k n
 |str s=>intro z C;generalize hs:s.data.toList=l at C;cases C;exact .str _
 |nilPtr=>intro z C;cases C;exact .nilPtr
 | ptr id o E h=>
  intro z C;cases C with
  |ptr _ _ E' h'=>
   have:=(hm.i _ _ h).symm.trans h';injection this with this;subst this;exact .ptr id o _ h
 |Jw g o=>intro z C;cases C;exact .Jw g o
 |Ep=>intro z C;cases C<;>first|exact .Ep|exact .FH _
 |FH a=>intro z C;cases C<;>first|exact .Ep|exact .FH _
 | slice id o len cap E a h H hc=>
  intro z C;cases C with
  |slice _ _ _ cap' E' a' h' hl' M=>
   have:=(hm.i _ _ h).symm.trans h';injection this with this;subst this;exact .slice id o len cap' _ a' h hl' M
 |LH=>intro z C;cases C;exact .LH
 | map id E h=>
  intro z C;cases C with
  |map _ E' h'=>
   have:=(hm.i _ _ h).symm.trans h';injection this with this;subst this;exact .map id _ h
 |Km=>intro z C;cases C;exact .Km
 | chan id E h=>
  intro z C;cases C with
  |chan _ E' h'=>
   have:=(hm.i _ _ h).symm.trans h';injection this with this;subst this;exact .chan id _ h
 | func fn a b c d h1 k1 h2 k2 i1 i2=>
  intro z C;cases C with
  | func _ _ _ c' d' h1' k1' h2' k2'=>
   refine .func fn a b c' d' h1' (fun i x y B D=>?_) h2' (fun i x y B D=>?_)
   ·have hi:i<c.size:=by have:=(List.getElem?_eq_some_iff.1 B).1;omega
    exact i1 i x _ B (Array.getElem?_eq_getElem hi) (k1' i x y B D)
   ·have hi:i<d.size:=by have:=(List.getElem?_eq_some_iff.1 B).1;omega
    exact i2 i x _ B (Array.getElem?_eq_getElem hi) (k2' i x y B D)
 |nilFunc=>intro z C;cases C;exact .nilFunc
 |iface t x y _ ih=>intro z C;cases C with|iface _ _ y' h'=>exact .iface t x y' (ih h')
 |nilIface=>intro z C;cases C;exact .nilIface
 | agg a c h k ih=>
  intro z C;cases C with
  |agg _ c' h' k'=>
   refine .agg a c' h' (fun i x y B D=>?_);have hi:i<c.size:=by have:=(List.getElem?_eq_some_iff.1 B).1;omega
   exact ih i x _ B (Array.getElem?_eq_getElem hi) (k' i x y B D)
 | tuple a c h k ih=>
  intro z C;cases C with
  |tuple _ c' h' k'=>
   refine .tuple a c' h' (fun i x y B D=>?_);have hi:i<c.size:=by have:=(List.getElem?_eq_some_iff.1 B).1;omega
   exact ih i x _ B (Array.getElem?_eq_getElem hi) (k' i x y B D)
 | Zf l E h=>
  intro z C;cases C with
  |Zf _ E' h'=>
   have:=(hm.i _ _ h).symm.trans h';injection this with this;subst this;exact .Zf l _ h
 |KQ a cap=>intro z C;cases C with
  |KQ a' cap'=>exact .KQ a' cap'
  |HU _ cap' g o _ c hc J G=>exact .HU 0 cap' g o [] c hc (fun i hi=>by simp at hi) (fun i x B=>by simp at B)
 |HU n cap g o a c hc J G ih=>intro z C;cases C with
  |KQ a' cap'=>exact .KQ a' cap'
  |HU _ cap' g' o' _ c' M L K=>exact .HU n cap' g' o' a c' M L (fun i x B=>ih i x B (K i x B))
 |A0 g o a c J G ih=>intro z C;cases C with
  |A0 g' o' _ c' L K=>exact .A0 g' o' a c' L (fun i x B=>ih i x B (K i x B))
theorem CM.mono{m m':BD}(hm:m.le m'){a:List AB}{c:List Value}(h:CM m a c):CM m' a c:=⟨h.1,fun i x y B D=>(h.2 i x y B D).mono hm⟩
theorem CM.nil(m:BD):CM m [] []:=⟨rfl,fun i x y h=>by simp at h⟩
theorem CM.cons{m:BD}{x:AB}{y:Value}{a:List AB}{c:List Value}(h:VR m x y)(k:CM m a c):CM m (x::a) (y::c):=by
 refine⟨by simp[k.1],fun i u v hu G=>?_⟩;cases i with
 |zero=>simp at hu G;subst hu;subst G;exact h
 |succ i=>exact k.2 i u v (by simpa using hu) (by simpa using G)
theorem CM.app{m:BD}{a b:List AB}{c d:List Value}(h:CM m a c)(k:CM m b d):CM m (a++b) (c++d):=by
 refine⟨by simp[h.1,k.1],fun i x y B D=>?_⟩;by_cases hi:i<a.length
 ·rw[List.getElem?_append_left hi]at B;rw[List.getElem?_append_left (by rw[←h.1];exact hi)]at D;exact h.2 i x y B D
 ·rw[List.getElem?_append_right (by omega)]at B;rw[List.getElem?_append_right (by rw[←h.1];omega),←h.1]at D;exact k.2 _ x y B D
theorem CM.take{m:BD}{a:List AB}{c:List Value}(h:CM m a c)(n:Nat):CM m (a.take n) (c.take n):=by
 refine⟨by simp[h.1],fun i x y B D=>?_⟩;rw[List.getElem?_take]at B D;split at B
 ·rename_i hi;rw[zm hi]at D;exact h.2 i x y B D
 ·cases B
theorem CM.drop{m:BD}{a:List AB}{c:List Value}(h:CM m a c)(n:Nat):CM m (a.drop n) (c.drop n):=by
 refine⟨by simp[h.1],fun i x y B D=>?_⟩;rw[List.getElem?_drop]at B D;exact h.2 _ x y B D
theorem CM.map{m:BD}{α:Type}(f:α→AB)(g:α→Value):∀(l:List α),(∀x∈l,VR m (f x) (g x))→CM m (l.map f) (l.map g)
 |[],_=>.nil m
 |x::l,h=>.cons (h x (by simp)) (CM.map f g l fun y D=>h y (by simp[D]))
theorem CM.Ev{m:BD}{a b:List AB}{c d:List Value}(h:CM m a c)(k:CM m b d)(o:Nat):CM m (Ev a o b) (c.take o++(d++c.drop (o+d.length))):=by
 unfold Av.Ev;rw[k.1];exact(h.take o).app (k.app (h.drop _))
theorem CM.at_{m:BD}{a:List AB}{c:List Value}(h:CM m a c){i:Nat}{x:AB}(B:a[i]?=some x):∃y,c[i]?=some y∧VR m x y:=by
 have hi:i<c.length:=by rw[←h.1];exact(List.getElem?_eq_some_iff.1 B).1
 exact⟨_,List.getElem?_eq_getElem hi,h.2 i x _ B (List.getElem?_eq_getElem hi)⟩
theorem CM.ZE{m:BD}{a:List AB}{c:Array Value}(h:VR m (.agg a) (.agg c)):CM m a c.toList:=by
 cases h with
 |agg _ _ H G=>exact⟨by simpa using H,fun i x y B D=>G i x y B (by simpa using D)⟩
theorem CM.agg{m:BD}{a:List AB}{c:Array Value}(h:CM m a c.toList):VR m (.agg a) (.agg c):=
 .agg a c (by simpa using h.1) fun i x y B D=>h.2 i x y B (by simpa using D)
theorem CM.tuple{m:BD}{a:List AB}{c:Array Value}(h:CM m a c.toList):VR m (.tuple a) (.tuple c):=
 .tuple a c (by simpa using h.1) fun i x y B D=>h.2 i x y B (by simpa using D)
theorem CM.Xm{m:BD}{a:List AB}{c:Array Value}(h:VR m (.tuple a) (.tuple c)):CM m a c.toList:=by
 cases h with
 |tuple _ _ H G=>exact⟨by simpa using H,fun i x y B D=>G i x y B (by simpa using D)⟩
theorem VR.KO{m:BD}{a:List AB}{v:Value}(h:VR m (.tuple a) v):∃c,v=.tuple c∧CM m a c.toList:=by
 cases h with
 |tuple _ c H G=>exact⟨c,rfl,CM.Xm (.tuple a c H G)⟩
theorem VR.GS{m:BD}{a:List AB}{v:Value}(h:VR m (.agg a) v):∃c,v=.agg c∧CM m a c.toList:=by
 cases h with
 |agg _ c H G=>exact⟨c,rfl,CM.ZE (.agg a c H G)⟩
theorem VR.EZ{m:BD}{s:List UInt8}{v:Value}(h:VR m (.str s) v):v=.string ⟨⟨s⟩⟩:=by
 generalize B:AB.str s=x at h;cases h with
 |str b=>injection B with B;subst B;rfl
 |_=>cases B
theorem VR.OK(m:BD)(v:Value):VR m (OK v) v:=by
 unfold Av.OK;split
 ·exact .bool _
 ·exact .int _ _
 ·exact .str _
 ·exact .nilPtr
 ·exact .Ep
 ·exact .LH
 ·exact .Km
 ·exact .nilFunc
 ·exact .nilIface
 ·exact .undef _
theorem CM.OK(m:BD)(l:List Value):CM m (l.map Av.OK) l:=by
 have:=CM.map (m:=m) Av.OK id l (fun x _=>VR.OK m x);simpa using this
theorem VR.ZL(m:BD)(v:Value):VR m (ZL v) v:=by
 unfold Av.ZL;split
 ·exact CM.agg (CM.OK m _)
 ·exact CM.tuple (CM.OK m _)
 ·exact VR.OK m _
theorem VR.L8{m:BD}{g o:Nat}{a:List AB}{c:Nat→Value}(J:∀i,i<a.length→m.fz g (o+i)=some (c i))(G:∀(i:Nat) (x:AB),a[i]?=some x→VR m x (c i))(k:Nat):VR m (.A0 (a.drop k)) (.pointer (some ⟨g,o+k,none⟩)):=
 .A0 g (o+k) _ (fun i=>c (k+i)) (fun i hi=>by rw[yd]at hi;rw[yI];exact J _ (by omega)) (fun i x B=>G _ x (by rw[List.getElem?_drop]at B;exact B))
theorem VR.Q1{m:BD}{a:List AB}{v:Value}(h:VR m (.A0 a) v)(k:Nat):VR m (.A0 (a.take k)) v:=by
 cases h with
 |A0 g o _ c J G=>exact .A0 g o _ c (fun i hi=>J i (by rw[zA]at hi;omega)) (fun i x B=>G i x (by rw[List.getElem?_take]at B;split at B;exact B;cases B))
theorem VR.cells{m:BD}{x:AB}{v:Value}(h:VR m x v){cs:List AB}(hc:x.cells?=some cs):CM m cs v.cells.toList:=by
 cases h<;>simp[AB.cells?]at hc
 case agg a c H G=>subst hc;exact CM.ZE (.agg _ c H G)
 all_goals
  subst hc;refine .cons ?_ (.nil m)
  first
   |exact .bool _|exact .int _ _|exact .str _|exact .nilPtr|exact .Jw _ _|exact .Ep|exact .LH|exact .Km|exact .nilFunc|exact .nilIface
   |(constructor<;>assumption)
theorem VR.one{m:BD}{x:AB}{v:Value}(h:VR m x v)(h1:x.one=true):v.oneCell'=true:=by
 cases h<;>first|rfl|simp[AB.one]at h1
