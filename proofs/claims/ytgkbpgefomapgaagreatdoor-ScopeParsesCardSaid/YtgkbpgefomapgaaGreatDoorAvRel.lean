/-
 A part.
-/
import Derived.Test.YtgkbpgefomapgaaGreatDoorAvDef
import Derived.Below
import Derived.Laws.Entries
set_option linter.unusedSimpArgs false
namespace Go.Av
open Go.RowKit
theorem Jy{α:Type}(i j:Nat)(a b:α):(bif Nat.beq i j then a else b)=if i=j then a else b:=by
 by_cases h:i=j
 ·subst h;simp[yL]
 ·have:Nat.beq i j=false:=by
   cases e:Nat.beq i j
   ·rfl
   ·exact absurd (zJ e) h
  simp[this,h]
theorem Tr.Mg{α:Type}(l r:Tr α)(v:Option α)(j:Nat):(Tr.node l v r).get j=if j=0 then v else if j%2=1 then l.get (j / 2)else r.get (j / 2 - 1):=by
 simp only[Tr.get,Jy]
theorem Tr.XS{α:Type}(f:Nat)(l r:Tr α)(v:Option α)(i:Nat)(x:α):Tr.set (f+1) (.node l v r) i x=
  if i=0 then .node l (some x) r else if i%2=1 then .node (Tr.set f l (i / 2) x) v r else .node l v (Tr.set f r (i / 2 - 1) x):=by
 simp only[Tr.set,Jy]
theorem Tr.Xo{α:Type}(f:Nat)(i:Nat)(x:α):Tr.set (f+1) .leaf i x=Tr.set (f+1) (.node .leaf none .leaf) i x:=by
 simp only[Tr.set]
theorem Tr.Lj{α:Type}:∀(f:Nat) (t:Tr α) (i j:Nat) (x:α),i<f->(Tr.set f t i x).get j=if j=i then some x else t.get j
 |0,_,_,_,_,h=>absurd h (by omega)
 | f + 1,t,i,j,x,h=>by
  have ih:=λt i j=>Tr.Lj f t i j x;have key:∀l v r,(Tr.set (f+1) (.node l v r) i x).get j=if j=i then some x else(Tr.node l v r).get j:=by
   intro l v r;rw[Tr.XS,Tr.Mg];by_cases hi:i=0
   ·subst hi;rw[zk rfl,Tr.Mg];by_cases D:j=0
    ·rw[zk D,zk D]
    ·simp only[zm D]
   ·rw [zm hi];by_cases h1:i%2=1
    ·rw[zk h1,Tr.Mg];by_cases D:j=0
     ·rw[zk D,zk D,zm (by omega)]
     ·rw[zm D,zm D];by_cases I:j%2=1
      ·rw[zk I,zk I,ih _ _ _ (by omega)];by_cases H:j=i
       ·rw[zk H,zk (by omega)]
       ·rw[zm H,zm (by omega)]
      ·rw[zm I,zm I,zm (by omega)]
    ·rw[zm h1,Tr.Mg];by_cases D:j=0
     ·rw[zk D,zk D,zm (by omega)]
     ·rw[zm D,zm D];by_cases I:j%2=1
      ·rw[zk I,zk I,zm (by omega)]
      ·rw[zm I,zm I,ih _ _ _ (by omega)];by_cases H:j=i
       ·rw[zk H,zk (by omega)]
       ·rw[zm H,zm (by omega)]
  cases t with
  |node l v r=>exact key l v r
  |leaf=>
   rw[Tr.Xo,key];congr 1;rw[Tr.Mg];simp[Tr.get]
section
variable (h:AS)
@[simp] theorem AS.size_set (i:Nat) (o:Dc):(h.set i o).size=h.size:=rfl
@[simp] theorem AS.size_push (o:Dc):(h.push o).size=h.size+1:=rfl
theorem AS.LR{i:Nat}(hi:h.size<=i):h.get i=none:=by
 have:Nat.blt i h.size=false:=by
  cases e:Nat.blt i h.size
  ·rfl
  ·rw[yJ]at e;omega
 simp[AS.get,this]
theorem AS.D6{i:Nat}{o:Dc}(hi:h.get i=some o):i<h.size:=by
 rcases yd i h.size with G|G
 ·exact G
 ·rw[h.LR G]at hi;cases hi
theorem AS.get_eq{i:Nat}(hi:i<h.size):h.get i=h.tr.get i:=by
 have:Nat.blt i h.size=true:=by rw[yJ];exact hi
 simp[AS.get,this]
theorem AS.Lj(i j:Nat)(o:Dc)(hi:i<h.size):(h.set i o).get j=if j=i then some o else h.get j:=by
 by_cases D:j<h.size
 ·rw[AS.get_eq _ (by simpa using D),AS.get_eq _ D];exact Tr.Lj _ _ _ _ _ (by omega)
 ·rw[AS.LR _ (by simpa using Nat.le_of_not_lt D),AS.LR _ (Nat.le_of_not_lt D),zm (by omega)]
theorem AS.Fm{i:Nat}(o:Dc)(hi:i<h.size):(h.set i o).get i=some o:=by rw[h.Lj _ _ _ hi,zk rfl]
theorem AS.EW{i j:Nat}(o:Dc)(hi:i<h.size)(hne:j≠i):(h.set i o).get j=h.get j:=by rw[h.Lj _ _ _ hi,zm hne]
theorem AS.QU(o:Dc)(j:Nat):(h.push o).get j=if j=h.size then some o else h.get j:=by
 by_cases D:j<h.size+1
 ·rw[AS.get_eq _ (by simpa using D)];show(Tr.set (h.size+1) h.tr h.size o).get j=_;rw[Tr.Lj _ _ _ _ _ (by omega)];by_cases e:j=h.size
  ·simp[e]
  ·rw[zm e,zm e,AS.get_eq _ (by omega)]
 ·rw[AS.LR _ (by simp;omega),zm (by omega),AS.LR _ (by omega)]
theorem AS.ES(o:Dc):(h.push o).get h.size=some o:=by rw[h.QU,zk rfl]
theorem AS.EZ(o:Dc){j:Nat}(D:j<h.size):(h.push o).get j=h.get j:=by rw[h.QU,zm (by omega)]
end
theorem Nj:∀(l:List AE) (i:Nat),nth l i=l.getD i (.tuple [])
 |[],i=>by simp[nth]
 |a::l,0=>by simp[nth]
 |a::l,i+1=>by simpa[nth]using Nj l i
theorem Ip(l:List AE)(i j:Nat)(v:AE):nth (l.set i v) j=if i=j/\i<l.length then v else nth l j:=by
 simp only[Nj,zA,List.getElem?_set];by_cases h:i=j
 ·subst h;by_cases G:i<l.length<;>simp[G]
 ·simp[h]
@[simp] theorem Z0 (fr:Fr) (d:Option Tmp) (v:AE):(put fr d v).length=fr.length:=by cases d<;>simp[put]
structure NQ where
 g:Nat
 base:Nat
 VX:Nat
 total:Nat
structure CU where
 i:Nat->Option NQ
 fz:Nat->Nat->Option Value
 df:Nat->Prop:=λ_=>False
instance:CoeFun CU (λ_=>Nat->Option NQ):=⟨CU.i⟩
inductive VR(m:CU):AE->Value->Prop where
 |undef (v:Value):VR m .undef v
 |bool (b:Bool):VR m (.bool b) (.bool b)
 |int (k:IntKind) (n:Int):VR m (.int k n) (.int k n)
 |str (s:ByteArray):VR m (.str s.data.toList) (.string s)
 |nilPtr:VR m (.ptr none) (.pointer none)
 |ptr (id o:Nat) (E:NQ):m id=some E->VR m (.ptr (some (id,o))) (.pointer (some ⟨E.g,E.base+o,none⟩))
 |L1 (g o:Nat):VR m (.L1 g o) (.pointer (some ⟨g,o,none⟩))
 |GI:VR m (.slice none 0) (.slice none 0 0)
 |G8 (a:Addr):VR m (.slice none 0) (.slice (some a) 0 0)
 |slice (id o len cap:Nat) (E:NQ) (a:Addr):m id=some E->len<=cap->(cap≠0->a=⟨E.g,E.base+o,none⟩/\(E.VX≠0->E.base+o+cap*E.VX<=E.total))->VR m (.slice (some (id,o)) len) (.slice (some a) len cap)
 |Qq:VR m (.map none) (.map none)
 |map (id:Nat) (E:NQ):m id=some E->VR m (.map (some id)) (.map (some E.g))
 |OT:VR m (.chan none) (.chan none)
 |chan (id:Nat) (E:NQ):m id=some E->VR m (.chan (some id)) (.chan (some E.g))
 |func (fn:Fn) (a b:List AE) (c d:Array Value):a.length=c.size->(∀(i:Nat) (x:AE) (y:Value),a[i]?=some x->c[i]?=some y->VR m x y)->b.length=d.size->(∀(i:Nat) (x:AE) (y:Value),b[i]?=some x->d[i]?=some y->VR m x y)->VR m (.func fn a b) (.func fn c d)
 |nilFunc:VR m .nilFunc .nilFunc
 |iface (t:TypeId) (x:AE) (y:Value):VR m x y->VR m (.iface t x) (.iface t y)
 |nilIface:VR m .nilIface .nilIface
 |agg (a:List AE) (c:Array Value):a.length=c.size->(∀(i:Nat) (x:AE) (y:Value),a[i]?=some x->c[i]?=some y->VR m x y)->VR m (.agg a) (.agg c)
 |tuple (a:List AE) (c:Array Value):a.length=c.size->(∀(i:Nat) (x:AE) (y:Value),a[i]?=some x->c[i]?=some y->VR m x y)->VR m (.tuple a) (.tuple c)
 |Z9 (l:Nat) (E:NQ):m l=some E->VR m (.Z9 l) (.func (.yield E.g) #[] #[])
 |ND (a:Option Addr) (cap:Nat):VR m (.Jd 0 []) (.slice a 0 cap)
 |Jd (n cap g o:Nat) (a:List AE) (c:Nat->Value):n<=cap->(∀i,i<a.length->m.fz g (o+i)=some (c i))->(∀(i:Nat) (x:AE),a[i]?=some x->VR m x (c i))->VR m (.Jd n a) (.slice (some ⟨g,o,none⟩) n cap)
 |BL (g o:Nat) (a:List AE) (c:Nat->Value):(∀i,i<a.length->m.fz g (o+i)=some (c i))->(∀(i:Nat) (x:AE),a[i]?=some x->VR m x (c i))->VR m (.BL a) (.pointer (some ⟨g,o,none⟩))
def Dt(m:CU)(a:List AE)(c:List Value):Prop:=a.length=c.length/\∀(i:Nat) (x:AE) (y:Value),a[i]?=some x->c[i]?=some y->VR m x y
structure CU.le(m m':CU):Prop where
 i:∀id E,m id=some E->m' id=some E
 fz:∀g o v,m.fz g o=some v->m'.fz g o=some v
theorem VR.mono{m m':CU}(hm:m.le m'){x:AE}{y:Value}(h:VR m x y):VR m' x y:=by
 induction h with
 |undef v=>exact .undef v
 |bool b=>exact .bool b
 |int k n=>exact .int k n
 |str s=>exact .str s
 |nilPtr=>exact .nilPtr
 |ptr id o E h=>exact .ptr id o E (hm.i _ _ h)
 |L1 g o=>exact .L1 g o
 |GI=>exact .GI
 |G8 a=>exact .G8 a
 |slice id o len cap E a h G hc=>exact .slice id o len cap E a (hm.i _ _ h) G hc
 |Qq=>exact .Qq
 |map id E h=>exact .map id E (hm.i _ _ h)
 |OT=>exact .OT
 |chan id E h=>exact .chan id E (hm.i _ _ h)
 |func fn a b c d h1 _ I _ i1 i2=>exact .func fn a b c d h1 i1 I i2
 |nilFunc=>exact .nilFunc
 |iface t x y _ ih=>exact .iface t x y ih
 |nilIface=>exact .nilIface
 |agg a c h _ ih=>exact .agg a c h ih
 |tuple a c h _ ih=>exact .tuple a c h ih
 |Z9 l E h=>exact .Z9 l E (hm.i _ _ h)
 |ND a cap=>exact .ND a cap
 |Jd n cap g o a c hc J _ ih=>exact .Jd n cap g o a c hc (λi hi=>hm.fz _ _ _ (J i hi)) ih
 |BL g o a c J _ ih=>exact .BL g o a c (λi hi=>hm.fz _ _ _ (J i hi)) ih
theorem Dt.mono{m m':CU}(hm:m.le m'){a:List AE}{c:List Value}(h:Dt m a c):Dt m' a c:=⟨h.1,λi x y B C=>(h.2 i x y B C).mono hm⟩
theorem Dt.nil(m:CU):Dt m [] []:=⟨rfl,λi x y h=>by simp at h⟩
theorem Dt.cons{m:CU}{x:AE}{y:Value}{a:List AE}{c:List Value}(h:VR m x y)(k:Dt m a c):Dt m (x::a) (y::c):=by
 refine⟨by simp[k.1],λi u v hu F=>?_⟩;cases i with
 |zero=>simp at hu F;subst hu;subst F;exact h
 |succ i=>exact k.2 i u v (by simpa using hu) (by simpa using F)
theorem Dt.app{m:CU}{a b:List AE}{c d:List Value}(h:Dt m a c)(k:Dt m b d):Dt m (a++b) (c++d):=by
 refine⟨by simp[h.1,k.1],λi x y B C=>?_⟩;by_cases hi:i<a.length
 ·rw[List.getElem?_append_left hi]at B;rw[List.getElem?_append_left (by rw[<-h.1];exact hi)]at C;exact h.2 i x y B C
 ·rw[List.getElem?_append_right (by omega)]at B;rw[List.getElem?_append_right (by rw[<-h.1];omega),<-h.1]at C;exact k.2 _ x y B C
theorem Dt.take{m:CU}{a:List AE}{c:List Value}(h:Dt m a c)(n:Nat):Dt m (a.take n) (c.take n):=by
 refine⟨by simp[h.1],λi x y B C=>?_⟩;rw[List.getElem?_take]at B C;split at B
 ·rename_i hi;rw[zk hi]at C;exact h.2 i x y B C
 ·cases B
theorem Dt.drop{m:CU}{a:List AE}{c:List Value}(h:Dt m a c)(n:Nat):Dt m (a.drop n) (c.drop n):=by
 refine⟨by simp[h.1],λi x y B C=>?_⟩;rw[List.getElem?_drop]at B C;exact h.2 _ x y B C
theorem Dt.map{m:CU}{α:Type}(f:α->AE)(g:α->Value):∀(l:List α),(∀x∈l,VR m (f x) (g x))->Dt m (l.map f) (l.map g)
 |[],_=>.nil m
 |x::l,h=>.cons (h x (by simp)) (Dt.map f g l λy C=>h y (by simp[C]))
theorem Dt.Fz{m:CU}{a b:List AE}{c d:List Value}(h:Dt m a c)(k:Dt m b d)(o:Nat):Dt m (Fz a o b) (c.take o++(d++c.drop (o+d.length))):=by
 unfold Av.Fz;rw[k.1];exact(h.take o).app (k.app (h.drop _))
theorem Dt.at_{m:CU}{a:List AE}{c:List Value}(h:Dt m a c){i:Nat}{x:AE}(B:a[i]?=some x):∃y,c[i]?=some y/\VR m x y:=by
 have hi:i<c.length:=by rw[<-h.1];exact(List.getElem?_eq_some_iff.1 B).1
 exact⟨_,List.getElem?_eq_getElem hi,h.2 i x _ B (List.getElem?_eq_getElem hi)⟩
theorem Dt.Xy{m:CU}{a:List AE}{c:Array Value}(h:VR m (.agg a) (.agg c)):Dt m a c.toList:=by
 cases h with
 |agg _ _ G F=>exact⟨by simpa using G,λi x y B C=>F i x y B (by simpa using C)⟩
theorem Dt.agg{m:CU}{a:List AE}{c:Array Value}(h:Dt m a c.toList):VR m (.agg a) (.agg c):=
 .agg a c (by simpa using h.1) λi x y B C=>h.2 i x y B (by simpa using C)
theorem Dt.tuple{m:CU}{a:List AE}{c:Array Value}(h:Dt m a c.toList):VR m (.tuple a) (.tuple c):=
 .tuple a c (by simpa using h.1) λi x y B C=>h.2 i x y B (by simpa using C)
theorem Dt.XV{m:CU}{a:List AE}{c:Array Value}(h:VR m (.tuple a) (.tuple c)):Dt m a c.toList:=by
 cases h with
 |tuple _ _ G F=>exact⟨by simpa using G,λi x y B C=>F i x y B (by simpa using C)⟩
theorem VR.PB{m:CU}{a:List AE}{v:Value}(h:VR m (.tuple a) v):∃c,v=.tuple c/\Dt m a c.toList:=by
 cases h with
 |tuple _ c G F=>exact⟨c,rfl,Dt.XV (.tuple a c G F)⟩
theorem VR.Hn{m:CU}{a:List AE}{v:Value}(h:VR m (.agg a) v):∃c,v=.agg c/\Dt m a c.toList:=by
 cases h with
 |agg _ c G F=>exact⟨c,rfl,Dt.Xy (.agg a c G F)⟩
theorem VR.Ff{m:CU}{s:List UInt8}{v:Value}(h:VR m (.str s) v):v=.string ⟨⟨s⟩⟩:=by
 generalize B:AE.str s=x at h;cases h with
 |str b=>injection B with B;subst B;rfl
 |_=>cases B
theorem VR.PE(m:CU)(v:Value):VR m (PE v) v:=by
 unfold Av.PE;split
 ·exact .bool _
 ·exact .int _ _
 ·exact .str _
 ·exact .nilPtr
 ·exact .GI
 ·exact .Qq
 ·exact .OT
 ·exact .nilFunc
 ·exact .nilIface
 ·exact .undef _
theorem Dt.PE(m:CU)(l:List Value):Dt m (l.map Av.PE) l:=by
 have:=Dt.map (m:=m) Av.PE id l (λx _=>VR.PE m x);simpa using this
theorem VR.YC(m:CU)(v:Value):VR m (YC v) v:=by
 unfold Av.YC;split
 ·exact Dt.agg (Dt.PE m _)
 ·exact Dt.tuple (Dt.PE m _)
 ·exact VR.PE m _
theorem VR.M8{m:CU}{g o:Nat}{a:List AE}{c:Nat->Value}(J:∀i,i<a.length->m.fz g (o+i)=some (c i))(F:∀(i:Nat) (x:AE),a[i]?=some x->VR m x (c i))(k:Nat):VR m (.BL (a.drop k)) (.pointer (some ⟨g,o+k,none⟩)):=
 .BL g (o+k) _ (λi=>c (k+i)) (λi hi=>by rw[zL]at hi;rw[zZ];exact J _ (by omega)) (λi x B=>F _ x (by rw[List.getElem?_drop]at B;exact B))
theorem VR.R5{m:CU}{a:List AE}{v:Value}(h:VR m (.BL a) v)(k:Nat):VR m (.BL (a.take k)) v:=by
 cases h with
 |BL g o _ c J F=>exact .BL g o _ c (λi hi=>J i (by rw[zP]at hi;omega)) (λi x B=>F i x (by rw[List.getElem?_take]at B;split at B;exact B;cases B))
theorem VR.cells{m:CU}{x:AE}{v:Value}(h:VR m x v){cs:List AE}(hc:x.cells?=some cs):Dt m cs v.cells.toList:=by
 cases h<;>simp[AE.cells?]at hc
 case agg a c G F=>subst hc;exact Dt.Xy (.agg _ c G F)
 all_goals
  subst hc;refine .cons ?_ (.nil m)
  first
   |exact .bool _|exact .int _ _|exact .str _|exact .nilPtr|exact .L1 _ _|exact .GI|exact .Qq|exact .OT|exact .nilFunc|exact .nilIface
   |(constructor<;>assumption)
theorem VR.one{m:CU}{x:AE}{v:Value}(h:VR m x v)(h1:x.one=true):v.oneCell'=true:=by
 cases h<;>first|rfl|simp[AE.one]at h1
