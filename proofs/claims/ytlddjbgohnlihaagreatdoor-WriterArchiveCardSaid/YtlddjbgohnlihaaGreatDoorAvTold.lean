/-
  Several texts in one.
-/
import Derived.Test.YtlddjbgohnlihaaGreatDoorAvLib
import Derived.Shelf.Strconv.Itoa3
import Derived.Lib.LaidTab
import Derived.Shelf.Strconv.Itoa1
import Derived.Shelf.Strconv.Itoa2
import Derived.Shelf.SlSortCmp.NoneTotal
import Derived.Shelf.Small.Strs
/-
 A part.
-/
section
namespace Go.Av
set_option linter.unusedVariables false
set_option linter.unusedSimpArgs false
def W4(xs:List UInt8)(lo:Int):Option Nat:=if 0≤lo∧lo.toNat≤xs.length then some lo.toNat else none
def putAt(xs:List UInt8)(o:Nat)(s:List UInt8):List UInt8:=xs.take o++(s.take (xs.length - o)++xs.drop (o+s.length))
theorem LF{xs:List UInt8}{lo:Int}{o:Nat}(h:W4 xs lo=some o):0≤lo∧o=lo.toNat∧o≤xs.length:=by
 unfold W4 at h;split at h
 ·rename_i hc;cases h;exact⟨hc.1,rfl,hc.2⟩
 ·cases h
theorem Cu{xs s:List UInt8}{o:Nat}(h:o≤xs.length):(putAt xs o s).length=xs.length:=by
 simp only[putAt,ze,zA,yd];omega
section
variable {C:Gp} {f:FuncId} {g:Gd} {h:AI} {L F:List Ck} {P:Program}
theorem HH.vw(A:HH g h L F)(k:Nat){rid:Nat}{e:TypeId}{xs:List UInt8}(hk:L[k]?=some (.Af (some rid) e (Af eY xs))){lo:Int}{o:Nat}(B:W4 xs lo=some o)(K:CP P e=some 1):
  Zz P h (Cr (some rid) xs.length) 1 (some lo) none=some ⟨some (rid,o),xs.length - o⟩:=by
 obtain⟨h1,rfl,h2⟩:=LF B;have H:h.get rid=some (.cells (some e) 2 (Af eY xs)):=A.mem hk;unfold Zz Cr WG;simp only[zj,H,K,if_true];have:0≤lo∧lo≤(xs.length:Int):=⟨h1,by omega⟩;simp[this]
theorem II(xs:List UInt8):Af eY xs=xs.map fun b=>AB.int .u8 b.toNat:=by
 induction xs with
 |nil=>rfl
 |cons x r ih=>
  have:Af eY (x::r)=(.int .u8 x.toNat)::Af eY r:=rfl;rw[this,ih];rfl
theorem HH.bA(A:HH g h L F)(k:Nat){rid:Nat}{e:TypeId}{xs:List UInt8}(hk:L[k]?=some (.Af (some rid) e (Af eY xs))){lo:Int}{o:Nat}(B:W4 xs lo=some o)(s:List UInt8):
  ∃h',dZ 1 g h ⟨some (rid,o),xs.length - o⟩ s.length (.str s)=some (((min s.length (xs.length - o):Nat):Int),h')∧HH g h' (L.set k (.Af (some rid) e (Af eY (putAt xs o s)))) F:=by
 obtain⟨_,_,ho⟩:=LF B;have H:h.get rid=some (.cells (some e) 2 (Af eY xs)):=A.mem hk;have hid:=h.BN H;have hm:g.may rid=true:=A.Mv hk (by simp[Ck.ids]);unfold dZ EI;simp only[if_true];by_cases Z:min s.length (xs.length - o)=0
 ·refine⟨h,?_,?_⟩
  ·rw[zm Z,Z];rfl
  ·have e0:putAt xs o s=xs:=by
    unfold putAt;rcases Nat.min_eq_zero_iff.1 Z with hs|hs
    ·rw[zy hs];simp
    ·rw[hs,y7,ye,zI (by omega),yc (by omega),yj]
   rw[e0,OF hk,←Iy hk];exact A
 ·rw[zk Z];have S:((s.take (min s.length (xs.length - o))).map fun b=>AB.int .u8 b.toNat).length=min s.length (xs.length - o):=by simp
  have hst:Cg g h rid o ((s.take (min s.length (xs.length - o))).map fun b=>AB.int .u8 b.toNat)=some (h.set rid (.cells (some e) 2 (Af eY (putAt xs o s)))):=by
   unfold Cg;simp only[H]
   rw[zm ⟨hm,by rw[S,II,yy];omega,by
    rw[zn];intro x hx';obtain⟨b,_,rfl⟩:=zZ.1 hx'
    rfl⟩]
   rw[show Nl (some e) ((s.take (min s.length (xs.length - o))).map fun b=>AB.int .u8 b.toNat)=((s.take (min s.length (xs.length - o))).map fun b=>AB.int .u8 b.toNat) from by
    show List.map FM (List.map _ _)=_;rw[xM]
    rfl]
   congr 2;unfold Ev;rw[S,II,II,←xD,←List.map_drop];unfold putAt;rw[yn,yn];congr 2;have e1:s.take (min s.length (xs.length - o))=s.take (xs.length - o):=by
    rw[Nat.min_comm,←qY,zI (zC s.length)]
   rw[e1];congr 1;rcases Nat.le_total s.length (xs.length - o)with hle|hle
   ·rw[qs hle]
   ·rw[Nat.min_eq_right hle,yc (by omega),yc (by omega)]
  refine⟨h.set rid (.cells (some e) 2 (Af eY (putAt xs o s))),?_,?_⟩
  ·simp only[hst,zj]
  ·exact A.Rg hk (by simp) (fun j _ D=>h.BX _ hid (by simpa[Ck.ids]using D)) (h.get_set_same _ hid) (fun j D=>.inl D) (fun j D=>A.Mv hk D)
end
end Go.Av
end
/-
 A part.
-/
section
namespace Go.Av
open Go.RowKit Go.Shelf Go.Proofs Go.Lib
set_option linter.unusedVariables false
set_option linter.unusedSimpArgs false
theorem Y8{P:Program}{G:Nat→Option (List AB)}{w:World}(K:Bh G w){name:String}{g:Nat}{k:IntKind}{zs:List Int}(H:P.globalNamed name=some g)(hG:G g=some (zs.map fun z=>AB.int k z))(Z:zs≠[]):Lib.TabIs P w name k zs:=by
 obtain⟨J,cur,e,fz,hc,S,R⟩:=K.1 g _ hG;have hs:cur.size=zs.length:=by rw[S (by simpa using Z)];simp
 unfold Lib.TabIs World.var?;rw[H,za,hc];dsimp only;congr 1;refine Array.ext (by simpa using hs) fun j h1 h2=>?_;have D:j<zs.length:=by omega
 obtain⟨_,_,c,hcj,hr⟩:=R j (.int k zs[j]) (by simp[D]);rw[hr.B1,Array.getElem?_eq_getElem h1]at hcj;have:=zJ hcj;simp[this]
theorem aI {P:Program} {ρ:Ren} (L:LaysM.n171 P ρ) {G:Nat→Option (List AB)} {gn:Nat} (H:P.globalNamed "internal/strconv.uint64pow10"=some gn) (hG:G gn=some (Lib.pow10Tab.map fun z=>AB.int .u64 z)):Fw P G (ρ.f 171) fun g h args=>NF h args:=by
 refine Fw.ew fun g h args v h' hc=>?_;have en:∀args w,(callFunc (ρ.f 171) args).run P w=.ok (.enter (ρ.f 171) args) w:=enters_of L.f171 (by kernel_rfl) rfl;unfold NF at hc;split at hc
 ·rename_i n;split at hc
  ·rename_i Q;simp only[zd,zg]at hc;obtain⟨rfl,rfl⟩:=hc;refine⟨BE.refl _ _,fun w0 m w cargs K r R=>?_⟩;obtain⟨a,rfl,I⟩:=TH R;obtain rfl:=I.B1;refine Ei en ((Any.strconv_Itoa L n Q.1 Q.2 w (Y8 K H hG (by intro e;have:=congrArg List.length e;rw[Lib.pow10Tab_length]at this;simp at this))).mono ?_);rintro e w' ⟨rfl,k,os,rfl⟩;refine⟨_,rfl,m,BD.ext.refl _ _,r.later ⟨rfl,rfl,rfl,?_,fun j D=>?_⟩,VR.str ⟨(Lib.itoa n).toArray⟩⟩
   ·show w.heap.size≤(w.heap++os).size;simp
   ·show(w.heap++os)[j]?=_;rw[Array.getElem?_append_left D]
  ·cases hc
 ·cases hc
section
variable {C:Gp} {km:Zb} {l:List (Nat×Nat×Nat×Nat)} {g:Gd} {h:AI} {f:Nat}
theorem I2{n:Int}(hk:C.kind f=3)(B:C.ext=N5 C.P km l)(N:JF l f=some (12,0,0))(Q:decide (-9223372036854775808≤n∧n≤9223372036854775807)=true):BI C g h f [.int .i64 n] (.str (Lib.itoa n)) h:=by
 refine NN hk B N ?_;show NF h [.int .i64 n]=_;unfold NF;dsimp only;rw[zm (of_decide_eq_true Q)]
end
end Go.Av
end
/-
 A part.
-/
section
namespace Go.Av
open Go.RowKit Go.Shelf Go.Proofs Go.Lib Go.Sort
set_option linter.unusedVariables false
set_option linter.unusedSimpArgs false
theorem ba {P:Program} {ρ:Ren} (L:LaysM.n284 P ρ) {G:Nat→Option (List AB)} {gn:Nat} (H:P.globalNamed "internal/strconv.uint64pow10"=some gn) (hG:G gn=some (Lib.pow10Tab.map fun z=>AB.int .u64 z)):Fw P G (ρ.f 284) fun g h args=>QE h args:=by
 refine Fw.ew fun g h args v h' hc=>?_;have en:∀args w,(callFunc (ρ.f 284) args).run P w=.ok (.enter (ρ.f 284) args) w:=enters_of L.f284 (by kernel_rfl) rfl;unfold QE at hc;split at hc
 ·rename_i u;split at hc
  ·rename_i Q;simp only[zd,zg]at hc;obtain⟨rfl,rfl⟩:=hc;refine⟨BE.refl _ _,fun w0 m w cargs K r R=>?_⟩;obtain⟨a,rfl,I⟩:=TH R;obtain rfl:=I.B1;have hu:((u.toNat:Nat):Int)=u:=y3 (by omega);refine Ei en ?_;have hk:=Any.internal_strconv_numDigits L u.toNat (by omega) (by omega) w (Y8 K H hG (by intro e;have:=congrArg List.length e;rw[Lib.pow10Tab_length]at this;simp at this));rw[hu]at hk;refine hk.mono ?_;rintro e w' ⟨rfl,rfl⟩;exact⟨_,rfl,m,BD.ext.refl _ _,r,VR.int _ _⟩
  ·cases hc
 ·cases hc
theorem bO{a:AB}(h:di a=true):∃b:UInt8,a=.int .u8 (b.toNat:Int):=by
 unfold di at h;split at h
 ·rename_i k;have h:=of_decide_eq_true h;refine⟨UInt8.ofNat k.toNat,?_⟩;rw[UInt8.toNat_ofNat_of_lt' (by show k.toNat<256;omega),y3 h.1]
 ·cases h
theorem bL{P:Program}{ρ:Ren}(L:Lays.n285 P ρ)(G:Nat→Option (List AB)):Fw P G (ρ.f 285) fun g h args=>QR g h args:=by
 refine Fw.of fun g h args v h' hc=>?_;have en:∀args w,(callFunc (ρ.f 285) args).run P w=.ok (.enter (ρ.f 285) args) w:=enters_of L.f285 (by kernel_rfl) rfl;unfold QR at hc;split at hc
 ·rename_i id n u;split at hc
  ·rename_i hf;unfold RV at hf;obtain⟨hn0,hn24,hu0,hu64,hun⟩:=of_decide_eq_true hf;split at hc
   ·rename_i gr cs ho;split at hc
    ·rename_i H;obtain⟨V,hlen,hy⟩:=H;simp only[zd,zg]at hc;obtain⟨rfl,rfl⟩:=hc;have hu64':u.toNat<18446744073709551616:=by omega
     refine⟨BE.set ho V,fun w0 m w cargs rr R=>?_⟩;obtain⟨x',y',rfl,B,hy'⟩:=LA R;obtain rfl:=hy'.B1;refine Ei en ?_;cases B with
     | slice _ _ _ cap E a hE hle hcp=>
      obtain⟨rfl,_⟩:=hcp (by omega);obtain⟨Y,hb2⟩:=rr.obj id E _ hE ho;obtain⟨cur,e,fz,g1,g2,g3,g4⟩:=hb2 (by omega);have X:=g4 rfl;have hat:∀j,j<n→∃b:UInt8,cur[E.base+j]?=some (.int .u8 (b.toNat:Int)):=fun j D=>by
       have hj':j<cs.length:=by omega
       rw[zn]at hy;obtain⟨b,Q⟩:=bO (hy cs[j] (by rw[qD];exact⟨j,by rw[zA];omega,by rw[List.getElem_take]⟩));obtain⟨_,c,c1,c2⟩:=g3 j _ (List.getElem?_eq_getElem hj');rw[Q]at c2;rw[c1,c2.B1];exact⟨b,rfl⟩
      obtain⟨d,hd,hdat⟩:∃d:Array UInt8,d.size=n∧∀j,j<n→cur[E.base+j]?=some (.int .u8 ((d[j]!).toNat:Int)):=by
       refine⟨Array.ofFn fun j:Fin n=>(hat j.1 j.2).choose,by simp,fun j D=>?_⟩;rw[getElem!_pos _ j (by simpa using D),Array.getElem_ofFn];exact(hat j D).choose_spec
      have hH:Holds (fun(b:UInt8)=>Value.int .u8 (b.toNat:Int)) w E.g (E.base+0) d:=by
       intro j D;rw[hd]at D;have hc:=hdat j D;have J:=(Array.getElem?_eq_some_iff.1 hc).1;refine⟨?_,?_⟩
       ·simp only[World.cell?,g1,Option.isSome_none,yu,if_false,yU];exact hc
       ·simp only[World.frozen?,g1,yU];have:=X.no (E.base+j) (by omega);simp only[yb,zx];omega
      have hk:=Any.internal_strconv_formatBase10 L E.g (E.base+0) cap u.toNat d w hH (by rw[hd];exact hun) hu64' (by rw[hd];exact Nat.lt_of_le_of_lt hn24 (by decide));rw[hd,y3 hu0]at hk;refine hk.mono ?_;rintro e' w' ⟨rfl,n',v',dk,rfl,inv⟩;have hsz:=inv.size;have hdg:∀j,j<n→dk[j]! =Lib.dg u.toNat (n - 1 - j):=fun j D=>inv.done j (yB _) D;refine⟨_,rfl,m,BD.ext.refl _ _,?_,.tuple [] #[] rfl (fun i x y B=>by simp at B)⟩;have O:((putRow (fun(b:UInt8)=>Value.int .u8 (b.toNat:Int)) w E.g (E.base+0) dk).drewN n').heap[E.g]?=some (.cells (putCells (fun(b:UInt8)=>Value.int .u8 (b.toNat:Int)) (E.base+0) dk cur) e fz):=by
       show(w.heap.modify E.g _)[E.g]?=_;rw[Array.getElem?_modify,zm rfl,g1];rfl
      refine rr.write hE ho rfl rfl ⟨rfl,rfl,rfl,?_,fun k hk U=>?_⟩ ⟨⟨⟨Y.1.1,fun h=>by omega⟩,Y.2⟩,fun _=>⟨_,e,fz,O,?_,fun j a I=>?_,fun _=>X⟩⟩
      ·show w.heap.size≤(w.heap.modify E.g _).size;simp
      ·show(w.heap.modify E.g _)[k]?=_;rw[Array.getElem?_modify,zk (fun e=>U e.symm)]
      ·simp[putCells,g2]
      ·by_cases D:j<n
       ·rw[List.getElem?_append_left (by simp[KI];exact D)]at I;rw[List.getElem?_map]at I;have H:(KI n u.toNat)[j]?=some (Lib.dg u.toNat (n - 1 - j)):=by
         unfold KI;rw[List.getElem?_map,List.getElem?_range D];rfl
        rw[H,zj]at I;injection I with I;subst I;refine⟨rfl,.int .u8 ((Lib.dg u.toNat (n - 1 - j)).toNat:Int),?_,.int _ _⟩;have J:=(Array.getElem?_eq_some_iff.1 (hdat j D)).1;unfold putCells;rw[Array.getElem?_mapIdx,Array.getElem?_eq_getElem J,zj,zm ⟨by omega,by omega⟩];rw[show E.base+j - (E.base+0)=j by omega,hdg j D]
       ·have hlen2:((KI n u.toNat).map (fun b=>AB.int .u8 (b.toNat:Int))).length=n:=by simp[KI]
        rw[List.getElem?_append_right (by omega),hlen2,List.getElem?_drop,show n+(j - n)=j by omega]at I;obtain⟨a1,c,c1,c2⟩:=g3 j a I;refine⟨a1,c,?_,c2⟩;unfold putCells;rw[Array.getElem?_mapIdx,c1,zj,zk (by omega)]
    ·cases hc
   ·cases hc
  ·cases hc
 ·cases hc
def WY(n:Nat)(i:Int):Option Nat:=if 0≤i∧i≤n then some i.toNat else none
section
variable {C:Gp} {km:Zb} {l:List (Nat×Nat×Nat×Nat)} {g:Gd} {h:AI} {f:Nat} {L F:List Ck}
theorem ZW{u:Int}(hk:C.kind f=3)(B:C.ext=N5 C.P km l)(N:JF l f=some (13,0,0))(Q:decide (1≤u∧u<18446744073709551616)=true):BI C g h f [.int .u64 u] (.int .i64 (Lib.nDigits u.toNat:Nat)) h:=by
 refine NN hk B N ?_;show QE h [.int .u64 u]=_;unfold QE;dsimp only;rw[zm (of_decide_eq_true Q)]
theorem HH.cf(A:HH g h L F)(k:Nat){id n:Nat}{cs:List AB}(hk:L[k]?=some (.obj id (.cells none 2 cs))){i:Int}{x:Nat}(B:WY n i=some x):ZN h (id,0) n 1 none (some i)=some ⟨some (id,0),x⟩:=by
 unfold WY at B;split at B
 ·rename_i hi;cases B;unfold ZN WG;rw[A.get k hk];simp[hi]
 ·cases B
theorem ZZ(xs:List UInt8):(Af eY xs).all di=true:=by
 rw[II,zn];intro a I;obtain⟨b,_,rfl⟩:=zZ.1 I;have:=b.toNat_lt;exact zf ⟨by omega,by omega⟩
theorem RN(xs:List UInt8)(n:Nat):(Af eY xs).take n=Af eY (xs.take n):=by rw[II,II,xD]
theorem WZ(xs:List UInt8)(n:Nat):(Af eY xs).drop n=Af eY (xs.drop n):=by rw[II,II,List.map_drop]
theorem HH.fmt{id x:Nat}{u:Int}{xs:List UInt8}(A:HH g h (.obj id (.cells none 2 (Af eY xs))::L) F)(hk:C.kind f=3)(B:C.ext=N5 C.P km l)(N:JF l f=some (14,0,0))(hf:(RV x u&&decide (x≤xs.length))=true):
  ∃h',BI C g h f [.slice (some (id,0)) x,.int .u64 u] (.tuple []) h'∧HH g h' (.obj id (.cells none 2 (Af eY (KI x u.toNat++xs.drop x)))::L) F:=by
 rw[zh]at hf;have H:h.get id=some (.cells none 2 (Af eY xs)):=A.get 0 rfl;have hm:g.may id=true:=A.Mv (k:=0) rfl (by simp[Ck.ids]);have hl2:(Af eY xs).length=xs.length:=by rw[II,yy]
 have e:(KI x u.toNat).map (fun b=>AB.int .u8 (b.toNat:Int))++(Af eY xs).drop x=Af eY (KI x u.toNat++xs.drop x):=by
  rw[WZ,II,II,yn]
 refine⟨_,NN hk B N (h':=h.set id (.cells none 2 (Af eY (KI x u.toNat++xs.drop x)))) ?_,A.set 0 _ rfl⟩;show QR g h [.slice (some (id,0)) x,.int .u64 u]=_;unfold QR;simp only[hf.1,H,if_true];rw[zm ⟨hm,by rw[hl2];exact of_decide_eq_true hf.2,by rw[RN];exact ZZ _⟩,e]
theorem HH.bn(A:HH g h L F)(k:Nat){id x:Nat}{xs:List UInt8}(hk:L[k]?=some (.obj id (.cells none 2 (Af eY xs))))(B:x≤xs.length):EI h 1 (xs.take x).length (.slice (some (id,0)) (xs.take x).length)=some (Af eY (xs.take x)):=by
 have S:(xs.take x).length=x:=by rw[zA];omega
 have H:=A.get k hk;unfold EI;rw[S];by_cases Z:x=0
 ·subst Z;simp[H,Af]
 ·simp only[zk Z,H];unfold Cf;simp only[Nat.mul_one];rw[zm ⟨by omega,by rw[II,yy];omega⟩,yl,RN]
end
end Go.Av
end
/-
 A part.
-/
section
namespace Go.Av
open Go.RowKit Go.Shelf Go.Proofs Go.Lib Go.Sort
set_option linter.unusedVariables false
set_option linter.unusedSimpArgs false
theorem Wf {P:Program} {f:FuncId} {fn:Func} {c:Code} (hf:P.funcs[f]?=some fn) (hname:(fn.name=="runtime.NumGoroutine")=false) (Q:fn.body=some c):∀args w,(callFunc f args).run P w=.ok (.enter f args) w:=enters_of hf hname Q
theorem W7:∀a b:List UInt8,compareBytes a b<0↔a<b
 |[],[]=>by simp[compareBytes]
 |[],_::_=>by simp[compareBytes]
 |_::_,[]=>by simp[compareBytes]
 | a::x,b::y=>by
  unfold compareBytes;rw[List.cons_lt_cons_iff];by_cases h1:a<b
  ·simp[h1]
  ·rw[zk h1];by_cases h2:b<a
   ·rw[zm h2];have h3:¬a=b:=by rintro rfl;exact h1 h2
    simp[h1,h3]
   ·rw[zk h2,W7 x y];have h3:a=b:=UInt8.le_antisymm (UInt8.not_lt.1 h2) (UInt8.not_lt.1 h1);simp[h1,h3]
abbrev dY:J8→J8→Int:=fun x y=>compareBytes x.1 y.1
theorem db(x y:J8):ltOf dY x y=decide (x.1<y.1):=by
 unfold ltOf dY;rw[yG];exact W7 _ _
theorem dr:SWO (ltOf dY) where
 irrefl x:=by rw[db];simp
 trans x y z h1 h2:=by rw[db]at *;simp only[zD]at *;exact xE h1 h2
 ntrans x y z h1 h2:=by rw[db]at *;simp only[zx,List.not_lt]at *;exact xF h2 h1
theorem N3(x:J8):∀l,(VO x l).Perm (x::l)
 |[]=>.refl _
 |y::l=>by
  unfold VO;split
  ·exact .refl _
  ·exact((N3 x l).cons y).trans (.swap x y l)
theorem Hi:∀l,(Gi l).Perm l
 |[]=>.refl _
 |x::l=>(N3 x _).trans ((Hi l).cons x)
theorem TZ(x:J8):∀{l},l.Pairwise (fun a b:J8=>a.1≤b.1)→(VO x l).Pairwise fun a b:J8=>a.1≤b.1
 |[],_=>by simp[VO]
 | y::l,h=>by
  obtain⟨h1,h2⟩:=yx.1 h;unfold VO;split
  ·rename_i B;refine yx.2 ⟨fun z K=>?_,h⟩;rcases zF.1 K with rfl|K
   ·exact B
   ·exact xF B (h1 z K)
  ·rename_i B;refine yx.2 ⟨fun z K=>?_,TZ x h2⟩;rcases zF.1 ((N3 x l).mem_iff.1 K)with rfl|K
   ·exact(List.le_total _ _).resolve_left B
   ·exact h1 z K
theorem OQ:∀l,(Gi l).Pairwise fun a b:J8=>a.1≤b.1
 |[]=>.nil
 |x::l=>TZ x (OQ l)
theorem TC:∀{l:List J8},Nj l=true→∀x∈l,∀y∈l,x.1=y.1→x=y
 |[],_,x,B,_,_,_=>by cases B
 | z::l,h,x,B,y,hy,e=>by
  unfold Nj at h;rw[zh,zn]at h;have no:∀u∈l,u.1≠z.1:=fun u hu e=>by have:=h.1 u hu;rw[e]at this;simp at this
  rcases zF.1 B with T|T
  ·rcases zF.1 hy with M|M
   ·rw[T,M]
   ·exact absurd (e.symm.trans (by rw[T])) (no y M)
  ·rcases zF.1 hy with M|M
   ·exact absurd (e.trans (by rw[M])) (no x T)
   ·exact TC h.2 x T y M e
theorem XV{l d:List J8}(hp:d.Perm l)(hs:d.Pairwise fun a b:J8=>¬b.1<a.1)(hd:Nj l=true):d=Gi l:=by
 refine List.Perm.eq_of_pairwise (le:=fun a b:J8=>a.1≤b.1) (fun a b I Q h1 h2=>?_) (hs.imp fun h=>List.not_lt.1 h) (OQ l) (hp.trans (Hi l).symm);exact TC hd a (hp.mem_iff.1 I) b ((Hi l).mem_iff.1 Q) (List.le_antisymm h1 h2)
theorem RS{α:Type}(fw:α→J8)(bw:J8→α)(xs:List α):((Gi (xs.map fw)).map bw).length=xs.length:=by rw[yy,(Hi _).length_eq,yy]
def QQ(x:J8):List Value:=[.string ⟨⟨x.1⟩⟩,.string ⟨⟨x.2⟩⟩]
theorem T0:∀{cs:List AB} {l:List J8},NC cs=some l→cs=GP l
 |[],l,h=>by unfold NC at h;injection h with h;subst h;rfl
 |[_],l,h=>by unfold NC at h;split at h<;>simp_all
 | a::b::r,l,h=>by
  unfold NC at h;split at h
  ·rename_i he;cases he
  ·rename_i k v r' he;cases he;cases hr:NC r with
   |none=>rw[hr]at h;cases h
   |some l'=>
    rw[hr]at h;injection h with h;subst h;rw[T0 hr];rfl
  ·cases h
theorem GD:∀l:List J8,(GP l).length=l.length*2
 |[]=>rfl
 |x::l=>by
  have:=GD l;simp only[GP,yN,ze,zt,zG]at this⊢;omega
theorem Mt:∀(l:List J8) (j:Nat),j<l.length*2→∃s,(GP l)[j]?=some (.str s)∧(QQ (l.toArray[j / 2]!))[j%2]! =.string ⟨⟨s⟩⟩
 |[],j,h=>by simp at h
 |x::l,0,h=>⟨x.1,rfl,rfl⟩
 |x::l,1,h=>⟨x.2,rfl,rfl⟩
 |x::l,j+2,h=>by
  obtain⟨s,h1,h2⟩:=Mt l j (by simp at h;omega);refine⟨s,h1,?_⟩;rw[show(j+2) / 2=j / 2+1 by omega,show(j+2)%2=j%2 by omega];have:(x::l).toArray[j / 2+1]! =l.toArray[j / 2]! :=by simp
  rw[this,h2]
section
variable {P:Program} {w0:World} {m:BD} {h:AI} {w:World}
theorem XG{ρ:Ren}(L:SlLaysF0.n6 P ρ){c:FuncId}(aE:∀w,(isAgg (ρ.t 24)).run P w=.ok true w)(zE:∀w,(Go.sizeOf (ρ.t 24)).run P w=.ok 2 w)(ec:∀args w,(callFunc c args).run P w=.ok (.enter c args) w)
  (hcl:∀(a b:J8) (W:World),Calls P c #[.agg #[.string ⟨⟨a.1⟩⟩,.string ⟨⟨a.2⟩⟩],.agg #[.string ⟨⟨b.1⟩⟩,.string ⟨⟨b.2⟩⟩]] W fun e w'=>e=.returned (.int .i64 (compareBytes a.1 b.1))∧∃q os',w'=grow (W.drewN q) os')
  (G:Nat→Option (List AB)):Fw P G (ρ.f 6) fun g h args=>HI c g h args:=by
 refine Fw.of fun g h args v h' hc=>?_;have en:=L.f6.enters rfl;unfold HI at hc;split at hc
 ·rename_i r n f;split at hc
  ·rename_i hf;subst hf;split at hc
   ·rename_i S;subst S;simp only[zd,zg]at hc;obtain⟨rfl,rfl⟩:=hc;refine⟨BE.refl _ _,fun w0 m w cargs rr R=>?_⟩;obtain⟨x',y',rfl,B,hy⟩:=LA R;obtain⟨a,cap,rfl⟩:=aK B rfl;refine Ei en ?_;refine(AnyF.slices_SortFunc_none L a cap y' w).mono ?_;rintro e w' ⟨rfl,rfl⟩;exact⟨_,rfl,m,BD.ext.refl _ _,rr,.tuple [] #[] rfl (fun i x y B=>by simp at B)⟩
   ·rename_i S;split at hc
    ·rename_i id;split at hc
     ·rename_i gr cs ho;split at hc
      ·rename_i H;obtain⟨hlen,hbig,V⟩:=H;split at hc
       ·rename_i l N;split at hc
        ·rename_i hd;simp only[zd,zg]at hc;obtain⟨rfl,rfl⟩:=hc;have hcs:=T0 N;subst hcs;rw[GD]at hlen;have hln:l.length=n:=by omega
         subst hln;refine⟨BE.set ho V,fun w0 m w cargs rr R=>?_⟩;obtain⟨x',y',rfl,B,hy⟩:=LA R;refine Ei en ?_;cases B with
         | slice _ _ _ cap E a hE hle hcp=>
          obtain⟨rfl,_⟩:=hcp (by omega);have hob:=rr.obj id E _ hE ho;obtain⟨Y,hb2⟩:=hob;obtain⟨cur,e,fz,g1,g2,g3,g4⟩:=hb2 (by omega);have hnf:y'=.func (.func f) #[] #[]:=by
           cases hy with
           |func _ _ _ c' d' h1 _ h2 _=>
            have e1:c'=#[]:=qd (by simpa using h1.symm);have e2:d'=#[]:=qd (by simpa using h2.symm);rw[e1,e2]
          subst hnf;have X:=g4 rfl;have at_:∀j,j<l.length*2→cur[E.base+j]?=some ((QQ (l.toArray[j / 2]!))[j%2]!):=fun j D=>by
           obtain⟨s,s1,s2⟩:=Mt l j D;obtain⟨_,u,u1,u2⟩:=g3 j _ s1;rw[u1,s2,u2.EZ]
          have hH:HoldsK QQ 2 w E.g (E.base+0) l.toArray:=by
           intro j D;rw[size_flatK]at D;have hj':j<l.length*2:=by simpa using D
           have hc:=at_ j hj';have J:=(Array.getElem?_eq_some_iff.1 hc).1;refine⟨?_,?_⟩
           ·simp only[World.cell?,g1,Option.isSome_none,yu,if_false,yU];rw[hc,get_flatK _ _ _ _ D];rfl
           ·simp only[World.frozen?,g1,yU];have:=X.no (E.base+j) (by omega);simp only[yb,zx];omega
          refine(AnyQ.slices_SortFunc L 2 aE zE QQ (fun _=>rfl) (fun x v R=>by simp[QQ]at R;rcases R with rfl|rfl<;>rfl) dY dr f #[] E.g (E.base+0) cap l.toArray w ec (fun _ _ _ _ x y=>hcl x y _) hH (Array.getElem?_eq_some_iff.1 g1).1 ?_).mono ?_
          ·simp;omega
          ·rintro e' w' ⟨rfl,d',n',os,hp,hs,rfl⟩;have hsz:d'.size=l.length:=by simpa using hp.1
           have hd':d'.toList=Gi l:=by
            refine XV ?_ ?_ hd
            ·have:=hp.2.2;have e1:d'.extract 0 l.toArray.size=d':=by rw[←hp.1];exact Array.extract_size
             rw[e1,Array.extract_size]at this;simpa using this
            ·rw[xB];intro i j hi D hij;have:=hs i j (yB _) hij (by simp at D⊢;omega);rw[db,zx]at this;rw[getElem!_pos d' j (by simpa using D),getElem!_pos d' i (by simpa using hi)]at this;simpa using this
           obtain⟨d2,rfl⟩:∃d2,d'=List.toArray d2:=⟨d'.toList,by simp⟩;simp only at hd';subst hd';have hsl:(Gi l).length=l.length:=(Hi l).length_eq;refine⟨_,rfl,m,BD.ext.refl _ _,?_,.tuple [] #[] rfl (fun i x y B=>by simp at B)⟩;have O:(sortWorldK QQ 2 w E.g (E.base+0) n' (Gi l).toArray os).heap[E.g]?=some (.cells (putCells _root_.id (E.base+0) (flatK QQ 2 (Gi l).toArray) cur) e fz):=by
            have J:=(Array.getElem?_eq_some_iff.1 g1).1;show((w.heap.modify E.g _)++os)[E.g]?=_;rw[Array.getElem?_append_left (by simpa using J),Array.getElem?_modify,zm rfl,g1];rfl
           refine rr.write hE ho rfl rfl ⟨rfl,rfl,rfl,?_,fun k hk U=>?_⟩ ⟨⟨⟨Y.1.1,fun h=>by omega⟩,Y.2⟩,fun _=>⟨_,e,fz,O,?_,fun j a I=>?_,fun _=>X⟩⟩
           ·show w.heap.size≤((w.heap.modify E.g _)++os).size;simp
           ·show((w.heap.modify E.g _)++os)[k]?=_;rw[Array.getElem?_append_left (by simpa using hk),Array.getElem?_modify,zk (fun e=>U e.symm)]
           ·simp[putCells,g2]
           ·have D:=(List.getElem?_eq_some_iff.1 I).1;rw[GD,hsl]at D;obtain⟨s,s1,s2⟩:=Mt (Gi l) j (by omega);rw[I]at s1;injection s1 with s1;subst s1;refine⟨rfl,.string ⟨⟨s⟩⟩,?_,.str ⟨⟨s⟩⟩⟩;have J:=(Array.getElem?_eq_some_iff.1 (at_ j D)).1;unfold putCells;rw[Array.getElem?_mapIdx,Array.getElem?_eq_getElem J,zj,size_flatK];rw[zm ⟨by omega,by simp;omega⟩];have e0:E.base+j - (E.base+0)=j:=by omega
            rw[e0,get_flatK _ _ _ _ (by simp;omega),s2];rfl
        ·cases hc
       ·cases hc
      ·cases hc
     ·cases hc
    ·cases hc
  ·cases hc
 ·cases hc
end
section
variable {C:Gp} {km:Zb} {l:List (Nat×Nat×Nat×Nat)} {g:Gd} {h:AI} {f c:Nat} {L F:List Ck}
theorem Wj(hk:C.kind f=3)(B:C.ext=N5 C.P km l)(N:JF l f=some (11,c,0)):BI C g h f [.slice none 0,.func (.func c) [] []] (.tuple []) h:=by
 refine NN hk B N ?_;show HI c g h [.slice none 0,.func (.func c) [] []]=_;unfold HI;dsimp only;rw[zm rfl,zm rfl]
theorem Od:∀l:List J8,NC (GP l)=some l
 |[]=>rfl
 |(k,v)::l=>by
  show(NC (GP l)).map ((k,v)::·)=_;rw[Od l];rfl
theorem Rs{α:Type}{e:α→List AB}(fw:α→J8)(he:∀x,e x=[.str (fw x).1,.str (fw x).2]):∀xs:List α,Af e xs=GP (xs.map fw)
 |[]=>rfl
 |x::xs=>by
  have:=Rs fw he xs;simp only[Af,GP,yN,zU]at *;rw[this,he]
theorem HH.dL{α:Type}{e:α→List AB}{fw:α→J8}{bw:J8→α}{t:TypeId}{r:Option Nat}{xs:List α}(he:∀x,e x=[.str (fw x).1,.str (fw x).2])(hr:∀p,fw (bw p)=p)(A:HH g h (.Af r t (Af e xs)::L) F)
  (hk:C.kind f=3) (B:C.ext=N5 C.P km l) (N:JF l f=some (11,c,0)) (hd:Nj (xs.map fw)=true) (Q:decide (xs.length≤1099511627776)=true):
  ∃h',BI C g h f [AP r xs.length,.func (.func c) [] []] (.tuple []) h'∧HH g h' (.Af r t (Af e ((Gi (xs.map fw)).map bw))::L) F:=by
 have S:Af e ((Gi (xs.map fw)).map bw)=GP (Gi (xs.map fw)):=by
  rw[Rs fw he,xM];congr 1;rw[show fw∘bw=id from funext hr,List.map_id]
 rw[S];rw[Rs fw he]at A;cases r with
 | none=>
  have Z:GP (xs.map fw)=[]:=A.mem (k:=0) rfl;have hx0:xs=[]:=by
   have:=congrArg List.length Z;rw[GD,yy,zG]at this;exact zy (by omega)
  subst hx0;exact⟨h,Wj hk B N,A⟩
 | some id=>
  have H:h.get id=some (.cells (some t) 2 (GP (xs.map fw))):=A.mem (k:=0) rfl;have hm:g.may id=true:=A.Mv (k:=0) rfl (by simp[Ck.ids]);cases hq:Nat.beq xs.length 0 with
  |true=>
   have hx0:=xI.1 (zu hq);subst hx0;refine⟨h,NN hk B N ?_,A⟩;show HI c g h [.slice (some (id,0)) 0,.func (.func c) [] []]=_;unfold HI;dsimp only;rw[zm rfl,zm rfl]
  | false=>
   have U:xs.length≠0:=fun e=>by rw[e]at hq;exact absurd hq (by decide)
   refine⟨_,NN hk B N (h':=h.set id (.cells (some t) 2 (GP (Gi (xs.map fw))))) ?_,A.Rg (k:=0) rfl (by simp) (fun i hi hni=>?_) (h.get_set_same _ (h.BN H)) ?_ ?_⟩
   ·show HI c g h [.slice (some (id,0)) xs.length,.func (.func c) [] []]=_;unfold HI;dsimp only;rw[zm rfl,zk U];simp only[H];rw[zm ⟨by rw[GD,yy],of_decide_eq_true Q,hm⟩,Od];dsimp only;rw[zm hd]
   ·exact h.BX _ (h.BN H) (by simpa[Ck.ids]using hni)
   ·intro i hi;exact .inl hi
   ·intro i hi;exact A.Mv (k:=0) rfl hi
end
end Go.Av
end
/-
 A part.
-/
section
namespace Go.Av
open Go.RowKit
set_option linter.unusedVariables false
set_option linter.unusedSimpArgs false
section
variable {C:Gp} {km:Zb} {l:List (Nat×Nat×Nat×Nat)} {g:Gd} {h:AI} {f:Nat}
theorem bY{j n:Nat}{args:List AB}{es:List (AB×AB)}(hk:C.kind f=3)(B:C.ext=N5 C.P km l)(N:JF l f=some (33,j,n))(S:(Nat.beq args.length n&&args.all RD)=true)(he:Yw args (km.getD j [])=some es):BI C g h f args (.map (some h.size)) (h.push (.map 3 es)):=by
 refine NN hk B N ?_;show RJ (km.getD j []) n h args=_;unfold RJ;rw[S,he];rfl
end
end Go.Av
end
