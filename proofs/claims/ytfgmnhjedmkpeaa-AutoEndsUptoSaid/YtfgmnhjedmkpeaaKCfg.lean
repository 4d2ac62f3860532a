/-
  Several texts in one.
-/
import Derived.Lib.LaidTab
import Derived.Test.YtfgmnhjedmkpeaaAvLib
import Derived.Shelf.SlGeneric
import Derived.Ground.GgzProg
import Derived.Ground.SlgmProg
import Derived.Ground.SlgnProg
import Derived.Ground.Names8Prog
import Derived.Test.YtfgmnhjedmkpeaaAvHq
import Derived.Test.YtfgmnhjedmkpeaaAvFast
set_option linter.unusedSimpArgs false
/-
 A part.
-/
section
namespace Go.Abs
open Go
theorem K2(W:World):Bk (Mq []) W:=λg cs e=>by cases e
end Go.Abs
end
/-
 A part.
-/
section
namespace Go.Av
open Go.RowKit
set_option linter.unusedVariables false
set_option linter.unusedSimpArgs false
theorem V5{m:Aj}{m':Abs.Aj}{x:AA}{y:Abs.AA}{v:Value}(h:Xq x=some y)(I:VR m x v):Abs.VR m' y v/\y.one=true:=by
 unfold Xq at h;split at h
 ·injection h with h;subst h;have:=I.BS;subst this;exact⟨.int _ _,rfl⟩
 ·injection h with h;subst h;have:=I.CF;subst this;exact⟨.str ⟨⟨_⟩⟩,rfl⟩
 ·cases h
theorem TL:∀{cs:List AA} {ys:List Abs.AA},Ux cs=some ys->cs.length=ys.length/\∀(j:Nat) (y:Abs.AA),ys[j]?=some y->∃x,cs[j]?=some x/\Xq x=some y
 |[],ys,h=>by injection h with h;subst h;exact⟨rfl,λj y hy=>by simp at hy⟩
 |x::l,ys,h=>by
  simp only[Ux,qR,zg]at h;obtain⟨y,h1,ys',h2,rfl⟩:=h;obtain⟨k1,k2⟩:=TL h2;refine⟨by simp[k1],λj z hz=>?_⟩;cases j with
  |zero=>simp at hz;subst hz;exact⟨x,rfl,h1⟩
  |succ j=>simpa using k2 j z (by simpa using hz)
theorem Wb{cs:List AA}{n:Nat}{r a:Int}{s:List UInt8}{i:Int}{bs:List Bool}(h:Je cs n r a s i=some bs):∃cs',Ux cs=some cs'/\cs'≠[]/\QA cs' n r a s i bs:=by
 unfold Je at h;split at h
 ·rename_i cs' hc;split at h
  ·rename_i J;injection h with h;subst h;exact⟨cs',hc,J.1,J.2.choose_spec⟩
  ·cases h
 ·cases h
theorem Ps{P:Program}{f:FuncId}{args:Array Value}{w:World}{Q:Value->World->Prop}(h:Abs.Bz P f args w Q):Bz P f args w Q:=h
theorem ZS{P:Program}{w:World}{m:Aj}{b o:Nat}{cs:List AA}{ds:List Value}{cs':List Abs.AA}(I:BT m cs ds)(hd:∀(j:Nat) (v:Value),ds[j]?=some v->w.cell? ⟨b,o+j,none⟩=some v)(hc:Ux cs=some cs')(hn:cs'≠[]):
  ∃z,Abs.Rel P w (λid=>if id=0 then some ⟨b,o,0,z⟩else none) (hE cs') w:=by
 obtain⟨U,T⟩:=TL hc;have V:0<ds.length:=by rw[<-I.1,U];exact List.length_pos_iff.2 hn
 have blk:∀(j:Nat) (v:Value),ds[j]?=some v->∃cur e z,w.heap[b]?=some (.cells cur e z)/\cur[o+j]?=some v:=by
  intro j v K;have h1:=hd j v K;unfold World.cell? at h1;dsimp only at h1;split at h1
  ·rename_i cur e z F;simp at h1;exact⟨cur,e,z,F,h1⟩
  ·cases h1
 obtain⟨cur,e,z,F,_⟩:=blk 0 _ (List.getElem?_eq_getElem V);have hs:(hE cs').size=1:=rfl;have Z:(hE cs').get 0=some (.cells none 1 cs'):=Abs.AB.A8 _ _;have inv:∀id E,(λid=>if id=0 then some (⟨b,o,0,cur.size⟩:Abs.Gg)else none) id=some E->id=0/\E=⟨b,o,0,cur.size⟩:=by
  intro id E hE;dsimp only at hE;split at hE
  ·rename_i e0;injection hE with hE;exact⟨e0,hE.symm⟩
  ·cases hE
 refine⟨cur.size,Below.refl _ _,λid E hE=>?_,λid E ob hE M=>?_,λid E ob hE M hown=>?_,λid id' E E' ob ob' O hE hE'=>?_⟩
 ·obtain⟨rfl,rfl⟩:=inv id E hE;rw[hs];omega
 ·obtain⟨rfl,rfl⟩:=inv id E hE;rw[Z]at M;injection M with M;subst M;refine⟨rfl,λ_=>⟨cur,e,z,F,rfl,λj y hy=>?_,λh2=>by cases h2⟩⟩;obtain⟨x,J,hxy⟩:=T j y hy;obtain⟨v,K,hxv⟩:=I.at_ J;obtain⟨cur2,e2,z2,H,hat2⟩:=blk j v K;rw[F]at H;injection H with H;injection H with q1 q2 q3;subst q1;obtain⟨k1,k2⟩:=V5 (m':=λid=>if id=0 then some (⟨b,o,0,cur.size⟩:Abs.Gg)else none) hxy hxv;exact⟨k2,v,hat2,k1⟩
 ·obtain⟨rfl,rfl⟩:=inv id E hE;rw[Z]at M;injection M with M;subst M;cases hown
 ·exact absurd ((inv id E hE).1.trans (inv id' E' hE').1.symm) O
theorem TC{x:AA}{n:Nat}(h:P7 x=some n):I9 x=some n:=by
 unfold P7 at h;split at h
 ·exact h
 ·exact h
 ·cases h
theorem S4{m:Aj}{x:AA}{n:Nat}{a:Addr}{k cap:Nat}(h:P7 x=some n)(I:VR m x (.slice (some a) k cap))(V:n≠0):k=n/\n<=cap:=by
 unfold P7 at h;split at h
 ·injection h with h;subst h;cases I with
  |slice _ _ _ _ _ _ _ hle _=>exact⟨rfl,hle⟩
  |D5=>exact absurd rfl V
 ·injection h with h;subst h;cases I with
  |Ic=>exact absurd rfl V
  |Gi _ _ _ _ _ _ hle _ _=>exact⟨rfl,hle⟩
 ·cases h
theorem R8{m:Aj}{x y z t:AA}{cargs:Array Value}(I:BT m [x,y,z,t] cargs.toList):∃a b c d,cargs=#[a,b,c,d]/\VR m x a/\VR m y b/\VR m z c/\VR m t d:=by
 have:=I.1
 match cargs,this with
 |⟨[a,b,c,d]⟩,_=>exact⟨a,b,c,d,rfl,I.2 0 _ _ rfl rfl,I.2 1 _ _ rfl rfl,I.2 2 _ _ rfl rfl,I.2 3 _ _ rfl rfl⟩
set_option maxRecDepth 100000 in
theorem RU{P:Program}(hP:P=Abs.L.cfg.P){n:Nat}{g:Abs.Gd}{h h':Abs.AB}{f:FuncId}{args:List Abs.AA}{v:Abs.AA}(X:Abs.TZ Abs.L.cfg n g h f args=some (v,h')){w0:World}{m:Abs.Aj}{w:World}{cargs:Array Value}(r:Abs.Rel P w0 m h w)(I:Abs.BT m args cargs.toList):
  Bz P f cargs w λv' w'=>∃m':Abs.Aj,(∀id,id<h.size->m' id=m id)/\Abs.Rel P w0 m' h' w'/\Abs.VR m' v v':=Ps (by subst hP;exact Abs.LB (C:=Abs.L.cfg) Abs.L.QM X (Abs.K2 w0) r I)
theorem S0{P:Program}(hP:P=Abs.L.cfg.P)(G:Nat->Option (List AA)):J4 P G 38 λg h args=>Rz h args:=by
 refine J4.of λg h args v h' hc=>?_;unfold Rz at hc;split at hc
 ·rename_i x r a s i;split at hc
  ·rename_i n hlen;split at hc
   ·rename_i cs D;simp only[zg,zb]at hc;obtain⟨bs,J,rfl,rfl⟩:=hc;refine⟨Af.refl _ _,λw0 m w cargs rel I=>?_⟩;refine Exists.elim (Wb J) λcs' hq=>?_;have R:=hq.1;have O:=hq.2.1;have hR:=hq.2.2;unfold QA Abs.CW at hR;obtain⟨ha',id,X,hg,hb⟩:=hR;obtain⟨N,X⟩:=X;obtain⟨t',a',s',i',rfl,ht,ha,hs,hi⟩:=R8 I;obtain⟨tc,rfl,htc⟩:=ht.Cn;obtain⟨l',r',htc2,U,hr'⟩:=Ph htc;subst htc2;have e1:=ha.BS;subst e1;have e2:=hs.CF;subst e2;have e3:=hi.BS;subst e3;have e4:=hr'.BS;subst e4;have Y:n≠0:=by
     rintro rfl;have:cs=[]:=by
      have h7:=I9;unfold P7 at hlen;split at hlen
      ·injection hlen with hlen;subst hlen;unfold Bv at D;split at D<;>first|(injection D with D;exact D.symm)|(rename_i e;cases e)|cases D|skip
       all_goals simp at D
       all_goals first|exact D.symm|exact D
      ·injection hlen with hlen;subst hlen;simp only[Bv]at D;split at D
       ·injection D with D;simpa using D.symm
       ·cases D
      ·cases hlen
     subst this;injection R with R;exact O R.symm
    obtain⟨b,o,cap,ds,rfl,d1,d2,d3⟩:=Pm rel U (TC hlen) (Nat.pos_of_ne_zero Y) D;have hle:=(S4 hlen U Y).2;obtain⟨z,ra⟩:=ZS (P:=P) d2 d3 R O;have sl:Abs.VR (λid=>if id=0 then some (⟨b,o,0,z⟩:Abs.Gg)else none) (.slice (some (0,0)) n) (.slice (some ⟨b,o,none⟩) n cap):=.slice 0 0 n cap ⟨b,o,0,z⟩ _ (zk rfl) hle λ_=>⟨rfl,λV=>absurd rfl V⟩;have va:Abs.BT (λid=>if id=0 then some (⟨b,o,0,z⟩:Abs.Gg)else none) [.agg [.slice (some (0,0)) n,.int .i64 r],.int .i64 a,.str s,.int .i64 i] (#[.agg #[.slice (some ⟨b,o,none⟩) n cap,.int .i64 r],.int .i64 a,.string ⟨⟨s⟩⟩,.int .i64 i]:Array Value).toList:=
     .cons (Abs.BT.agg (.cons sl (.cons (.int _ _) (.nil _)))) (.cons (.int _ _) (.cons (.str ⟨⟨s⟩⟩) (.cons (.int _ _) (.nil _))))
    refine Bz.mono (RU hP X ra va) λv' w' ⟨m',_,ra',hvr⟩=>?_;have hbl:0<bs.length:=List.length_pos_iff.2 hb;cases hvr with
    | slice _ _ _ cap' E ad hE hle' hcap=>
     obtain⟨rfl,_⟩:=hcap (by omega);obtain⟨_,hob⟩:=ra'.obj id E _ hE hg;obtain⟨cur,e,fz,F,_,T,_⟩:=hob (by decide);have hge:w.heap.size<=E.g:=ra'.own id E _ hE hg rfl;obtain⟨q1,q2⟩:=rel.TY ra'.below hge F;have Ia:∀j,j<bs.length->cur[E.base+j]?=some (.bool (bs.getD j false)):=λj K=>by
      obtain⟨_,c',h1,h2⟩:=T j (.bool (bs.getD j false)) (by simp[List.getElem?_eq_getElem K]);rw[h1];cases h2;rfl
     refine⟨m.still E.g cur,q2,q1,.Gi bs.length cap' E.g (E.base+0) _ (λj=>.bool (bs.getD j false)) hle' (λj K=>?_) (λj x J=>?_)⟩
     ·have K:j<bs.length:=by simpa using K
      simp[Aj.still,Ia j K]
     ·have K:j<bs.length:=by simpa using(List.getElem?_eq_some_iff.1 J).1
      simp only[List.getElem?_map,List.getElem?_eq_getElem K,ze,za]at J;subst J;simp only[zo,List.getElem?_eq_getElem K,ya];exact .bool _
   ·cases hc
  ·cases hc
 ·cases hc
theorem Uf(G:Nat->Option (List AA)):J4 Go.Proofs.Try.prog G 38 λg h args=>Rz h args:=S0 rfl G
theorem N9:∀bs:List Bool,bs.map AA.bool=Ag eB bs
 |[]=>rfl
 |b::bs=>by rw[yu,N9 bs];rfl
theorem TA{C:Eu}{km:XJ}{l:List (Nat×Nat×Nat×Nat)}{g:Gd}{h:AB}{f:Nat}{α:Type}{e:α->List AA}{xs:List α}{x:AA}{r a:Int}{s:List UInt8}{i:Int}{bs:List Bool}(hk:C.kind f=3)(J:C.ext=QZ C.P km l)(U:Lb l f=some (40,0,0))
  (hn:P7 x=some xs.length) (hf:Bv h 7 xs.length x=some (Ag e xs)) (hm:Je (Ag e xs) xs.length r a s i=some bs):CW C g h f [.agg [x,.int .i64 r],.int .i64 a,.str s,.int .i64 i] (vs eB bs) h:=by
 have he:Rz h [.agg [x,.int .i64 r],.int .i64 a,.str s,.int .i64 i]=some (vs eB bs,h):=by
  unfold Rz;dsimp only;rw[hn];dsimp only;rw[hf];dsimp only;rw[hm];simp only[ze,N9]
 exact Tl (c:=(40,0,0)) hk J U he
end Go.Av
end
/-
 A part.
-/
section
namespace Go.Proofs
open Go.Shelf
def Try.Pf:Go.Shelf.Ren:=⟨fun|41=>65|n=>n,fun|22=>52|23=>3|4=>4|n=>n,fun|n=>n⟩
theorem Try.UC:Go.Proofs.SlLaysE0.n41 Try.prog Try.Pf:={
 mixed:=by kernel_rfl
 f41:=⟨Try.f65.name,by decide,Try.func65.trans (congrArg some (by kernel_rfl))⟩
 t4:=Try.underlying4
 a4:=Try.isAgg4
 z4:=Try.sizeOf4
 v4:=Try.zeroValue4
 t22:=Try.underlying52
 a22:=Try.isAgg52
 z22:=Try.sizeOf52
 v22:=Try.zeroValue52}
end Go.Proofs
end
/-
 A part.
-/
section
namespace Go.Av.L
open Go.Av Go.Lib
set_option linter.unusedSimpArgs false
set_option linter.unusedVariables false
abbrev UV:=List UInt8
def kinds:List Nat:=[0,0,0,0,1,0,1,1,7,1,0,0,0,0,0,4,9,1,1,1,1,1,1,1,1,1,1,0,0,0,0,0,0,1,1,1,1,1,3,1,1,1,1,1,0,0,0,0,0,0,1,1,1,0,1,1,1,1,1,1,1,1,0,1,1,3,1,0,0,0,1,1,1,1,1,1,1,1,1,0,1,1,1,1,1,1,1,1,1,1,1,1,1,1,0,1,1,1,1,0,1,1,1,0,0,0,0,0,0,0,0,0,0,0,0,0,0,0,0,0]
def Qf:List ((Nat×Nat)×List (Nat×List Nat)):=[((4,9),[(0,[]),(1,[]),(2,[]),(3,[]),(4,[]),(5,[]),(7,[]),(6,[7]),(8,[]),(9,[]),(10,[]),(11,[]),(12,[]),(13,[]),(14,[]),(15,[]),(16,[])]),
 ((6,8),[(0,[]),(1,[]),(2,[]),(3,[]),(4,[]),(5,[4]),(6,[]),(7,[])]),
 ((8,5),[(0,[]),(1,[]),(2,[]),(3,[]),(4,[]),(5,[]),(6,[]),(7,[]),(8,[]),(9,[]),(10,[]),(11,[]),(12,[]),(13,[]),(14,[]),(15,[]),(16,[1,3,5,7,9,11,13]),(17,[]),(18,[]),(19,[]),(20,[]),(21,[])]),
 ((16,7),[(0,[]),(1,[]),(2,[]),(3,[]),(4,[]),(5,[]),(6,[]),(7,[]),(8,[10003]),(9,[]),(10,[]),(11,[])]),
 ((17,8),[(0,[]),(1,[]),(2,[]),(3,[]),(4,[]),(5,[]),(6,[]),(7,[]),(8,[]),(9,[]),(10,[]),(11,[])]),
 ((17,12),[(0,[]),(1,[]),(2,[]),(3,[]),(4,[]),(5,[]),(6,[]),(7,[]),(8,[]),(9,[]),(10,[])]),
 ((17,14),[(0,[]),(1,[]),(2,[]),(3,[]),(4,[]),(5,[]),(6,[]),(7,[]),(8,[]),(9,[]),(10,[])]),
 ((18,6),[(0,[]),(1,[]),(2,[]),(3,[]),(4,[]),(5,[]),(6,[]),(7,[]),(8,[])]),
 ((33,1),[(0,[]),(1,[]),(2,[]),(3,[]),(4,[]),(5,[]),(6,[]),(7,[]),(8,[]),(9,[]),(10,[]),(11,[]),(12,[]),(13,[]),(14,[]),(15,[]),(16,[]),(17,[]),(18,[]),(19,[]),(20,[]),(21,[]),(22,[])]),
 ((33,4),[(0,[]),(1,[]),(2,[]),(3,[]),(4,[]),(5,[]),(6,[]),(7,[]),(8,[]),(9,[]),(10,[]),(11,[]),(12,[]),(13,[3]),(14,[]),(15,[]),(16,[])]),
 ((34,12),[(0,[]),(1,[]),(2,[]),(3,[]),(4,[]),(5,[]),(6,[]),(7,[2]),(8,[]),(9,[])]),
 ((34,14),[(0,[]),(1,[]),(2,[]),(3,[]),(5,[]),(6,[]),(7,[]),(4,[7]),(8,[]),(9,[]),(10,[]),(11,[])]),
 ((39,6),[(0,[]),(1,[]),(2,[]),(3,[]),(4,[]),(5,[]),(6,[]),(7,[]),(8,[]),(9,[]),(10,[]),(11,[]),(12,[]),(13,[]),(14,[]),(15,[]),(16,[]),(17,[]),(18,[]),(19,[]),(20,[]),(21,[]),(22,[])]),
 ((39,10),[(0,[]),(1,[]),(2,[]),(3,[]),(4,[]),(5,[]),(6,[]),(7,[]),(8,[]),(9,[]),(10,[]),(11,[]),(12,[]),(13,[]),(14,[]),(15,[]),(16,[]),(17,[]),(18,[]),(19,[])]),
 ((54,1),[(0,[]),(1,[]),(2,[]),(3,[]),(4,[]),(5,[]),(6,[]),(7,[]),(8,[]),(9,[]),(10,[]),(11,[]),(12,[]),(13,[]),(14,[]),(15,[]),(16,[]),(17,[]),(18,[])]),
 ((55,5),[(0,[]),(1,[]),(2,[]),(3,[]),(4,[]),(5,[]),(6,[]),(7,[]),(8,[]),(9,[]),(10,[])]),
 ((57,3),[(0,[]),(1,[]),(2,[]),(3,[]),(4,[]),(5,[]),(6,[]),(7,[]),(8,[]),(9,[])]),
 ((58,1),[(0,[]),(1,[]),(2,[]),(3,[]),(4,[]),(5,[]),(6,[]),(7,[]),(8,[]),(9,[])]),
 ((58,3),[(0,[]),(1,[]),(2,[]),(3,[]),(4,[]),(5,[]),(6,[]),(7,[]),(13,[]),(8,[13]),(9,[]),(10,[]),(11,[]),(12,[]),(14,[]),(15,[]),(16,[])]),
 ((59,3),[(0,[]),(1,[]),(2,[]),(3,[]),(4,[]),(5,[]),(6,[]),(7,[]),(8,[]),(9,[]),(10,[]),(11,[])]),
 ((71,5),[(0,[]),(1,[]),(2,[]),(3,[]),(4,[]),(5,[]),(6,[]),(7,[]),(8,[]),(9,[])]),
 ((73,3),[(0,[]),(1,[]),(2,[]),(3,[]),(4,[]),(5,[]),(6,[]),(7,[]),(8,[])]),
 ((73,5),[(0,[]),(1,[]),(2,[]),(3,[]),(4,[]),(5,[]),(6,[]),(7,[]),(8,[]),(9,[]),(10,[])]),
 ((74,14),[(0,[]),(1,[]),(2,[]),(3,[]),(4,[]),(5,[]),(6,[]),(7,[]),(8,[]),(9,[7]),(10,[]),(11,[])]),
 ((78,4),[(0,[]),(1,[]),(2,[]),(3,[]),(4,[]),(5,[]),(6,[]),(7,[]),(8,[]),(9,[]),(10,[]),(11,[]),(12,[]),(13,[]),(14,[]),(15,[]),(16,[]),(17,[]),(18,[]),(19,[]),(20,[]),(21,[]),(22,[]),(23,[]),(24,[]),(25,[])]),
 ((78,8),[(0,[]),(1,[]),(2,[]),(3,[]),(4,[]),(5,[]),(6,[]),(7,[]),(8,[]),(9,[]),(10,[]),(11,[]),(12,[])]),
 ((81,2),[(0,[]),(1,[]),(2,[]),(3,[]),(4,[]),(5,[]),(6,[]),(7,[]),(8,[]),(9,[]),(10,[]),(11,[]),(12,[]),(13,[]),(14,[]),(15,[]),(16,[]),(17,[]),(18,[]),(19,[]),(20,[]),(21,[]),(22,[]),(23,[]),(24,[]),(25,[]),(26,[]),(27,[]),(28,[]),(29,[]),(30,[]),(31,[]),(32,[]),(33,[]),(34,[]),(35,[]),(36,[]),(37,[])]),
 ((81,3),[(0,[]),(1,[]),(2,[]),(3,[]),(4,[]),(5,[]),(6,[]),(7,[]),(8,[]),(9,[]),(10,[]),(11,[]),(12,[]),(13,[]),(14,[])]),
 ((82,0),[(0,[]),(1,[]),(2,[]),(3,[]),(4,[]),(5,[]),(6,[]),(7,[]),(8,[]),(9,[]),(10,[]),(11,[]),(12,[])]),
 ((83,1),[(0,[]),(1,[]),(2,[]),(3,[]),(4,[]),(5,[]),(6,[]),(7,[]),(8,[]),(9,[]),(10,[]),(11,[])]),
 ((84,5),[(0,[]),(1,[]),(2,[]),(3,[]),(4,[]),(5,[]),(6,[]),(7,[4]),(8,[]),(9,[]),(10,[]),(11,[])]),
 ((84,11),[(0,[]),(1,[]),(2,[]),(3,[]),(4,[]),(5,[]),(6,[]),(7,[]),(8,[]),(9,[])]),
 ((84,20),[(0,[]),(1,[]),(2,[]),(3,[]),(4,[]),(5,[]),(6,[]),(7,[4]),(8,[]),(9,[]),(10,[]),(11,[])]),
 ((87,1),[(0,[]),(1,[]),(2,[]),(3,[]),(4,[]),(5,[]),(6,[]),(7,[]),(8,[]),(9,[]),(10,[]),(11,[]),(12,[]),(13,[]),(14,[]),(15,[]),(16,[])]),
 ((87,5),[(0,[]),(1,[]),(2,[]),(3,[]),(4,[]),(5,[]),(6,[]),(7,[]),(8,[]),(9,[])]),
 ((88,1),[(0,[]),(1,[]),(2,[]),(3,[]),(4,[]),(5,[]),(6,[]),(7,[]),(8,[]),(9,[]),(10,[]),(11,[]),(12,[]),(13,[]),(14,[]),(15,[]),(16,[]),(17,[]),(18,[]),(19,[]),(20,[]),(21,[]),(22,[]),(23,[]),(24,[]),(25,[]),(26,[]),(27,[]),(28,[]),(29,[])]),
 ((88,3),[(0,[]),(1,[]),(2,[]),(3,[]),(4,[]),(5,[]),(6,[]),(7,[]),(8,[]),(9,[])]),
 ((89,4),[(0,[]),(1,[]),(2,[]),(3,[]),(4,[]),(5,[]),(6,[]),(7,[]),(8,[])]),
 ((90,5),[(0,[]),(1,[]),(2,[]),(3,[]),(4,[]),(5,[]),(6,[]),(7,[]),(8,[]),(9,[])]),
 ((90,8),[(0,[]),(1,[]),(2,[]),(3,[]),(4,[]),(5,[]),(6,[]),(7,[]),(8,[]),(9,[]),(10,[]),(11,[])]),
 ((93,2),[(0,[]),(1,[]),(3,[]),(5,[]),(2,[3,5]),(4,[5]),(6,[])]),
 ((93,15),[(0,[]),(1,[0]),(2,[]),(3,[]),(4,[]),(5,[]),(6,[])]),
 ((93,27),[(1,[]),(0,[1]),(2,[]),(3,[]),(4,[]),(5,[])]),
 ((95,3),[(0,[]),(1,[]),(2,[]),(3,[]),(4,[]),(5,[]),(6,[]),(7,[]),(8,[]),(9,[]),(10,[]),(11,[])]),
 ((97,4),[(0,[]),(1,[]),(2,[]),(3,[]),(4,[]),(5,[]),(6,[]),(7,[]),(8,[])])]
def MJ:List (Nat×List Bool):=[(4,[true,false,false]),(7,[true]),(8,[true]),(9,[true]),(16,[true,false]),(17,[true,false]),(20,[true,false,false]),(24,[true,false]),(25,[true]),(26,[true]),(33,[false,true]),(42,[true,false]),(43,[true,false]),(50,[false,true,false]),(60,[true])]
def TM:List (Nat×List AA):=[]
def exts:List (Nat×Nat×Nat×Nat):=[(38,40,0,0),(65,4,0,3)]
def Z8:XJ:=[]
noncomputable def cfg:Eu:={P:=Go.Proofs.Try.prog,kind:=Io kinds,Iy:=JK Qf,ext:=QZ Go.Proofs.Try.prog Z8 exts,B6:=Mq TM,Vf:=Sc Go.Proofs.Try.prog (JK Qf),still:=VK MJ}
theorem UQ:∀p∈exts,J4 cfg.P cfg.B6 p.1 (Tb cfg.P Z8 p.2):=by
 intro p hp;simp only[exts,zP,List.not_mem_nil,or_false]at hp;rcases hp with rfl|rfl
 ·exact Uf _
 ·exact Ty Go.Proofs.Try.UC _
theorem QM:Fq cfg:=RZ (ks:=kinds) (l:=exts) rfl (by kernel_rfl) (by kernel_rfl) rfl rfl (by kernel_rfl) UQ
structure BB where
 w0:Int
 w1:Int
 w2:Int
 w3:Int
def Cb(x:BB):List AA:=[.int .u64 x.w0,.int .u64 x.w1,.int .u64 x.w2,.int .u64 x.w3]
structure AN where
 Kind:Int
 A:Int
 B:Int
 Min:Int
 Max:Int
 Bl:Int
 Set:BB
def AG(x:AN):List AA:=[.int .i64 x.Kind,.int .i64 x.A,.int .i64 x.B,.int .i64 x.Min,.int .i64 x.Max,.int .i64 x.Bl,.int .u64 x.Set.w0,.int .u64 x.Set.w1,.int .u64 x.Set.w2,.int .u64 x.Set.w3]
theorem GN:Kf AG 10:=⟨λ_=>rfl,λ_=>rfl,λ_=>rfl⟩
structure AL where
 Ad:List AN
 A2:Int
def GI(x:AL):List AA:=[vs AG x.Ad,.int .i64 x.A2]
structure AS where
 Kind:Int
 A:Int
 B:Int
 Min:Int
 Max:Int
 Bl:Int
 S:List UInt8
def AD(x:AS):List AA:=[.int .i64 x.Kind,.int .i64 x.A,.int .i64 x.B,.int .i64 x.Min,.int .i64 x.Max,.int .i64 x.Bl,.str x.S]
theorem CV:Kf AD 7:=⟨λ_=>rfl,λ_=>rfl,λ_=>rfl⟩
structure Bt where
 L:List AS
 A2:Int
structure AE where
 C2:Int
 a_:Int
 b_:Int
 Jz:BB
def AF(x:AE):List AA:=[.int .i64 x.C2,.int .i64 x.a_,.int .i64 x.b_,.int .u64 x.Jz.w0,.int .u64 x.Jz.w1,.int .u64 x.Jz.w2,.int .u64 x.Jz.w3]
theorem EK:Kf AF 7:=⟨λ_=>rfl,λ_=>rfl,λ_=>rfl⟩
structure Ah where
 l_:List AE
 AZ:Int
def Kh(x:Ah):List AA:=[vs AF x.l_,.int .i64 x.AZ]
structure AM where
 t_:AL
 a_:Ah
 DP:Int
 A0:Bool
abbrev VS:List AA:=[Ai 0,Ai 0,Ai 0,Ai 0,Ai 0,Ai 0,Au 0,Au 0,Au 0,Au 0]
abbrev Zu:List AA:=[Ai 0,Ai 0,Ai 0,Au 0,Au 0,Au 0,Au 0]
abbrev Ax(x:AM)(c2:AA):List AA:=[vs AG x.t_.Ad,.int .i64 x.t_.A2,c2,.int .i64 x.DP,.bool x.A0]
abbrev ME(x:AM)(c2 c4:AA):List AA:=[vs AG x.t_.Ad,.int .i64 x.t_.A2,c2,.int .i64 x.DP,c4]
end Go.Av.L
end
