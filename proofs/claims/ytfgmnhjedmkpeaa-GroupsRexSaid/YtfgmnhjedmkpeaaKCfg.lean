/-
  Several texts in one.
-/
import Derived.Lib.LaidTab
import Derived.Test.YtfgmnhjedmkpeaaAvLib
import Derived.Shelf.SlGeneric
import Derived.Ground.GgzProg
import Derived.Ground.SlgmProg
import Derived.Ground.SlgnProg
import Derived.Ground.Names8Prog
import Derived.Shelf.Lays
import Derived.Ground.NamesProg
import Derived.Test.YtfgmnhjedmkpeaaAvHq
set_option linter.unusedSimpArgs false
/-
 A part.
-/
section
namespace Go.Abs
open Go
theorem M3(W:World):CL (K8 []) W:=λg cs e=>by cases e
end Go.Abs
end
/-
 A part.
-/
section
namespace Go.Av
open Go.RowKit
set_option linter.unusedVariables false
set_option linter.unusedSimpArgs false
theorem W7{m:BU}{m':Abs.BU}{x:AD}{y:Abs.AD}{v:Value}(h:Xc x=some y)(K:VR m x v):Abs.VR m' y v/\y.one=true:=by
 unfold Xc at h;split at h
 ·injection h with h;subst h;have:=K.CG;subst this;exact⟨.int _ _,rfl⟩
 ·injection h with h;subst h;have:=K.C3;subst this;exact⟨.str ⟨⟨_⟩⟩,rfl⟩
 ·cases h
theorem Tt:∀{cs:List AD} {ys:List Abs.AD},Vc cs=some ys->cs.length=ys.length/\∀(j:Nat) (y:Abs.AD),ys[j]?=some y->∃x,cs[j]?=some x/\Xc x=some y
 |[],ys,h=>by injection h with h;subst h;exact⟨rfl,λj y hy=>by simp at hy⟩
 |x::l,ys,h=>by
  simp only[Vc,qK,zh]at h;obtain⟨y,h1,ys',h2,rfl⟩:=h;obtain⟨k1,k2⟩:=Tt h2;refine⟨by simp[k1],λj z hz=>?_⟩;cases j with
  |zero=>simp at hz;subst hz;exact⟨x,rfl,h1⟩
  |succ j=>simpa using k2 j z (by simpa using hz)
theorem WY{cs:List AD}{n:Nat}{r a:Int}{s:List UInt8}{i:Int}{bs:List Bool}(h:HP cs n r a s i=some bs):∃cs',Vc cs=some cs'/\cs'≠[]/\R4 cs' n r a s i bs:=by
 unfold HP at h;split at h
 ·rename_i cs' hc;split at h
  ·rename_i M;injection h with h;subst h;exact⟨cs',hc,M.1,M.2.choose_spec⟩
  ·cases h
 ·cases h
theorem Qp{P:Program}{f:FuncId}{args:Array Value}{w:World}{Q:Value->World->Prop}(h:Abs.Cl P f args w Q):Cl P f args w Q:=h
theorem YC{P:Program}{w:World}{m:BU}{b o:Nat}{cs:List AD}{ds:List Value}{cs':List Abs.AD}(K:B5 m cs ds)(hd:∀(j:Nat) (v:Value),ds[j]?=some v->w.cell? ⟨b,o+j,none⟩=some v)(hc:Vc cs=some cs')(hn:cs'≠[]):
  ∃z,Abs.Rel P w (λid=>if id=0 then some ⟨b,o,0,z⟩else none) (hE cs') w:=by
 obtain⟨X,V⟩:=Tt hc;have Y:0<ds.length:=by rw[<-K.1,X];exact List.length_pos_iff.2 hn
 have blk:∀(j:Nat) (v:Value),ds[j]?=some v->∃cur e z,w.heap[b]?=some (.cells cur e z)/\cur[o+j]?=some v:=by
  intro j v O;have h1:=hd j v O;unfold World.cell? at h1;dsimp only at h1;split at h1
  ·rename_i cur e z F;simp at h1;exact⟨cur,e,z,F,h1⟩
  ·cases h1
 obtain⟨cur,e,z,F,_⟩:=blk 0 _ (List.getElem?_eq_getElem Y);have hs:(hE cs').size=1:=rfl;have hg0:(hE cs').get 0=some (.cells none 1 cs'):=Abs.AE.Bh _ _;have inv:∀id E,(λid=>if id=0 then some (⟨b,o,0,cur.size⟩:Abs.Ii)else none) id=some E->id=0/\E=⟨b,o,0,cur.size⟩:=by
  intro id E hE;dsimp only at hE;split at hE
  ·rename_i e0;injection hE with hE;exact⟨e0,hE.symm⟩
  ·cases hE
 refine⟨cur.size,Below.refl _ _,λid E hE=>?_,λid E ob hE R=>?_,λid E ob hE R hown=>?_,λid id' E E' ob ob' T hE hE'=>?_⟩
 ·obtain⟨rfl,rfl⟩:=inv id E hE;rw[hs];omega
 ·obtain⟨rfl,rfl⟩:=inv id E hE;rw[hg0]at R;injection R with R;subst R;refine⟨rfl,λ_=>⟨cur,e,z,F,rfl,λj y hy=>?_,λh2=>by cases h2⟩⟩;obtain⟨x,M,hxy⟩:=V j y hy;obtain⟨v,O,hxv⟩:=K.at_ M;obtain⟨cur2,e2,z2,H,hat2⟩:=blk j v O;rw[F]at H;injection H with H;injection H with q1 q2 q3;subst q1;obtain⟨k1,k2⟩:=W7 (m':=λid=>if id=0 then some (⟨b,o,0,cur.size⟩:Abs.Ii)else none) hxy hxv;exact⟨k2,v,hat2,k1⟩
 ·obtain⟨rfl,rfl⟩:=inv id E hE;rw[hg0]at R;injection R with R;subst R;cases hown
 ·exact absurd ((inv id E hE).1.trans (inv id' E' hE').1.symm) T
theorem Tj{x:AD}{n:Nat}(h:Ra x=some n):M9 x=some n:=by
 unfold Ra at h;split at h
 ·exact h
 ·exact h
 ·cases h
theorem Ty{m:BU}{x:AD}{n:Nat}{a:Addr}{k cap:Nat}(h:Ra x=some n)(K:VR m x (.slice (some a) k cap))(Y:n≠0):k=n/\n<=cap:=by
 unfold Ra at h;split at h
 ·injection h with h;subst h;cases K with
  |slice _ _ _ _ _ _ _ hle _=>exact⟨rfl,hle⟩
  |HL=>exact absurd rfl Y
 ·injection h with h;subst h;cases K with
  |N0=>exact absurd rfl Y
  |JV _ _ _ _ _ _ hle _ _=>exact⟨rfl,hle⟩
 ·cases h
theorem S1{m:BU}{x y z t:AD}{cargs:Array Value}(K:B5 m [x,y,z,t] cargs.toList):∃a b c d,cargs=#[a,b,c,d]/\VR m x a/\VR m y b/\VR m z c/\VR m t d:=by
 have:=K.1
 match cargs,this with
 |⟨[a,b,c,d]⟩,_=>exact⟨a,b,c,d,rfl,K.2 0 _ _ rfl rfl,K.2 1 _ _ rfl rfl,K.2 2 _ _ rfl rfl,K.2 3 _ _ rfl rfl⟩
set_option maxRecDepth 100000 in
theorem TO{P:Program}(hP:P=Abs.L.cfg.P){n:Nat}{g:Abs.Gd}{h h':Abs.AE}{f:FuncId}{args:List Abs.AD}{v:Abs.AD}(Z:Abs.Td Abs.L.cfg n g h f args=some (v,h')){w0:World}{m:Abs.BU}{w:World}{cargs:Array Value}(r:Abs.Rel P w0 m h w)(K:Abs.B5 m args cargs.toList):
  Cl P f cargs w λv' w'=>∃m':Abs.BU,(∀id,id<h.size->m' id=m id)/\Abs.Rel P w0 m' h' w'/\Abs.VR m' v v':=Qp (by subst hP;exact Abs.NJ (C:=Abs.L.cfg) Abs.L.Rp Z (Abs.M3 w0) r K)
theorem UI{P:Program}(hP:P=Abs.L.cfg.P)(G:Nat->Option (List AD)):LH P G 38 λg h args=>TP h args:=by
 refine LH.of λg h args v h' hc=>?_;unfold TP at hc;split at hc
 ·rename_i x r a s i;split at hc
  ·rename_i n hlen;split at hc
   ·rename_i cs D;simp only[zh,ze]at hc;obtain⟨bs,M,rfl,rfl⟩:=hc;refine⟨BT.refl _ _,λw0 m w cargs rel K=>?_⟩;refine Exists.elim (WY M) λcs' hq=>?_;have U:=hq.1;have T:=hq.2.1;have hR:=hq.2.2;unfold R4 Abs.Bw at hR;obtain⟨ha',id,Z,hg,hb⟩:=hR;obtain⟨N,Z⟩:=Z;obtain⟨t',a',s',i',rfl,ht,ha,hs,hi⟩:=S1 K;obtain⟨tc,rfl,htc⟩:=ht.D1;obtain⟨l',r',htc2,X,hr'⟩:=O3 htc;subst htc2;have e1:=ha.CG;subst e1;have e2:=hs.C3;subst e2;have e3:=hi.CG;subst e3;have e4:=hr'.CG;subst e4;have hn0:n≠0:=by
     rintro rfl;have:cs=[]:=by
      have h7:=M9;unfold Ra at hlen;split at hlen
      ·injection hlen with hlen;subst hlen;unfold Ch at D;split at D<;>first|(injection D with D;exact D.symm)|(rename_i e;cases e)|cases D|skip
       all_goals simp at D
       all_goals first|exact D.symm|exact D
      ·injection hlen with hlen;subst hlen;simp only[Ch]at D;split at D
       ·injection D with D;simpa using D.symm
       ·cases D
      ·cases hlen
     subst this;injection U with U;exact T U.symm
    obtain⟨b,o,cap,ds,rfl,d1,d2,d3⟩:=UT rel X (Tj hlen) (Nat.pos_of_ne_zero hn0) D;have hle:=(Ty hlen X hn0).2;obtain⟨z,ra⟩:=YC (P:=P) d2 d3 U T;have sl:Abs.VR (λid=>if id=0 then some (⟨b,o,0,z⟩:Abs.Ii)else none) (.slice (some (0,0)) n) (.slice (some ⟨b,o,none⟩) n cap):=.slice 0 0 n cap ⟨b,o,0,z⟩ _ (zj rfl) hle λ_=>⟨rfl,λY=>absurd rfl Y⟩;have va:Abs.B5 (λid=>if id=0 then some (⟨b,o,0,z⟩:Abs.Ii)else none) [.agg [.slice (some (0,0)) n,.int .i64 r],.int .i64 a,.str s,.int .i64 i] (#[.agg #[.slice (some ⟨b,o,none⟩) n cap,.int .i64 r],.int .i64 a,.string ⟨⟨s⟩⟩,.int .i64 i]:Array Value).toList:=
     .cons (Abs.B5.agg (.cons sl (.cons (.int _ _) (.nil _)))) (.cons (.int _ _) (.cons (.str ⟨⟨s⟩⟩) (.cons (.int _ _) (.nil _))))
    refine Cl.mono (TO hP Z ra va) λv' w' ⟨m',_,ra',hvr⟩=>?_;have hbl:0<bs.length:=List.length_pos_iff.2 hb;cases hvr with
    | slice _ _ _ cap' E ad hE hle' hcap=>
     obtain⟨rfl,_⟩:=hcap (by omega);obtain⟨_,hob⟩:=ra'.obj id E _ hE hg;obtain⟨cur,e,fz,F,_,V,_⟩:=hob (by decide);have hge:w.heap.size<=E.g:=ra'.own id E _ hE hg rfl;obtain⟨q1,q2⟩:=rel.T4 ra'.below hge F;have hget:∀j,j<bs.length->cur[E.base+j]?=some (.bool (bs.getD j false)):=λj O=>by
      obtain⟨_,c',h1,h2⟩:=V j (.bool (bs.getD j false)) (by simp[List.getElem?_eq_getElem O]);rw[h1];cases h2;rfl
     refine⟨m.still E.g cur,q2,q1,.JV bs.length cap' E.g (E.base+0) _ (λj=>.bool (bs.getD j false)) hle' (λj O=>?_) (λj x M=>?_)⟩
     ·have O:j<bs.length:=by simpa using O
      simp[BU.still,hget j O]
     ·have O:j<bs.length:=by simpa using(List.getElem?_eq_some_iff.1 M).1
      simp only[List.getElem?_map,List.getElem?_eq_getElem O,zf,zd]at M;subst M;simp only[zl,List.getElem?_eq_getElem O,yi];exact .bool _
   ·cases hc
  ·cases hc
 ·cases hc
theorem VN(G:Nat->Option (List AD)):LH Go.Proofs.Try.prog G 38 λg h args=>TP h args:=UI rfl G
theorem Py:∀bs:List Bool,bs.map AD.bool=Af eB bs
 |[]=>rfl
 |b::bs=>by rw[ql,Py bs];rfl
theorem K0{C:Gf}{km:XB}{l:List (Nat×Nat×Nat×Nat)}{g:Gd}{h:AE}{f:Nat}{α:Type}{e:α->List AD}{xs:List α}{x:AD}{r a:Int}{s:List UInt8}{i:Int}{bs:List Bool}(hk:C.kind f=3)(M:C.ext=Qg C.P km l)(X:Mj l f=some (40,0,0))
  (hn:Ra x=some xs.length) (hf:Ch h 7 xs.length x=some (Af e xs)) (hm:HP (Af e xs) xs.length r a s i=some bs):Bw C g h f [.agg [x,.int .i64 r],.int .i64 a,.str s,.int .i64 i] (vs eB bs) h:=by
 have he:TP h [.agg [x,.int .i64 r],.int .i64 a,.str s,.int .i64 i]=some (vs eB bs,h):=by
  unfold TP;dsimp only;rw[hn];dsimp only;rw[hf];dsimp only;rw[hm];simp only[zf,Py]
 exact UB (c:=(40,0,0)) hk M X he
end Go.Av
end
/-
 A part.
-/
section
namespace Go.Proofs
open Go.Shelf
def Try.TK:Go.Shelf.Ren:=⟨fun|145=>92|220=>95|219=>98|217=>91|225=>99|224=>100|267=>101|266=>94|314=>102|n=>n,fun|9=>9|4=>4|59=>153|3=>3|5=>5|46=>119|146=>160|51=>159|n=>n,fun|1=>0|n=>n⟩
theorem Try.Xu:Go.Proofs.Lays.n145 Try.prog Try.TK:={
 mixed:=by kernel_rfl
 f145:=Try.func92.trans (congrArg some (by kernel_rfl))
 f217:=Try.func91.trans (congrArg some (by kernel_rfl))
 f219:=Try.func98.trans (congrArg some (by kernel_rfl))
 f220:=Try.func95.trans (congrArg some (by kernel_rfl))
 f224:=Try.func100.trans (congrArg some (by kernel_rfl))
 f225:=Try.func99.trans (congrArg some (by kernel_rfl))
 f266:=Try.func94.trans (congrArg some (by kernel_rfl))
 f267:=Try.func101.trans (congrArg some (by kernel_rfl))
 f314:=Try.func102.trans (congrArg some (by kernel_rfl))
 t3:=Try.underlying3
 a3:=Try.isAgg3
 z3:=Try.sizeOf3
 v3:=Try.zeroValue3
 t4:=Try.underlying4
 a4:=Try.isAgg4
 z4:=Try.sizeOf4
 v4:=Try.zeroValue4
 t5:=Try.underlying5
 a5:=Try.isAgg5
 z5:=Try.sizeOf5
 v5:=Try.zeroValue5
 t9:=Try.underlying9
 a9:=Try.isAgg9
 z9:=Try.sizeOf9
 v9:=Try.zeroValue9
 t46:=Try.underlying119
 a46:=Try.isAgg119
 z46:=Try.sizeOf119
 v46:=Try.zeroValue119
 t51:=Try.underlying159
 a51:=Try.isAgg159
 z51:=Try.sizeOf159
 v51:=Try.zeroValue159
 t59:=Try.underlying153
 a59:=Try.isAgg153
 z59:=Try.sizeOf153
 v59:=Try.zeroValue153
 t146:=Try.underlying160
 a146:=Try.isAgg160
 z146:=Try.sizeOf160
 v146:=Try.zeroValue160
 g1:=by kernel_rfl}
end Go.Proofs
end
/-
 A part.
-/
section
namespace Go.Av.L
open Go.Av Go.Lib
set_option linter.unusedSimpArgs false
set_option linter.unusedVariables false
abbrev Ym:=List UInt8
def kinds:List Nat:=[0,0,0,1,0,1,7,1,7,1,1,1,1,1,1,0,0,0,0,0,1,1,1,1,1,1,1,7,1,1,1,1,1,0,0,0,0,0,3,1,1,1,1,1,1,1,1,1,1,1,0,0,0,0,1,1,1,1,1,1,1,1,1,0,0,0,0,0,0,0,1,1,1,1,1,1,1,1,1,0,1,1,1,1,1,1,1,1,1,1,1,1,3,1,3,0,1,1,0,0,0,0,0,0,0,0,0,0,0,0,0,0,0,0,0,0,0,0,0,0]
def Su:List ((Nat×Nat)×List (Nat×List Nat)):=[((3,18),[(0,[]),(1,[]),(2,[]),(3,[]),(4,[]),(5,[]),(6,[]),(7,[]),(8,[]),(9,[]),(10,[]),(11,[]),(12,[]),(13,[]),(14,[]),(15,[]),(16,[]),(17,[]),(18,[]),(19,[]),(20,[]),(21,[]),(22,[]),(23,[]),(24,[]),(26,[]),(27,[]),(28,[]),(29,[]),(30,[]),(25,[28,30]),(31,[]),(32,[]),(33,[]),(34,[]),(35,[]),(36,[]),(37,[]),(38,[]),(39,[]),(40,[]),(41,[]),(42,[]),(43,[]),(44,[]),(45,[])]),
 ((6,8),[(0,[]),(1,[]),(2,[]),(3,[]),(4,[]),(5,[4]),(6,[]),(7,[])]),
 ((8,5),[(0,[]),(1,[]),(2,[]),(3,[]),(4,[]),(5,[]),(6,[]),(7,[]),(8,[]),(9,[]),(10,[]),(11,[]),(12,[]),(13,[]),(14,[]),(15,[]),(16,[1,3,5,7,9,11,13]),(17,[]),(18,[]),(19,[]),(20,[]),(21,[])]),
 ((12,6),[(0,[]),(1,[]),(2,[]),(3,[]),(4,[]),(5,[]),(6,[]),(7,[]),(8,[])]),
 ((27,2),[(0,[]),(1,[]),(2,[]),(3,[]),(4,[]),(5,[]),(6,[]),(7,[]),(8,[]),(9,[]),(10,[])]),
 ((27,11),[(0,[]),(1,[]),(2,[]),(3,[]),(4,[]),(5,[]),(6,[]),(7,[]),(8,[]),(9,[]),(10,[]),(11,[]),(12,[]),(13,[]),(14,[]),(15,[]),(16,[]),(17,[])]),
 ((27,31),[(0,[]),(1,[]),(2,[]),(3,[]),(4,[]),(5,[]),(6,[])]),
 ((29,3),[(0,[]),(1,[]),(2,[]),(3,[]),(4,[]),(5,[]),(6,[]),(7,[]),(8,[]),(9,[]),(10,[])]),
 ((29,10),[(0,[]),(1,[]),(2,[]),(3,[]),(4,[]),(6,[]),(7,[]),(5,[7]),(8,[]),(9,[]),(10,[])]),
 ((39,6),[(0,[]),(1,[]),(2,[]),(3,[]),(4,[]),(5,[]),(6,[]),(7,[]),(8,[]),(9,[]),(10,[]),(11,[]),(12,[]),(13,[]),(14,[]),(15,[]),(16,[]),(17,[]),(18,[]),(19,[]),(20,[]),(21,[]),(22,[])]),
 ((39,10),[(0,[]),(1,[]),(2,[]),(3,[]),(4,[]),(5,[]),(6,[]),(7,[]),(8,[]),(9,[]),(10,[]),(11,[]),(12,[]),(13,[]),(14,[]),(15,[]),(16,[]),(17,[]),(18,[]),(19,[])]),
 ((46,11),[(0,[]),(1,[]),(2,[]),(3,[]),(4,[]),(5,[]),(6,[]),(7,[5]),(8,[]),(9,[])]),
 ((47,5),[(0,[]),(1,[]),(2,[]),(3,[]),(4,[]),(5,[]),(6,[]),(7,[]),(8,[]),(10,[]),(11,[]),(9,[11]),(12,[]),(13,[]),(14,[])]),
 ((54,1),[(0,[]),(1,[]),(2,[]),(3,[]),(4,[]),(5,[]),(6,[]),(7,[]),(8,[]),(9,[]),(10,[]),(11,[]),(12,[]),(13,[]),(14,[]),(15,[]),(16,[]),(17,[]),(18,[])]),
 ((55,5),[(0,[]),(1,[]),(2,[]),(3,[]),(4,[]),(5,[]),(6,[]),(7,[]),(8,[]),(9,[]),(10,[])]),
 ((57,3),[(0,[]),(1,[]),(2,[]),(3,[]),(4,[]),(5,[]),(6,[]),(7,[]),(8,[]),(9,[])]),
 ((58,1),[(0,[]),(1,[]),(2,[]),(3,[]),(4,[]),(5,[]),(6,[]),(7,[]),(8,[]),(9,[])]),
 ((58,3),[(0,[]),(1,[]),(2,[]),(3,[]),(4,[]),(5,[]),(6,[]),(7,[]),(13,[]),(8,[13]),(9,[]),(10,[]),(11,[]),(12,[]),(14,[]),(15,[]),(16,[])]),
 ((59,3),[(0,[]),(1,[]),(2,[]),(3,[]),(4,[]),(5,[]),(6,[]),(7,[]),(8,[]),(9,[]),(10,[]),(11,[])]),
 ((71,5),[(0,[]),(1,[]),(2,[]),(3,[]),(4,[]),(5,[]),(6,[]),(7,[]),(8,[]),(9,[])]),
 ((73,3),[(0,[]),(1,[]),(2,[]),(3,[]),(4,[]),(5,[]),(6,[]),(7,[]),(8,[])]),
 ((73,5),[(0,[]),(1,[]),(2,[]),(3,[]),(4,[]),(5,[]),(6,[]),(7,[]),(8,[]),(9,[]),(10,[])]),
 ((74,14),[(0,[]),(1,[]),(2,[]),(3,[]),(4,[]),(5,[]),(6,[]),(7,[]),(8,[]),(9,[7]),(10,[]),(11,[])]),
 ((78,4),[(0,[]),(1,[]),(2,[]),(3,[]),(4,[]),(5,[]),(6,[]),(7,[]),(8,[]),(9,[]),(10,[]),(11,[]),(12,[]),(13,[]),(14,[]),(15,[]),(16,[]),(17,[]),(18,[]),(19,[]),(20,[]),(21,[]),(22,[]),(23,[]),(24,[]),(25,[])]),
 ((78,8),[(0,[]),(1,[]),(2,[]),(3,[]),(4,[]),(5,[]),(6,[]),(7,[]),(8,[]),(9,[]),(10,[]),(11,[]),(12,[])]),
 ((81,2),[(0,[]),(1,[]),(2,[]),(3,[]),(4,[]),(5,[]),(6,[]),(7,[]),(8,[]),(9,[]),(10,[]),(11,[]),(12,[]),(13,[]),(14,[]),(15,[]),(16,[]),(17,[]),(18,[]),(19,[]),(20,[]),(21,[]),(22,[]),(23,[]),(24,[]),(25,[]),(26,[]),(27,[]),(28,[]),(29,[]),(30,[]),(31,[]),(32,[]),(33,[]),(34,[]),(35,[]),(36,[]),(37,[])]),
 ((81,3),[(0,[]),(1,[]),(2,[]),(3,[]),(4,[]),(5,[]),(6,[]),(7,[]),(8,[]),(9,[]),(10,[]),(11,[]),(12,[]),(13,[]),(14,[])]),
 ((82,0),[(0,[]),(1,[]),(2,[]),(3,[]),(4,[]),(5,[]),(6,[]),(7,[]),(8,[]),(9,[]),(10,[]),(11,[]),(12,[])]),
 ((83,1),[(0,[]),(1,[]),(2,[]),(3,[]),(4,[]),(5,[]),(6,[]),(7,[]),(8,[]),(9,[]),(10,[]),(11,[])]),
 ((84,5),[(0,[]),(1,[]),(2,[]),(3,[]),(4,[]),(5,[]),(6,[]),(7,[4]),(8,[]),(9,[]),(10,[]),(11,[])]),
 ((84,11),[(0,[]),(1,[]),(2,[]),(3,[]),(4,[]),(5,[]),(6,[]),(7,[]),(8,[]),(9,[])]),
 ((84,20),[(0,[]),(1,[]),(2,[]),(3,[]),(4,[]),(5,[]),(6,[]),(7,[4]),(8,[]),(9,[]),(10,[]),(11,[])]),
 ((87,1),[(0,[]),(1,[]),(2,[]),(3,[]),(4,[]),(5,[]),(6,[]),(7,[]),(8,[]),(9,[]),(10,[]),(11,[]),(12,[]),(13,[]),(14,[]),(15,[]),(16,[])]),
 ((87,5),[(0,[]),(1,[]),(2,[]),(3,[]),(4,[]),(5,[]),(6,[]),(7,[]),(8,[]),(9,[])]),
 ((88,1),[(0,[]),(1,[]),(2,[]),(3,[]),(4,[]),(5,[]),(6,[]),(7,[]),(8,[]),(9,[]),(10,[]),(11,[]),(12,[]),(13,[]),(14,[]),(15,[]),(16,[]),(17,[]),(18,[]),(19,[]),(20,[]),(21,[]),(22,[]),(23,[]),(24,[]),(25,[]),(26,[]),(27,[]),(28,[]),(29,[])]),
 ((88,3),[(0,[]),(1,[]),(2,[]),(3,[]),(4,[]),(5,[]),(6,[]),(7,[]),(8,[]),(9,[])]),
 ((89,4),[(0,[]),(1,[]),(2,[]),(3,[]),(4,[]),(5,[]),(6,[]),(7,[]),(8,[])]),
 ((90,5),[(0,[]),(1,[]),(2,[]),(3,[]),(4,[]),(5,[]),(6,[]),(7,[]),(8,[]),(9,[])]),
 ((90,8),[(0,[]),(1,[]),(2,[]),(3,[]),(4,[]),(5,[]),(6,[]),(7,[]),(8,[]),(9,[]),(10,[]),(11,[])]),
 ((93,2),[(0,[]),(1,[]),(3,[]),(5,[]),(2,[3,5]),(4,[5]),(6,[])]),
 ((93,15),[(0,[]),(1,[0]),(2,[]),(3,[]),(4,[]),(5,[]),(6,[])]),
 ((93,27),[(1,[]),(0,[1]),(2,[]),(3,[]),(4,[]),(5,[])]),
 ((97,4),[(0,[]),(1,[]),(2,[]),(3,[]),(4,[]),(5,[]),(6,[]),(7,[]),(8,[])])]
def OP:List (Nat×List Bool):=[(7,[true]),(8,[true]),(9,[true]),(10,[true,false,false]),(11,[true,false,false,false]),(13,[true,false,false,false]),(14,[false,true]),(20,[true,false,false]),(24,[true,false]),(25,[true]),(26,[true]),(28,[true]),(31,[true,false]),(32,[true,false,false,false,false,false]),(42,[true,false]),(43,[true,false]),(44,[false,true]),(46,[true]),(47,[false,false,false,false,true,false]),(48,[true,false]),(49,[true,true,false,false,false,false,false]),(57,[false,true]),(60,[true]),(62,[true,true,false,false,false]),(73,[false,true]),(85,[true]),(89,[true,true]),(97,[true,true])]
def T9:List (Nat×List AD):=[(0,[])]
def exts:List (Nat×Nat×Nat×Nat):=[(38,40,0,0),(92,8,0,0),(94,1,0,0)]
def YZ:XB:=[]
noncomputable def cfg:Gf:={P:=Go.Proofs.Try.prog,kind:=KQ kinds,Ky:=LG Su,ext:=Qg Go.Proofs.Try.prog YZ exts,C4:=K8 T9,X6:=Uu Go.Proofs.Try.prog (LG Su),still:=V3 OP}
theorem VV:∀p∈exts,LH cfg.P cfg.C4 p.1 (Uz cfg.P YZ p.2):=by
 intro p hp;simp only[exts,ye,List.not_mem_nil,or_false]at hp;rcases hp with rfl|rfl|rfl
 ·exact VN _
 ·exact QK Go.Proofs.Try.Xu (by kernel_rfl)
 ·exact Wx _ (by kernel_rfl) (λfn h=>by
   obtain rfl:=zW (Go.Proofs.Try.func94.symm.trans h)
   exact⟨by kernel_rfl,by kernel_rfl⟩)
theorem Rp:Ie cfg:=TL (ks:=kinds) (l:=exts) rfl (by kernel_rfl) (by kernel_rfl) rfl rfl (by kernel_rfl) VV
structure Ar where
 w0:Int
 w1:Int
 w2:Int
 w3:Int
def AN(x:Ar):List AD:=[.int .u64 x.w0,.int .u64 x.w1,.int .u64 x.w2,.int .u64 x.w3]
structure AF where
 Kind:Int
 A:Int
 B:Int
 Min:Int
 Max:Int
 BO:Int
 Set:Ar
def AB(x:AF):List AD:=[.int .i64 x.Kind,.int .i64 x.A,.int .i64 x.B,.int .i64 x.Min,.int .i64 x.Max,.int .i64 x.BO,.int .u64 x.Set.w0,.int .u64 x.Set.w1,.int .u64 x.Set.w2,.int .u64 x.Set.w3]
theorem Df:Ml AB 10:=⟨λ_=>rfl,λ_=>rfl,λ_=>rfl⟩
structure AS where
 AK:List AF
 Ac:Int
structure AL where
 s_:List UInt8
 at_:Int
 AX:Bool
 t_:AS
 Ao:Int
 BH:Int
 BG:Int
 BW:Bool
structure BE where
 s_:List UInt8
 at_:Int
 H6:Bool
 D2:Ar
def CZ(x:BE):List AD:=[.str x.s_,.int .i64 x.at_,.bool x.H6,.int .u64 x.D2.w0,.int .u64 x.D2.w1,.int .u64 x.D2.w2,.int .u64 x.D2.w3]
structure AQ where
 G0:Int
 HR:Int
 at_:Int
def An(x:AQ):List AD:=[.int .i64 x.G0,.int .i64 x.HR,.int .i64 x.at_]
structure Bf where
 t_:AS
 s_:List UInt8
 IA:List (AQ×(List Bool))
structure Ad where
 F4:Int
 To:Int
 Is:Bool
def BA(x:Ad):List AD:=[.int .i64 x.F4,.int .i64 x.To,.bool x.Is]
theorem CH:Ml BA 3:=⟨λ_=>rfl,λ_=>rfl,λ_=>rfl⟩
structure AU where
 G0:Int
 HR:Int
 from_:Int
 JQ:Int
def BV(x:AU):List AD:=[.int .i64 x.G0,.int .i64 x.HR,.int .i64 x.from_,.int .i64 x.JQ]
theorem EZ:Ml BV 4:=⟨λ_=>rfl,λ_=>rfl,λ_=>rfl⟩
structure AJ where
 Kind:Int
 A:Int
 B:Int
 Min:Int
 Max:Int
 BO:Int
 S:List UInt8
def AA(x:AJ):List AD:=[.int .i64 x.Kind,.int .i64 x.A,.int .i64 x.B,.int .i64 x.Min,.int .i64 x.Max,.int .i64 x.BO,.str x.S]
theorem BN:Ml AA 7:=⟨λ_=>rfl,λ_=>rfl,λ_=>rfl⟩
structure Aq where
 L:List AJ
 Ac:Int
structure Ej where
 I:Int
 J:Int
 Ok:Bool
def B8(x:Ej):List AD:=[.int .i64 x.I,.int .i64 x.J,.bool x.Ok]
structure AH where
 F4:Int
 To:Int
 Is:Bool
def Aa(x:AH):List AD:=[.int .i64 x.F4,.int .i64 x.To,.bool x.Is]
theorem Bz:Ml Aa 3:=⟨λ_=>rfl,λ_=>rfl,λ_=>rfl⟩
instance:DecidableEq AQ:=λx y=>decidable_of_iff (x.G0=y.G0/\x.HR=y.HR/\x.at_=y.at_) (by cases x;cases y;simp)
theorem Ig:TE cfg.P 103 (λk:AQ=>.agg [.int .i64 k.G0,.int .i64 k.HR,.int .i64 k.at_]):=by
 refine⟨λx=>by kernel_rfl,λx y=>?_,λx=>by simp[Mm,PN,An]⟩;have e:Hb cfg.P 10000 103 (.agg [.int .i64 x.G0,.int .i64 x.HR,.int .i64 x.at_]) (.agg [.int .i64 y.G0,.int .i64 y.HR,.int .i64 y.at_])=Aj (x.G0==y.G0) (Aj (x.HR==y.HR) (Aj (x.at_==y.at_) (some true) (some false)) (some false)) (some false):=by kernel_rfl
 rw[e];simp only[IZ,zd];rw[qF];simp only[zg,zT,zx];cases x;cases y;simp
abbrev TT:List AD:=[Ai 0,Ai 0,Ai 0,Ai 0,Ai 0,Ai 0,Au 0,Au 0,Au 0,Au 0]
abbrev X1:List AD:=[Au (0:Int),Au (0:Int),Au (0:Int),Au (0:Int)]
abbrev X5:List AD:=[Ai 0,Ai 0,Ai 0,Ai 0,Ai 0,Ai 0,.str ([]:List UInt8)]
abbrev GA(x:AJ)(c3 c4:AD):List AD:=[.int .i64 x.Kind,.int .i64 x.A,.int .i64 x.B,c3,c4,.int .i64 x.BO,.str x.S]
abbrev OK(x:BE)(c1:AD):List AD:=[.str x.s_,c1,.bool x.H6,.int .u64 x.D2.w0,.int .u64 x.D2.w1,.int .u64 x.D2.w2,.int .u64 x.D2.w3]
abbrev HE(x:AL)(c1 c3:AD):List AD:=[.str x.s_,c1,.bool x.AX,c3,.int .i64 x.t_.Ac,.int .i64 x.Ao,.int .i64 x.BH,.int .i64 x.BG,.bool x.BW]
abbrev Ae(x:AL)(c3:AD):List AD:=[.str x.s_,.int .i64 x.at_,.bool x.AX,c3,.int .i64 x.t_.Ac,.int .i64 x.Ao,.int .i64 x.BH,.int .i64 x.BG,.bool x.BW]
abbrev PJ(x:AL)(c3 c4:AD):List AD:=[.str x.s_,.int .i64 x.at_,.bool x.AX,c3,c4,.int .i64 x.Ao,.int .i64 x.BH,.int .i64 x.BG,.bool x.BW]
abbrev PG(x:AL)(c3 c8:AD):List AD:=[.str x.s_,.int .i64 x.at_,.bool x.AX,c3,.int .i64 x.t_.Ac,.int .i64 x.Ao,.int .i64 x.BH,.int .i64 x.BG,c8]
end Go.Av.L
end
