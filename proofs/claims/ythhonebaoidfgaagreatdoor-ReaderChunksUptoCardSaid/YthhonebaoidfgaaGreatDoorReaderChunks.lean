/-
 A part.
-/
import Derived.Test.YthhonebaoidfgaaGreatDoorAvGlob
import Derived.WalkKit
import Derived.ProofKit
import Derived.JoinedCond
import Derived.Shelf.Vars
import Derived.HandedShaped
import Derived.Test.YthhonebaoidfgaaGreatDoorCards
import Derived.Test.YthhonebaoidfgaaGreatDoorTie
import Derived.Deep.DeepHandedRow
set_option linter.unusedSimpArgs false
namespace Go.Proofs.YthhonebaoidfgaaGreatDoor.readerChunks
open Go.ChangeShapes Go.WideShapes Go.ChangeAt Go.RowKit Go.Av Go.Av.L
set_option linter.unusedVariables false
set_option linter.unusedSimpArgs false
theorem own:ownKnob Tryz.prog.godebug=none:=by kernel_rfl
theorem lE:Uv Tryz.prog 22 (eL BF) (Tb (λx:B1=>(λx:AO=>IU x.Name/\IU x.BG/\(Lv .u8) x.Kind/\(Lv .i64) x.Mode/\(Lv .i64) x.Cq/\(Lv .i64) x.Cy/\(Lv .i64) x.B9/\(Lv .i64) x.Time/\IU x.A6/\IU x.A7/\(Lv .i64) x.BY/\(Lv .i64) x.Bi/\(Lv .i64) x.Form/\True) x.H/\(Tb (λx:AB=>IU x.Key/\IU x.Value/\True)) x.Hh/\IU x.IE/\True)):=uL (t:=22) (el:=59) H2 kr kr (by decide) (uR (P:=Tryz.prog) (t:=59) (e':=BF) (ok':=(λx:B1=>(λx:AO=>IU x.Name/\IU x.BG/\(Lv .u8) x.Kind/\(Lv .i64) x.Mode/\(Lv .i64) x.Cq/\(Lv .i64) x.Cy/\(Lv .i64) x.B9/\(Lv .i64) x.Time/\IU x.A6/\IU x.A7/\(Lv .i64) x.BY/\(Lv .i64) x.Bi/\(Lv .i64) x.Form/\True) x.H/\(Tb (λx:AB=>IU x.Key/\IU x.Value/\True)) x.Hh/\IU x.IE/\True)) (ts:=[57,34,9]) kr (λx:(AO)×(List AB)×(List UInt8)×Unit=>(⟨x.1,x.2.1,x.2.2.1⟩:B1)) (λx=>rfl) (λx h=>h) (HG (uR (P:=Tryz.prog) (t:=57) (e':=AP) (ok':=(λx:AO=>IU x.Name/\IU x.BG/\(Lv .u8) x.Kind/\(Lv .i64) x.Mode/\(Lv .i64) x.Cq/\(Lv .i64) x.Cy/\(Lv .i64) x.B9/\(Lv .i64) x.Time/\IU x.A6/\IU x.A7/\(Lv .i64) x.BY/\(Lv .i64) x.Bi/\(Lv .i64) x.Form/\True)) (ts:=[9,9,5,3,3,3,3,3,9,9,3,3,3]) kr (λx:(List UInt8)×(List UInt8)×(Int)×(Int)×(Int)×(Int)×(Int)×(Int)×(List UInt8)×(List UInt8)×(Int)×(Int)×(Int)×Unit=>(⟨x.1,x.2.1,x.2.2.1,x.2.2.2.1,x.2.2.2.2.1,x.2.2.2.2.2.1,x.2.2.2.2.2.2.1,x.2.2.2.2.2.2.2.1,x.2.2.2.2.2.2.2.2.1,x.2.2.2.2.2.2.2.2.2.1,x.2.2.2.2.2.2.2.2.2.2.1,x.2.2.2.2.2.2.2.2.2.2.2.1,x.2.2.2.2.2.2.2.2.2.2.2.2.1⟩:AO)) (λx=>rfl) (λx h=>h) (HG (uS (t:=9) kr) (HG (uS (t:=9) kr) (HG (uI (t:=5) (k:=.u8) kr) (HG (uI (t:=3) (k:=.i64) kr) (HG (uI (t:=3) (k:=.i64) kr) (HG (uI (t:=3) (k:=.i64) kr) (HG (uI (t:=3) (k:=.i64) kr) (HG (uI (t:=3) (k:=.i64) kr) (HG (uS (t:=9) kr) (HG (uS (t:=9) kr) (HG (uI (t:=3) (k:=.i64) kr) (HG (uI (t:=3) (k:=.i64) kr) (HG (uI (t:=3) (k:=.i64) kr) (cu))))))))))))))) (HG (uL (t:=34) (el:=100) BK kr kr (by decide) (uR (P:=Tryz.prog) (t:=100) (e':=AA) (ok':=(λx:AB=>IU x.Key/\IU x.Value/\True)) (ts:=[9,9]) kr (λx:(List UInt8)×(List UInt8)×Unit=>(⟨x.1,x.2.1⟩:AB)) (λx=>rfl) (λx h=>h) (HG (uS (t:=9) kr) (HG (uS (t:=9) kr) (cu))))) (HG (uS (t:=9) kr) (cu)))))
theorem lr:Uv Tryz.prog 24 (eL (eI .u16)) (Tb (Lv .u16)):=uL (t:=24) (el:=28) (Go.Av.encI .u16) kr kr (by decide) (uI (t:=28) (k:=.u16) kr)
theorem lY:Uv Tryz.prog 24 (eL (eI .u16)) (Tb (Lv .u16)):=uL (t:=24) (el:=28) (Go.Av.encI .u16) kr kr (by decide) (uI (t:=28) (k:=.u16) kr)
theorem maxLen{W:World}(E:W.ShapedOpen Tryz.prog):∃n:Int,W.cell? ⟨0,0,none⟩=some (.int .i64 n):=
 cell_of_shapedOpen_int (g:=0) (t:=3) (zero:=#[.int .i64 0]) (k:=.i64) E (of_decide_eq_true kr) kr rfl kr kr kr
theorem eQ{W:World}(I:laidMetH Tryz.prog Rows.readerChunksUptoRow.laid W)(E:W.ShapedOpen Tryz.prog):CH cfg.DC W:=by
 have l0:laidMet Tryz.prog Rows.readerChunksUptoRow.laid W:=I;have e0:=KX (P:=Tryz.prog) (W:=W) (g:=2) kr (Lib.tabIs_of_head (P:=Tryz.prog) (g:=2) (name:="math/bits.deBruijn32tab") (k:=.u8) (zs:=[0,1,28,2,29,14,24,3,30,22,20,15,25,17,4,8,31,27,13,23,21,19,16,7,26,12,18,6,11,5,10,9]) (t:=296) (e:=5) (n:=32) kr kr kr kr kr kr l0);have l1:=Ls l0;have e1:=KX (P:=Tryz.prog) (W:=W) (g:=3) kr (Lib.tabIs_of_head (P:=Tryz.prog) (g:=3) (name:="math/bits.deBruijn64tab") (k:=.u8) (zs:=[0,1,56,2,57,49,28,3,61,58,42,50,38,29,17,4,62,47,59,36,45,43,51,22,53,39,33,30,24,18,12,5,63,55,48,27,60,41,37,16,46,35,44,21,52,32,23,11,54,26,40,15,34,20,31,10,25,14,19,9,13,8,7,6]) (t:=297) (e:=5) (n:=64) kr kr kr kr kr kr l1);have l2:=Ls l1;have e2:=KX (P:=Tryz.prog) (W:=W) (g:=1) kr (Lib.tabIs_of_head (P:=Tryz.prog) (g:=1) (name:="internal/strconv.uint64pow10") (k:=.u64) (zs:=[1,10,100,1000,10000,100000,1000000,10000000,100000000,1000000000,10000000000,100000000000,1000000000000,10000000000000,100000000000000,1000000000000000,10000000000000000,100000000000000000,1000000000000000000,10000000000000000000]) (t:=278) (e:=217) (n:=20) kr kr kr kr kr kr l2);have l3:=Ls l2;have l4:=Ls l3;have l5:=Ls l4;exact XJ (maxLen E) (Nd e2 (Nd e0 (Nd e1 (Xq W))))
set_option maxRecDepth 100000 in
theorem dh(H:Type)(enc:TypeId×Value->H)(W:World)(base:Nat)(args:Array Value)(ds gs:List (DataW H))(before:List MemPlace)
  (D:∀(j:Nat) t v,Tryz.f4.params[j]?=some t->args[j]?=some v->Value.okWide Tryz.prog W .any base t v)
  (J:DataW.Whole enc Tryz.prog Tryz.f4.params.toList Rows.readerChunksSpec.vars false W args.toList ds gs before) (I:laidMetH Tryz.prog Rows.readerChunksUptoRow.laid W) (E:W.ShapedOpen Tryz.prog) (hk:Rows.uptoSmall H (ds++gs)=true):
  Calls Tryz.prog 4 args W λe W'=>∃v,e=.returned v/\Rows.readerChunksSpec.post enc Tryz.prog Tryz.f4 false true false false W args v W':=by
 have hW':=J;obtain⟨p,q,hA0,hV,rfl,hfz,hnd⟩:=J;have K:DataW.TrodAll enc Tryz.prog W 0 (λ_=>true) true Tryz.f4.params.toList args.toList ds p:=hA0;rw[Tryz.params4]at K;obtain⟨v0,vs0,d0,ds0,p0,q0,g0,rfl,_,⟨fu0,t0⟩,r0⟩:=trodAll_cons K;obtain⟨v1,vs1,d1,ds1,p1,q1,g1,rfl,_,⟨fu1,t1⟩,r1⟩:=trodAll_cons r0;obtain⟨v2,vs2,d2,ds2,p2,q2,g2,rfl,_,⟨fu2,t2⟩,r2⟩:=trodAll_cons r1;obtain⟨gE,rfl,_⟩:=trodAll_nil r2;have B:args.toList=[v0,v1,v2]:=by rw[g0,g1,g2,gE]
 obtain⟨x0,c0,k0⟩:=lE.h fu0 _ d0 p0 t0 (Bulk.Sr hk (by simp));have V0:=R9 (D 0 22 v0 (by rw[Tryz.params4];rfl) (by rw[<-Array.getElem?_toList,B];rfl)) c0 (show toArg Tryz.prog 22 ((eL BF) x0)=some (vs BF x0) from by kernel_rfl);obtain⟨x1,c1,k1⟩:=lr.h fu1 _ d1 p1 t1 (Bulk.Sr hk (by simp));have V1:=R9 (D 1 24 v1 (by rw[Tryz.params4];rfl) (by rw[<-Array.getElem?_toList,B];rfl)) c1 (show toArg Tryz.prog 24 ((eL (eI .u16)) x1)=some (vs (eI .u16) x1) from by kernel_rfl);obtain⟨x2,c2,k2⟩:=lY.h fu2 _ d2 p2 t2 (Bulk.Sr hk (by simp));have V2:=R9 (D 2 24 v2 (by rw[Tryz.params4];rfl) (by rw[<-Array.getElem?_toList,B];rfl)) c2 (show toArg Tryz.prog 24 ((eL (eI .u16)) x2)=some (vs (eI .u16) x2) from by kernel_rfl);have hm:=RF x0 k0 x1 k1 x2 k2;obtain⟨v,h',hr,ev,_⟩:=Js (g:=⟨0,[]⟩) (h:=⟨0,.leaf⟩) (F:=[]) (av:=[vs BF x0,vs (eI .u16) x1,vs (eI .u16) x2]) hm (hc:=rfl) HH.start;subst ev;exact Ze (C:=cfg) ix (eQ I E) kr Tryz.func4 kr (c:=Ps cfg.P 4) kr (by rw[Tryz.params4];intro t G;simp only[zF,yb,or_false]at G;rcases G with rfl|rfl|rfl<;>exact⟨by kernel_rfl,of_decide_eq_true kr⟩) (tb:=4) kr kr rfl (by rfl) hW' (by rw[B];exact .cons V0 (.cons V1 (.cons V2 (.nil _)))) hr
noncomputable def Qh(os:Os):World:={World.holding Tryz.prog os ⟨#[],#[],[]⟩with heap:=((((((World.holding Tryz.prog os ⟨#[],#[],[]⟩).heap.modify 2 fun
      | .cells _ t frozen=>.cells #[.int .u8 0,.int .u8 1,.int .u8 28,.int .u8 2,.int .u8 29,.int .u8 14,.int .u8 24,.int .u8 3,.int .u8 30,.int .u8 22,.int .u8 20,.int .u8 15,.int .u8 25,.int .u8 17,.int .u8 4,.int .u8 8,.int .u8 31,.int .u8 27,.int .u8 13,.int .u8 23,.int .u8 21,.int .u8 19,.int .u8 16,.int .u8 7,.int .u8 26,.int .u8 12,.int .u8 18,.int .u8 6,.int .u8 11,.int .u8 5,.int .u8 10,.int .u8 9] t frozen
      |o=>o).modify 3 fun
      | .cells _ t frozen=>.cells #[.int .u8 0,.int .u8 1,.int .u8 56,.int .u8 2,.int .u8 57,.int .u8 49,.int .u8 28,.int .u8 3,.int .u8 61,.int .u8 58,.int .u8 42,.int .u8 50,.int .u8 38,.int .u8 29,.int .u8 17,.int .u8 4,.int .u8 62,.int .u8 47,.int .u8 59,.int .u8 36,.int .u8 45,.int .u8 43,.int .u8 51,.int .u8 22,.int .u8 53,.int .u8 39,.int .u8 33,.int .u8 30,.int .u8 24,.int .u8 18,.int .u8 12,.int .u8 5,.int .u8 63,.int .u8 55,.int .u8 48,.int .u8 27,.int .u8 60,.int .u8 41,.int .u8 37,.int .u8 16,.int .u8 46,.int .u8 35,.int .u8 44,.int .u8 21,.int .u8 52,.int .u8 32,.int .u8 23,.int .u8 11,.int .u8 54,.int .u8 26,.int .u8 40,.int .u8 15,.int .u8 34,.int .u8 20,.int .u8 31,.int .u8 10,.int .u8 25,.int .u8 14,.int .u8 19,.int .u8 9,.int .u8 13,.int .u8 8,.int .u8 7,.int .u8 6] t frozen
      |o=>o).modify 1 fun
      | .cells _ t frozen=>.cells #[.int .u64 1,.int .u64 10,.int .u64 100,.int .u64 1000,.int .u64 10000,.int .u64 100000,.int .u64 1000000,.int .u64 10000000,.int .u64 100000000,.int .u64 1000000000,.int .u64 10000000000,.int .u64 100000000000,.int .u64 1000000000000,.int .u64 10000000000000,.int .u64 100000000000000,.int .u64 1000000000000000,.int .u64 10000000000000000,.int .u64 100000000000000000,.int .u64 1000000000000000000,.int .u64 10000000000000000000] t frozen
      |o=>o).modify 5 fun
      | .cells _ t frozen=>.cells #[.int .u8 128,.int .u8 191,.int .u8 160,.int .u8 191,.int .u8 128,.int .u8 159,.int .u8 144,.int .u8 191,.int .u8 128,.int .u8 143,.int .u8 0,.int .u8 0,.int .u8 0,.int .u8 0,.int .u8 0,.int .u8 0,.int .u8 0,.int .u8 0,.int .u8 0,.int .u8 0,.int .u8 0,.int .u8 0,.int .u8 0,.int .u8 0,.int .u8 0,.int .u8 0,.int .u8 0,.int .u8 0,.int .u8 0,.int .u8 0,.int .u8 0,.int .u8 0] t frozen
      |o=>o).modify 4 fun
      | .cells _ t frozen=>.cells (Go.Pinned.utf8FirstZ.map λn=>Value.int .u8 (Int.ofNat n)).toArray t frozen
      |o=>o)}
theorem cP(os:Os):laidMet Tryz.prog Rows.readerChunksUptoRow.laid ((Qh os).forCall (λ_ _=>0) ⟨#[],#[.slice none 0 0,.slice none 0 0,.slice none 0 0],[]⟩).memory:=
 laidMet_of_run' 8 kr kr
theorem reads(os:Os){H:Type}(enc:TypeId×Value->H):∃places,DataW.whole enc Tryz.prog ((Qh os).forCall (λ_ _=>0) ⟨#[],#[.slice none 0 0,.slice none 0 0,.slice none 0 0],[]⟩).memory Tryz.f4.params.toList Rows.readerChunksSpec.vars false (#[.slice none 0 0,.slice none 0 0,.slice none 0 0]:Array Value).toList 8=some ([.nil,.nil,.nil],[],places):=
 ⟨[],by kernel_rfl⟩
set_option maxRecDepth 100000 in
theorem lifted(os:Os)(started:os.Started)(H:Type)(enc:TypeId×Value->H)(F:Stop.Interp):
  ReturnsInHanded {} Tryz.checked os 4 .any ((Rows.OpenSpec.upto Rows.readerChunksSpec).preRow enc Tryz.prog Tryz.f4 Rows.readerChunksUptoRow.domain false Rows.readerChunksUptoRow.laid) (((Rows.OpenSpec.upto Rows.readerChunksSpec).at F).post enc Tryz.prog Tryz.f4 false true false false):=by
 obtain⟨places,hx⟩:=reads os enc;refine returnsInHanded_of_row (C:=Tryz.checked) (s:=Rows.OpenSpec.upto Rows.readerChunksSpec) own started kr Tryz.func4
  (witness_row_at (enc:=enc) (C:=Tryz.checked) false (Qh os) #[.slice none 0 0,.slice none 0 0,.slice none 0 0] rfl kr kr kr
   (OpenSpec.preRow_of_cond 8 hx kr (λk hk=>by cases hk;kernel_rfl) kr (cP os))) ?_
 intro W base args ds gs before D J _ hcond _ I E _;exact dh H enc W base args ds gs before D J I E (hcond _ rfl)
set_option maxRecDepth 100000 in
theorem mf:laidOutB Tryz.pinned.checked.prog=true:=by kernel_rfl
set_option maxRecDepth 100000 in
theorem mc:mapsRowed Tryz.pinned.checked.prog=true:=by kernel_rfl
set_option maxRecDepth 100000 in
theorem nC:(Rows.readerChunksUptoRow.inPlace==Tryz.pinned.checked.prog.inPlace 4)=true:=by kernel_rfl
set_option maxRecDepth 100000 in
theorem ml:(Rows.readerChunksUptoRow.unfollowed==Tryz.pinned.checked.prog.unfollowed 4)=true:=by kernel_rfl
set_option maxRecDepth 100000 in
theorem mX:(Rows.readerChunksUptoRow.recurses==Tryz.pinned.checked.prog.recurses 4)=true:=by kernel_rfl
set_option maxRecDepth 100000 in
theorem nD:(Rows.readerChunksUptoRow.named==Tryz.pinned.checked.prog.varsNamed 4)=true:=by kernel_rfl
set_option maxRecDepth 100000 in
theorem mh:(Rows.readerChunksUptoRow.plainKeys==Tryz.pinned.checked.prog.plainKeys)=true:=by kernel_rfl
set_option maxRecDepth 100000 in
theorem my:Tryz.pinned.checked.prog.stopsHeard=true:=by kernel_rfl
set_option maxRecDepth 100000 in
theorem mu:Tryz.pinned.checked.prog.mayEnter=true:=by kernel_rfl
set_option maxRecDepth 100000 in
theorem nB:(Rows.readerChunksUptoRow.lifted==Tryz.pinned.checked.prog.liftsFinal)=true:=by kernel_rfl
set_option maxRecDepth 100000 in
theorem closed:joinedFacts Tryz.pinned.checked.prog 4 Tryz.f4 (Rows.OpenSpec.upto Rows.readerChunksSpec).bare Rows.readerChunksUptoRow=true:=by
 unfold joinedFacts;rw[mf,mc,nC,ml,mX,nD,mh,my,mu,nB];kernel_rfl
set_option maxRecDepth 100000 in
theorem said:Rows.ReaderChunksUptoSaid:=
 OpenClaim.holds_of_cond 4 Tryz.f4 rfl rfl rfl rfl rfl rfl rfl ⟨rfl,rfl,rfl,rfl,rfl⟩ rfl rfl rfl rfl rfl kr Tryz.func4 closed
  (of_decide_eq_true kr) (by unfold Func.isWrapper;first|(rw[zl (by decide+kernel)];kernel_rfl)|(rw[zj (by decide+kernel)];exact⟨rfl,rfl⟩))
  (λos started H enc _ F=>by rw[OpenClaim.pre_eq_preRow];exact lifted os started H enc F)
theorem plain (f:FuncId) (fn:Func) (hf:Tryz.pinned.checked.prog.funcNamed "boulter/boulterlaw10.ReaderChunks"=some f) (hfn:Tryz.pinned.checked.prog.funcs[f]?=some fn):
  false=Tryz.pinned.checked.prog.looks []/\∀(j:Nat) t,fn.params[j]?=some t->Tryz.pinned.checked.prog.wantsStandIn t=false:=by
 obtain rfl:f=4:=zJ ((show Tryz.prog.funcNamed "boulter/boulterlaw10.ReaderChunks"=some 4 by kernel_rfl).symm.trans hf)|>.symm;obtain rfl:fn=Tryz.f4:=(zJ (Tryz.func4.symm.trans hfn)).symm;refine⟨by kernel_rfl,λj t G=>?_⟩;rw[Tryz.params4]at G;have hm:=Array.mem_of_getElem? G;simp only[List.mem_toArray,zF,yb,or_false]at hm;have hm:t=22\/t=24:=by rcases hm with rfl|rfl|rfl<;>simp
 rcases hm with rfl|rfl
 ·exact(show Tryz.prog.wantsStandIn 22=false by kernel_rfl)
 ·exact(show Tryz.prog.wantsStandIn 24=false by kernel_rfl)
theorem proved:Rows.ReaderChunksUptoCardSaid:=
 Claim7.holds_tied_plain_at .later [] _ _ _ _ said (λ_ h=>by cases h) kr (λ_ h=>by cases h) readerChunksUpto_row_tie rfl ⟨rfl,rfl⟩ kr rfl plain kr
#print axioms proved
end Go.Proofs.YthhonebaoidfgaaGreatDoor.readerChunks
