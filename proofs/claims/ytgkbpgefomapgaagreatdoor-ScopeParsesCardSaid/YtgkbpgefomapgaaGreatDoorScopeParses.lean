/-
 A part.
-/
import Derived.Test.YtgkbpgefomapgaaGreatDoorRows
import Derived.Test.YtgkbpgefomapgaaGreatDoorAvGlob
import Derived.WalkKit
import Derived.ProofKit
import Derived.JoinedCond
import Derived.Shelf.Vars
import Derived.HandedShaped
import Derived.Test.YtgkbpgefomapgaaGreatDoorCards
import Derived.Test.YtgkbpgefomapgaaGreatDoorTie
import Derived.Deep.DeepHandedRow
namespace Go.Proofs.YtgkbpgefomapgaaGreatDoor.scopeParses
open Go.ChangeShapes Go.WideShapes Go.ChangeAt Go.RowKit Go.Av Go.Av.L
set_option linter.unusedVariables false
set_option linter.unusedSimpArgs false
theorem own:ownKnob Tryz.prog.godebug=none:=by kernel_rfl
theorem bO:X8 Tryz.prog 22 (eL eS) (b7 bt):=bT (t:=22) (el:=9) Go.Av.encS (by kernel_rfl) (by kernel_rfl) (by decide) (aJ (t:=9) (by kernel_rfl))
theorem bc:X8 Tryz.prog 9 eS bt:=aJ (t:=9) (by kernel_rfl)
theorem maxLen{W:World}(E:W.ShapedOpen Tryz.prog):∃n:Int,W.cell? ⟨0,0,none⟩=some (.int .i64 n):=
 cell_of_shapedOpen_int (g:=0) (t:=3) (zero:=#[.int .i64 0]) (k:=.i64) E (of_decide_eq_true (by kernel_rfl)) (by kernel_rfl) rfl (by kernel_rfl) (by kernel_rfl) (by kernel_rfl)
theorem YK{W:World}(I:laidMetH Tryz.prog Rows.scopeParsesRow.laid W)(E:W.ShapedOpen Tryz.prog):EF cfg.GZ W:=by
 have l0:laidMet Tryz.prog Rows.scopeParsesRow.laid W:=I;have e0:=KA (P:=Tryz.prog) (W:=W) (g:=4) (by kernel_rfl) (Lib.tabIs_of_head (P:=Tryz.prog) (g:=4) (name:="math/bits.deBruijn32tab") (k:=.u8) (zs:=[0,1,28,2,29,14,24,3,30,22,20,15,25,17,4,8,31,27,13,23,21,19,16,7,26,12,18,6,11,5,10,9]) (t:=252) (e:=5) (n:=32) (by kernel_rfl) (by kernel_rfl) (by kernel_rfl) (by kernel_rfl) (by kernel_rfl) (by kernel_rfl) l0);have l1:=LY l0;have e1:=KA (P:=Tryz.prog) (W:=W) (g:=5) (by kernel_rfl) (Lib.tabIs_of_head (P:=Tryz.prog) (g:=5) (name:="math/bits.deBruijn64tab") (k:=.u8) (zs:=[0,1,56,2,57,49,28,3,61,58,42,50,38,29,17,4,62,47,59,36,45,43,51,22,53,39,33,30,24,18,12,5,63,55,48,27,60,41,37,16,46,35,44,21,52,32,23,11,54,26,40,15,34,20,31,10,25,14,19,9,13,8,7,6]) (t:=253) (e:=5) (n:=64) (by kernel_rfl) (by kernel_rfl) (by kernel_rfl) (by kernel_rfl) (by kernel_rfl) (by kernel_rfl) l1);have l2:=LY l1;have e2:=KA (P:=Tryz.prog) (W:=W) (g:=3) (by kernel_rfl) (Lib.tabIs_of_head (P:=Tryz.prog) (g:=3) (name:="internal/strconv.uint64pow10") (k:=.u64) (zs:=[1,10,100,1000,10000,100000,1000000,10000000,100000000,1000000000,10000000000,100000000000,1000000000000,10000000000000,100000000000000,1000000000000000,10000000000000000,100000000000000000,1000000000000000000,10000000000000000000]) (t:=245) (e:=109) (n:=20) (by kernel_rfl) (by kernel_rfl) (by kernel_rfl) (by kernel_rfl) (by kernel_rfl) (by kernel_rfl) l2);have l3:=LY l2;have l4:=LY l3;have l5:=LY l4;exact Uv (maxLen E) (Mq e2 (Mq e0 (Mq e1 (Up W))))
set_option maxRecDepth 100000 in
theorem Wl(H:Type)(enc:TypeId×Value->H)(W:World)(base:Nat)(args:Array Value)(ds gs:List (DataW H))(before:List MemPlace)
  (D:∀(j:Nat) t v,Tryz.f3.params[j]?=some t->args[j]?=some v->Value.okWide Tryz.prog W .any base t v)
  (J:DataW.Whole enc Tryz.prog Tryz.f3.params.toList Rows.scopeParsesSpec.vars false W args.toList ds gs before) (I:laidMetH Tryz.prog Rows.scopeParsesRow.laid W) (E:W.ShapedOpen Tryz.prog):
  Calls Tryz.prog 3 args W λe W'=>∃v,e=.returned v/\Rows.scopeParsesSpec.post enc Tryz.prog Tryz.f3 false true false false W args v W':=by
 have hW':=J;obtain⟨p,q,hA0,hV,rfl,hfz,hnd⟩:=J;have K:DataW.TrodAll enc Tryz.prog W 0 (λ_=>true) true Tryz.f3.params.toList args.toList ds p:=hA0;rw[Tryz.params3]at K;obtain⟨v0,vs0,d0,ds0,p0,q0,g0,rfl,_,⟨fu0,t0⟩,r0⟩:=trodAll_cons K;obtain⟨v1,vs1,d1,ds1,p1,q1,g1,rfl,_,⟨fu1,t1⟩,r1⟩:=trodAll_cons r0;obtain⟨gE,rfl,_⟩:=trodAll_nil r1;have B:args.toList=[v0,v1]:=by rw[g0,g1,gE]
 obtain⟨x0,c0,k0⟩:=bO.h fu0 _ d0 p0 t0;have V0:=TL (D 0 22 v0 (by rw[Tryz.params3];rfl) (by rw[<-Array.getElem?_toList,B];rfl)) c0 (show toArg Tryz.prog 22 ((eL eS) x0)=some (vs eS x0) from by kernel_rfl);obtain⟨x1,c1,k1⟩:=bc.h fu1 _ d1 p1 t1;have V1:=TL (D 1 9 v1 (by rw[Tryz.params3];rfl) (by rw[<-Array.getElem?_toList,B];rfl)) c1 (show toArg Tryz.prog 9 (eS x1)=some (.str x1) from by kernel_rfl);have hm:=Qw x0 k0 x1 k1;obtain⟨v,h',hr,ev,_⟩:=Jr (g:=⟨0,[]⟩) (h:=⟨0,.leaf⟩) (F:=[]) (av:=[vs eS x0,.str x1]) hm (hc:=rfl) HH.start;subst ev;exact V8 (C:=cfg) Zq (YK I E) (by kernel_rfl) Tryz.func3 (by kernel_rfl) (c:=NT cfg.P 3) (by kernel_rfl) (by rw[Tryz.params3];intro t G;simp only[zT,qA,or_false]at G;rcases G with rfl|rfl<;>exact⟨by kernel_rfl,of_decide_eq_true (by kernel_rfl)⟩) (tb:=4) (by kernel_rfl) (by kernel_rfl) rfl (by rfl) hW' (by rw[B];exact .cons V0 (.cons V1 (.nil _))) hr
noncomputable def low:Nat:=(World.holding Tryz.prog default ⟨#[],#[],[]⟩).heap.size
noncomputable def PR(os:Os):World:={World.holding Tryz.prog os ⟨#[.cells #[.string ⟨#[118,97,108,117,101,32,111,117,116,32,111,102,32,114,97,110,103,101]⟩] 222,.cells #[.string ⟨#[105,110,118,97,108,105,100,32,115,121,110,116,97,120]⟩] 222],#[],[]⟩with heap:=((((((World.holding Tryz.prog os ⟨#[.cells #[.string ⟨#[118,97,108,117,101,32,111,117,116,32,111,102,32,114,97,110,103,101]⟩] 222,.cells #[.string ⟨#[105,110,118,97,108,105,100,32,115,121,110,116,97,120]⟩] 222],#[],[]⟩).heap.modify 4 fun
      | .cells _ t frozen=>.cells #[.int .u8 0,.int .u8 1,.int .u8 28,.int .u8 2,.int .u8 29,.int .u8 14,.int .u8 24,.int .u8 3,.int .u8 30,.int .u8 22,.int .u8 20,.int .u8 15,.int .u8 25,.int .u8 17,.int .u8 4,.int .u8 8,.int .u8 31,.int .u8 27,.int .u8 13,.int .u8 23,.int .u8 21,.int .u8 19,.int .u8 16,.int .u8 7,.int .u8 26,.int .u8 12,.int .u8 18,.int .u8 6,.int .u8 11,.int .u8 5,.int .u8 10,.int .u8 9] t frozen
      |o=>o).modify 5 fun
      | .cells _ t frozen=>.cells #[.int .u8 0,.int .u8 1,.int .u8 56,.int .u8 2,.int .u8 57,.int .u8 49,.int .u8 28,.int .u8 3,.int .u8 61,.int .u8 58,.int .u8 42,.int .u8 50,.int .u8 38,.int .u8 29,.int .u8 17,.int .u8 4,.int .u8 62,.int .u8 47,.int .u8 59,.int .u8 36,.int .u8 45,.int .u8 43,.int .u8 51,.int .u8 22,.int .u8 53,.int .u8 39,.int .u8 33,.int .u8 30,.int .u8 24,.int .u8 18,.int .u8 12,.int .u8 5,.int .u8 63,.int .u8 55,.int .u8 48,.int .u8 27,.int .u8 60,.int .u8 41,.int .u8 37,.int .u8 16,.int .u8 46,.int .u8 35,.int .u8 44,.int .u8 21,.int .u8 52,.int .u8 32,.int .u8 23,.int .u8 11,.int .u8 54,.int .u8 26,.int .u8 40,.int .u8 15,.int .u8 34,.int .u8 20,.int .u8 31,.int .u8 10,.int .u8 25,.int .u8 14,.int .u8 19,.int .u8 9,.int .u8 13,.int .u8 8,.int .u8 7,.int .u8 6] t frozen
      |o=>o).modify 3 fun
      | .cells _ t frozen=>.cells #[.int .u64 1,.int .u64 10,.int .u64 100,.int .u64 1000,.int .u64 10000,.int .u64 100000,.int .u64 1000000,.int .u64 10000000,.int .u64 100000000,.int .u64 1000000000,.int .u64 10000000000,.int .u64 100000000000,.int .u64 1000000000000,.int .u64 10000000000000,.int .u64 100000000000000,.int .u64 1000000000000000,.int .u64 10000000000000000,.int .u64 100000000000000000,.int .u64 1000000000000000000,.int .u64 10000000000000000000] t frozen
      |o=>o).modify 2 fun
      | .cells _ t frozen=>.cells #[.iface 220 (.pointer (some ⟨low+0,0,none⟩))] t frozen
      |o=>o).modify 1 fun
      | .cells _ t frozen=>.cells #[.iface 220 (.pointer (some ⟨low+1,0,none⟩))] t frozen
      |o=>o)}
theorem XC(os:Os):laidMet Tryz.prog Rows.scopeParsesRow.laid ((PR os).forCall (λ_ _=>0) ⟨#[],#[.slice none 0 0,.string ⟨#[]⟩],[]⟩).memory:=
 laidMet_of_run' 8 (by kernel_rfl) (by kernel_rfl)
theorem reads(os:Os){H:Type}(enc:TypeId×Value->H):∃places,DataW.whole enc Tryz.prog ((PR os).forCall (λ_ _=>0) ⟨#[],#[.slice none 0 0,.string ⟨#[]⟩],[]⟩).memory Tryz.f3.params.toList Rows.scopeParsesSpec.vars false (#[.slice none 0 0,.string ⟨#[]⟩]:Array Value).toList 8=some ([.nil,.lit (.string [])],[],places):=
 ⟨[],by kernel_rfl⟩
set_option maxRecDepth 100000 in
theorem lifted(os:Os)(started:os.Started)(H:Type)(enc:TypeId×Value->H)(F:Stop.Interp):
  ReturnsInHanded {} Tryz.checked os 3 .any ((OpenSpec.ofChange Rows.scopeParsesSpec).preRow enc Tryz.prog Tryz.f3 Rows.scopeParsesRow.domain false Rows.scopeParsesRow.laid) (((OpenSpec.ofChange Rows.scopeParsesSpec).at F).post enc Tryz.prog Tryz.f3 false true false false):=by
 obtain⟨places,hx⟩:=reads os enc;refine returnsInHanded_of_row (C:=Tryz.checked) (s:=OpenSpec.ofChange Rows.scopeParsesSpec) own started (by kernel_rfl) Tryz.func3
  (witness_row_at (enc:=enc) (C:=Tryz.checked) false (PR os) #[.slice none 0 0,.string ⟨#[]⟩] rfl (by kernel_rfl) (by kernel_rfl) (by kernel_rfl)
   (OpenSpec.preRow_of_cond 8 hx (by kernel_rfl) (λk hk=>by cases hk) (by kernel_rfl) (XC os))) ?_
 intro W base args ds gs before D J _ hcond _ I E _;exact Wl H enc W base args ds gs before D J I E
set_option maxRecDepth 100000 in
theorem cN:laidOutB Tryz.pinned.checked.prog=true:=by kernel_rfl
set_option maxRecDepth 100000 in
theorem cS:mapsRowed Tryz.pinned.checked.prog=true:=by kernel_rfl
set_option maxRecDepth 100000 in
theorem cY:(Rows.scopeParsesRow.inPlace==Tryz.pinned.checked.prog.inPlace 3)=true:=by kernel_rfl
set_option maxRecDepth 100000 in
theorem cL:(Rows.scopeParsesRow.unfollowed==Tryz.pinned.checked.prog.unfollowed 3)=true:=by kernel_rfl
set_option maxRecDepth 100000 in
theorem cK:(Rows.scopeParsesRow.recurses==Tryz.pinned.checked.prog.recurses 3)=true:=by kernel_rfl
set_option maxRecDepth 100000 in
theorem cM:(Rows.scopeParsesRow.named==Tryz.pinned.checked.prog.varsNamed 3)=true:=by kernel_rfl
set_option maxRecDepth 100000 in
theorem cJ:(Rows.scopeParsesRow.plainKeys==Tryz.pinned.checked.prog.plainKeys)=true:=by kernel_rfl
set_option maxRecDepth 100000 in
theorem cW:Tryz.pinned.checked.prog.stopsHeard=true:=by kernel_rfl
set_option maxRecDepth 100000 in
theorem cQ:Tryz.pinned.checked.prog.mayEnter=true:=by kernel_rfl
set_option maxRecDepth 100000 in
theorem cU:(Rows.scopeParsesRow.lifted==Tryz.pinned.checked.prog.liftsFinal)=true:=by kernel_rfl
set_option maxRecDepth 100000 in
theorem closed:joinedFacts Tryz.pinned.checked.prog 3 Tryz.f3 (OpenSpec.ofChange Rows.scopeParsesSpec).bare Rows.scopeParsesRow=true:=by
 unfold joinedFacts;rw[cN,cS,cY,cL,cK,cM,cJ,cW,cQ,cU];kernel_rfl
set_option maxRecDepth 100000 in
theorem said:Rows.ScopeParsesSaid:=
 OpenClaim.holds_of_cond 3 Tryz.f3 rfl rfl rfl rfl rfl rfl rfl ⟨rfl,rfl,rfl,rfl,rfl⟩ rfl rfl rfl rfl rfl (by kernel_rfl) Tryz.func3 closed
  (of_decide_eq_true (by kernel_rfl)) (by unfold Func.isWrapper;first|(rw[zk (by decide+kernel)];kernel_rfl)|(rw[zm (by decide+kernel)];exact⟨rfl,rfl⟩))
  (λos started H enc _ F=>by rw[OpenClaim.pre_eq_preRow];exact lifted os started H enc F)
theorem plain (f:FuncId) (fn:Func) (hf:Tryz.pinned.checked.prog.funcNamed "boulter/boulterlaw25.ScopeParses"=some f) (hfn:Tryz.pinned.checked.prog.funcs[f]?=some fn):
  true=Tryz.pinned.checked.prog.looks []/\∀(j:Nat) t,fn.params[j]?=some t->Tryz.pinned.checked.prog.wantsStandIn t=false:=by
 obtain rfl:f=3:=zw ((show Tryz.prog.funcNamed "boulter/boulterlaw25.ScopeParses"=some 3 by kernel_rfl).symm.trans hf)|>.symm;obtain rfl:fn=Tryz.f3:=(zw (Tryz.func3.symm.trans hfn)).symm;refine⟨by kernel_rfl,λj t G=>?_⟩;rw[Tryz.params3]at G;have hm:=Array.mem_of_getElem? G;simp only[List.mem_toArray,zT,qA,or_false]at hm;rcases hm with rfl|rfl
 ·exact(show Tryz.prog.wantsStandIn 22=false by kernel_rfl)
 ·exact(show Tryz.prog.wantsStandIn 9=false by kernel_rfl)
theorem proved:Rows.ScopeParsesCardSaid:=
 Claim7.holds_tied_plain_at .later [] _ _ _ _ said (λ_ h=>by cases h) (by kernel_rfl) (λ_ h=>by cases h) scopeParses_row_tie rfl ⟨rfl,rfl⟩ (by kernel_rfl) rfl plain (by kernel_rfl)
#print axioms proved
end Go.Proofs.YtgkbpgefomapgaaGreatDoor.scopeParses
