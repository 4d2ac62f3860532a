/-
 A part.
-/
import Derived.Test.YtlddjbgohnlihaaGreatDoorRows
import Derived.Test.YtlddjbgohnlihaaGreatDoorAvGlob
import Derived.WalkKit
import Derived.ProofKit
import Derived.JoinedCond
import Derived.Shelf.Vars
import Derived.HandedShaped
import Derived.Test.YtlddjbgohnlihaaGreatDoorCards
import Derived.Test.YtlddjbgohnlihaaGreatDoorTie
import Derived.Deep.DeepHandedRow
namespace Go.Proofs.YtlddjbgohnlihaaGreatDoor.writerArchive
open Go.ChangeShapes Go.WideShapes Go.ChangeAt Go.RowKit Go.Av Go.Av.L
set_option linter.unusedVariables false
set_option linter.unusedSimpArgs false
theorem own:ownKnob Tryz.prog.godebug=none:=by kernel_rfl
theorem eV:TW Tryz.prog 22 (eL AE) (cL (fun x:AJ=>Te x.Name∧Te x.Ah∧(QU .u8) x.Kind∧(QU .i64) x.Mode∧(QU .i64) x.BO∧(QU .i64) x.BW∧Te x.AZ∧Te x.Ad∧(QU .i64) x.Aj∧(QU .i64) x.Ao∧(fun x:Ap=>(QU .i64) x.Bu∧(QU .i64) x.BG∧True) x.Time∧(cL (fun x:AA=>Te x.Key∧Te x.Value∧True)) x.Extra∧Te x.Data∧True)):=bU (t:=22) (el:=31) CR (by kernel_rfl) (by kernel_rfl) (by decide) (bc (P:=Tryz.prog) (t:=31) (e':=AE) (ok':=(fun x:AJ=>Te x.Name∧Te x.Ah∧(QU .u8) x.Kind∧(QU .i64) x.Mode∧(QU .i64) x.BO∧(QU .i64) x.BW∧Te x.AZ∧Te x.Ad∧(QU .i64) x.Aj∧(QU .i64) x.Ao∧(fun x:Ap=>(QU .i64) x.Bu∧(QU .i64) x.BG∧True) x.Time∧(cL (fun x:AA=>Te x.Key∧Te x.Value∧True)) x.Extra∧Te x.Data∧True)) (ts:=[9,9,5,3,3,3,9,9,3,3,28,29,9]) (by kernel_rfl) (fun x:(List UInt8)×(List UInt8)×(Int)×(Int)×(Int)×(Int)×(List UInt8)×(List UInt8)×(Int)×(Int)×(Ap)×(List AA)×(List UInt8)×Unit=>(⟨x.1,x.2.1,x.2.2.1,x.2.2.2.1,x.2.2.2.2.1,x.2.2.2.2.2.1,x.2.2.2.2.2.2.1,x.2.2.2.2.2.2.2.1,x.2.2.2.2.2.2.2.2.1,x.2.2.2.2.2.2.2.2.2.1,x.2.2.2.2.2.2.2.2.2.2.1,x.2.2.2.2.2.2.2.2.2.2.2.1,x.2.2.2.2.2.2.2.2.2.2.2.2.1⟩:AJ)) (fun x=>rfl) (fun x h=>h) (D1 (VG (t:=9) (by kernel_rfl)) (D1 (VG (t:=9) (by kernel_rfl)) (D1 (R8 (t:=5) (k:=.u8) (by kernel_rfl)) (D1 (R8 (t:=3) (k:=.i64) (by kernel_rfl)) (D1 (R8 (t:=3) (k:=.i64) (by kernel_rfl)) (D1 (R8 (t:=3) (k:=.i64) (by kernel_rfl)) (D1 (VG (t:=9) (by kernel_rfl)) (D1 (VG (t:=9) (by kernel_rfl)) (D1 (R8 (t:=3) (k:=.i64) (by kernel_rfl)) (D1 (R8 (t:=3) (k:=.i64) (by kernel_rfl)) (D1 (bc (P:=Tryz.prog) (t:=28) (e':=Qk) (ok':=(fun x:Ap=>(QU .i64) x.Bu∧(QU .i64) x.BG∧True)) (ts:=[3,3]) (by kernel_rfl) (fun x:(Int)×(Int)×Unit=>(⟨x.1,x.2.1⟩:Ap)) (fun x=>rfl) (fun x h=>h) (D1 (R8 (t:=3) (k:=.i64) (by kernel_rfl)) (D1 (R8 (t:=3) (k:=.i64) (by kernel_rfl)) (SH)))) (D1 (bU (t:=29) (el:=106) AR (by kernel_rfl) (by kernel_rfl) (by decide) (bc (P:=Tryz.prog) (t:=106) (e':=AD) (ok':=(fun x:AA=>Te x.Key∧Te x.Value∧True)) (ts:=[9,9]) (by kernel_rfl) (fun x:(List UInt8)×(List UInt8)×Unit=>(⟨x.1,x.2.1⟩:AA)) (fun x=>rfl) (fun x h=>h) (D1 (VG (t:=9) (by kernel_rfl)) (D1 (VG (t:=9) (by kernel_rfl)) (SH))))) (D1 (VG (t:=9) (by kernel_rfl)) (SH)))))))))))))))
theorem eT:TW Tryz.prog 23 (eL (eI .u16)) (cL (QU .u16)):=bU (t:=23) (el:=36) (Go.Av.encI .u16) (by kernel_rfl) (by kernel_rfl) (by decide) (R8 (t:=36) (k:=.u16) (by kernel_rfl))
theorem maxLen{W:World}(E:W.ShapedOpen Tryz.prog):∃n:Int,W.cell? ⟨0,0,none⟩=some (.int .i64 n):=
 cell_of_shapedOpen_int (g:=0) (t:=3) (zero:=#[.int .i64 0]) (k:=.i64) E (of_decide_eq_true (by kernel_rfl)) (by kernel_rfl) rfl (by kernel_rfl) (by kernel_rfl) (by kernel_rfl)
theorem Z6{W:World}(I:laidMetH Tryz.prog Rows.writerArchiveRow.laid W)(E:W.ShapedOpen Tryz.prog):Bh cfg.Cx W:=by
 have l0:laidMet Tryz.prog Rows.writerArchiveRow.laid W:=I;have e0:=JG (P:=Tryz.prog) (W:=W) (g:=2) (by kernel_rfl) (Lib.tabIs_of_head (P:=Tryz.prog) (g:=2) (name:="math/bits.deBruijn32tab") (k:=.u8) (zs:=[0,1,28,2,29,14,24,3,30,22,20,15,25,17,4,8,31,27,13,23,21,19,16,7,26,12,18,6,11,5,10,9]) (t:=296) (e:=5) (n:=32) (by kernel_rfl) (by kernel_rfl) (by kernel_rfl) (by kernel_rfl) (by kernel_rfl) (by kernel_rfl) l0);have l1:=KN l0;have e1:=JG (P:=Tryz.prog) (W:=W) (g:=3) (by kernel_rfl) (Lib.tabIs_of_head (P:=Tryz.prog) (g:=3) (name:="math/bits.deBruijn64tab") (k:=.u8) (zs:=[0,1,56,2,57,49,28,3,61,58,42,50,38,29,17,4,62,47,59,36,45,43,51,22,53,39,33,30,24,18,12,5,63,55,48,27,60,41,37,16,46,35,44,21,52,32,23,11,54,26,40,15,34,20,31,10,25,14,19,9,13,8,7,6]) (t:=297) (e:=5) (n:=64) (by kernel_rfl) (by kernel_rfl) (by kernel_rfl) (by kernel_rfl) (by kernel_rfl) (by kernel_rfl) l1);have l2:=KN l1;have e2:=JG (P:=Tryz.prog) (W:=W) (g:=1) (by kernel_rfl) (Lib.tabIs_of_head (P:=Tryz.prog) (g:=1) (name:="internal/strconv.uint64pow10") (k:=.u64) (zs:=[1,10,100,1000,10000,100000,1000000,10000000,100000000,1000000000,10000000000,100000000000,1000000000000,10000000000000,100000000000000,1000000000000000,10000000000000000,100000000000000000,1000000000000000000,10000000000000000000]) (t:=284) (e:=201) (n:=20) (by kernel_rfl) (by kernel_rfl) (by kernel_rfl) (by kernel_rfl) (by kernel_rfl) (by kernel_rfl) l2);have l3:=KN l2;have l4:=KN l3;have l5:=KN l4;exact Uj (maxLen E) (LD e2 (LD e0 (LD e1 (Uu W))))
set_option maxRecDepth 100000 in
theorem Xs(H:Type)(enc:TypeId×Value→H)(W:World)(base:Nat)(args:Array Value)(ds gs:List (DataW H))(before:List MemPlace)
  (D:∀(j:Nat) t v,Tryz.f3.params[j]?=some t→args[j]?=some v→Value.okWide Tryz.prog W .any base t v)
  (J:DataW.Whole enc Tryz.prog Tryz.f3.params.toList Rows.writerArchiveSpec.vars false W args.toList ds gs before) (I:laidMetH Tryz.prog Rows.writerArchiveRow.laid W) (E:W.ShapedOpen Tryz.prog):
  Calls Tryz.prog 3 args W fun e W'=>∃v,e=.returned v∧Rows.writerArchiveSpec.post enc Tryz.prog Tryz.f3 false true false false W args v W':=by
 have hW':=J;obtain⟨p,q,hA0,hV,rfl,hfz,hnd⟩:=J;have K:DataW.TrodAll enc Tryz.prog W 0 (fun _=>true) true Tryz.f3.params.toList args.toList ds p:=hA0;rw[Tryz.params3]at K;obtain⟨v0,vs0,d0,ds0,p0,q0,g0,rfl,_,⟨fu0,t0⟩,r0⟩:=trodAll_cons K;obtain⟨v1,vs1,d1,ds1,p1,q1,g1,rfl,_,⟨fu1,t1⟩,r1⟩:=trodAll_cons r0;obtain⟨gE,rfl,_⟩:=trodAll_nil r1;have B:args.toList=[v0,v1]:=by rw[g0,g1,gE]
 obtain⟨x0,c0,k0⟩:=eV.h fu0 _ d0 p0 t0;have V0:=Se (D 0 22 v0 (by rw[Tryz.params3];rfl) (by rw[←Array.getElem?_toList,B];rfl)) c0 (show toArg Tryz.prog 22 ((eL AE) x0)=some (vs AE x0) from by kernel_rfl);obtain⟨x1,c1,k1⟩:=eT.h fu1 _ d1 p1 t1;have V1:=Se (D 1 23 v1 (by rw[Tryz.params3];rfl) (by rw[←Array.getElem?_toList,B];rfl)) c1 (show toArg Tryz.prog 23 ((eL (eI .u16)) x1)=some (vs (eI .u16) x1) from by kernel_rfl);have hm:=OL x0 k0 x1 k1;obtain⟨v,h',hr,ev,_⟩:=IG (g:=⟨0,[]⟩) (h:=⟨0,.leaf⟩) (F:=[]) (av:=[vs AE x0,vs (eI .u16) x1]) hm (hc:=rfl) HH.start;subst ev;exact Wc (C:=cfg) cA (Z6 I E) (by kernel_rfl) Tryz.func3 (by kernel_rfl) (c:=GX cfg.P 3) (by kernel_rfl) (by rw[Tryz.params3];intro t G;simp only[zF,yz,or_false]at G;rcases G with rfl|rfl<;>exact⟨by kernel_rfl,of_decide_eq_true (by kernel_rfl)⟩) (tb:=4) (by kernel_rfl) (by kernel_rfl) rfl (by rfl) hW' (by rw[B];exact .cons V0 (.cons V1 (.nil _))) hr
noncomputable def OJ(os:Os):World:={World.holding Tryz.prog os ⟨#[],#[],[]⟩with heap:=((((((World.holding Tryz.prog os ⟨#[],#[],[]⟩).heap.modify 2 fun
      | .cells _ t frozen=>.cells #[.int .u8 0,.int .u8 1,.int .u8 28,.int .u8 2,.int .u8 29,.int .u8 14,.int .u8 24,.int .u8 3,.int .u8 30,.int .u8 22,.int .u8 20,.int .u8 15,.int .u8 25,.int .u8 17,.int .u8 4,.int .u8 8,.int .u8 31,.int .u8 27,.int .u8 13,.int .u8 23,.int .u8 21,.int .u8 19,.int .u8 16,.int .u8 7,.int .u8 26,.int .u8 12,.int .u8 18,.int .u8 6,.int .u8 11,.int .u8 5,.int .u8 10,.int .u8 9] t frozen
      |o=>o).modify 3 fun
      | .cells _ t frozen=>.cells #[.int .u8 0,.int .u8 1,.int .u8 56,.int .u8 2,.int .u8 57,.int .u8 49,.int .u8 28,.int .u8 3,.int .u8 61,.int .u8 58,.int .u8 42,.int .u8 50,.int .u8 38,.int .u8 29,.int .u8 17,.int .u8 4,.int .u8 62,.int .u8 47,.int .u8 59,.int .u8 36,.int .u8 45,.int .u8 43,.int .u8 51,.int .u8 22,.int .u8 53,.int .u8 39,.int .u8 33,.int .u8 30,.int .u8 24,.int .u8 18,.int .u8 12,.int .u8 5,.int .u8 63,.int .u8 55,.int .u8 48,.int .u8 27,.int .u8 60,.int .u8 41,.int .u8 37,.int .u8 16,.int .u8 46,.int .u8 35,.int .u8 44,.int .u8 21,.int .u8 52,.int .u8 32,.int .u8 23,.int .u8 11,.int .u8 54,.int .u8 26,.int .u8 40,.int .u8 15,.int .u8 34,.int .u8 20,.int .u8 31,.int .u8 10,.int .u8 25,.int .u8 14,.int .u8 19,.int .u8 9,.int .u8 13,.int .u8 8,.int .u8 7,.int .u8 6] t frozen
      |o=>o).modify 1 fun
      | .cells _ t frozen=>.cells #[.int .u64 1,.int .u64 10,.int .u64 100,.int .u64 1000,.int .u64 10000,.int .u64 100000,.int .u64 1000000,.int .u64 10000000,.int .u64 100000000,.int .u64 1000000000,.int .u64 10000000000,.int .u64 100000000000,.int .u64 1000000000000,.int .u64 10000000000000,.int .u64 100000000000000,.int .u64 1000000000000000,.int .u64 10000000000000000,.int .u64 100000000000000000,.int .u64 1000000000000000000,.int .u64 10000000000000000000] t frozen
      |o=>o).modify 5 fun
      | .cells _ t frozen=>.cells #[.int .u8 128,.int .u8 191,.int .u8 160,.int .u8 191,.int .u8 128,.int .u8 159,.int .u8 144,.int .u8 191,.int .u8 128,.int .u8 143,.int .u8 0,.int .u8 0,.int .u8 0,.int .u8 0,.int .u8 0,.int .u8 0,.int .u8 0,.int .u8 0,.int .u8 0,.int .u8 0,.int .u8 0,.int .u8 0,.int .u8 0,.int .u8 0,.int .u8 0,.int .u8 0,.int .u8 0,.int .u8 0,.int .u8 0,.int .u8 0,.int .u8 0,.int .u8 0] t frozen
      |o=>o).modify 4 fun
      | .cells _ t frozen=>.cells (Go.Pinned.utf8FirstZ.map fun n=>Value.int .u8 (Int.ofNat n)).toArray t frozen
      |o=>o)}
theorem XW(os:Os):laidMet Tryz.prog Rows.writerArchiveRow.laid ((OJ os).forCall (fun _ _=>0) ⟨#[],#[.slice none 0 0,.slice none 0 0],[]⟩).memory:=
 laidMet_of_run' 8 (by kernel_rfl) (by kernel_rfl)
theorem reads(os:Os){H:Type}(enc:TypeId×Value→H):∃places,DataW.whole enc Tryz.prog ((OJ os).forCall (fun _ _=>0) ⟨#[],#[.slice none 0 0,.slice none 0 0],[]⟩).memory Tryz.f3.params.toList Rows.writerArchiveSpec.vars false (#[.slice none 0 0,.slice none 0 0]:Array Value).toList 8=some ([.nil,.nil],[],places):=
 ⟨[],by kernel_rfl⟩
set_option maxRecDepth 100000 in
theorem lifted(os:Os)(started:os.Started)(H:Type)(enc:TypeId×Value→H)(F:Stop.Interp):
  ReturnsInHanded {} Tryz.checked os 3 .any ((OpenSpec.ofChange Rows.writerArchiveSpec).preRow enc Tryz.prog Tryz.f3 Rows.writerArchiveRow.domain false Rows.writerArchiveRow.laid) (((OpenSpec.ofChange Rows.writerArchiveSpec).at F).post enc Tryz.prog Tryz.f3 false true false false):=by
 obtain⟨places,hx⟩:=reads os enc;refine returnsInHanded_of_row (C:=Tryz.checked) (s:=OpenSpec.ofChange Rows.writerArchiveSpec) own started (by kernel_rfl) Tryz.func3
  (witness_row_at (enc:=enc) (C:=Tryz.checked) false (OJ os) #[.slice none 0 0,.slice none 0 0] rfl (by kernel_rfl) (by kernel_rfl) (by kernel_rfl)
   (OpenSpec.preRow_of_cond 8 hx (by kernel_rfl) (fun k hk=>by cases hk) (by kernel_rfl) (XW os))) ?_
 intro W base args ds gs before D J _ hcond _ I E _;exact Xs H enc W base args ds gs before D J I E
set_option maxRecDepth 100000 in
theorem fD:laidOutB Tryz.pinned.checked.prog=true:=by kernel_rfl
set_option maxRecDepth 100000 in
theorem fN:mapsRowed Tryz.pinned.checked.prog=true:=by kernel_rfl
set_option maxRecDepth 100000 in
theorem fC:(Rows.writerArchiveRow.inPlace==Tryz.pinned.checked.prog.inPlace 3)=true:=by kernel_rfl
set_option maxRecDepth 100000 in
theorem fH:(Rows.writerArchiveRow.unfollowed==Tryz.pinned.checked.prog.unfollowed 3)=true:=by kernel_rfl
set_option maxRecDepth 100000 in
theorem fG:(Rows.writerArchiveRow.recurses==Tryz.pinned.checked.prog.recurses 3)=true:=by kernel_rfl
set_option maxRecDepth 100000 in
theorem fM:(Rows.writerArchiveRow.named==Tryz.pinned.checked.prog.varsNamed 3)=true:=by kernel_rfl
set_option maxRecDepth 100000 in
theorem fI:(Rows.writerArchiveRow.plainKeys==Tryz.pinned.checked.prog.plainKeys)=true:=by kernel_rfl
set_option maxRecDepth 100000 in
theorem fA:Tryz.pinned.checked.prog.stopsHeard=true:=by kernel_rfl
set_option maxRecDepth 100000 in
theorem fJ:Tryz.pinned.checked.prog.mayEnter=true:=by kernel_rfl
set_option maxRecDepth 100000 in
theorem fL:(Rows.writerArchiveRow.lifted==Tryz.pinned.checked.prog.liftsFinal)=true:=by kernel_rfl
set_option maxRecDepth 100000 in
theorem closed:joinedFacts Tryz.pinned.checked.prog 3 Tryz.f3 (OpenSpec.ofChange Rows.writerArchiveSpec).bare Rows.writerArchiveRow=true:=by
 unfold joinedFacts;rw[fD,fN,fC,fH,fG,fM,fI,fA,fJ,fL];kernel_rfl
set_option maxRecDepth 100000 in
theorem said:Rows.WriterArchiveSaid:=
 OpenClaim.holds_of_cond 3 Tryz.f3 rfl rfl rfl rfl rfl rfl rfl ⟨rfl,rfl,rfl,rfl,rfl⟩ rfl rfl rfl rfl rfl (by kernel_rfl) Tryz.func3 closed
  (of_decide_eq_true (by kernel_rfl)) (by unfold Func.isWrapper;first|(rw[zm (by decide+kernel)];kernel_rfl)|(rw[zk (by decide+kernel)];exact⟨rfl,rfl⟩))
  (fun os started H enc _ F=>by rw[OpenClaim.pre_eq_preRow];exact lifted os started H enc F)
theorem plain (f:FuncId) (fn:Func) (hf:Tryz.pinned.checked.prog.funcNamed "boulter/boulterlaw11.WriterArchive"=some f) (hfn:Tryz.pinned.checked.prog.funcs[f]?=some fn):
  false=Tryz.pinned.checked.prog.looks []∧∀(j:Nat) t,fn.params[j]?=some t→Tryz.pinned.checked.prog.wantsStandIn t=false:=by
 obtain rfl:f=3:=zJ ((show Tryz.prog.funcNamed "boulter/boulterlaw11.WriterArchive"=some 3 by kernel_rfl).symm.trans hf)|>.symm;obtain rfl:fn=Tryz.f3:=(zJ (Tryz.func3.symm.trans hfn)).symm;refine⟨by kernel_rfl,fun j t G=>?_⟩;rw[Tryz.params3]at G;have hm:=Array.mem_of_getElem? G;simp only[List.mem_toArray,zF,yz,or_false]at hm;rcases hm with rfl|rfl
 ·exact(show Tryz.prog.wantsStandIn 22=false by kernel_rfl)
 ·exact(show Tryz.prog.wantsStandIn 23=false by kernel_rfl)
theorem proved:Rows.WriterArchiveCardSaid:=
 Claim7.holds_tied_plain_at .later [] _ _ _ _ said (fun _ h=>by cases h) (by kernel_rfl) (fun _ h=>by cases h) writerArchive_row_tie rfl ⟨rfl,rfl⟩ (by kernel_rfl) rfl plain (by kernel_rfl)
#print axioms proved
end Go.Proofs.YtlddjbgohnlihaaGreatDoor.writerArchive
