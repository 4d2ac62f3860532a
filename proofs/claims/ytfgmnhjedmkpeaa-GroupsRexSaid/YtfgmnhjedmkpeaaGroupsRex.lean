/-
 A part.
-/
import Derived.Test.YtfgmnhjedmkpeaaRows
import Derived.Test.YtfgmnhjedmkpeaaAvGlob
import Derived.WalkKit
import Derived.ProofKit
import Derived.JoinedCond
import Derived.Shelf.Vars
import Derived.HandedShaped
set_option linter.unusedSimpArgs false
namespace Go.Proofs.Ytfgmnhjedmkpeaa.groupsRex
open Go.ChangeShapes Go.WideShapes Go.ChangeAt Go.RowKit Go.Av Go.Av.L
set_option linter.unusedVariables false
set_option linter.unusedSimpArgs false
theorem own:ownKnob Try.prog.godebug=none:=by kernel_rfl
theorem YS:Ux Try.prog 9 eS YF:=Xm (t:=9) (by kernel_rfl)
theorem YH:Ux Try.prog 4 eB (λ_=>True):=YV (t:=4) (by kernel_rfl)
theorem YT:Ux Try.prog 9 eS YF:=Xm (t:=9) (by kernel_rfl)
theorem maxLen{W:World}(E:W.ShapedOpen Try.prog):∃n:Int,W.cell? ⟨0,0,none⟩=some (.int .i64 n):=
 cell_of_shapedOpen_int (g:=0) (t:=3) (zero:=#[.int .i64 0]) (k:=.i64) E (of_decide_eq_true (by kernel_rfl)) (by kernel_rfl) rfl (by kernel_rfl) (by kernel_rfl) (by kernel_rfl)
theorem VD{W:World}(E:W.ShapedOpen Try.prog):CL cfg.C4 W:=Rj (maxLen E) (M3 W)
set_option maxRecDepth 100000 in
theorem Ug(H:Type)(enc:TypeId×Value->H)(W:World)(base:Nat)(args:Array Value)(ds gs:List (DataW H))(before:List MemPlace)
  (D:∀(j:Nat) t v,Try.f3.params[j]?=some t->args[j]?=some v->Value.okWide Try.prog W .any base t v)
  (G:DataW.Whole enc Try.prog Try.f3.params.toList Rows.groupsRexSpec.vars false W args.toList ds gs before) (E:W.ShapedOpen Try.prog):
  Calls Try.prog 3 args W λe W'=>∃v,e=.returned v/\Rows.groupsRexSpec.post enc Try.prog Try.f3 false true false false W args v W':=by
 have hW':=G;obtain⟨p,q,hA0,hV,rfl,hfz,hnd⟩:=G;have J:DataW.TrodAll enc Try.prog W 0 (λ_=>true) true Try.f3.params.toList args.toList ds p:=hA0;rw[Try.params3]at J;obtain⟨v0,vs0,d0,ds0,p0,q0,g0,rfl,_,⟨fu0,t0⟩,r0⟩:=trodAll_cons J;obtain⟨v1,vs1,d1,ds1,p1,q1,g1,rfl,_,⟨fu1,t1⟩,r1⟩:=trodAll_cons r0;obtain⟨v2,vs2,d2,ds2,p2,q2,g2,rfl,_,⟨fu2,t2⟩,r2⟩:=trodAll_cons r1;obtain⟨gE,rfl,_⟩:=trodAll_nil r2;have B:args.toList=[v0,v1,v2]:=by rw[g0,g1,g2,gE]
 obtain⟨x0,c0,k0⟩:=YS.h fu0 _ d0 p0 t0;have V0:=PS (D 0 9 v0 (by rw[Try.params3];rfl) (by rw[<-Array.getElem?_toList,B];rfl)) c0 (show toArg Try.prog 9 (eS x0)=some (.str x0) from by kernel_rfl);obtain⟨x1,c1,k1⟩:=YH.h fu1 _ d1 p1 t1;have V1:=PS (D 1 4 v1 (by rw[Try.params3];rfl) (by rw[<-Array.getElem?_toList,B];rfl)) c1 (show toArg Try.prog 4 (eB x1)=some (.bool x1) from by kernel_rfl);obtain⟨x2,c2,k2⟩:=YT.h fu2 _ d2 p2 t2;have V2:=PS (D 2 9 v2 (by rw[Try.params3];rfl) (by rw[<-Array.getElem?_toList,B];rfl)) c2 (show toArg Try.prog 9 (eS x2)=some (.str x2) from by kernel_rfl);have hm:=QU x0 k0 x1 k1 x2 k2;obtain⟨v,h',hr,ev,_⟩:=KG (g:=⟨0,[]⟩) (h:=⟨0,.leaf⟩) (F:=[]) (av:=[.str x0,.bool x1,.str x2]) hm (hc:=rfl) HH.start;subst ev;exact TA (C:=cfg) Rp (VD E) (by kernel_rfl) Try.func3 (by kernel_rfl) (c:=Hp cfg.P 3) (by kernel_rfl) (by rw[Try.params3];intro t I;simp only[ye,List.not_mem_nil,or_false]at I;rcases I with rfl|rfl|rfl<;>exact⟨by kernel_rfl,of_decide_eq_true (by kernel_rfl)⟩) (tb:=4) (by kernel_rfl) (by kernel_rfl) rfl (by rfl) hW' (by rw[B];exact .cons V0 (.cons V1 (.cons V2 (.nil _)))) hr
set_option maxRecDepth 100000 in
theorem lifted(os:Os)(started:os.Started)(H:Type)(enc:TypeId×Value->H):
  ReturnsInHanded {} Try.checked os 3 .any (Rows.groupsRexSpec.pre6 enc Try.prog Try.f3 Rows.groupsRexRow.domain false) (Rows.groupsRexSpec.post enc Try.prog Try.f3 false true false false):=by
 refine returnsInHanded_of_change_shaped (C:=Try.checked) (s:=Rows.groupsRexSpec) own started (by kernel_rfl) Try.func3
  (ChangeSpec.witness6 (enc:=enc) (C:=Try.checked) (s:=Rows.groupsRexSpec) false ⟨#[],#[.string ⟨#[]⟩,.bool false,.string ⟨#[]⟩],[]⟩ 8 (by kernel_rfl) (by kernel_rfl) (by kernel_rfl) (by kernel_rfl)) ?_
 intro W base args ds gs before D G _ _ E _;exact Ug H enc W base args ds gs before D G E
set_option maxRecDepth 100000 in
theorem WX:Rows.groupsRexRow.holds Try.pinned (OpenSpec.ofChange Rows.groupsRexSpec):=
 OpenClaim.holds_of_wide 3 Try.f3 rfl rfl rfl rfl rfl rfl rfl ⟨rfl,rfl,rfl,rfl,rfl⟩ rfl rfl rfl rfl rfl (by kernel_rfl) Try.func3 (by kernel_rfl)
  (of_decide_eq_true (by kernel_rfl)) (by unfold Func.isWrapper;first|(rw[zj (by decide+kernel)];kernel_rfl)|(rw[zk (by decide+kernel)];exact⟨rfl,rfl⟩))
  (λos started H enc _=>lifted os started H enc)
theorem proved:Rows.GroupsRexSaid:=WX
#print axioms proved
end Go.Proofs.Ytfgmnhjedmkpeaa.groupsRex
