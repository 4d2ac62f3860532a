/-
 A part.
-/
import Derived.Test.YtfgmnhjedmkpeaaAvGlob
import Derived.WalkKit
import Derived.ProofKit
import Derived.JoinedCond
import Derived.Shelf.Vars
import Derived.HandedShaped
set_option linter.unusedSimpArgs false
namespace Go.Proofs.Ytfgmnhjedmkpeaa.autoEnds
open Go.ChangeShapes Go.WideShapes Go.ChangeAt Go.RowKit Go.Av Go.Av.L
set_option linter.unusedVariables false
set_option linter.unusedSimpArgs false
theorem own:ownKnob Try.prog.godebug=none:=by kernel_rfl
theorem ZK:No Try.prog 25 GI (λx:AL=>(Un (λx:AN=>(Hu .i64) x.Kind/\(Hu .i64) x.A/\(Hu .i64) x.B/\(Hu .i64) x.Min/\(Hu .i64) x.Max/\(Hu .i64) x.Bl/\(λx:BB=>(Hu .u64) x.w0/\(Hu .u64) x.w1/\(Hu .u64) x.w2/\(Hu .u64) x.w3/\True) x.Set/\True)) x.Ad/\(Hu .i64) x.A2/\True):=uR (P:=Try.prog) (t:=25) (e':=GI) (ok':=(λx:AL=>(Un (λx:AN=>(Hu .i64) x.Kind/\(Hu .i64) x.A/\(Hu .i64) x.B/\(Hu .i64) x.Min/\(Hu .i64) x.Max/\(Hu .i64) x.Bl/\(λx:BB=>(Hu .u64) x.w0/\(Hu .u64) x.w1/\(Hu .u64) x.w2/\(Hu .u64) x.w3/\True) x.Set/\True)) x.Ad/\(Hu .i64) x.A2/\True)) (ts:=[23,3]) (by kernel_rfl) (λx:(List AN)×(Int)×Unit=>(⟨x.1,x.2.1⟩:AL)) (λx=>rfl) (λx h=>h) (HD (uL (t:=23) (el:=68) GN (by kernel_rfl) (by kernel_rfl) (by decide) (uR (P:=Try.prog) (t:=68) (e':=AG) (ok':=(λx:AN=>(Hu .i64) x.Kind/\(Hu .i64) x.A/\(Hu .i64) x.B/\(Hu .i64) x.Min/\(Hu .i64) x.Max/\(Hu .i64) x.Bl/\(λx:BB=>(Hu .u64) x.w0/\(Hu .u64) x.w1/\(Hu .u64) x.w2/\(Hu .u64) x.w3/\True) x.Set/\True)) (ts:=[3,3,3,3,3,3,66]) (by kernel_rfl) (λx:(Int)×(Int)×(Int)×(Int)×(Int)×(Int)×(BB)×Unit=>(⟨x.1,x.2.1,x.2.2.1,x.2.2.2.1,x.2.2.2.2.1,x.2.2.2.2.2.1,x.2.2.2.2.2.2.1⟩:AN)) (λx=>rfl) (λx h=>h) (HD (uI (t:=3) (k:=.i64) (by kernel_rfl)) (HD (uI (t:=3) (k:=.i64) (by kernel_rfl)) (HD (uI (t:=3) (k:=.i64) (by kernel_rfl)) (HD (uI (t:=3) (k:=.i64) (by kernel_rfl)) (HD (uI (t:=3) (k:=.i64) (by kernel_rfl)) (HD (uI (t:=3) (k:=.i64) (by kernel_rfl)) (HD (uA (P:=Try.prog) (t:=66) (e':=Cb) (ok':=(λx:BB=>(Hu .u64) x.w0/\(Hu .u64) x.w1/\(Hu .u64) x.w2/\(Hu .u64) x.w3/\True)) (n:=4) (el:=64) (by kernel_rfl) (by kernel_rfl) (λx:(Int)×(Int)×(Int)×(Int)×Unit=>(⟨x.1,x.2.1,x.2.2.1,x.2.2.2.1⟩:BB)) (λx=>rfl) (λx h=>h) (HD (uI (t:=64) (k:=.u64) (by kernel_rfl)) (HD (uI (t:=64) (k:=.u64) (by kernel_rfl)) (HD (uI (t:=64) (k:=.u64) (by kernel_rfl)) (HD (uI (t:=64) (k:=.u64) (by kernel_rfl)) (TF)))))) (TF)))))))))) (HD (uI (t:=3) (k:=.i64) (by kernel_rfl)) (TF)))
theorem ZJ:No Try.prog 9 eS W0:=uS (t:=9) (by kernel_rfl)
theorem Zh:No Try.prog 3 (eI .i64) (Hu .i64):=uI (t:=3) (k:=.i64) (by kernel_rfl)
set_option maxRecDepth 100000 in
theorem TB(H:Type)(enc:TypeId×Value->H)(W:World)(base:Nat)(args:Array Value)(ds gs:List (DataW H))(before:List MemPlace)
  (E:∀(j:Nat) t v,Try.f4.params[j]?=some t->args[j]?=some v->Value.okWide Try.prog W .any base t v)
  (I:DataW.Whole enc Try.prog Try.f4.params.toList Rows.autoEndsSpec.vars false W args.toList ds gs before) (G:Rows.uptoSmall H (ds++gs)=true):
  Calls Try.prog 4 args W λe W'=>∃v,e=.returned v/\Rows.autoEndsSpec.post enc Try.prog Try.f4 false true false false W args v W':=by
 have hW':=I;obtain⟨p,q,hA0,hV,rfl,hfz,hnd⟩:=I;have K:DataW.TrodAll enc Try.prog W 0 (λ_=>true) true Try.f4.params.toList args.toList ds p:=hA0;rw[Try.params4]at K;obtain⟨v0,vs0,d0,ds0,p0,q0,g0,rfl,_,⟨fu0,t0⟩,r0⟩:=trodAll_cons K;obtain⟨v1,vs1,d1,ds1,p1,q1,g1,rfl,_,⟨fu1,t1⟩,r1⟩:=trodAll_cons r0;obtain⟨v2,vs2,d2,ds2,p2,q2,g2,rfl,_,⟨fu2,t2⟩,r2⟩:=trodAll_cons r1;obtain⟨gE,rfl,_⟩:=trodAll_nil r2;have D:args.toList=[v0,v1,v2]:=by rw[g0,g1,g2,gE]
 obtain⟨x0,c0,k0⟩:=ZK.h fu0 _ d0 p0 t0 (Bulk.NY G (by simp));have V0:=NL (E 0 25 v0 (by rw[Try.params4];rfl) (by rw[<-Array.getElem?_toList,D];rfl)) c0 (show toArg Try.prog 25 (GI x0)=some (.agg (GI x0)) from by kernel_rfl);obtain⟨x1,c1,k1⟩:=ZJ.h fu1 _ d1 p1 t1 (Bulk.NY G (by simp));have V1:=NL (E 1 9 v1 (by rw[Try.params4];rfl) (by rw[<-Array.getElem?_toList,D];rfl)) c1 (show toArg Try.prog 9 (eS x1)=some (.str x1) from by kernel_rfl);obtain⟨x2,c2,k2⟩:=Zh.h fu2 _ d2 p2 t2 (Bulk.NY G (by simp));have V2:=NL (E 2 3 v2 (by rw[Try.params4];rfl) (by rw[<-Array.getElem?_toList,D];rfl)) c2 (show toArg Try.prog 3 ((eI .i64) x2)=some (.int .i64 x2) from by kernel_rfl);have hm:=PK x0 k0 x1 k1 x2 k2;obtain⟨v,h',hr,ev,_⟩:=I5 (g:=⟨0,[]⟩) (h:=⟨0,.leaf⟩) (F:=[]) (av:=[.agg (GI x0),.str x1,.int .i64 x2]) hm (hc:=rfl) HH.start;subst ev;exact R6 (C:=cfg) QM (K2 W) (by kernel_rfl) Try.func4 (by kernel_rfl) (c:=A7 cfg.P 4) (by kernel_rfl) (by rw[Try.params4];intro t J;simp only[zP,List.not_mem_nil,or_false]at J;rcases J with rfl|rfl|rfl<;>exact⟨by kernel_rfl,of_decide_eq_true (by kernel_rfl)⟩) (tb:=4) (by kernel_rfl) (by kernel_rfl) rfl (by rfl) hW' (by rw[D];exact .cons V0 (.cons V1 (.cons V2 (.nil _)))) hr
set_option maxRecDepth 100000 in
theorem lifted(os:Os)(started:os.Started)(H:Type)(enc:TypeId×Value->H)(F:Stop.Interp):
  ReturnsInHanded {} Try.checked os 4 .any ((Rows.OpenSpec.upto Rows.autoEndsSpec).pre6 enc Try.prog Try.f4 Rows.autoEndsUptoRow.domain false) (((Rows.OpenSpec.upto Rows.autoEndsSpec).at F).post enc Try.prog Try.f4 false true false false):=by
 refine returnsInHanded_of_cond (C:=Try.checked) (s:=(Rows.OpenSpec.upto Rows.autoEndsSpec)) (k:=Rows.uptoSmall) rfl own started (by kernel_rfl) Try.func4
  (OpenSpec.witness (enc:=enc) (C:=Try.checked) (s:=(Rows.OpenSpec.upto Rows.autoEndsSpec)) (k:=Rows.uptoSmall) rfl false ⟨#[],#[.agg #[.slice none 0 0,.int .i64 0],.string ⟨#[]⟩,.int .i64 0],[]⟩ 8 (by kernel_rfl) (by kernel_rfl) (by kernel_rfl)
   (x:=([.agg [.nil,.lit (.int .i64 0)],.lit (.string []),.lit (.int .i64 0)],[],[])) (by kernel_rfl) rfl (by kernel_rfl)) ?_
 intro W base args ds gs before E I _ G _;exact TB H enc W base args ds gs before E I G
set_option maxRecDepth 100000 in
theorem W5:Rows.autoEndsUptoRow.holds Try.pinned (Rows.OpenSpec.upto Rows.autoEndsSpec):=
 OpenClaim.holds_of_cond 4 Try.f4 rfl rfl rfl rfl rfl rfl rfl ⟨rfl,rfl,rfl,rfl,rfl⟩ rfl rfl rfl rfl rfl (by kernel_rfl) Try.func4 (by kernel_rfl)
  (of_decide_eq_true (by kernel_rfl)) (by unfold Func.isWrapper;first|(rw[zk (by decide+kernel)];kernel_rfl)|(rw[zh (by decide+kernel)];exact⟨rfl,rfl⟩))
  (λos started H enc _ F=>lifted os started H enc F)
theorem proved:Rows.AutoEndsUptoSaid:=W5
#print axioms proved
end Go.Proofs.Ytfgmnhjedmkpeaa.autoEnds
