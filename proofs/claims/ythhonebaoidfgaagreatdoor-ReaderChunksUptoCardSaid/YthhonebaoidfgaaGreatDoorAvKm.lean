/-
  Several texts in one.
-/
import Derived.Test.YthhonebaoidfgaaGreatDoorAvCo
import Derived.Test.YthhonebaoidfgaaGreatDoorAvMap
set_option linter.unusedSimpArgs false
/-
 A part.
-/
section
namespace Go.Av
set_option linter.unusedVariables false
set_option linter.unusedSimpArgs false
def fL{α β:Type}(l:List α)(k:List α->β):β:=
 match l with
 |[]=>k []
 |a::r=>fL r λr=>k (a::r)
theorem gG{α β:Type}:∀(l:List α) (k:List α->β),fL l k=k l
 |[],k=>rfl
 |a::r,k=>by rw[fL,gG r]
theorem K4{α:Type}{l out:List α}(h:fL l some=some out):l=out:=by rw[gG]at h;exact zJ h
section
variable {g:Gd} {h h':AF} {L F:List Ck}
theorem HH.DF(a:HH g h L F)(b:HH g h' [] (List.append L F)):HH g h' L F:=a.Gr (n:=0) b
theorem HH.Th{pr:List Nat}(a:HH g h L F)(b:HH ⟨g.floor,List.append pr g.BW⟩ h' [] (List.append L F)):HH g h' L F:=a.PV (n:=0) b
theorem HH.lA{c0':Ck}(a:HH g h L F)(b:HH g h' [c0'] (List.append L F)):HH g h' (c0'::L) F:=a.Gr (n:=0) b
theorem HH.nA{c0' c1' c2' c3':Ck}(a:HH g h L F)(b:HH g h' [c0',c1',c2',c3'] (List.append L F)):HH g h' (c0'::c1'::c2'::c3'::L) F:=a.Gr (n:=0) b
theorem HH.g11{c0 c0':Ck}(a:HH g h (c0::L) F)(b:HH g h' [c0'] (List.append L F)):HH g h' (c0'::L) F:=a.Gr (n:=1) b
theorem HH.kj{c0 c0':Ck}{pr:List Nat}(a:HH g h (c0::L) F)(b:HH ⟨g.floor,List.append pr g.BW⟩ h' [c0'] (List.append L F)):HH g h' (c0'::L) F:=a.PV (n:=1) b
theorem HH.g22{c0 c1 c0' c1':Ck}(a:HH g h (c0::c1::L) F)(b:HH g h' [c0',c1'] (List.append L F)):HH g h' (c0'::c1'::L) F:=a.Gr (n:=2) b
theorem HH.ko{c0 c1 c0' c1':Ck}{pr:List Nat}(a:HH g h (c0::c1::L) F)(b:HH ⟨g.floor,List.append pr g.BW⟩ h' [c0',c1'] (List.append L F)):HH g h' (c0'::c1'::L) F:=a.PV (n:=2) b
theorem HH.g23{c0 c1 c0' c1' c2':Ck}(a:HH g h (c0::c1::L) F)(b:HH g h' [c0',c1',c2'] (List.append L F)):HH g h' (c0'::c1'::c2'::L) F:=a.Gr (n:=2) b
theorem HH.mH{c0 c1 c2 c0' c1' c2':Ck}(a:HH g h (c0::c1::c2::L) F)(b:HH g h' [c0',c1',c2'] (List.append L F)):HH g h' (c0'::c1'::c2'::L) F:=a.Gr (n:=3) b
theorem HH.O3{c0 c1 c2 c3 c0' c1' c2' c3':Ck}(a:HH g h (c0::c1::c2::c3::L) F)(b:HH g h' [c0',c1',c2',c3'] (List.append L F)):HH g h' (c0'::c1'::c2'::c3'::L) F:=a.Gr (n:=4) b
theorem HH.lv{c0 c1 c2 c3 c0' c1' c2' c3':Ck}{pr:List Nat}(a:HH g h (c0::c1::c2::c3::L) F)(b:HH ⟨g.floor,List.append pr g.BW⟩ h' [c0',c1',c2',c3'] (List.append L F)):HH g h' (c0'::c1'::c2'::c3'::L) F:=a.PV (n:=4) b
theorem HH.lN{c0 c1 c2 c3 c0' c1' c2' c3' c4':Ck}(a:HH g h (c0::c1::c2::c3::L) F)(b:HH g h' [c0',c1',c2',c3',c4'] (List.append L F)):HH g h' (c0'::c1'::c2'::c3'::c4'::L) F:=a.Gr (n:=4) b
theorem HH.d0(a:HH g h L F):HH g h [] F:=a.Oe 0
theorem HH.d1{c0:Ck}(a:HH g h (c0::L) F):HH g h [c0] F:=a.Oe 1
theorem HH.d2{c0 c1:Ck}(a:HH g h (c0::c1::L) F):HH g h [c0,c1] F:=a.Oe 2
theorem HH.d3{c0 c1 c2:Ck}(a:HH g h (c0::c1::c2::L) F):HH g h [c0,c1,c2] F:=a.Oe 3
theorem HH.d4{c0 c1 c2 c3:Ck}(a:HH g h (c0::c1::c2::c3::L) F):HH g h [c0,c1,c2,c3] F:=a.Oe 4
theorem HH.d5{c0 c1 c2 c3 c4:Ck}(a:HH g h (c0::c1::c2::c3::c4::L) F):HH g h [c0,c1,c2,c3,c4] F:=a.Oe 5
theorem HH.d6{c0 c1 c2 c3 c4 c5:Ck}(a:HH g h (c0::c1::c2::c3::c4::c5::L) F):HH g h [c0,c1,c2,c3,c4,c5] F:=a.Oe 6
theorem HH.s0{id:Nat}{gr:Option TypeId}{cs:List AD}(a:HH g h (.obj id (.cells gr 2 cs)::L) F)(o:Nat)(new:List AD){ds:List AD}(hd:fL (FY cs o (OU gr new)) some=some ds:=by rfl)(E:o+new.length<=cs.length:=by exact zd rfl)(h1:new.all AD.one=true:=by rfl):∃h',Av.st g h (id,o) new=some h'/\HH g h' (.obj id (.cells gr 2 ds)::L) F:=a.st 0 rfl E h1 (K4 hd)
theorem HH.s1{c0:Ck}{id:Nat}{gr:Option TypeId}{cs:List AD}(a:HH g h (c0::.obj id (.cells gr 2 cs)::L) F)(o:Nat)(new:List AD){ds:List AD}(hd:fL (FY cs o (OU gr new)) some=some ds:=by rfl)(E:o+new.length<=cs.length:=by exact zd rfl)(h1:new.all AD.one=true:=by rfl):∃h',Av.st g h (id,o) new=some h'/\HH g h' (c0::.obj id (.cells gr 2 ds)::L) F:=a.st 1 rfl E h1 (K4 hd)
theorem HH.s2{c0 c1:Ck}{id:Nat}{gr:Option TypeId}{cs:List AD}(a:HH g h (c0::c1::.obj id (.cells gr 2 cs)::L) F)(o:Nat)(new:List AD){ds:List AD}(hd:fL (FY cs o (OU gr new)) some=some ds:=by rfl)(E:o+new.length<=cs.length:=by exact zd rfl)(h1:new.all AD.one=true:=by rfl):∃h',Av.st g h (id,o) new=some h'/\HH g h' (c0::c1::.obj id (.cells gr 2 ds)::L) F:=a.st 2 rfl E h1 (K4 hd)
theorem HH.s3{c0 c1 c2:Ck}{id:Nat}{gr:Option TypeId}{cs:List AD}(a:HH g h (c0::c1::c2::.obj id (.cells gr 2 cs)::L) F)(o:Nat)(new:List AD){ds:List AD}(hd:fL (FY cs o (OU gr new)) some=some ds:=by rfl)(E:o+new.length<=cs.length:=by exact zd rfl)(h1:new.all AD.one=true:=by rfl):∃h',Av.st g h (id,o) new=some h'/\HH g h' (c0::c1::c2::.obj id (.cells gr 2 ds)::L) F:=a.st 3 rfl E h1 (K4 hd)
theorem HH.s4{c0 c1 c2 c3:Ck}{id:Nat}{gr:Option TypeId}{cs:List AD}(a:HH g h (c0::c1::c2::c3::.obj id (.cells gr 2 cs)::L) F)(o:Nat)(new:List AD){ds:List AD}(hd:fL (FY cs o (OU gr new)) some=some ds:=by rfl)(E:o+new.length<=cs.length:=by exact zd rfl)(h1:new.all AD.one=true:=by rfl):∃h',Av.st g h (id,o) new=some h'/\HH g h' (c0::c1::c2::c3::.obj id (.cells gr 2 ds)::L) F:=a.st 4 rfl E h1 (K4 hd)
theorem HH.s5{c0 c1 c2 c3 c4:Ck}{id:Nat}{gr:Option TypeId}{cs:List AD}(a:HH g h (c0::c1::c2::c3::c4::.obj id (.cells gr 2 cs)::L) F)(o:Nat)(new:List AD){ds:List AD}(hd:fL (FY cs o (OU gr new)) some=some ds:=by rfl)(E:o+new.length<=cs.length:=by exact zd rfl)(h1:new.all AD.one=true:=by rfl):∃h',Av.st g h (id,o) new=some h'/\HH g h' (c0::c1::c2::c3::c4::.obj id (.cells gr 2 ds)::L) F:=a.st 5 rfl E h1 (K4 hd)
theorem HH.s6{c0 c1 c2 c3 c4 c5:Ck}{id:Nat}{gr:Option TypeId}{cs:List AD}(a:HH g h (c0::c1::c2::c3::c4::c5::.obj id (.cells gr 2 cs)::L) F)(o:Nat)(new:List AD){ds:List AD}(hd:fL (FY cs o (OU gr new)) some=some ds:=by rfl)(E:o+new.length<=cs.length:=by exact zd rfl)(h1:new.all AD.one=true:=by rfl):∃h',Av.st g h (id,o) new=some h'/\HH g h' (c0::c1::c2::c3::c4::c5::.obj id (.cells gr 2 ds)::L) F:=a.st 6 rfl E h1 (K4 hd)
theorem HH.s7{c0 c1 c2 c3 c4 c5 c6:Ck}{id:Nat}{gr:Option TypeId}{cs:List AD}(a:HH g h (c0::c1::c2::c3::c4::c5::c6::.obj id (.cells gr 2 cs)::L) F)(o:Nat)(new:List AD){ds:List AD}(hd:fL (FY cs o (OU gr new)) some=some ds:=by rfl)(E:o+new.length<=cs.length:=by exact zd rfl)(h1:new.all AD.one=true:=by rfl):∃h',Av.st g h (id,o) new=some h'/\HH g h' (c0::c1::c2::c3::c4::c5::c6::.obj id (.cells gr 2 ds)::L) F:=a.st 7 rfl E h1 (K4 hd)
theorem HH.jl(a:HH g h L F):∀(ks:List Nat) (M:List Ck),ks.Nodup->ks.map (λk=>L[k]?)=M.map some->(EO (M++F)).Nodup:=by
 intro ks
 induction ks with
 | nil=>
  intro M _ he;cases M with
  |nil=>
   have:=a.nd;rw[Dk]at this;exact(yd.1 this).2.1
  |cons c M=>simp at he
 | cons k ks ih=>
  intro M D he;cases M with
  |nil=>simp at he
  | cons c M=>
   simp only[zK,qY]at he;have hd:=(a.front k he.1).nd;have e:EO (c::L.eraseIdx k++F)=c.ids++EO (L.eraseIdx k++F):=by simp[EO]
   have e2:EO (c::M++F)=c.ids++EO (M++F):=by simp[EO]
   rw[e]at hd;rw[e2];refine yd.2 ⟨(yd.1 hd).1,ih M (yR.1 D).2 he.2,λi hi j T=>?_⟩;refine(yd.1 hd).2.2 i hi j ?_;simp only[EO,yU]at T⊢;obtain⟨d,hd,T⟩:=T;refine⟨d,?_,T⟩;rcases zu.1 hd with hd|hd
   ·refine zu.2 (.inl ?_);have hm:some d∈M.map some:=zZ.2 ⟨d,hd,rfl⟩;rw[<-he.2]at hm;obtain⟨x,O,U⟩:=zZ.1 hm;exact List.mem_eraseIdx_iff_getElem?.2 ⟨x,λe=>(yR.1 D).1 (e ▸ O),U⟩
   ·exact zu.2 (.inr hd)
theorem HH.pick(a:HH g h L F)(ks:List Nat)(M:List Ck)(D:ks.Nodup)(he:ks.map (λk=>L[k]?)=M.map some):HH g h M F:=by
 have hm:∀c∈M,c∈L:=λc hc=>by
  have hm:some c∈M.map some:=zZ.2 ⟨c,hc,rfl⟩;rw[<-he]at hm;obtain⟨x,O,U⟩:=zZ.1 hm;exact zN U
 refine⟨λc hc=>a.ok c ?_,a.jl ks M D he,λi hi=>a.may i ?_,a.BW,a.floor⟩
 ·rcases zu.1 hc with h|h
  ·exact zu.2 (.inl (hm c h))
  ·exact zu.2 (.inr h)
 ·simp only[EO,yU]at hi⊢;obtain⟨c,hc,hi⟩:=hi;exact⟨c,hm c hc,hi⟩
theorem HH.k1(a:HH g h L F)(i0:Nat){c0:Ck}(e0:L[i0]?=some c0:=by rfl)(hd:[i0].Nodup:=by decide):HH g h [c0] F:=a.pick [i0] [c0] hd (by simp only[List.map,e0])
theorem HH.k2(a:HH g h L F)(i0 i1:Nat){c0 c1:Ck}(e0:L[i0]?=some c0:=by rfl)(e1:L[i1]?=some c1:=by rfl)(hd:[i0,i1].Nodup:=by decide):HH g h [c0,c1] F:=a.pick [i0,i1] [c0,c1] hd (by simp only[List.map,e0,e1])
theorem HH.k3(a:HH g h L F)(i0 i1 i2:Nat){c0 c1 c2:Ck}(e0:L[i0]?=some c0:=by rfl)(e1:L[i1]?=some c1:=by rfl)(e2:L[i2]?=some c2:=by rfl)(hd:[i0,i1,i2].Nodup:=by decide):HH g h [c0,c1,c2] F:=a.pick [i0,i1,i2] [c0,c1,c2] hd (by simp only[List.map,e0,e1,e2])
theorem HH.k4(a:HH g h L F)(i0 i1 i2 i3:Nat){c0 c1 c2 c3:Ck}(e0:L[i0]?=some c0:=by rfl)(e1:L[i1]?=some c1:=by rfl)(e2:L[i2]?=some c2:=by rfl)(e3:L[i3]?=some c3:=by rfl)(hd:[i0,i1,i2,i3].Nodup:=by decide):HH g h [c0,c1,c2,c3] F:=a.pick [i0,i1,i2,i3] [c0,c1,c2,c3] hd (by simp only[List.map,e0,e1,e2,e3])
theorem HH.k5(a:HH g h L F)(i0 i1 i2 i3 i4:Nat){c0 c1 c2 c3 c4:Ck}(e0:L[i0]?=some c0:=by rfl)(e1:L[i1]?=some c1:=by rfl)(e2:L[i2]?=some c2:=by rfl)(e3:L[i3]?=some c3:=by rfl)(e4:L[i4]?=some c4:=by rfl)(hd:[i0,i1,i2,i3,i4].Nodup:=by decide):HH g h [c0,c1,c2,c3,c4] F:=a.pick [i0,i1,i2,i3,i4] [c0,c1,c2,c3,c4] hd (by simp only[List.map,e0,e1,e2,e3,e4])
theorem HH.k6(a:HH g h L F)(i0 i1 i2 i3 i4 i5:Nat){c0 c1 c2 c3 c4 c5:Ck}(e0:L[i0]?=some c0:=by rfl)(e1:L[i1]?=some c1:=by rfl)(e2:L[i2]?=some c2:=by rfl)(e3:L[i3]?=some c3:=by rfl)(e4:L[i4]?=some c4:=by rfl)(e5:L[i5]?=some c5:=by rfl)(hd:[i0,i1,i2,i3,i4,i5].Nodup:=by decide):HH g h [c0,c1,c2,c3,c4,c5] F:=a.pick [i0,i1,i2,i3,i4,i5] [c0,c1,c2,c3,c4,c5] hd (by simp only[List.map,e0,e1,e2,e3,e4,e5])
theorem HH.k7(a:HH g h L F)(i0 i1 i2 i3 i4 i5 i6:Nat){c0 c1 c2 c3 c4 c5 c6:Ck}(e0:L[i0]?=some c0:=by rfl)(e1:L[i1]?=some c1:=by rfl)(e2:L[i2]?=some c2:=by rfl)(e3:L[i3]?=some c3:=by rfl)(e4:L[i4]?=some c4:=by rfl)(e5:L[i5]?=some c5:=by rfl)(e6:L[i6]?=some c6:=by rfl)(hd:[i0,i1,i2,i3,i4,i5,i6].Nodup:=by decide):HH g h [c0,c1,c2,c3,c4,c5,c6] F:=a.pick [i0,i1,i2,i3,i4,i5,i6] [c0,c1,c2,c3,c4,c5,c6] hd (by simp only[List.map,e0,e1,e2,e3,e4,e5,e6])
theorem HH.k8(a:HH g h L F)(i0 i1 i2 i3 i4 i5 i6 i7:Nat){c0 c1 c2 c3 c4 c5 c6 c7:Ck}(e0:L[i0]?=some c0:=by rfl)(e1:L[i1]?=some c1:=by rfl)(e2:L[i2]?=some c2:=by rfl)(e3:L[i3]?=some c3:=by rfl)(e4:L[i4]?=some c4:=by rfl)(e5:L[i5]?=some c5:=by rfl)(e6:L[i6]?=some c6:=by rfl)(e7:L[i7]?=some c7:=by rfl)(hd:[i0,i1,i2,i3,i4,i5,i6,i7].Nodup:=by decide):HH g h [c0,c1,c2,c3,c4,c5,c6,c7] F:=a.pick [i0,i1,i2,i3,i4,i5,i6,i7] [c0,c1,c2,c3,c4,c5,c6,c7] hd (by simp only[List.map,e0,e1,e2,e3,e4,e5,e6,e7])
theorem HH.pu(a:HH g h L F)(o:Cs):∃h',h'=h.push o/\HH g h' (.obj h.size o::L) F:=⟨_,rfl,a.push o⟩
theorem HH.pL(a:HH g h L F)(e:TypeId)(cs:List AD):∃h',h'=h.push (.cells (some e) 2 cs)/\HH g h' (.Am (some h.size) e cs::L) F:=⟨_,rfl,a.YO e cs⟩
theorem HH.la(a:HH g h L F)(k o n:Nat){id:Nat}{gr:Option TypeId}{cs ds:List AD}(hk:L[k]?=some (.obj id (.cells gr 2 cs)):=by rfl)(hd:o+n<=cs.length/\(cs.drop o).take n=ds:=by exact⟨zd rfl,rfl⟩):Av.GL h (id,o) n=some ds:=a.GL k hk hd
theorem HH.l1(a:HH g h L F)(k o:Nat){id:Nat}{gr:Option TypeId}{cs:List AD}{v:AD}(hk:L[k]?=some (.obj id (.cells gr 2 cs)):=by rfl)(W:cs[o]?=some v:=by rfl):Av.ld1 h (id,o)=some v:=a.ld1 k hk W
end
section
variable {C:Hv} {f:FuncId} {g:Gd} {ops:Array Oper} {tch:List (Nat×Nat)} {fr:Fr} {h h1:AF} {K:Fr->AF->Prop} {N:Nat} {l:List (Nat×AD)} {i:Nat} {pl:List (Nat×List Nat)} {v:AD} {L F:List Ck}
theorem Has.kn(H:Has fr N l)(d:Nat){b w:Bool}(S:b=w)(hd:Sq l d=some (.bool b):=by kernel_rfl):Has fr N (Ss l d (.bool w)):=H.fb d S hd
theorem rH{P:Program}{rs:List ResultVar}(H:Has fr N l)(J:∀fr,Mm P rs (Da N l fr) h=some v:=by intro _;kernel_rfl):Mm P rs fr h=some v:=lF H J
theorem rT{t:Nat}(H:Has fr N l)(J:∀fr,nth (Da N l fr) t=v:=by intro _;kernel_rfl):nth fr t=v:=ln H J
theorem Dp{args args':List AD}(n:Nat)(rs:List ResultVar){R:AD->AF->Prop}(hc:CQ (C.still f) args=args')(G:AW C f g (Ps C.P f) (args'++List.replicate (n - args'.length) (.tuple [])) h (λe fr h'=>(e=.ret\/e=.normal)/\∃v,Mm C.P rs fr h'=some v/\R v h'))(hk:C.kind f=1:=by kernel_rfl)(X:Hj C.P f=some (n,rs):=by kernel_rfl):∃v h',Cf C g h f args v h'/\R v h':=iB hk hc X G
theorem jS{args args':List AD}(n:Nat)(rs:List ResultVar){R:AD->AF->Prop}(hc:CQ (C.still f) args=args')(G:AW C f g (Ps C.P f) (args'++List.replicate (n - args'.length) (.tuple [])) h (λe fr h'=>(e=.ret\/e=.normal)/\∃v,Mm C.P rs fr h'=some v/\∃v' h'',RP g h' v=some (v',h'')/\R v' h''))(hk:C.kind f=7:=by kernel_rfl)(X:Hj C.P f=some (n,rs):=by kernel_rfl):∃v h',Cf C g h f args v h'/\R v h':=ia hk hc X G
theorem mI{args args':List AD}(n:Nat)(rs:List ResultVar){R:AD->AF->Prop}(hc:CQ (C.still f) args=args')(G:TR C f g (H6 C.P f) (args'++List.replicate (n - args'.length) (.tuple [])) h (λe fr h'=>(e=.ret\/e=.normal)/\∃v,Mm C.P rs fr h'=some v/\R v h'))(hk:C.kind f=8:=by kernel_rfl)(X:Hj C.P f=some (n,rs):=by kernel_rfl):∃v h',Cf C g h f args v h'/\R v h':=iZ hk hc X G
theorem bg{args:List AD}{c:Code}{Q:CT->Fr->AF->Prop}(n:Nat)(ins:List (Nat×AD))(G:∀fr,Has fr n ins->AW C f g c fr h Q)(E:(args++List.replicate (n - args.length) (AD.tuple [])).length=n:=by kernel_rfl)(hi:ins.map (λp=>nth (args++List.replicate (n - args.length) (AD.tuple [])) p.1)=ins.map (·.2):=by kernel_rfl):AW C f g c (args++List.replicate (n - args.length) (.tuple [])) h Q:=start ins E hi G
theorem mG{args:List AD}{c:Code}{Q:CT->Fr->AF->Prop}(n:Nat)(ins:List (Nat×AD))(G:∀fr,Has fr n ins->TR C f g c fr h Q)(E:(args++List.replicate (n - args.length) (AD.tuple [])).length=n:=by kernel_rfl)(hi:ins.map (λp=>nth (args++List.replicate (n - args.length) (AD.tuple [])) p.1)=ins.map (·.2):=by kernel_rfl):TR C f g c (args++List.replicate (n - args.length) (.tuple [])) h Q:=jD ins E hi G
theorem AX(k:Nat)(nw:List (Nat×AD))(d:Nat)(j o:Nat)(A:HH g h L F){id:Nat}{gr:Option TypeId}{cs:List AD}(H:Has fr N l)(D:∀fr' t,Has fr' N (((d,v)::List.append nw l))->AT C g ops (pl.drop (k+1)) t fr' h K)(T:L[j]?=some (.obj id (.cells gr 2 cs)):=by rfl)(W:cs[o]?=some v:=by rfl)(B:∀fr,Qa C.P (RT C.P ops (Eo (pl.take k)) (Da N l fr)) (P7 ops (Ik pl k))=some ((id,o),none):=by intro _;kernel_rfl)(hk:∀fr,(TL pl k&&(T8 (pl.take k)&&(Ff ops l (Eo (pl.take k))&&(JZ d l&&(JZ d nw&&Nat.blt d N)))),(HS C.P ops (Eo (pl.take k)) (Da N l fr)).map (λx=>(runs ops x (Ik pl k),Ij ops (Ik pl k),nw.map (λp=>nth x p.1))))=(true,some (true,some d,nw.map (·.2))):=by intro _;kernel_rfl):AT C g ops pl tch fr h K:=BQ k nw d v h H (λfr=>.of (Fb (B fr) (A.ld1 j T W))) D hk
theorem Q8(d:Nat)(j o:Nat)(A:HH g h L F){id:Nat}{gr:Option TypeId}{cs:List AD}(H:Has fr N l)(D:∀fr' t,Has fr' N ((d,v)::l)->AT C g ops pl t fr' h K)(T:L[j]?=some (.obj id (.cells gr 2 cs)):=by rfl)(W:cs[o]?=some v:=by rfl)(B:∀fr,Qa C.P (Da N l fr) (P7 ops i)=some ((id,o),none):=by intro _;kernel_rfl)(hw:∀fr,(runs ops (Da N l fr) i,Ij ops i,Nat.blt d N,JZ d l)=(true,some d,true,true):=by intro _;kernel_rfl):AT C g ops ((i,[])::pl) tch fr h K:=Az d v h H (λfr=>.of (Fb (B fr) (A.ld1 j T W))) D hw
theorem Gl(k:Nat)(nw:List (Nat×AD)){f':FuncId}{args:List AD}(J:Cf C g h f' args v h1)(H:Has fr N l)(D:∀fr' t,Has fr' N ((List.append nw l))->AT C g ops (pl.drop (k+1)) t fr' h1 K)(B:∀fr,Oz (RT C.P ops (Eo (pl.take k)) (Da N l fr)) (P7 ops (Ik pl k))=some (f',args):=by intro _;kernel_rfl)(hk:∀fr,(TL pl k&&(T8 (pl.take k)&&(Ff ops l (Eo (pl.take k))&&(J1 ops (Ik pl k) l&&J1 ops (Ik pl k) nw))),(HS C.P ops (Eo (pl.take k)) (Da N l fr)).map (λx=>(runs ops x (Ik pl k),nw.map (λp=>nth x p.1))))=(true,some (true,nw.map (·.2))):=by intro _;kernel_rfl):AT C g ops pl tch fr h K:=ba k nw _ h1 H (λfr=>Steps.call (B fr) J) D hk
theorem BM(k:Nat)(nw:List (Nat×AD))(d:Nat){f':FuncId}{args:List AD}(J:Cf C g h f' args v h1)(H:Has fr N l)(D:∀fr' t,Has fr' N (((d,v)::List.append nw l))->AT C g ops (pl.drop (k+1)) t fr' h1 K)(B:∀fr,Oz (RT C.P ops (Eo (pl.take k)) (Da N l fr)) (P7 ops (Ik pl k))=some (f',args):=by intro _;kernel_rfl)(hk:∀fr,(TL pl k&&(T8 (pl.take k)&&(Ff ops l (Eo (pl.take k))&&(JZ d l&&(JZ d nw&&Nat.blt d N)))),(HS C.P ops (Eo (pl.take k)) (Da N l fr)).map (λx=>(runs ops x (Ik pl k),Ij ops (Ik pl k),nw.map (λp=>nth x p.1))))=(true,some (true,some d,nw.map (·.2))):=by intro _;kernel_rfl):AT C g ops pl tch fr h K:=BQ k nw d v h1 H (λfr=>Steps.call (B fr) J) D hk
theorem IS{f':FuncId}{args:List AD}(J:Cf C g h f' args v h1)(H:Has fr N l)(D:∀fr' t,Has fr' N l->AT C g ops pl t fr' h1 K)(B:∀fr,Oz (Da N l fr) (P7 ops i)=some (f',args):=by intro _;kernel_rfl)(hw:∀fr,(runs ops (Da N l fr) i,J1 ops i l)=(true,true):=by intro _;kernel_rfl):AT C g ops ((i,[])::pl) tch fr h K:=Jw _ h1 H (λfr=>Steps.call (B fr) J) D hw
theorem BO(d:Nat){f':FuncId}{args:List AD}(J:Cf C g h f' args v h1)(H:Has fr N l)(D:∀fr' t,Has fr' N ((d,v)::l)->AT C g ops pl t fr' h1 K)(B:∀fr,Oz (Da N l fr) (P7 ops i)=some (f',args):=by intro _;kernel_rfl)(hw:∀fr,(runs ops (Da N l fr) i,Ij ops i,Nat.blt d N,JZ d l)=(true,some d,true,true):=by intro _;kernel_rfl):AT C g ops ((i,[])::pl) tch fr h K:=Az d v h1 H (λfr=>Steps.call (B fr) J) D hw
theorem LM(k:Nat)(nw:List (Nat×AD))(d:Nat)(v:AD){ob:Cs}(e:h1=h.push ob)(H:Has fr N l)(D:∀fr' t,Has fr' N (((d,v)::List.append nw l))->AT C g ops (pl.drop (k+1)) t fr' h1 K)(B:∀fr,iD C.P (RT C.P ops (Eo (pl.take k)) (Da N l fr)) (P7 ops (Ik pl k)) h.size=some (v,ob):=by intro _;kernel_rfl)(hk:∀fr,(TL pl k&&(T8 (pl.take k)&&(Ff ops l (Eo (pl.take k))&&(JZ d l&&(JZ d nw&&Nat.blt d N)))),(HS C.P ops (Eo (pl.take k)) (Da N l fr)).map (λx=>(runs ops x (Ik pl k),Ij ops (Ik pl k),nw.map (λp=>nth x p.1))))=(true,some (true,some d,nw.map (·.2))):=by intro _;kernel_rfl):AT C g ops pl tch fr h K:=BQ k nw d v h1 H (λfr=>.of (Za (B fr) (congrArg some e.symm))) D hk
theorem Bj(d:Nat)(v:AD){ob:Cs}(e:h1=h.push ob)(H:Has fr N l)(D:∀fr' t,Has fr' N ((d,v)::l)->AT C g ops pl t fr' h1 K)(B:∀fr,iD C.P (Da N l fr) (P7 ops i) h.size=some (v,ob):=by intro _;kernel_rfl)(hw:∀fr,(runs ops (Da N l fr) i,Ij ops i,Nat.blt d N,JZ d l)=(true,some d,true,true):=by intro _;kernel_rfl):AT C g ops ((i,[])::pl) tch fr h K:=Az d v h1 H (λfr=>.of (Za (B fr) (congrArg some e.symm))) D hw
theorem Bz(k:Nat)(nw:List (Nat×AD)){a:Nat×Nat}{v:AD}(O:Av.st g h a [v]=some h1)(H:Has fr N l)(D:∀fr' t,Has fr' N ((List.append nw l))->AT C g ops (pl.drop (k+1)) t fr' h1 K)(hc:v.cells?=some [v]:=by rfl)(B:∀fr,LN C.P (RT C.P ops (Eo (pl.take k)) (Da N l fr)) (P7 ops (Ik pl k))=some (a,1,v):=by intro _;kernel_rfl)(hk:∀fr,(TL pl k&&(T8 (pl.take k)&&(Ff ops l (Eo (pl.take k))&&(J1 ops (Ik pl k) l&&J1 ops (Ik pl k) nw))),(HS C.P ops (Eo (pl.take k)) (Da N l fr)).map (λx=>(runs ops x (Ik pl k),nw.map (λp=>nth x p.1))))=(true,some (true,nw.map (·.2))):=by intro _;kernel_rfl):AT C g ops pl tch fr h K:=ba k nw _ h1 H (λfr=>.of (XU (B fr) hc O)) D hk
theorem Of{a:Nat×Nat}{v:AD}(O:Av.st g h a [v]=some h1)(H:Has fr N l)(D:∀fr' t,Has fr' N l->AT C g ops pl t fr' h1 K)(hc:v.cells?=some [v]:=by rfl)(B:∀fr,LN C.P (Da N l fr) (P7 ops i)=some (a,1,v):=by intro _;kernel_rfl)(hw:∀fr,(runs ops (Da N l fr) i,J1 ops i l)=(true,true):=by intro _;kernel_rfl):AT C g ops ((i,[])::pl) tch fr h K:=Jw _ h1 H (λfr=>.of (XU (B fr) hc O)) D hw
theorem Fi(k:Nat)(nw:List (Nat×AD)){a:Nat×Nat}{n:Nat}{cs:List AD}(O:Av.st g h a cs=some h1)(H:Has fr N l)(D:∀fr' t,Has fr' N ((List.append nw l))->AT C g ops (pl.drop (k+1)) t fr' h1 K)(E:cs.length=n:=by rfl)(B:∀fr,LN C.P (RT C.P ops (Eo (pl.take k)) (Da N l fr)) (P7 ops (Ik pl k))=some (a,n,.agg cs):=by intro _;kernel_rfl)(hk:∀fr,(TL pl k&&(T8 (pl.take k)&&(Ff ops l (Eo (pl.take k))&&(J1 ops (Ik pl k) l&&J1 ops (Ik pl k) nw))),(HS C.P ops (Eo (pl.take k)) (Da N l fr)).map (λx=>(runs ops x (Ik pl k),nw.map (λp=>nth x p.1))))=(true,some (true,nw.map (·.2))):=by intro _;kernel_rfl):AT C g ops pl tch fr h K:=ba k nw _ h1 H (λfr=>.of (Pg (B fr) (MI O E))) D hk
theorem Cx{a:Nat×Nat}{n:Nat}{cs:List AD}(O:Av.st g h a cs=some h1)(H:Has fr N l)(D:∀fr' t,Has fr' N l->AT C g ops pl t fr' h1 K)(E:cs.length=n:=by rfl)(B:∀fr,LN C.P (Da N l fr) (P7 ops i)=some (a,n,.agg cs):=by intro _;kernel_rfl)(hw:∀fr,(runs ops (Da N l fr) i,J1 ops i l)=(true,true):=by intro _;kernel_rfl):AT C g ops ((i,[])::pl) tch fr h K:=Jw _ h1 H (λfr=>.of (Pg (B fr) (MI O E))) D hw
end
section
variable {C:Hv} {f:FuncId} {g:Gd} {ops:Array Oper} {tch:List (Nat×Nat)} {fr:Fr} {h:AF} {N:Nat} {l out:List (Nat×AD)} {c c':Code} {Q Q':CT->Fr->AF->Prop}
theorem By(Y:AW C f g c' fr h Q'->Q .normal fr h)(G:AW C f g c' fr h Q')(I:shape c=.skip:=by kernel_rfl):AW C f g c fr h Q:=Rc I (Y G)
theorem Di(n:Nat)(Y:AW C f g c' fr h Q'->Q .normal fr h)(G:AT C g (opsOf c') (Hd 0 n) [] fr h (λfr' h'=>Q' .normal fr' h'))(I:shape c=.skip:=by kernel_rfl)(J:Ny c' n=true:=by kernel_rfl):AW C f g c fr h Q:=Rc I (Y (CF n G J))
theorem CC(n:Nat)(Y:AW C f g c' fr h Q'->Q .normal fr h)(G:AT C g (opsOf (left c')) (Hd 0 n) [] fr h (λfr' h'=>Nh (λfr h=>AW C f g (right c') fr h Q') Q' .normal fr' h'))(I:shape c=.skip:=by kernel_rfl)(hq:shape c'=.seq:=by kernel_rfl)(J:Ny (left c') n=true:=by kernel_rfl):AW C f g c fr h Q:=Rc I (Y (Xi hq (CF n G J)))
theorem Bu{b w:Bool}(H:Has fr N l)(S:b=w)(O:b=w->∀fr,out.map (λp=>nth (Da N l fr) p.1)=out.map (·.2):=by intro S _;first|rfl|(rw[S];rfl)):AT C g ops [] tch fr h (λfr' h'=>h=h'/\Has fr' N out):=An ⟨rfl,H.less _ (O S)⟩
end
theorem nx{σ ρ:Type}{a:σ}{o:σ⊕ρ}{P:σ->Prop}(hm:some (.inl a)=some o)(h:P a):∃s',o=.inl s'/\P s':=⟨a,(zJ hm).symm,h⟩
theorem nr{σ ρ:Type}{a:ρ}{o:σ⊕ρ}{P:ρ->Prop}(hm:some (.inr a)=some o)(h:P a):∃s',o=.inr s'/\P s':=⟨a,(zJ hm).symm,h⟩
theorem lD{A0 A1 A2 A3 A4 A5:Type}{x0 y0:A0}{x1 y1:A1}{x2 y2:A2}{x3 y3:A3}{x4 y4:A4}{x5 y5:A5}(h:some (x0,x1,x2,x3,x4,x5)=some (y0,y1,y2,y3,y4,y5)):x0=y0/\x1=y1/\x2=y2/\x3=y3/\x4=y4/\x5=y5:=by
 obtain⟨h1,h2⟩:=Bn h;exact⟨h1,PS (congrArg some h2)⟩
abbrev Ai(x:Int):AD:=.int .i64 x
abbrev Au(x:Int):AD:=.int .u64 x
abbrev Ab(x:Int):AD:=.int .u8 x
section
variable {C:Hv} {f:FuncId} {g:Gd} {ops:Array Oper} {tch:List (Nat×Nat)} {fr:Fr} {h:AF} {N:Nat} {l:List (Nat×AD)} {pl:List (Nat×List Nat)} {c:Code} {Q:CT->Fr->AF->Prop}
theorem AK(k:Nat)(nw:List (Nat×AD))(H:Has fr N l)(G:∀fr',Has fr' N (List.append nw l)->AW C f g c fr' h Q)
  (hk:∀fr,(T8 pl,Nat.beq pl.length k,Ff ops l (Eo pl),(HS C.P ops (Eo pl) (Da N l fr)).map (λx=>nw.map (λp=>nth x p.1)))=(true,true,true,some (nw.map (·.2))):=by intro _;kernel_rfl):AT C g ops pl tch fr h (λfr h=>AW C f g c fr h Q):=dc k nw H (λ_=>id) G hk
theorem lM(k:Nat)(nw:List (Nat×AD))(n:Nat)(H:Has fr N l)(G:∀fr',Has fr' N (List.append nw l)->AT C g (opsOf c) (Hd 0 n) [] fr' h (λfr' h'=>Q .normal fr' h'))
  (hk:∀fr,(T8 pl,Nat.beq pl.length k,Ff ops l (Eo pl),(HS C.P ops (Eo pl) (Da N l fr)).map (λx=>nw.map (λp=>nth x p.1)))=(true,true,true,some (nw.map (·.2))):=by intro _;kernel_rfl) (J:Ny c n=true:=by kernel_rfl):AT C g ops pl tch fr h (λfr h=>AW C f g c fr h Q):=kD k nw n H (λ_=>id) G hk J
theorem Bx(k:Nat)(nw:List (Nat×AD))(n:Nat)(H:Has fr N l)(G:∀fr',Has fr' N (List.append nw l)->AT C g (opsOf (left c)) (Hd 0 n) [] fr' h (λfr' h'=>Nh (λfr h=>AW C f g (right c) fr h Q) Q .normal fr' h'))
  (hk:∀fr,(T8 pl,Nat.beq pl.length k,Ff ops l (Eo pl),(HS C.P ops (Eo pl) (Da N l fr)).map (λx=>nw.map (λp=>nth x p.1)))=(true,true,true,some (nw.map (·.2))):=by intro _;kernel_rfl) (I:shape c=.seq:=by kernel_rfl) (J:Ny (left c) n=true:=by kernel_rfl):AT C g ops pl tch fr h (λfr h=>AW C f g c fr h Q):=jc k nw n H (λ_=>id) G hk I J
end
end Go.Av
end
/-
 A part.
-/
section
namespace Go.Av
set_option linter.unusedVariables false
set_option linter.unusedSimpArgs false
inductive Q1(s:List UInt8):List (AD×AD)->Option AD->Prop
 |nil:Q1 s [] none
 |hit {k:List UInt8} {v:AD} {es:List (AD×AD)}:(s==k)=true->Q1 s ((.str k,v)::es) (some v)
 |C4 {k:List UInt8} {v:AD} {es:List (AD×AD)} {r:Option AD}:(s==k)=false->Q1 s es r->Q1 s ((.str k,v)::es) r
section
variable {P:Program} {t kt et:TypeId} {g:Gd} {h:AF} {L F:List Ck}
theorem Q1.EL{s:List UInt8}(I:P.underlying kt=some .string):∀{es:List (AD×AD)} {r:Option AD} (f:Q1 s es r) (i:Nat),(r=none/\Av.EL P kt (.str s) es i=some none)\/∃v j,r=some v/\Av.EL P kt (.str s) es i=some (some (j,v))
 |_,_,.nil,i=>.inl ⟨rfl,rfl⟩
 | _,_,.hit (k:=k) (v:=v) (es:=es) S,i=>by
  refine .inr ⟨v,i,rfl,?_⟩;unfold Av.EL;have e:Il P 10000 kt (.str s) (.str k)=some true:=by
   show Il P (9999+1) kt _ _=_;unfold Il;rw[I];simp only[S]
  rw[e]
 | _,_,.C4 (k:=k) (v:=v) (es:=es) S f,i=>by
  have e:Il P 10000 kt (.str s) (.str k)=some false:=by
   show Il P (9999+1) kt _ _=_;unfold Il;rw[I];simp only[S]
  unfold Av.EL;rw[e];exact f.EL I (i+1)
theorem Ty(I:P.underlying kt=some .string)(s:List UInt8):Gy P 20 kt (.str s)=true:=by
 unfold Gy;rw[I]
theorem HH.Hx(a:HH g h L F)(n:Nat){id st:Nat}{es:List (AD×AD)}(hk:L[n]?=some (.obj id (.map st es)))(hu:P.underlying t=some (.map kt et))(I:P.underlying kt=some .string){s:List UInt8}{v:AD}(f:Q1 s es (some v))(V:st≠0:=by decide):
  dM P h t (some id) (.str s)=some (v,true):=by
 have Z:=a.get n hk;unfold dM;rw[hu];simp only[Ty I,if_true,jP,Z];rw[zl V];dsimp only;rcases f.EL I 0 with⟨h1,_⟩|⟨w,j,h1,h2⟩
 ·cases h1
 ·cases h1;rw[h2]
theorem HH.Yv(a:HH g h L F)(n:Nat){id st:Nat}{es:List (AD×AD)}(hk:L[n]?=some (.obj id (.map st es)))(hu:P.underlying t=some (.map kt et))(I:P.underlying kt=some .string){z:AD}(hz:Is P et=some z){s:List UInt8}(f:Q1 s es none)(V:st≠0:=by decide):
  dM P h t (some id) (.str s)=some (z,false):=by
 have Z:=a.get n hk;unfold dM;rw[hu];simp only[Ty I,if_true,jP,Z];rw[zl V];dsimp only;rcases f.EL I 0 with⟨_,h2⟩|⟨w,j,h1,h2⟩
 ·rw[h2];simp[hz]
 ·cases h1
end
end Go.Av
end
