/-
  Several texts in one.
-/
import Derived.Test.YtlddjbgohnlihaaGreatDoorAvCo
import Derived.Test.YtlddjbgohnlihaaGreatDoorAvMap
/-
 A part.
-/
section
namespace Go.Av
set_option linter.unusedVariables false
set_option linter.unusedSimpArgs false
section
variable {g:Gd} {h h':AI} {L F:List Ck}
theorem HH.Dx(a:HH g h L F)(b:HH g h' [] (List.append L F)):HH g h' L F:=a.HN (n:=0) b
theorem HH.cM{pr:List Nat}(a:HH g h L F)(b:HH ⟨g.floor,List.append pr g.CF⟩ h' [] (List.append L F)):HH g h' L F:=a.WJ (n:=0) b
theorem HH.aP{c0':Ck}(a:HH g h L F)(b:HH g h' [c0'] (List.append L F)):HH g h' (c0'::L) F:=a.HN (n:=0) b
theorem HH.g11{c0 c0':Ck}(a:HH g h (c0::L) F)(b:HH g h' [c0'] (List.append L F)):HH g h' (c0'::L) F:=a.HN (n:=1) b
theorem HH.eu{c0 c0':Ck}{pr:List Nat}(a:HH g h (c0::L) F)(b:HH ⟨g.floor,List.append pr g.CF⟩ h' [c0'] (List.append L F)):HH g h' (c0'::L) F:=a.WJ (n:=1) b
theorem HH.g12{c0 c0' c1':Ck}(a:HH g h (c0::L) F)(b:HH g h' [c0',c1'] (List.append L F)):HH g h' (c0'::c1'::L) F:=a.HN (n:=1) b
theorem HH.g22{c0 c1 c0' c1':Ck}(a:HH g h (c0::c1::L) F)(b:HH g h' [c0',c1'] (List.append L F)):HH g h' (c0'::c1'::L) F:=a.HN (n:=2) b
theorem HH.aZ{c0 c1 c2 c3 c0' c1' c2' c3':Ck}(a:HH g h (c0::c1::c2::c3::L) F)(b:HH g h' [c0',c1',c2',c3'] (List.append L F)):HH g h' (c0'::c1'::c2'::c3'::L) F:=a.HN (n:=4) b
theorem HH.d0(a:HH g h L F):HH g h [] F:=a.Th 0
theorem HH.d1{c0:Ck}(a:HH g h (c0::L) F):HH g h [c0] F:=a.Th 1
theorem HH.d3{c0 c1 c2:Ck}(a:HH g h (c0::c1::c2::L) F):HH g h [c0,c1,c2] F:=a.Th 3
theorem HH.s0{id:Nat}{gr:Option TypeId}{cs:List AB}(a:HH g h (.obj id (.cells gr 2 cs)::L) F)(o:Nat)(new ds:List AB)(hd:Ev cs o (Nl gr new)=ds:=by rfl)(J:o+new.length≤cs.length:=by exact zb rfl)(h1:new.all AB.one=true:=by rfl):∃h',Av.st g h (id,o) new=some h'∧HH g h' (.obj id (.cells gr 2 ds)::L) F:=a.st 0 rfl J h1 hd
theorem HH.s1{c0:Ck}{id:Nat}{gr:Option TypeId}{cs:List AB}(a:HH g h (c0::.obj id (.cells gr 2 cs)::L) F)(o:Nat)(new ds:List AB)(hd:Ev cs o (Nl gr new)=ds:=by rfl)(J:o+new.length≤cs.length:=by exact zb rfl)(h1:new.all AB.one=true:=by rfl):∃h',Av.st g h (id,o) new=some h'∧HH g h' (c0::.obj id (.cells gr 2 ds)::L) F:=a.st 1 rfl J h1 hd
theorem HH.s2{c0 c1:Ck}{id:Nat}{gr:Option TypeId}{cs:List AB}(a:HH g h (c0::c1::.obj id (.cells gr 2 cs)::L) F)(o:Nat)(new ds:List AB)(hd:Ev cs o (Nl gr new)=ds:=by rfl)(J:o+new.length≤cs.length:=by exact zb rfl)(h1:new.all AB.one=true:=by rfl):∃h',Av.st g h (id,o) new=some h'∧HH g h' (c0::c1::.obj id (.cells gr 2 ds)::L) F:=a.st 2 rfl J h1 hd
theorem HH.s3{c0 c1 c2:Ck}{id:Nat}{gr:Option TypeId}{cs:List AB}(a:HH g h (c0::c1::c2::.obj id (.cells gr 2 cs)::L) F)(o:Nat)(new ds:List AB)(hd:Ev cs o (Nl gr new)=ds:=by rfl)(J:o+new.length≤cs.length:=by exact zb rfl)(h1:new.all AB.one=true:=by rfl):∃h',Av.st g h (id,o) new=some h'∧HH g h' (c0::c1::c2::.obj id (.cells gr 2 ds)::L) F:=a.st 3 rfl J h1 hd
theorem HH.s4{c0 c1 c2 c3:Ck}{id:Nat}{gr:Option TypeId}{cs:List AB}(a:HH g h (c0::c1::c2::c3::.obj id (.cells gr 2 cs)::L) F)(o:Nat)(new ds:List AB)(hd:Ev cs o (Nl gr new)=ds:=by rfl)(J:o+new.length≤cs.length:=by exact zb rfl)(h1:new.all AB.one=true:=by rfl):∃h',Av.st g h (id,o) new=some h'∧HH g h' (c0::c1::c2::c3::.obj id (.cells gr 2 ds)::L) F:=a.st 4 rfl J h1 hd
theorem HH.cj(a:HH g h L F):∀(ks:List Nat) (M:List Ck),ks.Nodup→ks.map (fun k=>L[k]?)=M.map some→(DU (M++F)).Nodup:=by
 intro ks
 induction ks with
 | nil=>
  intro M _ he;cases M with
  |nil=>
   have:=a.nd;rw[Cq]at this;exact(yh.1 this).2.1
  |cons c M=>simp at he
 | cons k ks ih=>
  intro M D he;cases M with
  |nil=>simp at he
  | cons c M=>
   simp only[zU,List.cons.injEq]at he;have hd:=(a.front k he.1).nd;have e:DU (c::L.eraseIdx k++F)=c.ids++DU (L.eraseIdx k++F):=by simp[DU]
   have e2:DU (c::M++F)=c.ids++DU (M++F):=by simp[DU]
   rw[e]at hd;rw[e2];refine yh.2 ⟨(yh.1 hd).1,ih M (yQ.1 D).2 he.2,fun i hi j T=>?_⟩;refine(yh.1 hd).2.2 i hi j ?_;simp only[DU,qg]at T⊢;obtain⟨d,hd,T⟩:=T;refine⟨d,?_,T⟩;rcases zB.1 hd with hd|hd
   ·refine zB.2 (.inl ?_);have hm:some d∈M.map some:=zZ.2 ⟨d,hd,rfl⟩;rw[←he.2]at hm;obtain⟨x,O,U⟩:=zZ.1 hm;exact List.mem_eraseIdx_iff_getElem?.2 ⟨x,fun e=>(yQ.1 D).1 (e ▸ O),U⟩
   ·exact zB.2 (.inr hd)
theorem HH.pick(a:HH g h L F)(ks:List Nat)(M:List Ck)(D:ks.Nodup)(he:ks.map (fun k=>L[k]?)=M.map some):HH g h M F:=by
 have hm:∀c∈M,c∈L:=fun c hc=>by
  have hm:some c∈M.map some:=zZ.2 ⟨c,hc,rfl⟩;rw[←he]at hm;obtain⟨x,O,U⟩:=zZ.1 hm;exact zQ U
 refine⟨fun c hc=>a.ok c ?_,a.cj ks M D he,fun i hi=>a.may i ?_,a.CF,a.floor⟩
 ·rcases zB.1 hc with h|h
  ·exact zB.2 (.inl (hm c h))
  ·exact zB.2 (.inr h)
 ·simp only[DU,qg]at hi⊢;obtain⟨c,hc,hi⟩:=hi;exact⟨c,hm c hc,hi⟩
theorem HH.k1(a:HH g h L F)(i0:Nat){c0:Ck}(e0:L[i0]?=some c0:=by rfl)(hd:[i0].Nodup:=by decide):HH g h [c0] F:=a.pick [i0] [c0] hd (by simp only[List.map,e0])
theorem HH.k2(a:HH g h L F)(i0 i1:Nat){c0 c1:Ck}(e0:L[i0]?=some c0:=by rfl)(e1:L[i1]?=some c1:=by rfl)(hd:[i0,i1].Nodup:=by decide):HH g h [c0,c1] F:=a.pick [i0,i1] [c0,c1] hd (by simp only[List.map,e0,e1])
theorem HH.k3(a:HH g h L F)(i0 i1 i2:Nat){c0 c1 c2:Ck}(e0:L[i0]?=some c0:=by rfl)(e1:L[i1]?=some c1:=by rfl)(e2:L[i2]?=some c2:=by rfl)(hd:[i0,i1,i2].Nodup:=by decide):HH g h [c0,c1,c2] F:=a.pick [i0,i1,i2] [c0,c1,c2] hd (by simp only[List.map,e0,e1,e2])
theorem HH.k4(a:HH g h L F)(i0 i1 i2 i3:Nat){c0 c1 c2 c3:Ck}(e0:L[i0]?=some c0:=by rfl)(e1:L[i1]?=some c1:=by rfl)(e2:L[i2]?=some c2:=by rfl)(e3:L[i3]?=some c3:=by rfl)(hd:[i0,i1,i2,i3].Nodup:=by decide):HH g h [c0,c1,c2,c3] F:=a.pick [i0,i1,i2,i3] [c0,c1,c2,c3] hd (by simp only[List.map,e0,e1,e2,e3])
theorem HH.k5(a:HH g h L F)(i0 i1 i2 i3 i4:Nat){c0 c1 c2 c3 c4:Ck}(e0:L[i0]?=some c0:=by rfl)(e1:L[i1]?=some c1:=by rfl)(e2:L[i2]?=some c2:=by rfl)(e3:L[i3]?=some c3:=by rfl)(e4:L[i4]?=some c4:=by rfl)(hd:[i0,i1,i2,i3,i4].Nodup:=by decide):HH g h [c0,c1,c2,c3,c4] F:=a.pick [i0,i1,i2,i3,i4] [c0,c1,c2,c3,c4] hd (by simp only[List.map,e0,e1,e2,e3,e4])
theorem HH.k6(a:HH g h L F)(i0 i1 i2 i3 i4 i5:Nat){c0 c1 c2 c3 c4 c5:Ck}(e0:L[i0]?=some c0:=by rfl)(e1:L[i1]?=some c1:=by rfl)(e2:L[i2]?=some c2:=by rfl)(e3:L[i3]?=some c3:=by rfl)(e4:L[i4]?=some c4:=by rfl)(e5:L[i5]?=some c5:=by rfl)(hd:[i0,i1,i2,i3,i4,i5].Nodup:=by decide):HH g h [c0,c1,c2,c3,c4,c5] F:=a.pick [i0,i1,i2,i3,i4,i5] [c0,c1,c2,c3,c4,c5] hd (by simp only[List.map,e0,e1,e2,e3,e4,e5])
theorem HH.pu(a:HH g h L F)(o:B0):∃h',h'=h.push o∧HH g h' (.obj h.size o::L) F:=⟨_,rfl,a.push o⟩
theorem HH.pL(a:HH g h L F)(e:TypeId)(cs:List AB):∃h',h'=h.push (.cells (some e) 2 cs)∧HH g h' (.Af (some h.size) e cs::L) F:=⟨_,rfl,a.cg e cs⟩
theorem HH.la(a:HH g h L F)(k o n:Nat){id:Nat}{gr:Option TypeId}{cs ds:List AB}(hk:L[k]?=some (.obj id (.cells gr 2 cs)):=by rfl)(hd:o+n≤cs.length∧(cs.drop o).take n=ds:=by exact⟨zb rfl,rfl⟩):Av.DY h (id,o) n=some ds:=a.DY k hk hd
theorem HH.l1(a:HH g h L F)(k o:Nat){id:Nat}{gr:Option TypeId}{cs:List AB}{v:AB}(hk:L[k]?=some (.obj id (.cells gr 2 cs)):=by rfl)(W:cs[o]?=some v:=by rfl):Av.ld1 h (id,o)=some v:=a.ld1 k hk W
end
section
variable {C:Gp} {f:FuncId} {g:Gd} {ops:Array Oper} {tch:List (Nat×Nat)} {fr:Fr} {h h1:AI} {K:Fr→AI→Prop} {N:Nat} {l:List (Nat×AB)} {i:Nat} {pl:List (Nat×List Nat)} {v:AB} {L F:List Ck}
theorem Has.kn(H:Has fr N l)(d:Nat){b w:Bool}(S:b=w)(hd:RT l d=some (.bool b):=by kernel_rfl):Has fr N (QL l d (.bool w)):=H.bT d S hd
theorem rH{P:Program}{rs:List ResultVar}(H:Has fr N l)(G:∀fr,Ml P rs (C1 N l fr) h=some v:=by intro _;kernel_rfl):Ml P rs fr h=some v:=dw H G
theorem rT{t:Nat}(H:Has fr N l)(G:∀fr,nth (C1 N l fr) t=v:=by intro _;kernel_rfl):nth fr t=v:=eE H G
theorem EL{args args':List AB}(n:Nat)(rs:List ResultVar){R:AB→AI→Prop}(hc:BA (C.still f) args=args')(I:AW C f g (GX C.P f) (args'++List.replicate (n - args'.length) (.tuple [])) h (fun e fr h'=>(e=.ret∨e=.normal)∧∃v,Ml C.P rs fr h'=some v∧R v h'))(hk:C.kind f=1:=by kernel_rfl)(Z:Ih C.P f=some (n,rs):=by kernel_rfl):∃v h',BI C g h f args v h'∧R v h':=bI hk hc Z I
theorem eO{args args':List AB}(n:Nat)(rs:List ResultVar){R:AB→AI→Prop}(hc:BA (C.still f) args=args')(I:AW C f g (GX C.P f) (args'++List.replicate (n - args'.length) (.tuple [])) h (fun e fr h'=>(e=.ret∨e=.normal)∧∃v,Ml C.P rs fr h'=some v∧∃v' h'',Ov g h' v=some (v',h'')∧R v' h''))(hk:C.kind f=7:=by kernel_rfl)(Z:Ih C.P f=some (n,rs):=by kernel_rfl):∃v h',BI C g h f args v h'∧R v h':=bd hk hc Z I
theorem bg{args:List AB}{c:Code}{Q:CI→Fr→AI→Prop}(n:Nat)(ins:List (Nat×AB))(I:∀fr,Has fr n ins→AW C f g c fr h Q)(J:(args++List.replicate (n - args.length) (AB.tuple [])).length=n:=by kernel_rfl)(hi:ins.map (fun p=>nth (args++List.replicate (n - args.length) (AB.tuple [])) p.1)=ins.map (·.2):=by kernel_rfl):AW C f g c (args++List.replicate (n - args.length) (.tuple [])) h Q:=start ins J hi I
theorem AS(k:Nat)(nw:List (Nat×AB))(d:Nat)(j o:Nat)(A:HH g h L F){id:Nat}{gr:Option TypeId}{cs:List AB}(H:Has fr N l)(D:∀fr' t,Has fr' N (((d,v)::List.append nw l))→AT C g ops (pl.drop (k+1)) t fr' h K)(T:L[j]?=some (.obj id (.cells gr 2 cs)):=by rfl)(W:cs[o]?=some v:=by rfl)(B:∀fr,Ns C.P (Ot C.P ops (EX (pl.take k)) (C1 N l fr)) (PC ops (G7 pl k))=some ((id,o),none):=by intro _;kernel_rfl)(hk:∀fr,(QV pl k&&(Ro (pl.take k)&&(Et ops l (EX (pl.take k))&&(Hw d l&&(Hw d nw&&Nat.blt d N)))),(Ga C.P ops (EX (pl.take k)) (C1 N l fr)).map (fun x=>(runs ops x (G7 pl k),Hj ops (G7 pl k),nw.map (fun p=>nth x p.1))))=(true,some (true,some d,nw.map (·.2))):=by intro _;kernel_rfl):AT C g ops pl tch fr h K:=Aq k nw d v h H (fun fr=>.of (I7 (B fr) (A.ld1 j T W))) D hk
theorem Oq(d:Nat)(j o:Nat)(A:HH g h L F){id:Nat}{gr:Option TypeId}{cs:List AB}(H:Has fr N l)(D:∀fr' t,Has fr' N ((d,v)::l)→AT C g ops pl t fr' h K)(T:L[j]?=some (.obj id (.cells gr 2 cs)):=by rfl)(W:cs[o]?=some v:=by rfl)(B:∀fr,Ns C.P (C1 N l fr) (PC ops i)=some ((id,o),none):=by intro _;kernel_rfl)(hw:∀fr,(runs ops (C1 N l fr) i,Hj ops i,Nat.blt d N,Hw d l)=(true,some d,true,true):=by intro _;kernel_rfl):AT C g ops ((i,[])::pl) tch fr h K:=Aa d v h H (fun fr=>.of (I7 (B fr) (A.ld1 j T W))) D hw
theorem Ft(k:Nat)(nw:List (Nat×AB)){f':FuncId}{args:List AB}(G:BI C g h f' args v h1)(H:Has fr N l)(D:∀fr' t,Has fr' N ((List.append nw l))→AT C g ops (pl.drop (k+1)) t fr' h1 K)(B:∀fr,Nz (Ot C.P ops (EX (pl.take k)) (C1 N l fr)) (PC ops (G7 pl k))=some (f',args):=by intro _;kernel_rfl)(hk:∀fr,(QV pl k&&(Ro (pl.take k)&&(Et ops l (EX (pl.take k))&&(Is ops (G7 pl k) l&&Is ops (G7 pl k) nw))),(Ga C.P ops (EX (pl.take k)) (C1 N l fr)).map (fun x=>(runs ops x (G7 pl k),nw.map (fun p=>nth x p.1))))=(true,some (true,nw.map (·.2))):=by intro _;kernel_rfl):AT C g ops pl tch fr h K:=Xt k nw _ h1 H (fun fr=>Steps.call (B fr) G) D hk
theorem Az(k:Nat)(nw:List (Nat×AB))(d:Nat){f':FuncId}{args:List AB}(G:BI C g h f' args v h1)(H:Has fr N l)(D:∀fr' t,Has fr' N (((d,v)::List.append nw l))→AT C g ops (pl.drop (k+1)) t fr' h1 K)(B:∀fr,Nz (Ot C.P ops (EX (pl.take k)) (C1 N l fr)) (PC ops (G7 pl k))=some (f',args):=by intro _;kernel_rfl)(hk:∀fr,(QV pl k&&(Ro (pl.take k)&&(Et ops l (EX (pl.take k))&&(Hw d l&&(Hw d nw&&Nat.blt d N)))),(Ga C.P ops (EX (pl.take k)) (C1 N l fr)).map (fun x=>(runs ops x (G7 pl k),Hj ops (G7 pl k),nw.map (fun p=>nth x p.1))))=(true,some (true,some d,nw.map (·.2))):=by intro _;kernel_rfl):AT C g ops pl tch fr h K:=Aq k nw d v h1 H (fun fr=>Steps.call (B fr) G) D hk
theorem A5(d:Nat){f':FuncId}{args:List AB}(G:BI C g h f' args v h1)(H:Has fr N l)(D:∀fr' t,Has fr' N ((d,v)::l)→AT C g ops pl t fr' h1 K)(B:∀fr,Nz (C1 N l fr) (PC ops i)=some (f',args):=by intro _;kernel_rfl)(hw:∀fr,(runs ops (C1 N l fr) i,Hj ops i,Nat.blt d N,Hw d l)=(true,some d,true,true):=by intro _;kernel_rfl):AT C g ops ((i,[])::pl) tch fr h K:=Aa d v h1 H (fun fr=>Steps.call (B fr) G) D hw
theorem IS(k:Nat)(nw:List (Nat×AB))(d:Nat)(v:AB){ob:B0}(e:h1=h.push ob)(H:Has fr N l)(D:∀fr' t,Has fr' N (((d,v)::List.append nw l))→AT C g ops (pl.drop (k+1)) t fr' h1 K)(B:∀fr,cz C.P (Ot C.P ops (EX (pl.take k)) (C1 N l fr)) (PC ops (G7 pl k)) h.size=some (v,ob):=by intro _;kernel_rfl)(hk:∀fr,(QV pl k&&(Ro (pl.take k)&&(Et ops l (EX (pl.take k))&&(Hw d l&&(Hw d nw&&Nat.blt d N)))),(Ga C.P ops (EX (pl.take k)) (C1 N l fr)).map (fun x=>(runs ops x (G7 pl k),Hj ops (G7 pl k),nw.map (fun p=>nth x p.1))))=(true,some (true,some d,nw.map (·.2))):=by intro _;kernel_rfl):AT C g ops pl tch fr h K:=Aq k nw d v h1 H (fun fr=>.of (cJ (B fr) (congrArg some e.symm))) D hk
theorem A9(d:Nat)(v:AB){ob:B0}(e:h1=h.push ob)(H:Has fr N l)(D:∀fr' t,Has fr' N ((d,v)::l)→AT C g ops pl t fr' h1 K)(B:∀fr,cz C.P (C1 N l fr) (PC ops i) h.size=some (v,ob):=by intro _;kernel_rfl)(hw:∀fr,(runs ops (C1 N l fr) i,Hj ops i,Nat.blt d N,Hw d l)=(true,some d,true,true):=by intro _;kernel_rfl):AT C g ops ((i,[])::pl) tch fr h K:=Aa d v h1 H (fun fr=>.of (cJ (B fr) (congrArg some e.symm))) D hw
theorem Bc(k:Nat)(nw:List (Nat×AB)){a:Nat×Nat}{v:AB}(O:Av.st g h a [v]=some h1)(H:Has fr N l)(D:∀fr' t,Has fr' N ((List.append nw l))→AT C g ops (pl.drop (k+1)) t fr' h1 K)(hc:v.cells?=some [v]:=by rfl)(B:∀fr,Jj C.P (Ot C.P ops (EX (pl.take k)) (C1 N l fr)) (PC ops (G7 pl k))=some (a,1,v):=by intro _;kernel_rfl)(hk:∀fr,(QV pl k&&(Ro (pl.take k)&&(Et ops l (EX (pl.take k))&&(Is ops (G7 pl k) l&&Is ops (G7 pl k) nw))),(Ga C.P ops (EX (pl.take k)) (C1 N l fr)).map (fun x=>(runs ops x (G7 pl k),nw.map (fun p=>nth x p.1))))=(true,some (true,nw.map (·.2))):=by intro _;kernel_rfl):AT C g ops pl tch fr h K:=Xt k nw _ h1 H (fun fr=>.of (dA (B fr) hc O)) D hk
theorem Ls{a:Nat×Nat}{v:AB}(O:Av.st g h a [v]=some h1)(H:Has fr N l)(D:∀fr' t,Has fr' N l→AT C g ops pl t fr' h1 K)(hc:v.cells?=some [v]:=by rfl)(B:∀fr,Jj C.P (C1 N l fr) (PC ops i)=some (a,1,v):=by intro _;kernel_rfl)(hw:∀fr,(runs ops (C1 N l fr) i,Is ops i l)=(true,true):=by intro _;kernel_rfl):AT C g ops ((i,[])::pl) tch fr h K:=IE _ h1 H (fun fr=>.of (dA (B fr) hc O)) D hw
theorem FG(k:Nat)(nw:List (Nat×AB)){a:Nat×Nat}{n:Nat}{cs:List AB}(O:Av.st g h a cs=some h1)(H:Has fr N l)(D:∀fr' t,Has fr' N ((List.append nw l))→AT C g ops (pl.drop (k+1)) t fr' h1 K)(J:cs.length=n:=by rfl)(B:∀fr,Jj C.P (Ot C.P ops (EX (pl.take k)) (C1 N l fr)) (PC ops (G7 pl k))=some (a,n,.agg cs):=by intro _;kernel_rfl)(hk:∀fr,(QV pl k&&(Ro (pl.take k)&&(Et ops l (EX (pl.take k))&&(Is ops (G7 pl k) l&&Is ops (G7 pl k) nw))),(Ga C.P ops (EX (pl.take k)) (C1 N l fr)).map (fun x=>(runs ops x (G7 pl k),nw.map (fun p=>nth x p.1))))=(true,some (true,nw.map (·.2))):=by intro _;kernel_rfl):AT C g ops pl tch fr h K:=Xt k nw _ h1 H (fun fr=>.of (Ts (B fr) (Pm O J))) D hk
theorem Ca{a:Nat×Nat}{n:Nat}{cs:List AB}(O:Av.st g h a cs=some h1)(H:Has fr N l)(D:∀fr' t,Has fr' N l→AT C g ops pl t fr' h1 K)(J:cs.length=n:=by rfl)(B:∀fr,Jj C.P (C1 N l fr) (PC ops i)=some (a,n,.agg cs):=by intro _;kernel_rfl)(hw:∀fr,(runs ops (C1 N l fr) i,Is ops i l)=(true,true):=by intro _;kernel_rfl):AT C g ops ((i,[])::pl) tch fr h K:=IE _ h1 H (fun fr=>.of (Ts (B fr) (Pm O J))) D hw
end
section
variable {C:Gp} {f:FuncId} {g:Gd} {ops:Array Oper} {tch:List (Nat×Nat)} {fr:Fr} {h:AI} {N:Nat} {l out:List (Nat×AB)} {c c':Code} {Q Q':CI→Fr→AI→Prop}
theorem BY(X:AW C f g c' fr h Q'→Q .normal fr h)(I:AW C f g c' fr h Q')(E:shape c=.skip:=by kernel_rfl):AW C f g c fr h Q:=PK E (X I)
theorem FC(n:Nat)(X:AW C f g c' fr h Q'→Q .normal fr h)(I:AT C g (opsOf c') (GF 0 n) [] fr h (fun fr' h'=>Q' .normal fr' h'))(E:shape c=.skip:=by kernel_rfl)(G:LU c' n=true:=by kernel_rfl):AW C f g c fr h Q:=PK E (X (BH n I G))
theorem BZ(n:Nat)(X:AW C f g c' fr h Q'→Q .normal fr h)(I:AT C g (opsOf (left c')) (GF 0 n) [] fr h (fun fr' h'=>Nd (fun fr h=>AW C f g (right c') fr h Q') Q' .normal fr' h'))(E:shape c=.skip:=by kernel_rfl)(hq:shape c'=.seq:=by kernel_rfl)(G:LU (left c') n=true:=by kernel_rfl):AW C f g c fr h Q:=PK E (X (Ur hq (BH n I G)))
theorem AV{b w:Bool}(H:Has fr N l)(S:b=w)(O:b=w→∀fr,out.map (fun p=>nth (C1 N l fr) p.1)=out.map (·.2):=by intro S _;first|rfl|(rw[S];rfl)):AT C g ops [] tch fr h (fun fr' h'=>h=h'∧Has fr' N out):=at_nil ⟨rfl,H.less _ (O S)⟩
end
theorem nx{σ ρ:Type}{a:σ}{o:σ⊕ρ}{P:σ→Prop}(hm:some (.inl a)=some o)(h:P a):∃s',o=.inl s'∧P s':=⟨a,(zJ hm).symm,h⟩
theorem nr{σ ρ:Type}{a:ρ}{o:σ⊕ρ}{P:ρ→Prop}(hm:some (.inr a)=some o)(h:P a):∃s',o=.inr s'∧P s':=⟨a,(zJ hm).symm,h⟩
abbrev Ai(x:Int):AB:=.int .i64 x
abbrev Au(x:Int):AB:=.int .u64 x
abbrev Ab(x:Int):AB:=.int .u8 x
section
variable {C:Gp} {f:FuncId} {g:Gd} {ops:Array Oper} {tch:List (Nat×Nat)} {fr:Fr} {h:AI} {N:Nat} {l:List (Nat×AB)} {pl:List (Nat×List Nat)} {c:Code} {Q:CI→Fr→AI→Prop}
theorem AM(k:Nat)(nw:List (Nat×AB))(H:Has fr N l)(I:∀fr',Has fr' N (List.append nw l)→AW C f g c fr' h Q)
  (hk:∀fr,(Ro pl,Nat.beq pl.length k,Et ops l (EX pl),(Ga C.P ops (EX pl) (C1 N l fr)).map (fun x=>nw.map (fun p=>nth x p.1)))=(true,true,true,some (nw.map (·.2))):=by intro _;kernel_rfl):AT C g ops pl tch fr h (fun fr h=>AW C f g c fr h Q):=ZJ k nw H (fun _=>id) I hk
theorem aH(k:Nat)(nw:List (Nat×AB))(n:Nat)(H:Has fr N l)(I:∀fr',Has fr' N (List.append nw l)→AT C g (opsOf c) (GF 0 n) [] fr' h (fun fr' h'=>Q .normal fr' h'))
  (hk:∀fr,(Ro pl,Nat.beq pl.length k,Et ops l (EX pl),(Ga C.P ops (EX pl) (C1 N l fr)).map (fun x=>nw.map (fun p=>nth x p.1)))=(true,true,true,some (nw.map (·.2))):=by intro _;kernel_rfl) (G:LU c n=true:=by kernel_rfl):AT C g ops pl tch fr h (fun fr h=>AW C f g c fr h Q):=cU k nw n H (fun _=>id) I hk G
theorem Bk(k:Nat)(nw:List (Nat×AB))(n:Nat)(H:Has fr N l)(I:∀fr',Has fr' N (List.append nw l)→AT C g (opsOf (left c)) (GF 0 n) [] fr' h (fun fr' h'=>Nd (fun fr h=>AW C f g (right c) fr h Q) Q .normal fr' h'))
  (hk:∀fr,(Ro pl,Nat.beq pl.length k,Et ops l (EX pl),(Ga C.P ops (EX pl) (C1 N l fr)).map (fun x=>nw.map (fun p=>nth x p.1)))=(true,true,true,some (nw.map (·.2))):=by intro _;kernel_rfl) (E:shape c=.seq:=by kernel_rfl) (G:LU (left c) n=true:=by kernel_rfl):AT C g ops pl tch fr h (fun fr h=>AW C f g c fr h Q):=cx k nw n H (fun _=>id) I hk E G
end
end Go.Av
end
/-
 A part.
-/
section
namespace Go.Av
set_option linter.unusedVariables false
set_option linter.unusedSimpArgs false
inductive Og(s:List UInt8):List (AB×AB)→Option AB→Prop
 |nil:Og s [] none
 |hit {k:List UInt8} {v:AB} {es:List (AB×AB)}:(s==k)=true→Og s ((.str k,v)::es) (some v)
 |FU {k:List UInt8} {v:AB} {es:List (AB×AB)} {r:Option AB}:(s==k)=false→Og s es r→Og s ((.str k,v)::es) r
section
variable {P:Program} {t kt et:TypeId} {g:Gd} {h:AI} {L F:List Ck}
theorem Og.Dd{s:List UInt8}(E:P.underlying kt=some .string):∀{es:List (AB×AB)} {r:Option AB} (f:Og s es r) (i:Nat),(r=none∧Av.Dd P kt (.str s) es i=some none)∨∃v j,r=some v∧Av.Dd P kt (.str s) es i=some (some (j,v))
 |_,_,.nil,i=>.inl ⟨rfl,rfl⟩
 | _,_,.hit (k:=k) (v:=v) (es:=es) S,i=>by
  refine .inr ⟨v,i,rfl,?_⟩;unfold Av.Dd;have e:HT P 10000 kt (.str s) (.str k)=some true:=by
   show HT P (9999+1) kt _ _=_;unfold HT;rw[E];simp only[S]
  rw[e]
 | _,_,.FU (k:=k) (v:=v) (es:=es) S f,i=>by
  have e:HT P 10000 kt (.str s) (.str k)=some false:=by
   show HT P (9999+1) kt _ _=_;unfold HT;rw[E];simp only[S]
  unfold Av.Dd;rw[e];exact f.Dd E (i+1)
theorem RP(E:P.underlying kt=some .string)(s:List UInt8):Fp P 20 kt (.str s)=true:=by
 unfold Fp;rw[E]
theorem HH.Lw(a:HH g h L F)(n:Nat){id st:Nat}{es:List (AB×AB)}(hk:L[n]?=some (.obj id (.map st es)))(hu:P.underlying t=some (.map kt et))(E:P.underlying kt=some .string){s:List UInt8}{v:AB}(f:Og s es (some v))(V:st≠0:=by decide):
  ab P h t (some id) (.str s)=some (v,true):=by
 have Y:=a.get n hk;unfold ab;rw[hu];simp only[RP E,if_true,ck,Y];rw[zm V];dsimp only;rcases f.Dd E 0 with⟨h1,_⟩|⟨w,j,h1,h2⟩
 ·cases h1
 ·cases h1;rw[h2]
theorem HH.Z9(a:HH g h L F)(n:Nat){id st:Nat}{es:List (AB×AB)}(hk:L[n]?=some (.obj id (.map st es)))(hu:P.underlying t=some (.map kt et))(E:P.underlying kt=some .string){z:AB}(hz:JE P et=some z){s:List UInt8}(f:Og s es none)(V:st≠0:=by decide):
  ab P h t (some id) (.str s)=some (z,false):=by
 have Y:=a.get n hk;unfold ab;rw[hu];simp only[RP E,if_true,ck,Y];rw[zm V];dsimp only;rcases f.Dd E 0 with⟨_,h2⟩|⟨w,j,h1,h2⟩
 ·rw[h2];simp[hz]
 ·cases h1
end
end Go.Av
end
