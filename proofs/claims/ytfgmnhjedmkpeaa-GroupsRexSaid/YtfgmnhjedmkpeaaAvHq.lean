/-
 A part.
-/
import Derived.Test.YtfgmnhjedmkpeaaAvCo
set_option linter.unusedSimpArgs false
namespace Go.Av
set_option linter.unusedVariables false
set_option linter.unusedSimpArgs false
section
variable {g:Gd} {h h':AE} {L F:List Ck}
theorem HH.II(a:HH g h L F)(b:HH g h' [] (List.append L F)):HH g h' L F:=a.Lq (n:=0) b
theorem HH.W4{pr:List Nat}(a:HH g h L F)(b:HH ⟨g.floor,List.append pr g.Bs⟩ h' [] (List.append L F)):HH g h' L F:=a.Qj (n:=0) b
theorem HH.Xp{c0':Ck}(a:HH g h L F)(b:HH g h' [c0'] (List.append L F)):HH g h' (c0'::L) F:=a.Lq (n:=0) b
theorem HH.g11{c0 c0':Ck}(a:HH g h (c0::L) F)(b:HH g h' [c0'] (List.append L F)):HH g h' (c0'::L) F:=a.Lq (n:=1) b
theorem HH.YP{c0 c0':Ck}{pr:List Nat}(a:HH g h (c0::L) F)(b:HH ⟨g.floor,List.append pr g.Bs⟩ h' [c0'] (List.append L F)):HH g h' (c0'::L) F:=a.Qj (n:=1) b
theorem HH.g22{c0 c1 c0' c1':Ck}(a:HH g h (c0::c1::L) F)(b:HH g h' [c0',c1'] (List.append L F)):HH g h' (c0'::c1'::L) F:=a.Lq (n:=2) b
theorem HH.Ye{c0 c1 c0' c1':Ck}{pr:List Nat}(a:HH g h (c0::c1::L) F)(b:HH ⟨g.floor,List.append pr g.Bs⟩ h' [c0',c1'] (List.append L F)):HH g h' (c0'::c1'::L) F:=a.Qj (n:=2) b
theorem HH.YN{c0 c1 c2 c0' c1' c2':Ck}(a:HH g h (c0::c1::c2::L) F)(b:HH g h' [c0',c1',c2'] (List.append L F)):HH g h' (c0'::c1'::c2'::L) F:=a.Lq (n:=3) b
theorem HH.d0(a:HH g h L F):HH g h [] F:=a.Sr 0
theorem HH.d1{c0:Ck}(a:HH g h (c0::L) F):HH g h [c0] F:=a.Sr 1
theorem HH.d2{c0 c1:Ck}(a:HH g h (c0::c1::L) F):HH g h [c0,c1] F:=a.Sr 2
theorem HH.d3{c0 c1 c2:Ck}(a:HH g h (c0::c1::c2::L) F):HH g h [c0,c1,c2] F:=a.Sr 3
theorem HH.s0{id:Nat}{gr:Option TypeId}{cs:List AD}(a:HH g h (.obj id (.cells gr 2 cs)::L) F)(o:Nat)(new ds:List AD)(D:Cu cs o new=ds:=by rfl)(O:o+new.length<=cs.length:=by exact zb rfl)(h1:new.all AD.one=true:=by rfl):∃h',Av.st g h (id,o) new=some h'/\HH g h' (.obj id (.cells gr 2 ds)::L) F:=a.st 0 rfl O h1 D
theorem HH.s1{c0:Ck}{id:Nat}{gr:Option TypeId}{cs:List AD}(a:HH g h (c0::.obj id (.cells gr 2 cs)::L) F)(o:Nat)(new ds:List AD)(D:Cu cs o new=ds:=by rfl)(O:o+new.length<=cs.length:=by exact zb rfl)(h1:new.all AD.one=true:=by rfl):∃h',Av.st g h (id,o) new=some h'/\HH g h' (c0::.obj id (.cells gr 2 ds)::L) F:=a.st 1 rfl O h1 D
theorem HH.s2{c0 c1:Ck}{id:Nat}{gr:Option TypeId}{cs:List AD}(a:HH g h (c0::c1::.obj id (.cells gr 2 cs)::L) F)(o:Nat)(new ds:List AD)(D:Cu cs o new=ds:=by rfl)(O:o+new.length<=cs.length:=by exact zb rfl)(h1:new.all AD.one=true:=by rfl):∃h',Av.st g h (id,o) new=some h'/\HH g h' (c0::c1::.obj id (.cells gr 2 ds)::L) F:=a.st 2 rfl O h1 D
theorem HH.s4{c0 c1 c2 c3:Ck}{id:Nat}{gr:Option TypeId}{cs:List AD}(a:HH g h (c0::c1::c2::c3::.obj id (.cells gr 2 cs)::L) F)(o:Nat)(new ds:List AD)(D:Cu cs o new=ds:=by rfl)(O:o+new.length<=cs.length:=by exact zb rfl)(h1:new.all AD.one=true:=by rfl):∃h',Av.st g h (id,o) new=some h'/\HH g h' (c0::c1::c2::c3::.obj id (.cells gr 2 ds)::L) F:=a.st 4 rfl O h1 D
theorem HH.Xx(a:HH g h L F):∀(ks:List Nat) (M:List Ck),ks.Nodup->ks.map (λk=>L[k]?)=M.map some->(EY (M++F)).Nodup:=by
 intro ks
 induction ks with
 | nil=>
  intro M _ he;cases M with
  |nil=>
   have:=a.nd;rw[Dc]at this;exact(zZ.1 this).2.1
  |cons c M=>simp at he
 | cons k ks ih=>
  intro M E he;cases M with
  |nil=>simp at he
  | cons c M=>
   simp only[ql,List.cons.injEq]at he;have D:=(a.front k he.1).nd;have e:EY (c::L.eraseIdx k++F)=c.ids++EY (L.eraseIdx k++F):=by simp[EY]
   have e2:EY (c::M++F)=c.ids++EY (M++F):=by simp[EY]
   rw[e]at D;rw[e2];refine zZ.2 ⟨(zZ.1 D).1,ih M (qd.1 E).2 he.2,λi hi j T=>?_⟩;refine(zZ.1 D).2.2 i hi j ?_;simp only[EY,yx]at T⊢;obtain⟨d,D,T⟩:=T;refine⟨d,?_,T⟩;rcases zo.1 D with D|D
   ·refine zo.2 (.inl ?_);have hm:some d∈M.map some:=zX.2 ⟨d,D,rfl⟩;rw[<-he.2]at hm;obtain⟨x,S,U⟩:=zX.1 hm;exact List.mem_eraseIdx_iff_getElem?.2 ⟨x,λe=>(qd.1 E).1 (e ▸ S),U⟩
   ·exact zo.2 (.inr D)
theorem HH.pick(a:HH g h L F)(ks:List Nat)(M:List Ck)(E:ks.Nodup)(he:ks.map (λk=>L[k]?)=M.map some):HH g h M F:=by
 have hm:∀c∈M,c∈L:=λc hc=>by
  have hm:some c∈M.map some:=zX.2 ⟨c,hc,rfl⟩;rw[<-he]at hm;obtain⟨x,S,U⟩:=zX.1 hm;exact zQ U
 refine⟨λc hc=>a.ok c ?_,a.Xx ks M E he,λi hi=>a.may i ?_,a.Bs,a.floor⟩
 ·rcases zo.1 hc with h|h
  ·exact zo.2 (.inl (hm c h))
  ·exact zo.2 (.inr h)
 ·simp only[EY,yx]at hi⊢;obtain⟨c,hc,hi⟩:=hi;exact⟨c,hm c hc,hi⟩
theorem HH.k1(a:HH g h L F)(i0:Nat){c0:Ck}(e0:L[i0]?=some c0:=by rfl)(D:[i0].Nodup:=by decide):HH g h [c0] F:=a.pick [i0] [c0] D (by simp only[List.map,e0])
theorem HH.k2(a:HH g h L F)(i0 i1:Nat){c0 c1:Ck}(e0:L[i0]?=some c0:=by rfl)(e1:L[i1]?=some c1:=by rfl)(D:[i0,i1].Nodup:=by decide):HH g h [c0,c1] F:=a.pick [i0,i1] [c0,c1] D (by simp only[List.map,e0,e1])
theorem HH.k3(a:HH g h L F)(i0 i1 i2:Nat){c0 c1 c2:Ck}(e0:L[i0]?=some c0:=by rfl)(e1:L[i1]?=some c1:=by rfl)(e2:L[i2]?=some c2:=by rfl)(D:[i0,i1,i2].Nodup:=by decide):HH g h [c0,c1,c2] F:=a.pick [i0,i1,i2] [c0,c1,c2] D (by simp only[List.map,e0,e1,e2])
theorem HH.k4(a:HH g h L F)(i0 i1 i2 i3:Nat){c0 c1 c2 c3:Ck}(e0:L[i0]?=some c0:=by rfl)(e1:L[i1]?=some c1:=by rfl)(e2:L[i2]?=some c2:=by rfl)(e3:L[i3]?=some c3:=by rfl)(D:[i0,i1,i2,i3].Nodup:=by decide):HH g h [c0,c1,c2,c3] F:=a.pick [i0,i1,i2,i3] [c0,c1,c2,c3] D (by simp only[List.map,e0,e1,e2,e3])
theorem HH.k5(a:HH g h L F)(i0 i1 i2 i3 i4:Nat){c0 c1 c2 c3 c4:Ck}(e0:L[i0]?=some c0:=by rfl)(e1:L[i1]?=some c1:=by rfl)(e2:L[i2]?=some c2:=by rfl)(e3:L[i3]?=some c3:=by rfl)(e4:L[i4]?=some c4:=by rfl)(D:[i0,i1,i2,i3,i4].Nodup:=by decide):HH g h [c0,c1,c2,c3,c4] F:=a.pick [i0,i1,i2,i3,i4] [c0,c1,c2,c3,c4] D (by simp only[List.map,e0,e1,e2,e3,e4])
theorem HH.k6(a:HH g h L F)(i0 i1 i2 i3 i4 i5:Nat){c0 c1 c2 c3 c4 c5:Ck}(e0:L[i0]?=some c0:=by rfl)(e1:L[i1]?=some c1:=by rfl)(e2:L[i2]?=some c2:=by rfl)(e3:L[i3]?=some c3:=by rfl)(e4:L[i4]?=some c4:=by rfl)(e5:L[i5]?=some c5:=by rfl)(D:[i0,i1,i2,i3,i4,i5].Nodup:=by decide):HH g h [c0,c1,c2,c3,c4,c5] F:=a.pick [i0,i1,i2,i3,i4,i5] [c0,c1,c2,c3,c4,c5] D (by simp only[List.map,e0,e1,e2,e3,e4,e5])
theorem HH.k7(a:HH g h L F)(i0 i1 i2 i3 i4 i5 i6:Nat){c0 c1 c2 c3 c4 c5 c6:Ck}(e0:L[i0]?=some c0:=by rfl)(e1:L[i1]?=some c1:=by rfl)(e2:L[i2]?=some c2:=by rfl)(e3:L[i3]?=some c3:=by rfl)(e4:L[i4]?=some c4:=by rfl)(e5:L[i5]?=some c5:=by rfl)(e6:L[i6]?=some c6:=by rfl)(D:[i0,i1,i2,i3,i4,i5,i6].Nodup:=by decide):HH g h [c0,c1,c2,c3,c4,c5,c6] F:=a.pick [i0,i1,i2,i3,i4,i5,i6] [c0,c1,c2,c3,c4,c5,c6] D (by simp only[List.map,e0,e1,e2,e3,e4,e5,e6])
theorem HH.pu(a:HH g h L F)(o:Br):∃h',h'=h.push o/\HH g h' (.obj h.size o::L) F:=⟨_,rfl,a.push o⟩
theorem HH.pL(a:HH g h L F)(e:TypeId)(cs:List AD):∃h',h'=h.push (.cells (some e) 2 cs)/\HH g h' (.Af (some h.size) e cs::L) F:=⟨_,rfl,a.Xh e cs⟩
theorem HH.la(a:HH g h L F)(k o n:Nat){id:Nat}{gr:Option TypeId}{cs ds:List AD}(G:L[k]?=some (.obj id (.cells gr 2 cs)):=by rfl)(D:o+n<=cs.length/\(cs.drop o).take n=ds:=by exact⟨zb rfl,rfl⟩):Av.Eb h (id,o) n=some ds:=a.Eb k G D
theorem HH.l1(a:HH g h L F)(k o:Nat){id:Nat}{gr:Option TypeId}{cs:List AD}{v:AD}(G:L[k]?=some (.obj id (.cells gr 2 cs)):=by rfl)(X:cs[o]?=some v:=by rfl):Av.Ma h (id,o)=some v:=a.Ma k G X
end
section
variable {C:Gf} {f:FuncId} {g:Gd} {ops:Array Oper} {tch:List (Nat×Nat)} {fr:Fr} {h h1:AE} {K:Fr->AE->Prop} {N:Nat} {l:List (Nat×AD)} {i:Nat} {pl:List (Nat×List Nat)} {v:AD} {L F:List Ck}
theorem Has.kn(H:Has fr N l)(d:Nat){b w:Bool}(Y:b=w)(D:MR l d=some (.bool b):=by kernel_rfl):Has fr N (Oq l d (.bool w)):=H.EL d Y D
theorem rH{P:Program}{rs:List ResultVar}(H:Has fr N l)(I:∀fr,Kk P rs (Cy N l fr) h=some v:=by intro _;kernel_rfl):Kk P rs fr h=some v:=YA H I
theorem rT{t:Nat}(H:Has fr N l)(I:∀fr,nth (Cy N l fr) t=v:=by intro _;kernel_rfl):nth fr t=v:=X9 H I
theorem Hs{args args':List AD}(n:Nat)(rs:List ResultVar){R:AD->AE->Prop}(hc:CB (C.still f) args=args')(J:AW C f g (Hp C.P f) (args'++List.replicate (n - args'.length) (.tuple [])) h (λe fr h'=>(e=.ret\/e=.normal)/\∃v,Kk C.P rs fr h'=some v/\R v h'))(G:C.kind f=1:=by kernel_rfl)(hf:IF C.P f=some (n,rs):=by kernel_rfl):∃v h',Bw C g h f args v h'/\R v h':=W2 G hc hf J
theorem YX{args args':List AD}(n:Nat)(rs:List ResultVar){R:AD->AE->Prop}(hc:CB (C.still f) args=args')(J:AW C f g (Hp C.P f) (args'++List.replicate (n - args'.length) (.tuple [])) h (λe fr h'=>(e=.ret\/e=.normal)/\∃v,Kk C.P rs fr h'=some v/\∃v' h'',Pd g h' v=some (v',h'')/\R v' h''))(G:C.kind f=7:=by kernel_rfl)(hf:IF C.P f=some (n,rs):=by kernel_rfl):∃v h',Bw C g h f args v h'/\R v h':=Ww G hc hf J
theorem bg{args:List AD}{c:Code}{Q:DF->Fr->AE->Prop}(n:Nat)(ins:List (Nat×AD))(J:∀fr,Has fr n ins->AW C f g c fr h Q)(O:(args++List.replicate (n - args.length) (AD.tuple [])).length=n:=by kernel_rfl)(hi:ins.map (λp=>nth (args++List.replicate (n - args.length) (AD.tuple [])) p.1)=ins.map (·.2):=by kernel_rfl):AW C f g c (args++List.replicate (n - args.length) (.tuple [])) h Q:=start ins O hi J
theorem AV(k:Nat)(nw:List (Nat×AD))(d:Nat)(j o:Nat)(A:HH g h L F){id:Nat}{gr:Option TypeId}{cs:List AD}(H:Has fr N l)(E:∀fr' t,Has fr' N (((d,v)::List.append nw l))->AT C g ops (pl.drop (k+1)) t fr' h K)(T:L[j]?=some (.obj id (.cells gr 2 cs)):=by rfl)(X:cs[o]?=some v:=by rfl)(B:∀fr,J6 C.P (Ov C.P ops (EM (pl.take k)) (Cy N l fr)) (Mi ops (ID pl k))=some ((id,o),none):=by intro _;kernel_rfl)(G:∀fr,(Pm pl k&&(PO (pl.take k)&&(Fc ops l (EM (pl.take k))&&(JK d l&&(JK d nw&&Nat.blt d N)))),(Fk C.P ops (EM (pl.take k)) (Cy N l fr)).map (λx=>(runs ops x (ID pl k),Gw ops (ID pl k),nw.map (λp=>nth x p.1))))=(true,some (true,some d,nw.map (·.2))):=by intro _;kernel_rfl):AT C g ops pl tch fr h K:=Bk k nw d v h H (λfr=>.of (Cx (B fr) (A.Ma j T X))) E G
theorem Tf(d:Nat)(j o:Nat)(A:HH g h L F){id:Nat}{gr:Option TypeId}{cs:List AD}(H:Has fr N l)(E:∀fr' t,Has fr' N ((d,v)::l)->AT C g ops pl t fr' h K)(T:L[j]?=some (.obj id (.cells gr 2 cs)):=by rfl)(X:cs[o]?=some v:=by rfl)(B:∀fr,J6 C.P (Cy N l fr) (Mi ops i)=some ((id,o),none):=by intro _;kernel_rfl)(hw:∀fr,(runs ops (Cy N l fr) i,Gw ops i,Nat.blt d N,JK d l)=(true,some d,true,true):=by intro _;kernel_rfl):AT C g ops ((i,[])::pl) tch fr h K:=Az d v h H (λfr=>.of (Cx (B fr) (A.Ma j T X))) E hw
theorem ML(k:Nat)(nw:List (Nat×AD)){f':FuncId}{args:List AD}(I:Bw C g h f' args v h1)(H:Has fr N l)(E:∀fr' t,Has fr' N ((List.append nw l))->AT C g ops (pl.drop (k+1)) t fr' h1 K)(B:∀fr,J1 (Ov C.P ops (EM (pl.take k)) (Cy N l fr)) (Mi ops (ID pl k))=some (f',args):=by intro _;kernel_rfl)(G:∀fr,(Pm pl k&&(PO (pl.take k)&&(Fc ops l (EM (pl.take k))&&(Je ops (ID pl k) l&&Je ops (ID pl k) nw))),(Fk C.P ops (EM (pl.take k)) (Cy N l fr)).map (λx=>(runs ops x (ID pl k),nw.map (λp=>nth x p.1))))=(true,some (true,nw.map (·.2))):=by intro _;kernel_rfl):AT C g ops pl tch fr h K:=Uo k nw _ h1 H (λfr=>Steps.call (B fr) I) E G
theorem BK(k:Nat)(nw:List (Nat×AD))(d:Nat){f':FuncId}{args:List AD}(I:Bw C g h f' args v h1)(H:Has fr N l)(E:∀fr' t,Has fr' N (((d,v)::List.append nw l))->AT C g ops (pl.drop (k+1)) t fr' h1 K)(B:∀fr,J1 (Ov C.P ops (EM (pl.take k)) (Cy N l fr)) (Mi ops (ID pl k))=some (f',args):=by intro _;kernel_rfl)(G:∀fr,(Pm pl k&&(PO (pl.take k)&&(Fc ops l (EM (pl.take k))&&(JK d l&&(JK d nw&&Nat.blt d N)))),(Fk C.P ops (EM (pl.take k)) (Cy N l fr)).map (λx=>(runs ops x (ID pl k),Gw ops (ID pl k),nw.map (λp=>nth x p.1))))=(true,some (true,some d,nw.map (·.2))):=by intro _;kernel_rfl):AT C g ops pl tch fr h K:=Bk k nw d v h1 H (λfr=>Steps.call (B fr) I) E G
theorem KX{f':FuncId}{args:List AD}(I:Bw C g h f' args v h1)(H:Has fr N l)(E:∀fr' t,Has fr' N l->AT C g ops pl t fr' h1 K)(B:∀fr,J1 (Cy N l fr) (Mi ops i)=some (f',args):=by intro _;kernel_rfl)(hw:∀fr,(runs ops (Cy N l fr) i,Je ops i l)=(true,true):=by intro _;kernel_rfl):AT C g ops ((i,[])::pl) tch fr h K:=SY _ h1 H (λfr=>Steps.call (B fr) I) E hw
theorem CA(d:Nat){f':FuncId}{args:List AD}(I:Bw C g h f' args v h1)(H:Has fr N l)(E:∀fr' t,Has fr' N ((d,v)::l)->AT C g ops pl t fr' h1 K)(B:∀fr,J1 (Cy N l fr) (Mi ops i)=some (f',args):=by intro _;kernel_rfl)(hw:∀fr,(runs ops (Cy N l fr) i,Gw ops i,Nat.blt d N,JK d l)=(true,some d,true,true):=by intro _;kernel_rfl):AT C g ops ((i,[])::pl) tch fr h K:=Az d v h1 H (λfr=>Steps.call (B fr) I) E hw
theorem Mq(k:Nat)(nw:List (Nat×AD))(d:Nat)(v:AD){ob:Br}(e:h1=h.push ob)(H:Has fr N l)(E:∀fr' t,Has fr' N (((d,v)::List.append nw l))->AT C g ops (pl.drop (k+1)) t fr' h1 K)(B:∀fr,VK C.P (Ov C.P ops (EM (pl.take k)) (Cy N l fr)) (Mi ops (ID pl k)) h.size=some (v,ob):=by intro _;kernel_rfl)(G:∀fr,(Pm pl k&&(PO (pl.take k)&&(Fc ops l (EM (pl.take k))&&(JK d l&&(JK d nw&&Nat.blt d N)))),(Fk C.P ops (EM (pl.take k)) (Cy N l fr)).map (λx=>(runs ops x (ID pl k),Gw ops (ID pl k),nw.map (λp=>nth x p.1))))=(true,some (true,some d,nw.map (·.2))):=by intro _;kernel_rfl):AT C g ops pl tch fr h K:=Bk k nw d v h1 H (λfr=>.of (RB (B fr) (congrArg some e.symm))) E G
theorem Bq(d:Nat)(v:AD){ob:Br}(e:h1=h.push ob)(H:Has fr N l)(E:∀fr' t,Has fr' N ((d,v)::l)->AT C g ops pl t fr' h1 K)(B:∀fr,VK C.P (Cy N l fr) (Mi ops i) h.size=some (v,ob):=by intro _;kernel_rfl)(hw:∀fr,(runs ops (Cy N l fr) i,Gw ops i,Nat.blt d N,JK d l)=(true,some d,true,true):=by intro _;kernel_rfl):AT C g ops ((i,[])::pl) tch fr h K:=Az d v h1 H (λfr=>.of (RB (B fr) (congrArg some e.symm))) E hw
theorem FO(k:Nat)(nw:List (Nat×AD)){a:Nat×Nat}{v:AD}(S:Av.st g h a [v]=some h1)(H:Has fr N l)(E:∀fr' t,Has fr' N ((List.append nw l))->AT C g ops (pl.drop (k+1)) t fr' h1 K)(hc:v.cells?=some [v]:=by rfl)(B:∀fr,HW C.P (Ov C.P ops (EM (pl.take k)) (Cy N l fr)) (Mi ops (ID pl k))=some (a,1,v):=by intro _;kernel_rfl)(G:∀fr,(Pm pl k&&(PO (pl.take k)&&(Fc ops l (EM (pl.take k))&&(Je ops (ID pl k) l&&Je ops (ID pl k) nw))),(Fk C.P ops (EM (pl.take k)) (Cy N l fr)).map (λx=>(runs ops x (ID pl k),nw.map (λp=>nth x p.1))))=(true,some (true,nw.map (·.2))):=by intro _;kernel_rfl):AT C g ops pl tch fr h K:=Uo k nw _ h1 H (λfr=>.of (NO (B fr) hc S)) E G
theorem Ku{a:Nat×Nat}{v:AD}(S:Av.st g h a [v]=some h1)(H:Has fr N l)(E:∀fr' t,Has fr' N l->AT C g ops pl t fr' h1 K)(hc:v.cells?=some [v]:=by rfl)(B:∀fr,HW C.P (Cy N l fr) (Mi ops i)=some (a,1,v):=by intro _;kernel_rfl)(hw:∀fr,(runs ops (Cy N l fr) i,Je ops i l)=(true,true):=by intro _;kernel_rfl):AT C g ops ((i,[])::pl) tch fr h K:=SY _ h1 H (λfr=>.of (NO (B fr) hc S)) E hw
theorem JI(k:Nat)(nw:List (Nat×AD)){a:Nat×Nat}{n:Nat}{cs:List AD}(S:Av.st g h a cs=some h1)(H:Has fr N l)(E:∀fr' t,Has fr' N ((List.append nw l))->AT C g ops (pl.drop (k+1)) t fr' h1 K)(O:cs.length=n:=by rfl)(B:∀fr,HW C.P (Ov C.P ops (EM (pl.take k)) (Cy N l fr)) (Mi ops (ID pl k))=some (a,n,.agg cs):=by intro _;kernel_rfl)(G:∀fr,(Pm pl k&&(PO (pl.take k)&&(Fc ops l (EM (pl.take k))&&(Je ops (ID pl k) l&&Je ops (ID pl k) nw))),(Fk C.P ops (EM (pl.take k)) (Cy N l fr)).map (λx=>(runs ops x (ID pl k),nw.map (λp=>nth x p.1))))=(true,some (true,nw.map (·.2))):=by intro _;kernel_rfl):AT C g ops pl tch fr h K:=Uo k nw _ h1 H (λfr=>.of (Ko (B fr) (Ka S O))) E G
theorem DL{a:Nat×Nat}{n:Nat}{cs:List AD}(S:Av.st g h a cs=some h1)(H:Has fr N l)(E:∀fr' t,Has fr' N l->AT C g ops pl t fr' h1 K)(O:cs.length=n:=by rfl)(B:∀fr,HW C.P (Cy N l fr) (Mi ops i)=some (a,n,.agg cs):=by intro _;kernel_rfl)(hw:∀fr,(runs ops (Cy N l fr) i,Je ops i l)=(true,true):=by intro _;kernel_rfl):AT C g ops ((i,[])::pl) tch fr h K:=SY _ h1 H (λfr=>.of (Ko (B fr) (Ka S O))) E hw
end
section
variable {C:Gf} {f:FuncId} {g:Gd} {ops:Array Oper} {tch:List (Nat×Nat)} {fr:Fr} {h:AE} {N:Nat} {l out:List (Nat×AD)} {c c':Code} {Q Q':DF->Fr->AE->Prop}
theorem DD(Z:AW C f g c' fr h Q'->Q .normal fr h)(J:AW C f g c' fr h Q')(V:shape c=.skip:=by kernel_rfl):AW C f g c fr h Q:=Eg V (Z J)
theorem Mu(n:Nat)(Z:AW C f g c' fr h Q'->Q .normal fr h)(J:AT C g (opsOf c') (Hm 0 n) [] fr h (λfr' h'=>Q' .normal fr' h'))(V:shape c=.skip:=by kernel_rfl)(I:L8 c' n=true:=by kernel_rfl):AW C f g c fr h Q:=Eg V (Z (Cb n J I))
theorem D3(n:Nat)(Z:AW C f g c' fr h Q'->Q .normal fr h)(J:AT C g (opsOf (left c')) (Hm 0 n) [] fr h (λfr' h'=>MA (λfr h=>AW C f g (right c') fr h Q') Q' .normal fr' h'))(V:shape c=.skip:=by kernel_rfl)(hq:shape c'=.seq:=by kernel_rfl)(I:L8 (left c') n=true:=by kernel_rfl):AW C f g c fr h Q:=Eg V (Z (BM hq (Cb n J I)))
theorem BC{b w:Bool}(H:Has fr N l)(Y:b=w)(S:b=w->∀fr,out.map (λp=>nth (Cy N l fr) p.1)=out.map (·.2):=by intro Y _;first|rfl|(rw[Y];rfl)):AT C g ops [] tch fr h (λfr' h'=>h=h'/\Has fr' N out):=AY ⟨rfl,H.less _ (S Y)⟩
end
theorem nx{σ ρ:Type}{a:σ}{o:σ⊕ρ}{P:σ->Prop}(hm:some (.inl a)=some o)(h:P a):∃s',o=.inl s'/\P s':=⟨a,(zW hm).symm,h⟩
theorem nr{σ ρ:Type}{a:ρ}{o:σ⊕ρ}{P:ρ->Prop}(hm:some (.inr a)=some o)(h:P a):∃s',o=.inr s'/\P s':=⟨a,(zW hm).symm,h⟩
theorem YY{A0 A1 A2 A3 A4 A5:Type}{x0 y0:A0}{x1 y1:A1}{x2 y2:A2}{x3 y3:A3}{x4 y4:A4}{x5 y5:A5}(h:some (x0,x1,x2,x3,x4,x5)=some (y0,y1,y2,y3,y4,y5)):x0=y0/\x1=y1/\x2=y2/\x3=y3/\x4=y4/\x5=y5:=by
 obtain⟨h1,W⟩:=FJ h;exact⟨h1,YI (congrArg some W)⟩
theorem YB{A0 A1 A2 A3 A4 A5 A6:Type}{x0 y0:A0}{x1 y1:A1}{x2 y2:A2}{x3 y3:A3}{x4 y4:A4}{x5 y5:A5}{x6 y6:A6}(h:some (x0,x1,x2,x3,x4,x5,x6)=some (y0,y1,y2,y3,y4,y5,y6)):x0=y0/\x1=y1/\x2=y2/\x3=y3/\x4=y4/\x5=y5/\x6=y6:=by
 obtain⟨h1,W⟩:=FJ h;exact⟨h1,YY (congrArg some W)⟩
theorem Tc{A0 A1 A2 A3 A4 A5 A6 A7:Type}{x0 y0:A0}{x1 y1:A1}{x2 y2:A2}{x3 y3:A3}{x4 y4:A4}{x5 y5:A5}{x6 y6:A6}{x7 y7:A7}(h:some (x0,x1,x2,x3,x4,x5,x6,x7)=some (y0,y1,y2,y3,y4,y5,y6,y7)):x0=y0/\x1=y1/\x2=y2/\x3=y3/\x4=y4/\x5=y5/\x6=y6/\x7=y7:=by
 obtain⟨h1,W⟩:=FJ h;exact⟨h1,YB (congrArg some W)⟩
theorem Vl{A0 A1 A2 A3 A4 A5 A6 A7 A8:Type}{x0 y0:A0}{x1 y1:A1}{x2 y2:A2}{x3 y3:A3}{x4 y4:A4}{x5 y5:A5}{x6 y6:A6}{x7 y7:A7}{x8 y8:A8}(h:some (x0,x1,x2,x3,x4,x5,x6,x7,x8)=some (y0,y1,y2,y3,y4,y5,y6,y7,y8)):x0=y0/\x1=y1/\x2=y2/\x3=y3/\x4=y4/\x5=y5/\x6=y6/\x7=y7/\x8=y8:=by
 obtain⟨h1,W⟩:=FJ h;exact⟨h1,Tc (congrArg some W)⟩
abbrev Ai(x:Int):AD:=.int .i64 x
abbrev Au(x:Int):AD:=.int .u64 x
abbrev Ab(x:Int):AD:=.int .u8 x
section
variable {C:Gf} {f:FuncId} {g:Gd} {ops:Array Oper} {tch:List (Nat×Nat)} {fr:Fr} {h:AE} {N:Nat} {l:List (Nat×AD)} {pl:List (Nat×List Nat)} {c:Code} {Q:DF->Fr->AE->Prop}
theorem AZ(k:Nat)(nw:List (Nat×AD))(H:Has fr N l)(J:∀fr',Has fr' N (List.append nw l)->AW C f g c fr' h Q)
  (G:∀fr,(PO pl,Nat.beq pl.length k,Fc ops l (EM pl),(Fk C.P ops (EM pl) (Cy N l fr)).map (λx=>nw.map (λp=>nth x p.1)))=(true,true,true,some (nw.map (·.2))):=by intro _;kernel_rfl):AT C g ops pl tch fr h (λfr h=>AW C f g c fr h Q):=Um k nw H (λ_=>id) J G
theorem Uv(k:Nat)(nw:List (Nat×AD))(n:Nat)(H:Has fr N l)(J:∀fr',Has fr' N (List.append nw l)->AT C g (opsOf c) (Hm 0 n) [] fr' h (λfr' h'=>Q .normal fr' h'))
  (G:∀fr,(PO pl,Nat.beq pl.length k,Fc ops l (EM pl),(Fk C.P ops (EM pl) (Cy N l fr)).map (λx=>nw.map (λp=>nth x p.1)))=(true,true,true,some (nw.map (·.2))):=by intro _;kernel_rfl) (I:L8 c n=true:=by kernel_rfl):AT C g ops pl tch fr h (λfr h=>AW C f g c fr h Q):=XH k nw n H (λ_=>id) J G I
theorem Eo(k:Nat)(nw:List (Nat×AD))(n:Nat)(H:Has fr N l)(J:∀fr',Has fr' N (List.append nw l)->AT C g (opsOf (left c)) (Hm 0 n) [] fr' h (λfr' h'=>MA (λfr h=>AW C f g (right c) fr h Q) Q .normal fr' h'))
  (G:∀fr,(PO pl,Nat.beq pl.length k,Fc ops l (EM pl),(Fk C.P ops (EM pl) (Cy N l fr)).map (λx=>nw.map (λp=>nth x p.1)))=(true,true,true,some (nw.map (·.2))):=by intro _;kernel_rfl) (V:shape c=.seq:=by kernel_rfl) (I:L8 (left c) n=true:=by kernel_rfl):AT C g ops pl tch fr h (λfr h=>AW C f g c fr h Q):=XS k nw n H (λ_=>id) J G V I
end
end Go.Av
