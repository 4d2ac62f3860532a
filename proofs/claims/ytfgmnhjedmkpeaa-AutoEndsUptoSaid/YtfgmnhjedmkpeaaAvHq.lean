/-
 A part.
-/
import Derived.Test.YtfgmnhjedmkpeaaAvCo
set_option linter.unusedSimpArgs false
namespace Go.Av
set_option linter.unusedVariables false
set_option linter.unusedSimpArgs false
section
variable {g:Gd} {h h':AB} {L F:List Ck}
theorem HH.SF(a:HH g h L F)(b:HH g h' [] (List.append L F)):HH g h' L F:=a.JN (n:=0) b
theorem HH.ab{pr:List Nat}(a:HH g h L F)(b:HH ⟨g.floor,List.append pr g.B4⟩ h' [] (List.append L F)):HH g h' L F:=a.RI (n:=0) b
theorem HH.aD{c0':Ck}(a:HH g h L F)(b:HH g h' [c0'] (List.append L F)):HH g h' (c0'::L) F:=a.JN (n:=0) b
theorem HH.aY{c0':Ck}{pr:List Nat}(a:HH g h L F)(b:HH ⟨g.floor,List.append pr g.B4⟩ h' [c0'] (List.append L F)):HH g h' (c0'::L) F:=a.RI (n:=0) b
theorem HH.g11{c0 c0':Ck}(a:HH g h (c0::L) F)(b:HH g h' [c0'] (List.append L F)):HH g h' (c0'::L) F:=a.JN (n:=1) b
theorem HH.aZ{c0 c0':Ck}{pr:List Nat}(a:HH g h (c0::L) F)(b:HH ⟨g.floor,List.append pr g.B4⟩ h' [c0'] (List.append L F)):HH g h' (c0'::L) F:=a.RI (n:=1) b
theorem HH.g12{c0 c0' c1':Ck}(a:HH g h (c0::L) F)(b:HH g h' [c0',c1'] (List.append L F)):HH g h' (c0'::c1'::L) F:=a.JN (n:=1) b
theorem HH.g22{c0 c1 c0' c1':Ck}(a:HH g h (c0::c1::L) F)(b:HH g h' [c0',c1'] (List.append L F)):HH g h' (c0'::c1'::L) F:=a.JN (n:=2) b
theorem HH.Rh{c0 c1 c2 c0' c1' c2':Ck}(a:HH g h (c0::c1::c2::L) F)(b:HH g h' [c0',c1',c2'] (List.append L F)):HH g h' (c0'::c1'::c2'::L) F:=a.JN (n:=3) b
theorem HH.aN{c0 c1 c2 c0' c1' c2':Ck}{pr:List Nat}(a:HH g h (c0::c1::c2::L) F)(b:HH ⟨g.floor,List.append pr g.B4⟩ h' [c0',c1',c2'] (List.append L F)):HH g h' (c0'::c1'::c2'::L) F:=a.RI (n:=3) b
theorem HH.aQ{c0 c1 c2 c3 c0' c1' c2' c3':Ck}(a:HH g h (c0::c1::c2::c3::L) F)(b:HH g h' [c0',c1',c2',c3'] (List.append L F)):HH g h' (c0'::c1'::c2'::c3'::L) F:=a.JN (n:=4) b
theorem HH.d0(a:HH g h L F):HH g h [] F:=a.RF 0
theorem HH.d1{c0:Ck}(a:HH g h (c0::L) F):HH g h [c0] F:=a.RF 1
theorem HH.d2{c0 c1:Ck}(a:HH g h (c0::c1::L) F):HH g h [c0,c1] F:=a.RF 2
theorem HH.d3{c0 c1 c2:Ck}(a:HH g h (c0::c1::c2::L) F):HH g h [c0,c1,c2] F:=a.RF 3
theorem HH.s0{id:Nat}{gr:Option TypeId}{cs:List AA}(a:HH g h (.obj id (.cells gr 2 cs)::L) F)(o:Nat)(new ds:List AA)(D:CN cs o new=ds:=by rfl)(S:o+new.length<=cs.length:=by exact zj rfl)(h1:new.all AA.one=true:=by rfl):∃h',Av.st g h (id,o) new=some h'/\HH g h' (.obj id (.cells gr 2 ds)::L) F:=a.st 0 rfl S h1 D
theorem HH.s1{c0:Ck}{id:Nat}{gr:Option TypeId}{cs:List AA}(a:HH g h (c0::.obj id (.cells gr 2 cs)::L) F)(o:Nat)(new ds:List AA)(D:CN cs o new=ds:=by rfl)(S:o+new.length<=cs.length:=by exact zj rfl)(h1:new.all AA.one=true:=by rfl):∃h',Av.st g h (id,o) new=some h'/\HH g h' (c0::.obj id (.cells gr 2 ds)::L) F:=a.st 1 rfl S h1 D
theorem HH.s2{c0 c1:Ck}{id:Nat}{gr:Option TypeId}{cs:List AA}(a:HH g h (c0::c1::.obj id (.cells gr 2 cs)::L) F)(o:Nat)(new ds:List AA)(D:CN cs o new=ds:=by rfl)(S:o+new.length<=cs.length:=by exact zj rfl)(h1:new.all AA.one=true:=by rfl):∃h',Av.st g h (id,o) new=some h'/\HH g h' (c0::c1::.obj id (.cells gr 2 ds)::L) F:=a.st 2 rfl S h1 D
theorem HH.YO(a:HH g h L F):∀(ks:List Nat) (M:List Ck),ks.Nodup->ks.map (λk=>L[k]?)=M.map some->(DZ (M++F)).Nodup:=by
 intro ks
 induction ks with
 | nil=>
  intro M _ he;cases M with
  |nil=>
   have:=a.nd;rw[Cv]at this;exact(yd.1 this).2.1
  |cons c M=>simp at he
 | cons k ks ih=>
  intro M E he;cases M with
  |nil=>simp at he
  | cons c M=>
   simp only[yu,List.cons.injEq]at he;have D:=(a.front k he.1).nd;have e:DZ (c::L.eraseIdx k++F)=c.ids++DZ (L.eraseIdx k++F):=by simp[DZ]
   have e2:DZ (c::M++F)=c.ids++DZ (M++F):=by simp[DZ]
   rw[e]at D;rw[e2];refine yd.2 ⟨(yd.1 D).1,ih M (yV.1 E).2 he.2,λi U j T=>?_⟩;refine(yd.1 D).2.2 i U j ?_;simp only[DZ,yb]at T⊢;obtain⟨d,D,T⟩:=T;refine⟨d,?_,T⟩;rcases zm.1 D with D|D
   ·refine zm.2 (.inl ?_);have hm:some d∈M.map some:=zN.2 ⟨d,D,rfl⟩;rw[<-he.2]at hm;obtain⟨x,O,V⟩:=zN.1 hm;exact List.mem_eraseIdx_iff_getElem?.2 ⟨x,λe=>(yV.1 E).1 (e ▸ O),V⟩
   ·exact zm.2 (.inr D)
theorem HH.pick(a:HH g h L F)(ks:List Nat)(M:List Ck)(E:ks.Nodup)(he:ks.map (λk=>L[k]?)=M.map some):HH g h M F:=by
 have hm:∀c∈M,c∈L:=λc hc=>by
  have hm:some c∈M.map some:=zN.2 ⟨c,hc,rfl⟩;rw[<-he]at hm;obtain⟨x,O,V⟩:=zN.1 hm;exact zI V
 refine⟨λc hc=>a.ok c ?_,a.YO ks M E he,λi U=>a.may i ?_,a.B4,a.floor⟩
 ·rcases zm.1 hc with h|h
  ·exact zm.2 (.inl (hm c h))
  ·exact zm.2 (.inr h)
 ·simp only[DZ,yb]at U⊢;obtain⟨c,hc,U⟩:=U;exact⟨c,hm c hc,U⟩
theorem HH.k1(a:HH g h L F)(i0:Nat){c0:Ck}(e0:L[i0]?=some c0:=by rfl)(D:[i0].Nodup:=by decide):HH g h [c0] F:=a.pick [i0] [c0] D (by simp only[List.map,e0])
theorem HH.k2(a:HH g h L F)(i0 i1:Nat){c0 c1:Ck}(e0:L[i0]?=some c0:=by rfl)(e1:L[i1]?=some c1:=by rfl)(D:[i0,i1].Nodup:=by decide):HH g h [c0,c1] F:=a.pick [i0,i1] [c0,c1] D (by simp only[List.map,e0,e1])
theorem HH.k3(a:HH g h L F)(i0 i1 i2:Nat){c0 c1 c2:Ck}(e0:L[i0]?=some c0:=by rfl)(e1:L[i1]?=some c1:=by rfl)(e2:L[i2]?=some c2:=by rfl)(D:[i0,i1,i2].Nodup:=by decide):HH g h [c0,c1,c2] F:=a.pick [i0,i1,i2] [c0,c1,c2] D (by simp only[List.map,e0,e1,e2])
theorem HH.k4(a:HH g h L F)(i0 i1 i2 i3:Nat){c0 c1 c2 c3:Ck}(e0:L[i0]?=some c0:=by rfl)(e1:L[i1]?=some c1:=by rfl)(e2:L[i2]?=some c2:=by rfl)(e3:L[i3]?=some c3:=by rfl)(D:[i0,i1,i2,i3].Nodup:=by decide):HH g h [c0,c1,c2,c3] F:=a.pick [i0,i1,i2,i3] [c0,c1,c2,c3] D (by simp only[List.map,e0,e1,e2,e3])
theorem HH.k5(a:HH g h L F)(i0 i1 i2 i3 i4:Nat){c0 c1 c2 c3 c4:Ck}(e0:L[i0]?=some c0:=by rfl)(e1:L[i1]?=some c1:=by rfl)(e2:L[i2]?=some c2:=by rfl)(e3:L[i3]?=some c3:=by rfl)(e4:L[i4]?=some c4:=by rfl)(D:[i0,i1,i2,i3,i4].Nodup:=by decide):HH g h [c0,c1,c2,c3,c4] F:=a.pick [i0,i1,i2,i3,i4] [c0,c1,c2,c3,c4] D (by simp only[List.map,e0,e1,e2,e3,e4])
theorem HH.pu(a:HH g h L F)(o:Ay):∃h',h'=h.push o/\HH g h' (.obj h.size o::L) F:=⟨_,rfl,a.push o⟩
theorem HH.pL(a:HH g h L F)(e:TypeId)(cs:List AA):∃h',h'=h.push (.cells (some e) 2 cs)/\HH g h' (.Ag (some h.size) e cs::L) F:=⟨_,rfl,a.Vj e cs⟩
theorem HH.la(a:HH g h L F)(k o n:Nat){id:Nat}{gr:Option TypeId}{cs ds:List AA}(G:L[k]?=some (.obj id (.cells gr 2 cs)):=by rfl)(D:o+n<=cs.length/\(cs.drop o).take n=ds:=by exact⟨zj rfl,rfl⟩):Av.Gp h (id,o) n=some ds:=a.Gp k G D
theorem HH.l1(a:HH g h L F)(k o:Nat){id:Nat}{gr:Option TypeId}{cs:List AA}{v:AA}(G:L[k]?=some (.obj id (.cells gr 2 cs)):=by rfl)(X:cs[o]?=some v:=by rfl):Av.Jy h (id,o)=some v:=a.Jy k G X
end
section
variable {C:Eu} {f:FuncId} {g:Gd} {ops:Array Oper} {tch:List (Nat×Nat)} {fr:Fr} {h h1:AB} {K:Fr->AB->Prop} {N:Nat} {l:List (Nat×AA)} {i:Nat} {pl:List (Nat×List Nat)} {v:AA} {L F:List Ck}
theorem Has.kn(H:Has fr N l)(d:Nat){b w:Bool}(Z:b=w)(D:KT l d=some (.bool b):=by kernel_rfl):Has fr N (Mf l d (.bool w)):=H.DR d Z D
theorem rH{P:Program}{rs:List ResultVar}(H:Has fr N l)(J:∀fr,IZ P rs (Cr N l fr) h=some v:=by intro _;kernel_rfl):IZ P rs fr h=some v:=Zc H J
theorem rT{t:Nat}(H:Has fr N l)(J:∀fr,nth (Cr N l fr) t=v:=by intro _;kernel_rfl):nth fr t=v:=Zi H J
theorem Mg{args args':List AA}(n:Nat)(rs:List ResultVar){R:AA->AB->Prop}(hc:C1 (C.still f) args=args')(I:AW C f g (A7 C.P f) (args'++List.replicate (n - args'.length) (.tuple [])) h (λe fr h'=>(e=.ret\/e=.normal)/\∃v,IZ C.P rs fr h'=some v/\R v h'))(G:C.kind f=1:=by kernel_rfl)(Y:GC C.P f=some (n,rs):=by kernel_rfl):∃v h',CW C g h f args v h'/\R v h':=Ws G hc Y I
theorem ae{args args':List AA}(n:Nat)(rs:List ResultVar){R:AA->AB->Prop}(hc:C1 (C.still f) args=args')(I:AW C f g (A7 C.P f) (args'++List.replicate (n - args'.length) (.tuple [])) h (λe fr h'=>(e=.ret\/e=.normal)/\∃v,IZ C.P rs fr h'=some v/\∃v' h'',ND g h' v=some (v',h'')/\R v' h''))(G:C.kind f=7:=by kernel_rfl)(Y:GC C.P f=some (n,rs):=by kernel_rfl):∃v h',CW C g h f args v h'/\R v h':=WZ G hc Y I
theorem ah{args args':List AA}(n:Nat)(rs:List ResultVar){R:AA->AB->Prop}(hc:C1 (C.still f) args=args')(I:AW C f g (A7 C.P f) (args'++List.replicate (n - args'.length) (.tuple [])) h (λe fr h'=>(e=.ret\/e=.normal)/\∃v,IZ C.P rs fr h'=some v/\∃v' h'',Ox g h' v=some (v',h'')/\R v' h''))(G:C.kind f=9:=by kernel_rfl)(Y:GC C.P f=some (n,rs):=by kernel_rfl):∃v h',CW C g h f args v h'/\R v h':=Vn G hc Y I
theorem bg{args:List AA}{c:Code}{Q:Br->Fr->AB->Prop}(n:Nat)(ins:List (Nat×AA))(I:∀fr,Has fr n ins->AW C f g c fr h Q)(S:(args++List.replicate (n - args.length) (AA.tuple [])).length=n:=by kernel_rfl)(U:ins.map (λp=>nth (args++List.replicate (n - args.length) (AA.tuple [])) p.1)=ins.map (·.2):=by kernel_rfl):AW C f g c (args++List.replicate (n - args.length) (.tuple [])) h Q:=start ins S U I
theorem Ak(k:Nat)(nw:List (Nat×AA))(d:Nat)(j o:Nat)(A:HH g h L F){id:Nat}{gr:Option TypeId}{cs:List AA}(H:Has fr N l)(E:∀fr' t,Has fr' N (((d,v)::List.append nw l))->AT C g ops (pl.drop (k+1)) t fr' h K)(T:L[j]?=some (.obj id (.cells gr 2 cs)):=by rfl)(X:cs[o]?=some v:=by rfl)(B:∀fr,II C.P (NG C.P ops (Dz (pl.take k)) (Cr N l fr)) (LI ops (Hf pl k))=some ((id,o),none):=by intro _;kernel_rfl)(G:∀fr,(Oc pl k&&(Nx (pl.take k)&&(Fc ops l (Dz (pl.take k))&&(Hd d l&&(Hd d nw&&Nat.blt d N)))),(E1 C.P ops (Dz (pl.take k)) (Cr N l fr)).map (λx=>(runs ops x (Hf pl k),Fi ops (Hf pl k),nw.map (λp=>nth x p.1))))=(true,some (true,some d,nw.map (·.2))):=by intro _;kernel_rfl):AT C g ops pl tch fr h K:=D3 k nw d v h H (λfr=>.of (Cf (B fr) (A.Jy j T X))) E G
theorem OI(d:Nat)(j o:Nat)(A:HH g h L F){id:Nat}{gr:Option TypeId}{cs:List AA}(H:Has fr N l)(E:∀fr' t,Has fr' N ((d,v)::l)->AT C g ops pl t fr' h K)(T:L[j]?=some (.obj id (.cells gr 2 cs)):=by rfl)(X:cs[o]?=some v:=by rfl)(B:∀fr,II C.P (Cr N l fr) (LI ops i)=some ((id,o),none):=by intro _;kernel_rfl)(hw:∀fr,(runs ops (Cr N l fr) i,Fi ops i,Nat.blt d N,Hd d l)=(true,some d,true,true):=by intro _;kernel_rfl):AT C g ops ((i,[])::pl) tch fr h K:=Bj d v h H (λfr=>.of (Cf (B fr) (A.Jy j T X))) E hw
theorem Ds(k:Nat)(nw:List (Nat×AA))(d:Nat){f':FuncId}{args:List AA}(J:CW C g h f' args v h1)(H:Has fr N l)(E:∀fr' t,Has fr' N (((d,v)::List.append nw l))->AT C g ops (pl.drop (k+1)) t fr' h1 K)(B:∀fr,Jg (NG C.P ops (Dz (pl.take k)) (Cr N l fr)) (LI ops (Hf pl k))=some (f',args):=by intro _;kernel_rfl)(G:∀fr,(Oc pl k&&(Nx (pl.take k)&&(Fc ops l (Dz (pl.take k))&&(Hd d l&&(Hd d nw&&Nat.blt d N)))),(E1 C.P ops (Dz (pl.take k)) (Cr N l fr)).map (λx=>(runs ops x (Hf pl k),Fi ops (Hf pl k),nw.map (λp=>nth x p.1))))=(true,some (true,some d,nw.map (·.2))):=by intro _;kernel_rfl):AT C g ops pl tch fr h K:=D3 k nw d v h1 H (λfr=>Steps.call (B fr) J) E G
theorem F1(d:Nat){f':FuncId}{args:List AA}(J:CW C g h f' args v h1)(H:Has fr N l)(E:∀fr' t,Has fr' N ((d,v)::l)->AT C g ops pl t fr' h1 K)(B:∀fr,Jg (Cr N l fr) (LI ops i)=some (f',args):=by intro _;kernel_rfl)(hw:∀fr,(runs ops (Cr N l fr) i,Fi ops i,Nat.blt d N,Hd d l)=(true,some d,true,true):=by intro _;kernel_rfl):AT C g ops ((i,[])::pl) tch fr h K:=Bj d v h1 H (λfr=>Steps.call (B fr) J) E hw
theorem Q9(k:Nat)(nw:List (Nat×AA))(d:Nat)(v:AA){ob:Ay}(e:h1=h.push ob)(H:Has fr N l)(E:∀fr' t,Has fr' N (((d,v)::List.append nw l))->AT C g ops (pl.drop (k+1)) t fr' h1 K)(B:∀fr,UD C.P (NG C.P ops (Dz (pl.take k)) (Cr N l fr)) (LI ops (Hf pl k)) h.size=some (v,ob):=by intro _;kernel_rfl)(G:∀fr,(Oc pl k&&(Nx (pl.take k)&&(Fc ops l (Dz (pl.take k))&&(Hd d l&&(Hd d nw&&Nat.blt d N)))),(E1 C.P ops (Dz (pl.take k)) (Cr N l fr)).map (λx=>(runs ops x (Hf pl k),Fi ops (Hf pl k),nw.map (λp=>nth x p.1))))=(true,some (true,some d,nw.map (·.2))):=by intro _;kernel_rfl):AT C g ops pl tch fr h K:=D3 k nw d v h1 H (λfr=>.of (P9 (B fr) (congrArg some e.symm))) E G
theorem DF(d:Nat)(v:AA){ob:Ay}(e:h1=h.push ob)(H:Has fr N l)(E:∀fr' t,Has fr' N ((d,v)::l)->AT C g ops pl t fr' h1 K)(B:∀fr,UD C.P (Cr N l fr) (LI ops i) h.size=some (v,ob):=by intro _;kernel_rfl)(hw:∀fr,(runs ops (Cr N l fr) i,Fi ops i,Nat.blt d N,Hd d l)=(true,some d,true,true):=by intro _;kernel_rfl):AT C g ops ((i,[])::pl) tch fr h K:=Bj d v h1 H (λfr=>.of (P9 (B fr) (congrArg some e.symm))) E hw
theorem Vh(k:Nat)(nw:List (Nat×AA)){a:Nat×Nat}{v:AA}(O:Av.st g h a [v]=some h1)(H:Has fr N l)(E:∀fr' t,Has fr' N ((List.append nw l))->AT C g ops (pl.drop (k+1)) t fr' h1 K)(hc:v.cells?=some [v]:=by rfl)(B:∀fr,GA C.P (NG C.P ops (Dz (pl.take k)) (Cr N l fr)) (LI ops (Hf pl k))=some (a,1,v):=by intro _;kernel_rfl)(G:∀fr,(Oc pl k&&(Nx (pl.take k)&&(Fc ops l (Dz (pl.take k))&&(JQ ops (Hf pl k) l&&JQ ops (Hf pl k) nw))),(E1 C.P ops (Dz (pl.take k)) (Cr N l fr)).map (λx=>(runs ops x (Hf pl k),nw.map (λp=>nth x p.1))))=(true,some (true,nw.map (·.2))):=by intro _;kernel_rfl):AT C g ops pl tch fr h K:=Vg k nw _ h1 H (λfr=>.of (LH (B fr) hc O)) E G
theorem XO{a:Nat×Nat}{v:AA}(O:Av.st g h a [v]=some h1)(H:Has fr N l)(E:∀fr' t,Has fr' N l->AT C g ops pl t fr' h1 K)(hc:v.cells?=some [v]:=by rfl)(B:∀fr,GA C.P (Cr N l fr) (LI ops i)=some (a,1,v):=by intro _;kernel_rfl)(hw:∀fr,(runs ops (Cr N l fr) i,JQ ops i l)=(true,true):=by intro _;kernel_rfl):AT C g ops ((i,[])::pl) tch fr h K:=VM _ h1 H (λfr=>.of (LH (B fr) hc O)) E hw
theorem NP(k:Nat)(nw:List (Nat×AA)){a:Nat×Nat}{n:Nat}{cs:List AA}(O:Av.st g h a cs=some h1)(H:Has fr N l)(E:∀fr' t,Has fr' N ((List.append nw l))->AT C g ops (pl.drop (k+1)) t fr' h1 K)(S:cs.length=n:=by rfl)(B:∀fr,GA C.P (NG C.P ops (Dz (pl.take k)) (Cr N l fr)) (LI ops (Hf pl k))=some (a,n,.agg cs):=by intro _;kernel_rfl)(G:∀fr,(Oc pl k&&(Nx (pl.take k)&&(Fc ops l (Dz (pl.take k))&&(JQ ops (Hf pl k) l&&JQ ops (Hf pl k) nw))),(E1 C.P ops (Dz (pl.take k)) (Cr N l fr)).map (λx=>(runs ops x (Hf pl k),nw.map (λp=>nth x p.1))))=(true,some (true,nw.map (·.2))):=by intro _;kernel_rfl):AT C g ops pl tch fr h K:=Vg k nw _ h1 H (λfr=>.of (PS (B fr) (Sm O S))) E G
theorem Km{a:Nat×Nat}{n:Nat}{cs:List AA}(O:Av.st g h a cs=some h1)(H:Has fr N l)(E:∀fr' t,Has fr' N l->AT C g ops pl t fr' h1 K)(S:cs.length=n:=by rfl)(B:∀fr,GA C.P (Cr N l fr) (LI ops i)=some (a,n,.agg cs):=by intro _;kernel_rfl)(hw:∀fr,(runs ops (Cr N l fr) i,JQ ops i l)=(true,true):=by intro _;kernel_rfl):AT C g ops ((i,[])::pl) tch fr h K:=VM _ h1 H (λfr=>.of (PS (B fr) (Sm O S))) E hw
end
section
variable {C:Eu} {f:FuncId} {g:Gd} {ops:Array Oper} {tch:List (Nat×Nat)} {fr:Fr} {h:AB} {N:Nat} {l out:List (Nat×AA)} {c c':Code} {Q Q':Br->Fr->AB->Prop}
theorem E5(hK:AW C f g c' fr h Q'->Q .normal fr h)(I:AW C f g c' fr h Q')(W:shape c=.skip:=by kernel_rfl):AW C f g c fr h Q:=Dd W (hK I)
theorem OD(n:Nat)(hK:AW C f g c' fr h Q'->Q .normal fr h)(I:AT C g (opsOf c') (Gk 0 n) [] fr h (λfr' h'=>Q' .normal fr' h'))(W:shape c=.skip:=by kernel_rfl)(J:LY c' n=true:=by kernel_rfl):AW C f g c fr h Q:=Dd W (hK (Ea n I J))
theorem JD(n:Nat)(hK:AW C f g c' fr h Q'->Q .normal fr h)(I:AT C g (opsOf (left c')) (Gk 0 n) [] fr h (λfr' h'=>KC (λfr h=>AW C f g (right c') fr h Q') Q' .normal fr' h'))(W:shape c=.skip:=by kernel_rfl)(hq:shape c'=.seq:=by kernel_rfl)(J:LY (left c') n=true:=by kernel_rfl):AW C f g c fr h Q:=Dd W (hK (An hq (Ea n I J)))
theorem BJ{b w:Bool}(H:Has fr N l)(Z:b=w)(O:b=w->∀fr,out.map (λp=>nth (Cr N l fr) p.1)=out.map (·.2):=by intro Z _;first|rfl|(rw[Z];rfl)):AT C g ops [] tch fr h (λfr' h'=>h=h'/\Has fr' N out):=Ac ⟨rfl,H.less _ (O Z)⟩
end
theorem nx{σ ρ:Type}{a:σ}{o:σ⊕ρ}{P:σ->Prop}(hm:some (.inl a)=some o)(h:P a):∃s',o=.inl s'/\P s':=⟨a,(zK hm).symm,h⟩
theorem nr{σ ρ:Type}{a:ρ}{o:σ⊕ρ}{P:ρ->Prop}(hm:some (.inr a)=some o)(h:P a):∃s',o=.inr s'/\P s':=⟨a,(zK hm).symm,h⟩
abbrev Ai(x:Int):AA:=.int .i64 x
abbrev Au(x:Int):AA:=.int .u64 x
abbrev Ab(x:Int):AA:=.int .u8 x
section
variable {C:Eu} {f:FuncId} {g:Gd} {ops:Array Oper} {tch:List (Nat×Nat)} {fr:Fr} {h:AB} {N:Nat} {l:List (Nat×AA)} {pl:List (Nat×List Nat)} {c:Code} {Q:Br->Fr->AB->Prop}
theorem Ao(k:Nat)(nw:List (Nat×AA))(H:Has fr N l)(I:∀fr',Has fr' N (List.append nw l)->AW C f g c fr' h Q)
  (G:∀fr,(Nx pl,Nat.beq pl.length k,Fc ops l (Dz pl),(E1 C.P ops (Dz pl) (Cr N l fr)).map (λx=>nw.map (λp=>nth x p.1)))=(true,true,true,some (nw.map (·.2))):=by intro _;kernel_rfl):AT C g ops pl tch fr h (λfr h=>AW C f g c fr h Q):=Vc k nw H (λ_=>id) I G
theorem G3(k:Nat)(nw:List (Nat×AA))(n:Nat)(H:Has fr N l)(I:∀fr',Has fr' N (List.append nw l)->AT C g (opsOf (left c)) (Gk 0 n) [] fr' h (λfr' h'=>KC (λfr h=>AW C f g (right c) fr h Q) Q .normal fr' h'))
  (G:∀fr,(Nx pl,Nat.beq pl.length k,Fc ops l (Dz pl),(E1 C.P ops (Dz pl) (Cr N l fr)).map (λx=>nw.map (λp=>nth x p.1)))=(true,true,true,some (nw.map (·.2))):=by intro _;kernel_rfl) (W:shape c=.seq:=by kernel_rfl) (J:LY (left c) n=true:=by kernel_rfl):AT C g ops pl tch fr h (λfr h=>AW C f g c fr h Q):=Xa k nw n H (λ_=>id) I G W J
end
end Go.Av
