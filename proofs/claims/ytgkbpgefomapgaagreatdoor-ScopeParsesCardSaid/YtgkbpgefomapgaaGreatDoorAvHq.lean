/-
 A part.
-/
import Derived.Test.YtgkbpgefomapgaaGreatDoorAvCo
namespace Go.Av
set_option linter.unusedVariables false
set_option linter.unusedSimpArgs false
section
variable {g:Gd} {h h':AS} {L F:List Ck}
theorem HH.FL(a:HH g h L F)(b:HH g h' [] (List.append L F)):HH g h' L F:=a.Fq (n:=0) b
theorem HH.Wi{pr:List Nat}(a:HH g h L F)(b:HH ⟨g.floor,List.append pr g.Bb⟩ h' [] (List.append L F)):HH g h' L F:=a.Q6 (n:=0) b
theorem HH.Y3{c0':Ck}(a:HH g h L F)(b:HH g h' [c0'] (List.append L F)):HH g h' (c0'::L) F:=a.Fq (n:=0) b
theorem HH.cF{c0' c1':Ck}(a:HH g h L F)(b:HH g h' [c0',c1'] (List.append L F)):HH g h' (c0'::c1'::L) F:=a.Fq (n:=0) b
theorem HH.g11{c0 c0':Ck}(a:HH g h (c0::L) F)(b:HH g h' [c0'] (List.append L F)):HH g h' (c0'::L) F:=a.Fq (n:=1) b
theorem HH.YP{c0 c0':Ck}{pr:List Nat}(a:HH g h (c0::L) F)(b:HH ⟨g.floor,List.append pr g.Bb⟩ h' [c0'] (List.append L F)):HH g h' (c0'::L) F:=a.Q6 (n:=1) b
theorem HH.g12{c0 c0' c1':Ck}(a:HH g h (c0::L) F)(b:HH g h' [c0',c1'] (List.append L F)):HH g h' (c0'::c1'::L) F:=a.Fq (n:=1) b
theorem HH.g13{c0 c0' c1' c2':Ck}(a:HH g h (c0::L) F)(b:HH g h' [c0',c1',c2'] (List.append L F)):HH g h' (c0'::c1'::c2'::L) F:=a.Fq (n:=1) b
theorem HH.g22{c0 c1 c0' c1':Ck}(a:HH g h (c0::c1::L) F)(b:HH g h' [c0',c1'] (List.append L F)):HH g h' (c0'::c1'::L) F:=a.Fq (n:=2) b
theorem HH.cB{c0 c1 c0' c1':Ck}{pr:List Nat}(a:HH g h (c0::c1::L) F)(b:HH ⟨g.floor,List.append pr g.Bb⟩ h' [c0',c1'] (List.append L F)):HH g h' (c0'::c1'::L) F:=a.Q6 (n:=2) b
theorem HH.UI{c0 c1 c2 c0' c1' c2':Ck}(a:HH g h (c0::c1::c2::L) F)(b:HH g h' [c0',c1',c2'] (List.append L F)):HH g h' (c0'::c1'::c2'::L) F:=a.Fq (n:=3) b
theorem HH.cA{c0 c1 c2 c0' c1' c2':Ck}{pr:List Nat}(a:HH g h (c0::c1::c2::L) F)(b:HH ⟨g.floor,List.append pr g.Bb⟩ h' [c0',c1',c2'] (List.append L F)):HH g h' (c0'::c1'::c2'::L) F:=a.Q6 (n:=3) b
theorem HH.b9{c0 c1 c2 c3 c0' c1' c2' c3':Ck}(a:HH g h (c0::c1::c2::c3::L) F)(b:HH g h' [c0',c1',c2',c3'] (List.append L F)):HH g h' (c0'::c1'::c2'::c3'::L) F:=a.Fq (n:=4) b
theorem HH.d0(a:HH g h L F):HH g h [] F:=a.Ru 0
theorem HH.d1{c0:Ck}(a:HH g h (c0::L) F):HH g h [c0] F:=a.Ru 1
theorem HH.d2{c0 c1:Ck}(a:HH g h (c0::c1::L) F):HH g h [c0,c1] F:=a.Ru 2
theorem HH.d3{c0 c1 c2:Ck}(a:HH g h (c0::c1::c2::L) F):HH g h [c0,c1,c2] F:=a.Ru 3
theorem HH.s0{id:Nat}{gr:Option TypeId}{cs:List AE}(a:HH g h (.obj id (.cells gr 2 cs)::L) F)(o:Nat)(new ds:List AE)(hd:Fz cs o new=ds:=by rfl)(J:o+new.length<=cs.length:=by exact zb rfl)(h1:new.all AE.one=true:=by rfl):∃h',Av.st g h (id,o) new=some h'/\HH g h' (.obj id (.cells gr 2 ds)::L) F:=a.st 0 rfl J h1 hd
theorem HH.s1{c0:Ck}{id:Nat}{gr:Option TypeId}{cs:List AE}(a:HH g h (c0::.obj id (.cells gr 2 cs)::L) F)(o:Nat)(new ds:List AE)(hd:Fz cs o new=ds:=by rfl)(J:o+new.length<=cs.length:=by exact zb rfl)(h1:new.all AE.one=true:=by rfl):∃h',Av.st g h (id,o) new=some h'/\HH g h' (c0::.obj id (.cells gr 2 ds)::L) F:=a.st 1 rfl J h1 hd
theorem HH.s2{c0 c1:Ck}{id:Nat}{gr:Option TypeId}{cs:List AE}(a:HH g h (c0::c1::.obj id (.cells gr 2 cs)::L) F)(o:Nat)(new ds:List AE)(hd:Fz cs o new=ds:=by rfl)(J:o+new.length<=cs.length:=by exact zb rfl)(h1:new.all AE.one=true:=by rfl):∃h',Av.st g h (id,o) new=some h'/\HH g h' (c0::c1::.obj id (.cells gr 2 ds)::L) F:=a.st 2 rfl J h1 hd
theorem HH.s3{c0 c1 c2:Ck}{id:Nat}{gr:Option TypeId}{cs:List AE}(a:HH g h (c0::c1::c2::.obj id (.cells gr 2 cs)::L) F)(o:Nat)(new ds:List AE)(hd:Fz cs o new=ds:=by rfl)(J:o+new.length<=cs.length:=by exact zb rfl)(h1:new.all AE.one=true:=by rfl):∃h',Av.st g h (id,o) new=some h'/\HH g h' (c0::c1::c2::.obj id (.cells gr 2 ds)::L) F:=a.st 3 rfl J h1 hd
theorem HH.s4{c0 c1 c2 c3:Ck}{id:Nat}{gr:Option TypeId}{cs:List AE}(a:HH g h (c0::c1::c2::c3::.obj id (.cells gr 2 cs)::L) F)(o:Nat)(new ds:List AE)(hd:Fz cs o new=ds:=by rfl)(J:o+new.length<=cs.length:=by exact zb rfl)(h1:new.all AE.one=true:=by rfl):∃h',Av.st g h (id,o) new=some h'/\HH g h' (c0::c1::c2::c3::.obj id (.cells gr 2 ds)::L) F:=a.st 4 rfl J h1 hd
theorem HH.s5{c0 c1 c2 c3 c4:Ck}{id:Nat}{gr:Option TypeId}{cs:List AE}(a:HH g h (c0::c1::c2::c3::c4::.obj id (.cells gr 2 cs)::L) F)(o:Nat)(new ds:List AE)(hd:Fz cs o new=ds:=by rfl)(J:o+new.length<=cs.length:=by exact zb rfl)(h1:new.all AE.one=true:=by rfl):∃h',Av.st g h (id,o) new=some h'/\HH g h' (c0::c1::c2::c3::c4::.obj id (.cells gr 2 ds)::L) F:=a.st 5 rfl J h1 hd
theorem HH.ar(a:HH g h L F):∀(ks:List Nat) (M:List Ck),ks.Nodup->ks.map (λk=>L[k]?)=M.map some->(Et (M++F)).Nodup:=by
 intro ks
 induction ks with
 | nil=>
  intro M _ he;cases M with
  |nil=>
   have:=a.nd;rw[EA]at this;exact(z8.1 this).2.1
  |cons c M=>simp at he
 | cons k ks ih=>
  intro M D he;cases M with
  |nil=>simp at he
  | cons c M=>
   simp only[yE,qI]at he;have hd:=(a.front k he.1).nd;have e:Et (c::L.eraseIdx k++F)=c.ids++Et (L.eraseIdx k++F):=by simp[Et]
   have e2:Et (c::M++F)=c.ids++Et (M++F):=by simp[Et]
   rw[e]at hd;rw[e2];refine z8.2 ⟨(z8.1 hd).1,ih M (yG.1 D).2 he.2,λi hi j S=>?_⟩;refine(z8.1 hd).2.2 i hi j ?_;simp only[Et,ym]at S⊢;obtain⟨d,hd,S⟩:=S;refine⟨d,?_,S⟩;rcases zp.1 hd with hd|hd
   ·refine zp.2 (.inl ?_);have hm:some d∈M.map some:=z7.2 ⟨d,hd,rfl⟩;rw[<-he.2]at hm;obtain⟨x,O,T⟩:=z7.1 hm;exact List.mem_eraseIdx_iff_getElem?.2 ⟨x,λe=>(yG.1 D).1 (e ▸ O),T⟩
   ·exact zp.2 (.inr hd)
theorem HH.pick(a:HH g h L F)(ks:List Nat)(M:List Ck)(D:ks.Nodup)(he:ks.map (λk=>L[k]?)=M.map some):HH g h M F:=by
 have hm:∀c∈M,c∈L:=λc hc=>by
  have hm:some c∈M.map some:=z7.2 ⟨c,hc,rfl⟩;rw[<-he]at hm;obtain⟨x,O,T⟩:=z7.1 hm;exact zI T
 refine⟨λc hc=>a.ok c ?_,a.ar ks M D he,λi hi=>a.may i ?_,a.Bb,a.floor⟩
 ·rcases zp.1 hc with h|h
  ·exact zp.2 (.inl (hm c h))
  ·exact zp.2 (.inr h)
 ·simp only[Et,ym]at hi⊢;obtain⟨c,hc,hi⟩:=hi;exact⟨c,hm c hc,hi⟩
theorem HH.k1(a:HH g h L F)(i0:Nat){c0:Ck}(e0:L[i0]?=some c0:=by rfl)(hd:[i0].Nodup:=by decide):HH g h [c0] F:=a.pick [i0] [c0] hd (by simp only[List.map,e0])
theorem HH.k2(a:HH g h L F)(i0 i1:Nat){c0 c1:Ck}(e0:L[i0]?=some c0:=by rfl)(e1:L[i1]?=some c1:=by rfl)(hd:[i0,i1].Nodup:=by decide):HH g h [c0,c1] F:=a.pick [i0,i1] [c0,c1] hd (by simp only[List.map,e0,e1])
theorem HH.k3(a:HH g h L F)(i0 i1 i2:Nat){c0 c1 c2:Ck}(e0:L[i0]?=some c0:=by rfl)(e1:L[i1]?=some c1:=by rfl)(e2:L[i2]?=some c2:=by rfl)(hd:[i0,i1,i2].Nodup:=by decide):HH g h [c0,c1,c2] F:=a.pick [i0,i1,i2] [c0,c1,c2] hd (by simp only[List.map,e0,e1,e2])
theorem HH.k4(a:HH g h L F)(i0 i1 i2 i3:Nat){c0 c1 c2 c3:Ck}(e0:L[i0]?=some c0:=by rfl)(e1:L[i1]?=some c1:=by rfl)(e2:L[i2]?=some c2:=by rfl)(e3:L[i3]?=some c3:=by rfl)(hd:[i0,i1,i2,i3].Nodup:=by decide):HH g h [c0,c1,c2,c3] F:=a.pick [i0,i1,i2,i3] [c0,c1,c2,c3] hd (by simp only[List.map,e0,e1,e2,e3])
theorem HH.k5(a:HH g h L F)(i0 i1 i2 i3 i4:Nat){c0 c1 c2 c3 c4:Ck}(e0:L[i0]?=some c0:=by rfl)(e1:L[i1]?=some c1:=by rfl)(e2:L[i2]?=some c2:=by rfl)(e3:L[i3]?=some c3:=by rfl)(e4:L[i4]?=some c4:=by rfl)(hd:[i0,i1,i2,i3,i4].Nodup:=by decide):HH g h [c0,c1,c2,c3,c4] F:=a.pick [i0,i1,i2,i3,i4] [c0,c1,c2,c3,c4] hd (by simp only[List.map,e0,e1,e2,e3,e4])
theorem HH.k6(a:HH g h L F)(i0 i1 i2 i3 i4 i5:Nat){c0 c1 c2 c3 c4 c5:Ck}(e0:L[i0]?=some c0:=by rfl)(e1:L[i1]?=some c1:=by rfl)(e2:L[i2]?=some c2:=by rfl)(e3:L[i3]?=some c3:=by rfl)(e4:L[i4]?=some c4:=by rfl)(e5:L[i5]?=some c5:=by rfl)(hd:[i0,i1,i2,i3,i4,i5].Nodup:=by decide):HH g h [c0,c1,c2,c3,c4,c5] F:=a.pick [i0,i1,i2,i3,i4,i5] [c0,c1,c2,c3,c4,c5] hd (by simp only[List.map,e0,e1,e2,e3,e4,e5])
theorem HH.k7(a:HH g h L F)(i0 i1 i2 i3 i4 i5 i6:Nat){c0 c1 c2 c3 c4 c5 c6:Ck}(e0:L[i0]?=some c0:=by rfl)(e1:L[i1]?=some c1:=by rfl)(e2:L[i2]?=some c2:=by rfl)(e3:L[i3]?=some c3:=by rfl)(e4:L[i4]?=some c4:=by rfl)(e5:L[i5]?=some c5:=by rfl)(e6:L[i6]?=some c6:=by rfl)(hd:[i0,i1,i2,i3,i4,i5,i6].Nodup:=by decide):HH g h [c0,c1,c2,c3,c4,c5,c6] F:=a.pick [i0,i1,i2,i3,i4,i5,i6] [c0,c1,c2,c3,c4,c5,c6] hd (by simp only[List.map,e0,e1,e2,e3,e4,e5,e6])
theorem HH.k8(a:HH g h L F)(i0 i1 i2 i3 i4 i5 i6 i7:Nat){c0 c1 c2 c3 c4 c5 c6 c7:Ck}(e0:L[i0]?=some c0:=by rfl)(e1:L[i1]?=some c1:=by rfl)(e2:L[i2]?=some c2:=by rfl)(e3:L[i3]?=some c3:=by rfl)(e4:L[i4]?=some c4:=by rfl)(e5:L[i5]?=some c5:=by rfl)(e6:L[i6]?=some c6:=by rfl)(e7:L[i7]?=some c7:=by rfl)(hd:[i0,i1,i2,i3,i4,i5,i6,i7].Nodup:=by decide):HH g h [c0,c1,c2,c3,c4,c5,c6,c7] F:=a.pick [i0,i1,i2,i3,i4,i5,i6,i7] [c0,c1,c2,c3,c4,c5,c6,c7] hd (by simp only[List.map,e0,e1,e2,e3,e4,e5,e6,e7])
theorem HH.k9(a:HH g h L F)(i0 i1 i2 i3 i4 i5 i6 i7 i8:Nat){c0 c1 c2 c3 c4 c5 c6 c7 c8:Ck}(e0:L[i0]?=some c0:=by rfl)(e1:L[i1]?=some c1:=by rfl)(e2:L[i2]?=some c2:=by rfl)(e3:L[i3]?=some c3:=by rfl)(e4:L[i4]?=some c4:=by rfl)(e5:L[i5]?=some c5:=by rfl)(e6:L[i6]?=some c6:=by rfl)(e7:L[i7]?=some c7:=by rfl)(e8:L[i8]?=some c8:=by rfl)(hd:[i0,i1,i2,i3,i4,i5,i6,i7,i8].Nodup:=by decide):HH g h [c0,c1,c2,c3,c4,c5,c6,c7,c8] F:=a.pick [i0,i1,i2,i3,i4,i5,i6,i7,i8] [c0,c1,c2,c3,c4,c5,c6,c7,c8] hd (by simp only[List.map,e0,e1,e2,e3,e4,e5,e6,e7,e8])
theorem HH.pu(a:HH g h L F)(o:Dc):∃h',h'=h.push o/\HH g h' (.obj h.size o::L) F:=⟨_,rfl,a.push o⟩
theorem HH.pL(a:HH g h L F)(e:TypeId)(cs:List AE):∃h',h'=h.push (.cells (some e) 2 cs)/\HH g h' (.AP (some h.size) e cs::L) F:=⟨_,rfl,a.Wz e cs⟩
theorem HH.la(a:HH g h L F)(k o n:Nat){id:Nat}{gr:Option TypeId}{cs ds:List AE}(E:L[k]?=some (.obj id (.cells gr 2 cs)):=by rfl)(hd:o+n<=cs.length/\(cs.drop o).take n=ds:=by exact⟨zb rfl,rfl⟩):Av.G7 h (id,o) n=some ds:=a.G7 k E hd
theorem HH.l1(a:HH g h L F)(k o:Nat){id:Nat}{gr:Option TypeId}{cs:List AE}{v:AE}(E:L[k]?=some (.obj id (.cells gr 2 cs)):=by rfl)(W:cs[o]?=some v:=by rfl):Av.SW h (id,o)=some v:=a.SW k E W
end
section
variable {C:J8} {f:FuncId} {g:Gd} {ops:Array Oper} {tch:List (Nat×Nat)} {fr:Fr} {h h1:AS} {K:Fr->AS->Prop} {N:Nat} {l:List (Nat×AE)} {i:Nat} {pl:List (Nat×List Nat)} {v:AE} {L F:List Ck}
theorem Has.kn(H:Has fr N l)(d:Nat){b w:Bool}(Y:b=w)(hd:RZ l d=some (.bool b):=by kernel_rfl):Has fr N (Uw l d (.bool w)):=H.Zo d Y hd
theorem rH{P:Program}{rs:List ResultVar}(H:Has fr N l)(G:∀fr,NF P rs (EO N l fr) h=some v:=by intro _;kernel_rfl):NF P rs fr h=some v:=bz H G
theorem rT{t:Nat}(H:Has fr N l)(G:∀fr,nth (EO N l fr) t=v:=by intro _;kernel_rfl):nth fr t=v:=bX H G
theorem E5{args args':List AE}(n:Nat)(rs:List ResultVar){R:AE->AS->Prop}(hc:Bf (C.still f) args=args')(I:AW C f g (NT C.P f) (args'++List.replicate (n - args'.length) (.tuple [])) h (λe fr h'=>(e=.ret\/e=.normal)/\∃v,NF C.P rs fr h'=some v/\R v h'))(E:C.kind f=1:=by kernel_rfl)(X:Jx C.P f=some (n,rs):=by kernel_rfl):∃v h',Bm C g h f args v h'/\R v h':=Zs E hc X I
theorem aD{args args':List AE}(n:Nat)(rs:List ResultVar){R:AE->AS->Prop}(hc:Bf (C.still f) args=args')(I:AW C f g (NT C.P f) (args'++List.replicate (n - args'.length) (.tuple [])) h (λe fr h'=>(e=.ret\/e=.normal)/\∃v,NF C.P rs fr h'=some v/\∃v' h'',RO g h' v=some (v',h'')/\R v' h''))(E:C.kind f=7:=by kernel_rfl)(X:Jx C.P f=some (n,rs):=by kernel_rfl):∃v h',Bm C g h f args v h'/\R v h':=Z4 E hc X I
theorem bf{args args':List AE}(n:Nat)(rs:List ResultVar){R:AE->AS->Prop}(hc:Bf (C.still f) args=args')(I:AW C f g (NT C.P f) (args'++List.replicate (n - args'.length) (.tuple [])) h (λe fr h'=>(e=.ret\/e=.normal)/\∃v,NF C.P rs fr h'=some v/\∃v' h'',Tj g h' v=some (v',h'')/\R v' h''))(E:C.kind f=9:=by kernel_rfl)(X:Jx C.P f=some (n,rs):=by kernel_rfl):∃v h',Bm C g h f args v h'/\R v h':=Z1 E hc X I
theorem bg{args:List AE}{c:Code}{Q:HV->Fr->AS->Prop}(n:Nat)(ins:List (Nat×AE))(I:∀fr,Has fr n ins->AW C f g c fr h Q)(J:(args++List.replicate (n - args.length) (AE.tuple [])).length=n:=by kernel_rfl)(hi:ins.map (λp=>nth (args++List.replicate (n - args.length) (AE.tuple [])) p.1)=ins.map (·.2):=by kernel_rfl):AW C f g c (args++List.replicate (n - args.length) (.tuple [])) h Q:=start ins J hi I
theorem Aa(k:Nat)(nw:List (Nat×AE))(d:Nat)(j o:Nat)(A:HH g h L F){id:Nat}{gr:Option TypeId}{cs:List AE}(H:Has fr N l)(D:∀fr' t,Has fr' N (((d,v)::List.append nw l))->AT C g ops (pl.drop (k+1)) t fr' h K)(S:L[j]?=some (.obj id (.cells gr 2 cs)):=by rfl)(W:cs[o]?=some v:=by rfl)(B:∀fr,Ow C.P (Ps C.P ops (Fb (pl.take k)) (EO N l fr)) (Pr ops (IX pl k))=some ((id,o),none):=by intro _;kernel_rfl)(E:∀fr,(RG pl k&&(Sj (pl.take k)&&(GB ops l (Fb (pl.take k))&&(JU d l&&(JU d nw&&Nat.blt d N)))),(Hu C.P ops (Fb (pl.take k)) (EO N l fr)).map (λx=>(runs ops x (IX pl k),I8 ops (IX pl k),nw.map (λp=>nth x p.1))))=(true,some (true,some d,nw.map (·.2))):=by intro _;kernel_rfl):AT C g ops pl tch fr h K:=BD k nw d v h H (λfr=>.of (Dj (B fr) (A.SW j S W))) D E
theorem JN(d:Nat)(j o:Nat)(A:HH g h L F){id:Nat}{gr:Option TypeId}{cs:List AE}(H:Has fr N l)(D:∀fr' t,Has fr' N ((d,v)::l)->AT C g ops pl t fr' h K)(S:L[j]?=some (.obj id (.cells gr 2 cs)):=by rfl)(W:cs[o]?=some v:=by rfl)(B:∀fr,Ow C.P (EO N l fr) (Pr ops i)=some ((id,o),none):=by intro _;kernel_rfl)(hw:∀fr,(runs ops (EO N l fr) i,I8 ops i,Nat.blt d N,JU d l)=(true,some d,true,true):=by intro _;kernel_rfl):AT C g ops ((i,[])::pl) tch fr h K:=Aw d v h H (λfr=>.of (Dj (B fr) (A.SW j S W))) D hw
theorem Ld(k:Nat)(nw:List (Nat×AE)){f':FuncId}{args:List AE}(G:Bm C g h f' args v h1)(H:Has fr N l)(D:∀fr' t,Has fr' N ((List.append nw l))->AT C g ops (pl.drop (k+1)) t fr' h1 K)(B:∀fr,Ni (Ps C.P ops (Fb (pl.take k)) (EO N l fr)) (Pr ops (IX pl k))=some (f',args):=by intro _;kernel_rfl)(E:∀fr,(RG pl k&&(Sj (pl.take k)&&(GB ops l (Fb (pl.take k))&&(Jp ops (IX pl k) l&&Jp ops (IX pl k) nw))),(Hu C.P ops (Fb (pl.take k)) (EO N l fr)).map (λx=>(runs ops x (IX pl k),nw.map (λp=>nth x p.1))))=(true,some (true,nw.map (·.2))):=by intro _;kernel_rfl):AT C g ops pl tch fr h K:=Xl k nw _ h1 H (λfr=>Steps.call (B fr) G) D E
theorem As(k:Nat)(nw:List (Nat×AE))(d:Nat){f':FuncId}{args:List AE}(G:Bm C g h f' args v h1)(H:Has fr N l)(D:∀fr' t,Has fr' N (((d,v)::List.append nw l))->AT C g ops (pl.drop (k+1)) t fr' h1 K)(B:∀fr,Ni (Ps C.P ops (Fb (pl.take k)) (EO N l fr)) (Pr ops (IX pl k))=some (f',args):=by intro _;kernel_rfl)(E:∀fr,(RG pl k&&(Sj (pl.take k)&&(GB ops l (Fb (pl.take k))&&(JU d l&&(JU d nw&&Nat.blt d N)))),(Hu C.P ops (Fb (pl.take k)) (EO N l fr)).map (λx=>(runs ops x (IX pl k),I8 ops (IX pl k),nw.map (λp=>nth x p.1))))=(true,some (true,some d,nw.map (·.2))):=by intro _;kernel_rfl):AT C g ops pl tch fr h K:=BD k nw d v h1 H (λfr=>Steps.call (B fr) G) D E
theorem Jj{f':FuncId}{args:List AE}(G:Bm C g h f' args v h1)(H:Has fr N l)(D:∀fr' t,Has fr' N l->AT C g ops pl t fr' h1 K)(B:∀fr,Ni (EO N l fr) (Pr ops i)=some (f',args):=by intro _;kernel_rfl)(hw:∀fr,(runs ops (EO N l fr) i,Jp ops i l)=(true,true):=by intro _;kernel_rfl):AT C g ops ((i,[])::pl) tch fr h K:=La _ h1 H (λfr=>Steps.call (B fr) G) D hw
theorem Bq(d:Nat){f':FuncId}{args:List AE}(G:Bm C g h f' args v h1)(H:Has fr N l)(D:∀fr' t,Has fr' N ((d,v)::l)->AT C g ops pl t fr' h1 K)(B:∀fr,Ni (EO N l fr) (Pr ops i)=some (f',args):=by intro _;kernel_rfl)(hw:∀fr,(runs ops (EO N l fr) i,I8 ops i,Nat.blt d N,JU d l)=(true,some d,true,true):=by intro _;kernel_rfl):AT C g ops ((i,[])::pl) tch fr h K:=Aw d v h1 H (λfr=>Steps.call (B fr) G) D hw
theorem HT(k:Nat)(nw:List (Nat×AE))(d:Nat)(v:AE){ob:Dc}(e:h1=h.push ob)(H:Has fr N l)(D:∀fr' t,Has fr' N (((d,v)::List.append nw l))->AT C g ops (pl.drop (k+1)) t fr' h1 K)(B:∀fr,aP C.P (Ps C.P ops (Fb (pl.take k)) (EO N l fr)) (Pr ops (IX pl k)) h.size=some (v,ob):=by intro _;kernel_rfl)(E:∀fr,(RG pl k&&(Sj (pl.take k)&&(GB ops l (Fb (pl.take k))&&(JU d l&&(JU d nw&&Nat.blt d N)))),(Hu C.P ops (Fb (pl.take k)) (EO N l fr)).map (λx=>(runs ops x (IX pl k),I8 ops (IX pl k),nw.map (λp=>nth x p.1))))=(true,some (true,some d,nw.map (·.2))):=by intro _;kernel_rfl):AT C g ops pl tch fr h K:=BD k nw d v h1 H (λfr=>.of (Qr (B fr) (congrArg some e.symm))) D E
theorem Bc(d:Nat)(v:AE){ob:Dc}(e:h1=h.push ob)(H:Has fr N l)(D:∀fr' t,Has fr' N ((d,v)::l)->AT C g ops pl t fr' h1 K)(B:∀fr,aP C.P (EO N l fr) (Pr ops i) h.size=some (v,ob):=by intro _;kernel_rfl)(hw:∀fr,(runs ops (EO N l fr) i,I8 ops i,Nat.blt d N,JU d l)=(true,some d,true,true):=by intro _;kernel_rfl):AT C g ops ((i,[])::pl) tch fr h K:=Aw d v h1 H (λfr=>.of (Qr (B fr) (congrArg some e.symm))) D hw
theorem Ct(k:Nat)(nw:List (Nat×AE)){a:Nat×Nat}{v:AE}(O:Av.st g h a [v]=some h1)(H:Has fr N l)(D:∀fr' t,Has fr' N ((List.append nw l))->AT C g ops (pl.drop (k+1)) t fr' h1 K)(hc:v.cells?=some [v]:=by rfl)(B:∀fr,Ks C.P (Ps C.P ops (Fb (pl.take k)) (EO N l fr)) (Pr ops (IX pl k))=some (a,1,v):=by intro _;kernel_rfl)(E:∀fr,(RG pl k&&(Sj (pl.take k)&&(GB ops l (Fb (pl.take k))&&(Jp ops (IX pl k) l&&Jp ops (IX pl k) nw))),(Hu C.P ops (Fb (pl.take k)) (EO N l fr)).map (λx=>(runs ops x (IX pl k),nw.map (λp=>nth x p.1))))=(true,some (true,nw.map (·.2))):=by intro _;kernel_rfl):AT C g ops pl tch fr h K:=Xl k nw _ h1 H (λfr=>.of (O9 (B fr) hc O)) D E
theorem I4{a:Nat×Nat}{v:AE}(O:Av.st g h a [v]=some h1)(H:Has fr N l)(D:∀fr' t,Has fr' N l->AT C g ops pl t fr' h1 K)(hc:v.cells?=some [v]:=by rfl)(B:∀fr,Ks C.P (EO N l fr) (Pr ops i)=some (a,1,v):=by intro _;kernel_rfl)(hw:∀fr,(runs ops (EO N l fr) i,Jp ops i l)=(true,true):=by intro _;kernel_rfl):AT C g ops ((i,[])::pl) tch fr h K:=La _ h1 H (λfr=>.of (O9 (B fr) hc O)) D hw
theorem Ft(k:Nat)(nw:List (Nat×AE)){a:Nat×Nat}{n:Nat}{cs:List AE}(O:Av.st g h a cs=some h1)(H:Has fr N l)(D:∀fr' t,Has fr' N ((List.append nw l))->AT C g ops (pl.drop (k+1)) t fr' h1 K)(J:cs.length=n:=by rfl)(B:∀fr,Ks C.P (Ps C.P ops (Fb (pl.take k)) (EO N l fr)) (Pr ops (IX pl k))=some (a,n,.agg cs):=by intro _;kernel_rfl)(E:∀fr,(RG pl k&&(Sj (pl.take k)&&(GB ops l (Fb (pl.take k))&&(Jp ops (IX pl k) l&&Jp ops (IX pl k) nw))),(Hu C.P ops (Fb (pl.take k)) (EO N l fr)).map (λx=>(runs ops x (IX pl k),nw.map (λp=>nth x p.1))))=(true,some (true,nw.map (·.2))):=by intro _;kernel_rfl):AT C g ops pl tch fr h K:=Xl k nw _ h1 H (λfr=>.of (L4 (B fr) (Jk O J))) D E
theorem Cu{a:Nat×Nat}{n:Nat}{cs:List AE}(O:Av.st g h a cs=some h1)(H:Has fr N l)(D:∀fr' t,Has fr' N l->AT C g ops pl t fr' h1 K)(J:cs.length=n:=by rfl)(B:∀fr,Ks C.P (EO N l fr) (Pr ops i)=some (a,n,.agg cs):=by intro _;kernel_rfl)(hw:∀fr,(runs ops (EO N l fr) i,Jp ops i l)=(true,true):=by intro _;kernel_rfl):AT C g ops ((i,[])::pl) tch fr h K:=La _ h1 H (λfr=>.of (L4 (B fr) (Jk O J))) D hw
end
section
variable {C:J8} {f:FuncId} {g:Gd} {ops:Array Oper} {tch:List (Nat×Nat)} {fr:Fr} {h:AS} {N:Nat} {l out:List (Nat×AE)} {c c':Code} {Q Q':HV->Fr->AS->Prop}
theorem Bt(Z:AW C f g c' fr h Q'->Q .normal fr h)(I:AW C f g c' fr h Q')(U:shape c=.skip:=by kernel_rfl):AW C f g c fr h Q:=P6 U (Z I)
theorem Ie(n:Nat)(Z:AW C f g c' fr h Q'->Q .normal fr h)(I:AT C g (opsOf c') (Jq 0 n) [] fr h (λfr' h'=>Q' .normal fr' h'))(U:shape c=.skip:=by kernel_rfl)(G:Mw c' n=true:=by kernel_rfl):AW C f g c fr h Q:=P6 U (Z (BY n I G))
theorem CH(n:Nat)(Z:AW C f g c' fr h Q'->Q .normal fr h)(I:AT C g (opsOf (left c')) (Jq 0 n) [] fr h (λfr' h'=>N9 (λfr h=>AW C f g (right c') fr h Q') Q' .normal fr' h'))(U:shape c=.skip:=by kernel_rfl)(hq:shape c'=.seq:=by kernel_rfl)(G:Mw (left c') n=true:=by kernel_rfl):AW C f g c fr h Q:=P6 U (Z (VC hq (BY n I G)))
theorem BH{b w:Bool}(H:Has fr N l)(Y:b=w)(O:b=w->∀fr,out.map (λp=>nth (EO N l fr) p.1)=out.map (·.2):=by intro Y _;first|rfl|(rw[Y];rfl)):AT C g ops [] tch fr h (λfr' h'=>h=h'/\Has fr' N out):=Aj ⟨rfl,H.less _ (O Y)⟩
end
theorem nx{σ ρ:Type}{a:σ}{o:σ⊕ρ}{P:σ->Prop}(hm:some (.inl a)=some o)(h:P a):∃s',o=.inl s'/\P s':=⟨a,(zw hm).symm,h⟩
theorem nr{σ ρ:Type}{a:ρ}{o:σ⊕ρ}{P:ρ->Prop}(hm:some (.inr a)=some o)(h:P a):∃s',o=.inr s'/\P s':=⟨a,(zw hm).symm,h⟩
theorem XK{A0 A1 A2 A3 A4 A5:Type}{x0 y0:A0}{x1 y1:A1}{x2 y2:A2}{x3 y3:A3}{x4 y4:A4}{x5 y5:A5}(h:some (x0,x1,x2,x3,x4,x5)=some (y0,y1,y2,y3,y4,y5)):x0=y0/\x1=y1/\x2=y2/\x3=y3/\x4=y4/\x5=y5:=by
 obtain⟨h1,V⟩:=C1 h;exact⟨h1,bd (congrArg some V)⟩
theorem bP{A0 A1 A2 A3 A4 A5 A6:Type}{x0 y0:A0}{x1 y1:A1}{x2 y2:A2}{x3 y3:A3}{x4 y4:A4}{x5 y5:A5}{x6 y6:A6}(h:some (x0,x1,x2,x3,x4,x5,x6)=some (y0,y1,y2,y3,y4,y5,y6)):x0=y0/\x1=y1/\x2=y2/\x3=y3/\x4=y4/\x5=y5/\x6=y6:=by
 obtain⟨h1,V⟩:=C1 h;exact⟨h1,XK (congrArg some V)⟩
theorem W7{A0 A1 A2 A3 A4 A5 A6 A7:Type}{x0 y0:A0}{x1 y1:A1}{x2 y2:A2}{x3 y3:A3}{x4 y4:A4}{x5 y5:A5}{x6 y6:A6}{x7 y7:A7}(h:some (x0,x1,x2,x3,x4,x5,x6,x7)=some (y0,y1,y2,y3,y4,y5,y6,y7)):x0=y0/\x1=y1/\x2=y2/\x3=y3/\x4=y4/\x5=y5/\x6=y6/\x7=y7:=by
 obtain⟨h1,V⟩:=C1 h;exact⟨h1,bP (congrArg some V)⟩
theorem Ye{A0 A1 A2 A3 A4 A5 A6 A7 A8:Type}{x0 y0:A0}{x1 y1:A1}{x2 y2:A2}{x3 y3:A3}{x4 y4:A4}{x5 y5:A5}{x6 y6:A6}{x7 y7:A7}{x8 y8:A8}(h:some (x0,x1,x2,x3,x4,x5,x6,x7,x8)=some (y0,y1,y2,y3,y4,y5,y6,y7,y8)):x0=y0/\x1=y1/\x2=y2/\x3=y3/\x4=y4/\x5=y5/\x6=y6/\x7=y7/\x8=y8:=by
 obtain⟨h1,V⟩:=C1 h;exact⟨h1,W7 (congrArg some V)⟩
abbrev Ai(x:Int):AE:=.int .i64 x
abbrev Au(x:Int):AE:=.int .u64 x
abbrev Ab(x:Int):AE:=.int .u8 x
section
variable {C:J8} {f:FuncId} {g:Gd} {ops:Array Oper} {tch:List (Nat×Nat)} {fr:Fr} {h:AS} {N:Nat} {l:List (Nat×AE)} {pl:List (Nat×List Nat)} {c:Code} {Q:HV->Fr->AS->Prop}
theorem AK(k:Nat)(nw:List (Nat×AE))(H:Has fr N l)(I:∀fr',Has fr' N (List.append nw l)->AW C f g c fr' h Q)
  (E:∀fr,(Sj pl,Nat.beq pl.length k,GB ops l (Fb pl),(Hu C.P ops (Fb pl) (EO N l fr)).map (λx=>nw.map (λp=>nth x p.1)))=(true,true,true,some (nw.map (·.2))):=by intro _;kernel_rfl):AT C g ops pl tch fr h (λfr h=>AW C f g c fr h Q):=XI k nw H (λ_=>id) I E
theorem WB(k:Nat)(nw:List (Nat×AE))(n:Nat)(H:Has fr N l)(I:∀fr',Has fr' N (List.append nw l)->AT C g (opsOf c) (Jq 0 n) [] fr' h (λfr' h'=>Q .normal fr' h'))
  (E:∀fr,(Sj pl,Nat.beq pl.length k,GB ops l (Fb pl),(Hu C.P ops (Fb pl) (EO N l fr)).map (λx=>nw.map (λp=>nth x p.1)))=(true,true,true,some (nw.map (·.2))):=by intro _;kernel_rfl) (G:Mw c n=true:=by kernel_rfl):AT C g ops pl tch fr h (λfr h=>AW C f g c fr h Q):=ai k nw n H (λ_=>id) I E G
theorem B4(k:Nat)(nw:List (Nat×AE))(n:Nat)(H:Has fr N l)(I:∀fr',Has fr' N (List.append nw l)->AT C g (opsOf (left c)) (Jq 0 n) [] fr' h (λfr' h'=>N9 (λfr h=>AW C f g (right c) fr h Q) Q .normal fr' h'))
  (E:∀fr,(Sj pl,Nat.beq pl.length k,GB ops l (Fb pl),(Hu C.P ops (Fb pl) (EO N l fr)).map (λx=>nw.map (λp=>nth x p.1)))=(true,true,true,some (nw.map (·.2))):=by intro _;kernel_rfl) (U:shape c=.seq:=by kernel_rfl) (G:Mw (left c) n=true:=by kernel_rfl):AT C g ops pl tch fr h (λfr h=>AW C f g c fr h Q):=aa k nw n H (λ_=>id) I E U G
end
end Go.Av
