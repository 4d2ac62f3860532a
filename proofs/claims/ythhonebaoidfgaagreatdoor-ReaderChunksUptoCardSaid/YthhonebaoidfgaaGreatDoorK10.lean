/-
 A part.
-/
import Derived.Test.YthhonebaoidfgaaGreatDoorK9
set_option linter.unusedSimpArgs false
namespace Go.Av.L
open IntKind (i64)
open Go.Av Go.Lib
set_option maxRecDepth 10000
set_option linter.unusedVariables false
set_option linter.unusedSimpArgs false
variable {g:Gd} {h:AF} {F:List Ck} {av:List AD}
noncomputable section
def Ex:Option (Bool):=
 (Hm (⟨(1000:Int),(100:Int)⟩:Bb)).bind λ(w2,x2)=>(match w2 with|some x1w1=>Ag ((x2 !=0)||false) (some false) (B4 (kF 1 (1024:Int))<|(BZ x1w1 (List.replicate (1024:Int).toNat (0:UInt8))).bind λ(x3,x4,x5,x6,x7,x8)=>(Ag ((x4==0)&&((x3.length:Int)==1)) ((Kx x3 (0:Int)).bind λx10=>some (x10.Kind==4)) (some false):Option (Bool)).bind λx9=>(Ag x9 ((Co ({x5 with Al:=({x6 with BC:=x7}:Aj),A9:=x8}:AG)).bind λx12=>some x12) (some false):Option (Bool)).bind λx11=>(Ag x11 ((Bw ({x5 with Al:=({x6 with BC:=x7}:Aj),A9:=x8}:AG)).bind λ(x18,x19,x20,x21,x22)=>some (x20.QM,x20.EM,x20.Gu,x21,x18==0)) (some (x6.QM,x6.EM,x6.Gu,x7,false)):Option ((List UInt8)×Int×Bool×(List (List UInt8))×Bool)).bind λ(x13,x14,x15,x16,x17)=>some x17)|none=>Ag ((x2 !=0)||true) (some false) (B4 (kF 1 (1024:Int))<|none))
theorem I9{q0}(M:Ex=some q0):tl 7 [] (.bool q0):=by
 intro g h F av A hc;refine Dp 45 [.tmp 0] hc ?_;unfold Ex at M;refine bg 45 [] λD H=>?_;refine AE 1 (Bx 1 [] 7 H λD H=>?_);obtain⟨⟨w2,x2⟩,X,M⟩:=AJ M;obtain⟨v1,h1,R,hc⟩:=Oh (av:=[.agg [Ai 1000,Ai 100]]) X (A.cut 0);rcases hc with⟨x1w1,bx1w1,bx1w1_2,bx1w1_2_0,rx1w1_23,wx1w1_24,hwx1w1_24,wx1w1_30,hwx1w1_30,rfl,rfl,A1⟩|⟨rfl,rfl,A1⟩
 ·replace A:=A.nA A1;refine BM 1 [] 7 R H λD t H=>?_;refine AK 5 [(1,pz bx1w1),(2,Ai x2)] H λD H=>AU (AE 6 (AL 3 [(12,.bool (x2 !=0))] H λD H=>Ch 3 12 (λbb=>[(15,.bool (bb||false))]) H λD H=>?_));refine BN id (Ac 15 H M (λB M H=>?_) λB M H=>?_)
  ·refine AE 1 (AK 1 [(0,.bool false)] H λD H=>AY ?_);exact wi
  refine CC 8 id ?_;obtain⟨B,M⟩:=Ap M;obtain⟨h2,e1,A⟩:=A.pL 5 (Am eY (List.replicate (1024:Int).toNat (0:UInt8)));refine BQ 1 [(17,pz bx1w1)] 18 (Ad (some h1.size) (List.replicate (1024:Int).toNat (0:UInt8)).length) h2 H (λD=>.of (bM (e:=eY) Jk (x:=(0:UInt8)) kr B (congrArg some e1.symm))) λD t H=>?_;obtain⟨Z,hz1,A1⟩:=(A.front 0 rfl).eF (n:=(List.replicate (1024:Int).toNat (0:UInt8)).length) (z:=1) (Jk.JM _) (by decide);replace A:HH g Z [_,_,_,_] F:=A1;have A1:=A.cut 4;obtain⟨⟨x3,x4,x5,x6,x7,x8⟩,X,M⟩:=AJ M;obtain⟨v1,J,R,w6,G,w7,I,r1,rqw4,rfl,A1⟩:=EX (p0:=x1w1) (wp0_24:=wx1w1_24) (hwp0_24:=hwx1w1_24) (wp0_30:=wx1w1_30) (hwp0_30:=hwx1w1_30) (av:=[pz bx1w1,Ad (some h1.size) ((List.replicate (1024:Int).toNat (0:UInt8)).length)]) X (h0:=h2) (hc:=(by first|rfl|(simp only[N2,NG,NR,jA,M3,Nl,M7,Ni,M9,hz1,zh]<;>rfl))) A1;replace A:=A.lN A1;refine BO 19 R H λD t H=>?_;refine Bx 5 [(3,Ad rqw4 x3.length),(4,Ai x4)] 24 H λD H=>AL 3 [(24,.bool (x4==0))] H λD H=>Ch 4 24 (λbb=>[(28,.bool (bb&&((x3.length:Int)==1)))]) H λD H=>?_;refine AL 1 [(29,.bool ((x4==0)&&((x3.length:Int)==1)))] H λD H=>?_;obtain⟨x9,O,M⟩:=AJ M;refine Bp 6 (λN Q=>Has N 45 [(1,pz bx1w1),(35,.bool x9)]/\HH g Q [oB bx1w1 (AR x5 (pz bx1w1_2) (Ad r1 x8.length) w6 w7),oB bx1w1_2 (Ak x6 (.chan (some bx1w1_2_0))),.obj bx1w1_2_0 (.chan 64 (Am eS x7)),.Am r1 5 (Am eY x8)] F) ?_ ?_
  ·rcases BB O with⟨B,M⟩|⟨B,M⟩
   ·replace H:=H.kn 29 B;obtain⟨x10,X,M⟩:=AJ M;obtain⟨i1,er1,_,X,U⟩:=HH.ir CY (by decide) A 0 (xs:=x3) rfl X;refine BQ 1 [] 31 (.ptr (some (i1,(0:Int).toNat*17))) J H (λD=>.of (Sc (s:=GA rqw4 x3.length) kr X)) λD t H=>?_;refine BQ 1 [] 33 _ _ H (λD=>.of (Fb kr (Pc CY (HH.row A 0 rfl er1) U (o:=0) rfl))) λD t H=>?_;refine AL 2 [(35,.bool (x10.Kind==4))] H λD H=>?_;obtain rfl:=Ar M;replace A:=A.k4 1 2 3 4;exact vz
   replace H:=H.kn 29 B;refine AL 6 [(35,.bool false)] H λD H=>?_;obtain rfl:=Ar M;replace A:=A.k4 1 2 3 4;exact vz
  intro t D h5 C;obtain⟨H,A⟩:=C;refine AL 1 [(36,.bool x9)] H λD H=>?_;obtain⟨x11,O,M⟩:=AJ M;refine Bp 3 (λN Q=>Has N 45 [(1,pz bx1w1),(39,.bool x11)]/\HH g Q [oB bx1w1 (AR x5 (pz bx1w1_2) (Ad r1 x8.length) w6 w7),oB bx1w1_2 (Ak x6 (.chan (some bx1w1_2_0))),.obj bx1w1_2_0 (.chan 64 (Am eS x7)),.Am r1 5 (Am eY x8)] F) ?_ ?_
  ·rcases BB O with⟨B,M⟩|⟨B,M⟩
   ·replace H:=H.kn 36 B;obtain⟨x12,X,M⟩:=AJ M;obtain⟨v1,h7,R,rfl,A1⟩:=GS (p0:=({x5 with Al:=({x6 with BC:=x7}:Aj),A9:=x8}:AG)) (wp0_24:=w6) (hwp0_24:=G) (wp0_30:=w7) (hwp0_30:=I) (av:=[pz bx1w1]) X (A.cut 4);replace A:=A.O3 A1;refine BM 1 [] 38 R H λD t H=>?_;refine AL 1 [(39,.bool x12)] H λD H=>?_;exact wg
   replace H:=H.kn 36 B;refine AL 3 [(39,.bool false)] H λD H=>?_;exact wg
  intro t D h6 C;obtain⟨H,A⟩:=C;refine AL 1 [(40,.bool x11)] H λD H=>?_;obtain⟨⟨x13,x14,x15,x16,x17⟩,O,M⟩:=AJ M;refine Bp 4 (λN Q=>Has N 45 [(44,.bool x17)]/\HH g Q [oB bx1w1_2 [.chan (some bx1w1_2_0),.str x13,Ai x14,.bool x15],.obj bx1w1_2_0 (.chan 64 (Am eS x16))] F) ?_ ?_
  ·rcases BB O with⟨B,M⟩|⟨B,M⟩
   ·replace H:=H.kn 40 B;obtain⟨⟨x18,x19,x20,x21,x22⟩,X,M⟩:=AJ M;obtain⟨v1,h9,R,Vb,K,U2,T,r2,rfl,A1⟩:=GK (p0:=({x5 with Al:=({x6 with BC:=x7}:Aj),A9:=x8}:AG)) (wp0_24:=w6) (hwp0_24:=G) (wp0_30:=w7) (hwp0_30:=I) (av:=[pz bx1w1]) X (A.cut 4);replace A:=A.O3 A1;refine BM 1 [] 42 R H λD t H=>?_;refine AL 2 [(44,.bool (x18==0))] H λD H=>?_;obtain⟨rfl,rfl,rfl,rfl,rfl⟩:=PS M;replace A:=A.k2 1 2;exact vz
   replace H:=H.kn 40 B;refine AL 4 [(44,.bool false)] H λD H=>?_;obtain⟨rfl,rfl,rfl,rfl,rfl⟩:=PS M;replace A:=A.k2 1 2;exact vz
  intro t D h8 C;obtain⟨H,A⟩:=C;refine AK 1 [(0,.bool x17)] H λD H=>AY ?_;exact wi
 replace A:=A.DF A1;refine BM 1 [] 7 R H λD t H=>?_;refine AK 5 [(1,.ptr none),(2,Ai x2)] H λD H=>AU (AE 6 (AL 3 [(12,.bool (x2 !=0))] H λD H=>Ch 3 12 (λbb=>[(15,.bool (bb||true))]) H λD H=>?_));refine BN id (Ac 15 H M (λB M H=>?_) λB M H=>?_)
 ·refine AE 1 (AK 1 [(0,.bool false)] H λD H=>AY ?_);exact wd
 refine CC 8 id ?_;obtain⟨B,M⟩:=Ap M;obtain⟨Y,e2,A⟩:=A.pL 5 (Am eY (List.replicate (1024:Int).toNat (0:UInt8)));refine BQ 1 [(17,.ptr none)] 18 (Ad (some h1.size) (List.replicate (1024:Int).toNat (0:UInt8)).length) Y H (λD=>.of (bM (e:=eY) Jk (x:=(0:UInt8)) kr B (congrArg some e2.symm))) λD t H=>?_;cases M
def G1(p0:Ba):Option (Int):=
 (Es p0.CU).bind λx1=>some (i64.wrap ((i64.wrap (x1+(p0.Gm.length:Int)))+(p0.HR.length:Int)))
theorem OW{p0 q0}(M:G1 p0=some q0):tl 64 [.agg (CB p0)] (Ai q0):=by
 intro g h F av A hc;refine Dp 14 [.tmp 2] hc ?_;unfold G1 at M;refine bg 14 [(0,.agg (CB p0))] λD H=>?_;refine AE 2 ?_;obtain⟨h1,e1,A⟩:=A.pu (.cells none 2 (CB p0));refine Bj 1 (pz h.size) e1 H λD t H=>?_;refine AK 1 [] H λD H=>AU (Io 1 12 [(0,[]),(1,[]),(3,[]),(4,[]),(5,[]),(7,[]),(8,[]),(2,[4,8]),(6,[]),(9,[]),(10,[]),(11,[])] ?_);refine AL 1 [(3,pz h.size)] H λD H=>BP 4 (vs AA p0.CU) h1 [(1,h.size)] (g.BW) H (λD=>.of (Fb kr (A.l1 0 0))) (λD H=>?_);refine AL 1 [(6,.ptr (some (h.size,1)))] H λD H=>BP 7 (.str p0.Gm) h1 [(4,h.size),(1,h.size)] (g.BW) H (λD=>.of (Fb kr (A.l1 0 1))) (λD H=>?_);refine AL 2 [(8,Ai (p0.Gm.length:Int)),(10,.ptr (some (h.size,2)))] H λD H=>BP 11 (.str p0.HR) h1 [(8,h.size),(4,h.size),(1,h.size)] (g.BW) H (λD=>.of (Fb kr (A.l1 0 2))) (λD H=>?_);have A1:=A.Ef 0 (pr:=[h.size,h.size]) (.cons 0 rfl (by simp[Ck.ids]) (.cons 0 rfl (by simp[Ck.ids]) .nil));obtain⟨x1,X,M⟩:=AJ M;obtain⟨v1,h2,R,rfl,A1⟩:=Ml X A1;replace A:HH g h2 [oB h.size (CB p0)] F:=A.PV (n:=0) A1;refine BP 5 (Ai x1) h2 [(8,h.size),(4,h.size),(1,h.size)] (h.size::h.size::g.BW) H (λD=>Steps.call kr R) (λD H=>?_);refine AK 4 [(2,Ai (i64.wrap ((i64.wrap (x1+(p0.Gm.length:Int)))+(p0.HR.length:Int))))] H λD H=>AY ?_;exact wi
def CM(p0:AG):Option (Int):=
 (Cu p0.Al).bind λx1=>(Es p0.B6).bind λx2=>(G1 p0.BV).bind λx3=>some (i64.wrap ((i64.wrap ((i64.wrap (x1+(p0.A9.length:Int)))+x2))+x3))
theorem Gb{p0 bp0 bp0_2 bp0_2_0 rp0_23 wp0_24}{hwp0_24:Wk wp0_24 (vs AA p0.BV.CU)}{wp0_30}{hwp0_30:Wk wp0_30 (vs AA p0.B6)}{q0}(M:CM p0=some q0)(A:HH g h [.obj bp0 (.cells none 2 (AR p0 (.ptr (some (bp0_2,0))) (Ad rp0_23 p0.A9.length) wp0_24 wp0_30)),.obj bp0_2 (.cells none 2 (Ak p0.Al (.chan (some bp0_2_0)))),.obj bp0_2_0 (.chan 64 (Am eS p0.Al.BC)),.Am rp0_23 5 (Am eY p0.A9)] F)(hc:CQ (cfg.still 27) av=[.ptr (some (bp0,0))]:=by kernel_rfl):∃v Q,Cf cfg g h 27 av v Q/\v=Ai q0/\HH g Q [.obj bp0 (.cells none 2 (AR p0 (.ptr (some (bp0_2,0))) (Ad rp0_23 p0.A9.length) wp0_24 wp0_30)),.obj bp0_2 (.cells none 2 (Ak p0.Al (.chan (some bp0_2_0)))),.obj bp0_2_0 (.chan 64 (Am eS p0.Al.BC)),.Am rp0_23 5 (Am eY p0.A9)] F:=by
 refine Dp 26 [.tmp 2] hc ?_;unfold CM at M;refine bg 26 [(0,pz bp0)] λD H=>?_;refine AE 1 (AK 1 [] H λD H=>AU (Io 1 24 [(0,[]),(1,[]),(2,[]),(3,[]),(5,[]),(6,[]),(7,[]),(8,[]),(9,[]),(11,[]),(12,[]),(13,[]),(14,[]),(17,[]),(18,[]),(19,[]),(20,[]),(4,[8,14,20]),(10,[]),(15,[8,20]),(16,[]),(21,[8]),(22,[]),(23,[])] ?_));refine AL 3 [(5,.ptr (some (bp0,2)))] H λD H=>BP 6 (pz bp0_2) h [(3,bp0)] (g.BW) H (λD=>.of (Fb kr (A.l1 0 2))) (λD H=>?_);refine AL 3 [(10,.ptr (some (bp0,23)))] H λD H=>BP 11 (Ad rp0_23 p0.A9.length) h [(8,bp0),(3,bp0)] (g.BW) H (λD=>.of (Fb kr (A.l1 0 23))) (λD H=>?_);refine AL 4 [(12,Ai (p0.A9.length:Int)),(16,.ptr (some (bp0,30)))] H λD H=>BP 17 (wp0_30) h [(14,bp0),(8,bp0),(3,bp0)] (g.BW) H (λD=>.of (Fb kr (A.l1 0 30))) (λD H=>?_);refine AL 3 [(22,.ptr (some (bp0,24)))] H λD H=>BP 23 (.agg (CX p0.BV wp0_24)) h [(20,bp0),(14,bp0),(8,bp0),(3,bp0)] (g.BW) H (λD=>.of (Bt kr (A.la 0 24 6))) (λD H=>?_);replace A:=A.k4 1 2 0 3;have A1:=A.Ef 2 (pr:=[bp0,bp0,bp0]) (.cons 0 rfl (by simp[Ck.ids]) (.cons 0 rfl (by simp[Ck.ids]) (.cons 0 rfl (by simp[Ck.ids]) .nil)));obtain⟨x1,X,M⟩:=AJ M;obtain⟨v1,h1,R,rfl,A1⟩:=JC (av:=[pz bp0_2]) X A1;replace A:=A.ko A1;refine BP 7 (Ai x1) h1 [(20,bp0),(14,bp0),(8,bp0),(3,bp0)] (bp0::bp0::bp0::g.BW) H (λD=>Steps.call kr R) (λD H=>?_);refine AL 1 [(13,Ai (i64.wrap (x1+(p0.A9.length:Int))))] H λD H=>?_;have A1:=A.Ef 0 (pr:=[bp0,bp0]) (.cons 2 rfl (by simp[Ck.ids]) (.cons 2 rfl (by simp[Ck.ids]) .nil))
 obtain⟨x2,X,M⟩:=AJ M;obtain⟨v1,h2,R,rfl,A1⟩:=Ml (av:=[wp0_30]) (hc:=((by kernel_rfl:CQ (cfg.still 63) [wp0_30]=[VF wp0_30]).trans (by simp only[hwp0_30.c,hwp0_30.c2]<;>rfl))) X A1;replace A:=A.Th A1;refine BP 18 (Ai x2) h2 [(20,bp0),(14,bp0),(8,bp0),(3,bp0)] (bp0::bp0::g.BW) H (λD=>Steps.call kr R) (λD H=>?_);refine AL 1 [(19,Ai (i64.wrap ((i64.wrap (x1+(p0.A9.length:Int)))+x2)))] H λD H=>?_;have A1:=A.Ef 0 (pr:=[bp0]) (.cons 2 rfl (by simp[Ck.ids]) .nil);obtain⟨x3,X,M⟩:=AJ M;obtain⟨v1,Z,R,rfl,A1⟩:=OW (av:=[.agg (CX p0.BV wp0_24)]) (hc:=((by kernel_rfl:CQ (cfg.still 64) [.agg (CX p0.BV wp0_24)]=[.agg (CX p0.BV (GV wp0_24))]).trans (by simp only[hwp0_24.c,hwp0_24.c2]<;>rfl))) X A1;replace A:=A.Th A1;refine BP 24 (Ai x3) Z [(20,bp0),(14,bp0),(8,bp0),(3,bp0)] (bp0::g.BW) H (λD=>Steps.call kr R) (λD H=>?_);refine AK 2 [(2,Ai (i64.wrap ((i64.wrap ((i64.wrap (x1+(p0.A9.length:Int)))+x2))+x3)))] H λD H=>AY ?_;obtain rfl:=Ar M;exact⟨.inl rfl,_,rH H,rfl,A.k4 2 0 1 3⟩
def CR(p0:List AS)(s:A8×Int×Int):Option ((A8×Int×Int)⊕((A8)⊕(A8×Bool))):=
 match s with
 |(x1,x2,x3)=>Ag (decide (x3<(p0.length:Int))) (((Kx p0 x3).bind λx10=>Ag x1.E8 (some (.inr false)) (Ag (x10.Kind==1) (Ag (((x1.Cn||(!(x10.Cb.Data==([]:UV))))||(decide (x10.B9<0)))||(!(x10.Bytes==([]:UV)))) (some (.inr false)) (some (.inl (({x1 with Cn:=true,Partial:=x10.Cb}:A8),x10.B9)))) (Ag (x10.Kind==2) (Ag (((!x1.Cn)||(x10.Bytes==([]:UV)))||(decide ((x10.Bytes.length:Int)>x2))) (some (.inr false)) (B4 (decide (x1.Partial.Data.length+x10.Bytes.length<=9223372036854775807))<|some (.inl (({x1 with Partial:=({x1.Partial with Data:=x1.Partial.Data++x10.Bytes}:AM)}:A8),i64.wrap (x2 - (x10.Bytes.length:Int)))))) (Ag (x10.Kind==3) (Ag ((!x1.Cn)||(x2 !=0)) (some (.inr false)) (B4 (L1 168 (x1.L.length+([x1.Partial]:List AM).length))<|some (.inl (({x1 with L:=(x1.L++([x1.Partial]:List AM)),Cn:=false,Partial:=(⟨([]:UV),([]:UV),(0:Int),(0:Int),(0:Int),(0:Int),([]:UV),([]:UV),(0:Int),(0:Int),(⟨(0:Int),(0:Int)⟩:Ax),([]:List AB),([]:UV)⟩:AM)}:A8),x2)))) (Ag (x10.Kind==4) (Ag x1.Cn (some (.inr false)) (some (.inl (({x1 with E8:=true}:A8),x2)))) (some (.inr false)))))):Option ((A8×Int)⊕(Bool))).bind λo2=>(match o2 with| .inl (x7,x8)=>some (.inl (x7,x8,i64.wrap (x3+1)))| .inr x9=>some (.inr (.inr (x1,x9))))) (some (.inr (.inl x1)))
def C1(p0:List AS):Option (A8×Bool):=
 (loop (CR p0) ((⟨([]:List AM),false,(0:Int),(0:Int),false,(⟨([]:UV),([]:UV),(0:Int),(0:Int),(0:Int),(0:Int),([]:UV),([]:UV),(0:Int),(0:Int),(⟨(0:Int),(0:Int)⟩:Ax),([]:List AB),([]:UV)⟩:AM)⟩:A8),(0:Int),(0:Int))).bind λo1=>(match o1 with| .inl x4=>some (x4,true)| .inr (x5,x6)=>some (x5,x6))
theorem Hs{p0 rp0 q0 q1}(M:C1 p0=some (q0,q1))(A:HH g h [.Am rp0 71 (Am As p0)] F)(hc:CQ (cfg.still 28) av=[Ad rp0 p0.length]:=by kernel_rfl):∃v Q,Cf cfg g h 28 av v Q/\v=.tuple [.agg (Ay q0),.bool q1]/\HH g Q [.Am rp0 71 (Am As p0)] F:=by
 refine jS 105 [.cell 2 38,.tmp 3] hc ?_;unfold C1 at M;refine bg 105 [(0,Ad rp0 p0.length)] λD H=>?_;refine AE 2 ?_;obtain⟨h1,e1,A⟩:=A.pu (.cells none 2 TY);refine Bj 2 (pz h.size) e1 H λD t H=>?_;refine Bx 1 [] 1 H λD H=>AK 1 [(4,Ai 0)] H λD H=>AU (AE 3 (AK 3 [(7,Ad rp0 p0.length),(8,Ai (p0.length:Int)),(9,Ai 0)] H λD H=>Aa (id:=0) kr ?_));replace A:HH g h1 [.Am none 36 (Am AN ([]:List AM)),oB h.size TY,_] F:=A.Kz 36;obtain⟨o1,O,M⟩:=AJ M;refine BJ (Q':=λe N Q=>(∃x4,e=.exit 0/\.inl x4=o1/\∃(w2:AD) (I:Wk w2 (vs AA x4.Partial.Extra)) (r2:Option Nat),Has N 105 [(2,pz h.size)]/\HH g Q [.Am r2 36 (Am AN x4.L),oB h.size (BA x4 (Ad r2 x4.L.length) w2),.Am rp0 71 (Am As p0)] F)\/(∃x5 x6,e=.ret/\.inr (x5,x6)=o1/\∃(w3:AD) (K:Wk w3 (vs AA x5.Partial.Extra)) (r3:Option Nat),Has N 105 [(2,pz h.size),(3,.bool x6)]/\HH g Q [.Am r3 36 (Am AN x5.L),oB h.size (BA x5 (Ad r3 x5.L.length) w3),.Am rp0 71 (Am As p0)] F)\/False) ?_ ?_
 ·refine B7 kr (λ(s:A8×Int×Int) N Q=>∃x1 x2 x3,(x1,x2,x3)=s/\∃(w1:AD) (G:Wk w1 (vs AA x1.Partial.Extra)) (r1:Option Nat),Has N 105 [(2,pz h.size),(4,Ai x2),(7,Ad rp0 p0.length),(8,Ai (p0.length:Int)),(9,Ai x3)]/\HH g Q [.Am r1 36 (Am AN x1.L),oB h.size (BA x1 (Ad r1 x1.L.length) w1),.Am rp0 71 (Am As p0)] F) O ⟨_,_,_,rfl,.slice none 0,kU,none,H.ls,A⟩ ?_;intro s q D h2 hI M;obtain⟨x1,x2,x3,rfl,w1,G,r1,H,A⟩:=hI;unfold CR at M;refine AE 1 (AK 1 [(10,.bool (decide (x3<(p0.length:Int))))] H λD H=>AU (Ac 10 H M (λB M H=>?_) λB M H=>?_))
  ·refine By id (AU ?_);obtain⟨o2,O,M⟩:=AJ M;refine BJ (Q':=λe N Q=>(∃x7 x8,e=.normal/\.inl (x7,x8)=o2/\∃(w4:AD) (T:Wk w4 (vs AA x7.Partial.Extra)) (r4:Option Nat),Has N 105 [(2,pz h.size),(4,Ai x8),(7,Ad rp0 p0.length),(8,Ai (p0.length:Int)),(9,Ai x3)]/\HH g Q [.Am r4 36 (Am AN x7.L),oB h.size (BA x7 (Ad r4 x7.L.length) w4),.Am rp0 71 (Am As p0)] F)\/(∃x9,e=.ret/\.inr x9=o2/\Has N 105 [(2,pz h.size),(3,.bool x9)]/\HH g Q [.Am r1 36 (Am AN x1.L),oB h.size (BA x1 (Ad r1 x1.L.length) w1),.Am rp0 71 (Am As p0)] F)\/False) ?_ ?_
   ·replace M:=O;refine Aa (id:=1) kr ?_;refine AE 4 ?_;obtain⟨x10,X,M⟩:=AJ M;obtain⟨i1,er1,_,X,U⟩:=HH.ir CY (by decide) A 2 (xs:=p0) rfl X;refine Az 11 (.ptr (some (i1,x3.toNat*17))) h2 H (λD=>.of (Sc (s:=GA rp0 p0.length) kr X)) λD t H=>?_;refine Az 12 _ _ H (λD=>.of (Bt kr (YV CY (HH.row A 2 rfl er1) U 0 17 (zd rfl)))) λD t H=>?_;obtain⟨Z,e2,A⟩:=A.pu (.cells none 2 [Ai 0,.str eZ,.str eZ,Ab 0,Ai 0,Ai 0,Ai 0,.str eZ,.str eZ,Ai 0,Ai 0,Ai 0,Ai 0,.slice none 0,.str eZ,Ai 0,.str eZ]);refine Bj 6 (pz h2.size) e2 H λD t H=>?_;obtain⟨J,X,A⟩:=A.s0 0 (As x10);refine Cx X H λD t H=>?_;refine BN id (AU (AE 2 (AX 1 [] 14 2 4 A H λD t H=>?_)));refine BN id (Ac 14 H M (λB M H=>?_) λB M H=>?_)
    ·refine AE 3 (Az 15 _ _ H (λD=>.of (Bt kr (A.GL 2 rfl (o:=0) (n:=19) ⟨zd rfl,rfl⟩))) λD t H=>?_);obtain⟨h5,X,A1⟩:=A.st 2 rfl (o:=0) (new:=(BA x1 (Ad r1 x1.L.length) w1)) (ds:=(BA x1 (Ad r1 x1.L.length) w1)) (zd rfl) (by simp only[List.all,G.o]<;>rfl) rfl;replace A:HH g h5 [_,_,_,_] F:=A1;exact wq
    refine CC 2 id (AX 1 [] 17 0 0 A H λD t H=>?_);refine BN id (Aa (id:=2) kr ?_);refine AE 2 (AK 2 [(19,.bool (x10.Kind==1))] H λD H=>Ac 19 H M (λB M H=>?_) λB M H=>?_)
    ·refine AU (AE 18 (AX 1 [] 22 2 1 A H λD t H=>?_));refine AL 1 [(23,.bool x1.Cn)] H λD H=>Bp 5 (λN Q=>J=Q/\Has N 105 [(2,pz h.size),(6,pz h2.size),(7,Ad rp0 p0.length),(8,Ai (p0.length:Int)),(9,Ai x3),(28,.bool (x1.Cn||(!(x10.Cb.Data==eZ))))]) ?_ ?_
     ·cases B:(x1.Cn:Bool)with
      |true=>
       replace H:=H.kn 23 B;exact AL 5 [(28,.bool true)] H λD H=>Bu H B
      |false=>
       replace H:=H.kn 23 B;refine AX 2 [] 26 0 14 A H λD t H=>?_;exact AL 2 [(28,.bool (!(x10.Cb.Data==eZ)))] H λD H=>Bu H B
     intro t D Q C;obtain⟨e,H⟩:=C;subst e;refine AL 1 [(29,.bool (x1.Cn||(!(x10.Cb.Data==eZ))))] H λD H=>Bp 4 (λN Q=>J=Q/\Has N 105 [(2,pz h.size),(6,pz h2.size),(7,Ad rp0 p0.length),(8,Ai (p0.length:Int)),(9,Ai x3),(33,.bool ((x1.Cn||(!(x10.Cb.Data==eZ)))||(decide (x10.B9<0))))]) ?_ ?_
     ·cases B:(x1.Cn||(!(x10.Cb.Data==eZ)):Bool)with
      |true=>
       replace H:=H.kn 29 B;exact AL 4 [(33,.bool true)] H λD H=>Bu H B
      |false=>
       replace H:=H.kn 29 B;refine AX 1 [] 31 0 15 A H λD t H=>?_;exact AL 2 [(33,.bool (decide (x10.B9<0)))] H λD H=>Bu H B
     intro t D Q C;obtain⟨e,H⟩:=C;subst e;refine AL 1 [(34,.bool ((x1.Cn||(!(x10.Cb.Data==eZ)))||(decide (x10.B9<0))))] H λD H=>Bp 4 (λN Q=>J=Q/\Has N 105 [(2,pz h.size),(6,pz h2.size),(7,Ad rp0 p0.length),(8,Ai (p0.length:Int)),(9,Ai x3),(38,.bool (((x1.Cn||(!(x10.Cb.Data==eZ)))||(decide (x10.B9<0)))||(!(x10.Bytes==eZ))))]) ?_ ?_
     ·cases B:((x1.Cn||(!(x10.Cb.Data==eZ)))||(decide (x10.B9<0)):Bool)with
      |true=>
       replace H:=H.kn 34 B;exact AL 4 [(38,.bool true)] H λD H=>Bu H B
      |false=>
       replace H:=H.kn 34 B;refine AX 1 [] 36 0 16 A H λD t H=>?_;exact AL 2 [(38,.bool (!(x10.Bytes==eZ)))] H λD H=>Bu H B
     intro t D Q C;obtain⟨e,H⟩:=C;subst e;refine BN id (Ac 38 H M (λB M H=>?_) λB M H=>?_)
     ·refine AE 3 (Az 39 _ _ H (λD=>.of (Bt kr (A.GL 2 rfl (o:=0) (n:=19) ⟨zd rfl,rfl⟩))) λD t H=>?_);obtain⟨h6,X,A1⟩:=A.st 2 rfl (o:=0) (new:=(BA x1 (Ad r1 x1.L.length) w1)) (ds:=(BA x1 (Ad r1 x1.L.length) w1)) (zd rfl) (by simp only[List.all,G.o]<;>rfl) rfl;replace A:HH g h6 [_,_,_,_] F:=A1;exact wq
     refine By id (Io 12 9 [(0,[]),(1,[]),(2,[]),(3,[]),(4,[]),(5,[1,3]),(6,[]),(7,[3]),(8,[])] ?_);refine AL 1 [(40,.ptr (some (h2.size,1)))] H λD H=>BP 41 (.agg (AN x10.Cb)) J [(1,h2.size)] (g.BW) H (λD=>.of (Bt kr (A.la 0 1 14))) (λD H=>?_);refine AL 1 [(42,.ptr (some (h2.size,15)))] H λD H=>BP 43 (Ai x10.B9) J [(3,h2.size),(1,h2.size)] (g.BW) H (λD=>.of (Fb kr (A.l1 0 15))) (λD H=>?_);refine AL 1 [(44,.ptr (some (h.size,1)))] H λD H=>?_;replace A:=A.k4 2 0 1 3;have A1:=A.Ef 1 (pr:=[h2.size,h2.size]) (.cons 0 rfl (by simp[Ck.ids]) (.cons 0 rfl (by simp[Ck.ids]) .nil));obtain⟨h7,X,A1⟩:=A1.st 0 rfl (o:=1) (new:=[.bool true]) (ds:=[Ad r1 x1.L.length,.bool true,Ai x1.E,Ai x1.At,.bool x1.E8,.str x1.Partial.Name,.str x1.Partial.BG,Ab x1.Partial.Kind,Ai x1.Partial.Mode,Ai x1.Partial.Cq,Ai x1.Partial.Cy,.str x1.Partial.A6,.str x1.Partial.A7,Ai x1.Partial.BY,Ai x1.Partial.Bi,Ai x1.Partial.Time.DR,Ai x1.Partial.Time.CE,w1,.str x1.Partial.Data]) (zd rfl) rfl rfl;replace A:=A.kj A1;refine L5 (.tuple []) h7 [(3,h2.size),(1,h2.size)] (h2.size::h2.size::g.BW) H (λD=>.of (XU kr rfl X)) (λD H=>?_);refine AL 1 [(45,.ptr (some (h.size,5)))] H λD H=>?_;have A1:=A.Ef 1 (pr:=[h2.size]) (.cons 0 rfl (by simp[Ck.ids]) .nil);obtain⟨h8,X,A1⟩:=A1.st 0 rfl (o:=5) (new:=(AN x10.Cb)) (ds:=[Ad r1 x1.L.length,.bool true,Ai x1.E,Ai x1.At,.bool x1.E8,.str x10.Cb.Name,.str x10.Cb.BG,Ab x10.Cb.Kind,Ai x10.Cb.Mode,Ai x10.Cb.Cq,Ai x10.Cb.Cy,.str x10.Cb.A6,.str x10.Cb.A7,Ai x10.Cb.BY,Ai x10.Cb.Bi,Ai x10.Cb.Time.DR,Ai x10.Cb.Time.CE,vs AA x10.Cb.Extra,.str x10.Cb.Data]) (zd rfl) rfl rfl
     replace A:=A.kj A1;refine L5 (.tuple []) h8 [(3,h2.size),(1,h2.size)] (h2.size::g.BW) H (λD=>.of (Pg kr (MI X rfl))) (λD H=>?_);refine AL 1 [(4,Ai x10.B9)] H λD H=>An ?_;replace A:=A.k3 2 0 3;exact .inl ⟨_,_,rfl,Ar M,vs AA x10.Cb.Extra,lf,_,H.ls,A⟩
    refine AE 2 (AK 2 [(46,.bool (x10.Kind==2))] H λD H=>Ac 46 H M (λB M H=>?_) λB M H=>?_)
    ·refine AU (AE 15 (AX 1 [] 49 2 1 A H λD t H=>?_));refine AL 2 [(51,.bool (!x1.Cn))] H λD H=>Bp 4 (λN Q=>J=Q/\Has N 105 [(2,pz h.size),(4,Ai x2),(6,pz h2.size),(7,Ad rp0 p0.length),(8,Ai (p0.length:Int)),(9,Ai x3),(55,.bool ((!x1.Cn)||(x10.Bytes==eZ)))]) ?_ ?_
     ·cases B:(!x1.Cn:Bool)with
      |true=>
       replace H:=H.kn 51 B;exact AL 4 [(55,.bool true)] H λD H=>Bu H B
      |false=>
       replace H:=H.kn 51 B;refine AX 1 [] 53 0 16 A H λD t H=>?_;exact AL 2 [(55,.bool (x10.Bytes==eZ))] H λD H=>Bu H B
     intro t D Q C;obtain⟨e,H⟩:=C;subst e;refine AL 1 [(56,.bool ((!x1.Cn)||(x10.Bytes==eZ)))] H λD H=>Bp 6 (λN Q=>J=Q/\Has N 105 [(2,pz h.size),(4,Ai x2),(6,pz h2.size),(7,Ad rp0 p0.length),(8,Ai (p0.length:Int)),(9,Ai x3),(62,.bool (((!x1.Cn)||(x10.Bytes==eZ))||(decide ((x10.Bytes.length:Int)>x2))))]) ?_ ?_
     ·cases B:((!x1.Cn)||(x10.Bytes==eZ):Bool)with
      |true=>
       replace H:=H.kn 56 B;exact AL 6 [(62,.bool true)] H λD H=>Bu H B
      |false=>
       replace H:=H.kn 56 B;refine AX 1 [] 58 0 16 A H λD t H=>?_;exact AL 4 [(62,.bool (decide ((x10.Bytes.length:Int)>x2)))] H λD H=>Bu H B
     intro t D Q C;obtain⟨e,H⟩:=C;subst e;refine BN id (Ac 62 H M (λB M H=>?_) λB M H=>?_)
     ·refine AE 3 (Az 63 _ _ H (λD=>.of (Bt kr (A.GL 2 rfl (o:=0) (n:=19) ⟨zd rfl,rfl⟩))) λD t H=>?_);obtain⟨h9,X,A1⟩:=A.st 2 rfl (o:=0) (new:=(BA x1 (Ad r1 x1.L.length) w1)) (ds:=(BA x1 (Ad r1 x1.L.length) w1)) (zd rfl) (by simp only[List.all,G.o]<;>rfl) rfl;replace A:HH g h9 [_,_,_,_] F:=A1;exact wq
     refine CC 9 id (AX 2 [] 66 2 18 A H λD t H=>?_);refine AX 1 [] 68 0 16 A H λD t H=>?_;obtain⟨B,M⟩:=Ap M;refine Az 69 (.str (x1.Partial.Data++x10.Bytes)) J H (λD=>.of (Dh kr B)) λD t H=>?_;obtain⟨Y,X,A1⟩:=A.st 2 rfl (o:=18) (new:=[.str (x1.Partial.Data++x10.Bytes)]) (ds:=[Ad r1 x1.L.length,.bool x1.Cn,Ai x1.E,Ai x1.At,.bool x1.E8,.str x1.Partial.Name,.str x1.Partial.BG,Ab x1.Partial.Kind,Ai x1.Partial.Mode,Ai x1.Partial.Cq,Ai x1.Partial.Cy,.str x1.Partial.A6,.str x1.Partial.A7,Ai x1.Partial.BY,Ai x1.Partial.Bi,Ai x1.Partial.Time.DR,Ai x1.Partial.Time.CE,w1,.str (x1.Partial.Data++x10.Bytes)]) (zd rfl) rfl rfl;replace A:HH g Y [_,_,oB h.size [_,_,_,_,_,_,_,_,_,_,_,_,_,_,_,_,_,_,.str (x1.Partial.Data++x10.Bytes)],_] F:=A1;refine Bz 2 [] X H λD t H=>?_;refine Dy 6 id (AX 2 [(72,Ai x2)] 74 0 16 A H λD t H=>?_);refine BU 3 [(2,pz h.size),(4,Ai (i64.wrap (x2 - (x10.Bytes.length:Int)))),(7,Ad rp0 p0.length),(8,Ai (p0.length:Int)),(9,Ai x3)] H λD H=>An ?_;replace A:=A.k3 1 2 3;exact .inl ⟨_,_,rfl,Ar M,w1,G,_,H.ls,A⟩
    refine AE 2 (AK 2 [(77,.bool (x10.Kind==3))] H λD H=>Ac 77 H M (λB M H=>?_) λB M H=>?_)
    ·refine AU (AE 7 (AX 1 [] 80 2 1 A H λD t H=>?_));refine AL 2 [(82,.bool (!x1.Cn))] H λD H=>Ch 3 82 (λbb=>[(85,.bool (bb||(x2 !=0)))]) H λD H=>?_;refine BN id (Ac 85 H M (λB M H=>?_) λB M H=>?_)
     ·refine AE 3 (Az 86 _ _ H (λD=>.of (Bt kr (A.GL 2 rfl (o:=0) (n:=19) ⟨zd rfl,rfl⟩))) λD t H=>?_);obtain⟨h11,X,A1⟩:=A.st 2 rfl (o:=0) (new:=(BA x1 (Ad r1 x1.L.length) w1)) (ds:=(BA x1 (Ad r1 x1.L.length) w1)) (zd rfl) (by simp only[List.all,G.o]<;>rfl) rfl;replace A:HH g h11 [_,_,_,_] F:=A1;exact wq
     refine CC 8 id (AX 1 [] 88 2 0 A H λD t H=>?_);refine BQ 1 [] 90 _ _ H (λD=>.of (Bt kr (A.GL 2 rfl (o:=5) (n:=14) ⟨zd rfl,rfl⟩))) λD t H=>?_;obtain⟨h12,e3,A⟩:=A.pL 36 (AN x1.Partial);refine Az 91 (Ad (some J.size) (([x1.Partial]:List AM).length)) h12 H (λD=>.of (Za (gw (L:=(Bf x1.Partial w1)) kr (by simp only[List.map,G.c]<;>rfl) rfl) (congrArg some e3.symm))) λD t H=>?_;obtain⟨B,M⟩:=Ap M;obtain⟨r5,h13,X,A1⟩:=HH.Jm Gg (by decide) A 2 (xs:=x1.L) (ys:=([x1.Partial]:List AM)) rfl (DO A 0 rfl (n:=([x1.Partial]:List AM).length) (z:=14) rfl (by decide)) rfl rfl B;replace A:HH g h13 [.Am (some J.size) 36 ((AN x1.Partial)),_,.Am r5 36 (Am AN (x1.L++([x1.Partial]:List AM))),_,_] F:=A1;replace A:=A.k4 1 2 3 4;refine Az 92 _ _ H (λD=>.of (GX (s:=GA r1 x1.L.length) kr X)) λD t H=>?_;obtain⟨h14,X,A1⟩:=A.st 2 rfl (o:=0) (new:=[Ad r5 ((x1.L++([x1.Partial]:List AM)).length)]) (ds:=(BA x1 (Ad r5 ((x1.L++([x1.Partial]:List AM)).length)) w1)) (zd rfl) rfl rfl;replace A:HH g h14 [_,_,oB h.size [Ad r5 ((x1.L++([x1.Partial]:List AM)).length),_,_,_,_,_,_,_,_,_,_,_,_,_,_,_,_,_,_],_] F:=A1;refine Bz 1 [] X H λD t H=>?_;refine Dy 5 id ?_;obtain⟨h15,X,A1⟩:=A.st 2 rfl (o:=1) (new:=[.bool false]) (ds:=[Ad r5 ((x1.L++([x1.Partial]:List AM)).length),.bool false,Ai x1.E,Ai x1.At,.bool x1.E8,.str x1.Partial.Name,.str x1.Partial.BG,Ab x1.Partial.Kind,Ai x1.Partial.Mode,Ai x1.Partial.Cq,Ai x1.Partial.Cy,.str x1.Partial.A6,.str x1.Partial.A7,Ai x1.Partial.BY,Ai x1.Partial.Bi,Ai x1.Partial.Time.DR,Ai x1.Partial.Time.CE,w1,.str x1.Partial.Data]) (zd rfl) rfl rfl
     replace A:HH g h15 [_,_,oB h.size [_,.bool false,_,_,_,_,_,_,_,_,_,_,_,_,_,_,_,_,_],_] F:=A1;refine Bz 2 [(94,.agg lH)] X H λD t H=>?_;obtain⟨h16,X,A1⟩:=A.st 2 rfl (o:=5) (new:=OB) (ds:=[Ad r5 ((x1.L++([x1.Partial]:List AM)).length),.bool false,Ai x1.E,Ai x1.At,.bool x1.E8,.str eZ,.str eZ,Ab 0,Ai 0,Ai 0,Ai 0,.str eZ,.str eZ,Ai 0,Ai 0,Ai 0,Ai 0,.slice none 0,.str eZ]) (zd rfl) rfl rfl;replace A:HH g h16 [_,_,oB h.size [_,_,_,_,_,.str eZ,.str eZ,Ab 0,Ai 0,Ai 0,Ai 0,.str eZ,.str eZ,Ai 0,Ai 0,Ai 0,Ai 0,.slice none 0,.str eZ],_] F:=A1;refine Fi 1 [] X H λD t H=>?_;refine An ?_;replace A:=A.k3 1 2 3;exact .inl ⟨_,_,rfl,Ar M,.slice none 0,kU,_,H.ls,A⟩
    refine AE 2 (AK 2 [(97,.bool (x10.Kind==4))] H λD H=>Ac 97 H M (λB M H=>?_) λB M H=>?_)
    ·refine AU (AE 2 (AX 1 [] 100 2 1 A H λD t H=>?_));refine BN id (Ac 100 H M (λB M H=>?_) λB M H=>?_)
     ·refine AE 3 (Az 101 _ _ H (λD=>.of (Bt kr (A.GL 2 rfl (o:=0) (n:=19) ⟨zd rfl,rfl⟩))) λD t H=>?_);obtain⟨h17,X,A1⟩:=A.st 2 rfl (o:=0) (new:=(BA x1 (Ad r1 x1.L.length) w1)) (ds:=(BA x1 (Ad r1 x1.L.length) w1)) (zd rfl) (by simp only[List.all,G.o]<;>rfl) rfl;replace A:HH g h17 [_,_,_,_] F:=A1;exact wq
     refine Di 2 id ?_;obtain⟨h18,X,A⟩:=A.s2 4 [.bool true];refine Bz 1 [] X H λD t H=>?_;refine An ?_;replace A:=A.k3 1 2 3;exact .inl ⟨_,_,rfl,Ar M,w1,G,_,H.ls,A⟩
    refine AE 3 (Az 18 _ _ H (λD=>.of (Bt kr (A.GL 2 rfl (o:=0) (n:=19) ⟨zd rfl,rfl⟩))) λD t H=>?_);obtain⟨h19,X,A1⟩:=A.st 2 rfl (o:=0) (new:=(BA x1 (Ad r1 x1.L.length) w1)) (ds:=(BA x1 (Ad r1 x1.L.length) w1)) (zd rfl) (by simp only[List.all,G.o]<;>rfl) rfl;replace A:HH g h19 [_,_,_,_] F:=A1;exact wq
   intro e D h20 V;rcases V with⟨x7,x8,rfl,rfl,w4,T,r4,H,A⟩|⟨x9,rfl,rfl,H,A⟩|W
   ·refine CF 2 (BU 2 [(2,pz h.size),(4,Ai x8),(7,Ad rp0 p0.length),(8,Ai (p0.length:Int)),(9,Ai (i64.wrap (x3+1)))] H λD H=>An ?_);exact nx M ⟨_,_,_,rfl,w4,T,_,H.ls,A⟩
   ·exact nr M λe=>Or.inr (.inl ⟨_,_,rfl,e,w1,G,_,H.ls,A⟩)
   exact W.elim
  refine Be (i:=0) kr ?_;exact nr M λe=>.inl ⟨_,rfl,e,w1,G,_,H.ls,A⟩
 intro e D h21 V;rcases V with⟨x4,rfl,rfl,w2,I,r2,H,A⟩|⟨x5,x6,rfl,rfl,w3,K,r3,H,A⟩|W
 ·refine AE 3 (Az 104 _ _ H (λD=>.of (Bt kr (A.GL 1 rfl (o:=0) (n:=19) ⟨zd rfl,rfl⟩))) λD t H=>?_);obtain⟨h22,X,A1⟩:=A.st 1 rfl (o:=0) (new:=(BA x4 (Ad r2 x4.L.length) w2)) (ds:=(BA x4 (Ad r2 x4.L.length) w2)) (zd rfl) (by simp only[List.all,I.o]<;>rfl) rfl;replace A:HH g h22 [_,_,_] F:=A1;refine Cx X H λD t H=>?_;refine AK 1 [(3,.bool true)] H λD H=>AY ?_;obtain⟨rfl,rfl⟩:=Bn M;refine⟨.inl rfl,.tuple [.agg (BA x4 (Ad r2 x4.L.length) w2),.bool true],Cc (.cell (rT H) (Cg kr kr (A.la 1 0 19)) (.tmp (rT H) .nil)),?_⟩;obtain⟨h23,S,A1⟩:=(A.front 0 rfl).eF (n:=x4.L.length) (z:=14) (Gg.JM _) (by decide);replace A:HH g h23 [_,_] F:=A1;refine⟨.tuple [.agg (Ay x4),.bool true],h23,by first|rfl|(simp only[P4,PJ,PF,PR,Pu,NR,Ni,M3,Nl,M7,M9,NG,N2,Pl,P5,PM,PG,PZ,zh,I.z,S]<;>rfl),?_⟩;replace A:=A.k1 1;exact⟨rfl,A⟩
 ·obtain⟨rfl,rfl⟩:=Bn M;refine⟨.inl rfl,.tuple [.agg (BA x5 (Ad r3 x5.L.length) w3),.bool x6],Cc (.cell (rT H) (Cg kr kr (A.la 1 0 19)) (.tmp (rT H) .nil)),?_⟩;obtain⟨h24,S,A1⟩:=(A.front 0 rfl).eF (n:=x5.L.length) (z:=14) (Gg.JM _) (by decide);replace A:HH g h24 [_,_] F:=A1;refine⟨.tuple [.agg (Ay x5),.bool x6],h24,by first|rfl|(simp only[P4,PJ,PF,PR,Pu,NR,Ni,M3,Nl,M7,M9,NG,N2,Pl,P5,PM,PG,PZ,zh,K.z,S]<;>rfl),?_⟩;replace A:=A.k1 1;exact⟨rfl,A⟩
 exact W.elim
def EF(p0:List AB)(p1:List AB)(s:Int):Option ((Int)⊕((Unit)⊕(Bool))):=
 match s with
 |x1=>Ag (decide (x1<(p0.length:Int))) ((Kx p0 x1).bind λx3=>(Kx p1 x1).bind λx4=>(gO cfg.P 100 [.str x3.Key,.str x3.Value] [.str x4.Key,.str x4.Value]).bind λx5=>Ag (!x5) (some (.inr (.inr false))) (some (.inl (i64.wrap (x1+1))))) (some (.inr (.inl ())))
def FT(p0:List AB)(p1:List AB):Option (Bool):=
 Ag ((p0.length:Int) !=(p1.length:Int)) (some false) ((loop (EF p0 p1) (0:Int)).bind λo1=>(match o1 with| .inl _=>some true| .inr x2=>some x2))
theorem NX{p0 p1 q0}(M:FT p0 p1=some q0):tl 65 [vs AA p0,vs AA p1] (.bool q0):=by
 intro g h F av A hc;refine Dp 26 [.tmp 4] hc ?_;unfold FT at M;refine bg 26 [(0,vs AA p0),(1,vs AA p1)] λD H=>?_;refine AE 1 (AK 1 [] H λD H=>AU (AE 5 (AK 5 [(10,.bool ((p0.length:Int) !=(p1.length:Int)))] H λD H=>Ac 10 H M (λB M H=>?_) λB M H=>?_)))
 ·refine AE 1 (AK 1 [(4,.bool false)] H λD H=>AY ?_);exact wd
 refine By id (AU (AE 1 (AK 1 [(5,Ai 0)] H λD H=>Aa (id:=0) kr ?_)));obtain⟨o1,O,M⟩:=AJ M;refine BJ (Q':=λe N Q=>(e=.exit 0/\.inl ()=o1/\Has N 26 []/\HH g Q [] F)\/(∃x2,e=.ret/\.inr x2=o1/\Has N 26 [(4,.bool x2)]/\HH g Q [] F)\/False) ?_ ?_
 ·refine B7 kr (λ(s:Int) N Q=>∃x1,x1=s/\Has N 26 [(0,vs AA p0),(1,vs AA p1),(5,Ai x1)]/\HH g Q [] F) O ⟨_,rfl,H.ls,A⟩ ?_;intro s q D h1 hI M;obtain⟨x1,rfl,H,A⟩:=hI;unfold EF at M;refine AU (AE 4 (AK 4 [(14,.bool (decide (x1<(p0.length:Int))))] H λD H=>Ac 14 H M (λB M H=>?_) λB M H=>?_))
  ·refine By id (AU (Aa (id:=1) kr ?_));refine AU (G7 6 9 ?_);obtain⟨x3,X,M⟩:=AJ M;refine BQ 2 [] 19 (.Aw [.str x3.Key,.str x3.Value]) h1 H (λD=>.of (JB (e:=AA) (x:=x3) BK (by decide) kr X)) λD t H=>?_;refine Az 20 (.agg [.str x3.Key,.str x3.Value]) h1 H (λD=>.of (Jj kr)) λD t H=>?_;obtain⟨x4,X,M⟩:=AJ M;refine BQ 2 [] 23 (.Aw [.str x4.Key,.str x4.Value]) h1 H (λD=>.of (JB (e:=AA) (x:=x4) BK (by decide) kr X)) λD t H=>?_;refine Az 24 (.agg [.str x4.Key,.str x4.Value]) h1 H (λD=>.of (Jj kr)) λD t H=>?_;obtain⟨x5,X,M⟩:=AJ M;refine Az 25 (.bool (!x5)) h1 H (λD=>.of (kM kr X)) λD t H=>?_;refine BN id (Ac 25 H M (λB M H=>?_) λB M H=>?_)
   ·exact uh
   refine Di 3 id (BU 3 [(0,vs AA p0),(1,vs AA p1),(5,Ai (i64.wrap (x1+1)))] H λD H=>An ?_);exact vo
  exact v6
 intro e D h2 V;rcases V with⟨rfl,rfl,H,A⟩|⟨x2,rfl,rfl,H,A⟩|W
 ·exact uj
 ·exact wd
 exact W.elim
def EJ(p0:AM)(p1:AM):Option (Bool):=
 (Ag ((((((((((p0.Name==p1.Name)&&(p0.BG==p1.BG))&&(p0.Kind==p1.Kind))&&(p0.Mode==p1.Mode))&&(p0.Cq==p1.Cq))&&(p0.Cy==p1.Cy))&&(p0.A6==p1.A6))&&(p0.A7==p1.A7))&&(p0.BY==p1.BY))&&(p0.Bi==p1.Bi)) ((gO cfg.P 33 [Ai p0.Time.DR,Ai p0.Time.CE] [Ai p1.Time.DR,Ai p1.Time.CE]).bind λx2=>some x2) (some false):Option (Bool)).bind λx1=>(Ag x1 ((FT p0.Extra p1.Extra).bind λx4=>some x4) (some false):Option (Bool)).bind λx3=>some (x3&&(p0.Data==p1.Data))
theorem Jh{p0 p1 q0}(M:EJ p0 p1=some q0):tl 30 [.agg (AN p0),.agg (AN p1)] (.bool q0):=by
 intro g h F av A hc;refine Dp 94 [.tmp 4] hc ?_;unfold EJ at M;refine bg 94 [(0,.agg (AN p0)),(1,.agg (AN p1))] λD H=>?_;refine AE 3 ?_;obtain⟨h1,e1,A⟩:=A.pu (.cells none 2 (AN p0));refine Bj 2 (pz h.size) e1 H λD t H=>?_;obtain⟨h2,e2,A⟩:=A.pu (.cells none 2 (AN p1));refine Bj 3 (pz h1.size) e2 H λD t H=>?_;refine Bx 1 [] 90 H λD H=>AX 1 [] 6 1 0 A H λD t H=>?_;refine AX 1 [] 8 0 0 A H λD t H=>?_;refine AL 2 [(10,.bool (p0.Name==p1.Name))] H λD H=>Bp 6 (λN Q=>h2=Q/\Has N 94 [(2,pz h.size),(3,pz h1.size),(16,.bool ((p0.Name==p1.Name)&&(p0.BG==p1.BG)))]) ?_ ?_
 ·cases B:(p0.Name==p1.Name:Bool)with
  |true=>
   replace H:=H.kn 10 B;refine AX 1 [] 12 1 1 A H λD t H=>?_;refine AX 1 [] 14 0 1 A H λD t H=>?_;exact AL 2 [(16,.bool (p0.BG==p1.BG))] H λD H=>Bu H B
  |false=>
   replace H:=H.kn 10 B;exact AL 6 [(16,.bool false)] H λD H=>Bu H B
 intro t D Q C;obtain⟨e,H⟩:=C;subst e;refine AL 1 [(17,.bool ((p0.Name==p1.Name)&&(p0.BG==p1.BG)))] H λD H=>Bp 6 (λN Q=>h2=Q/\Has N 94 [(2,pz h.size),(3,pz h1.size),(23,.bool (((p0.Name==p1.Name)&&(p0.BG==p1.BG))&&(p0.Kind==p1.Kind)))]) ?_ ?_
 ·cases B:((p0.Name==p1.Name)&&(p0.BG==p1.BG):Bool)with
  |true=>
   replace H:=H.kn 17 B;refine AX 1 [] 19 1 2 A H λD t H=>?_;refine AX 1 [] 21 0 2 A H λD t H=>?_;exact AL 2 [(23,.bool (p0.Kind==p1.Kind))] H λD H=>Bu H B
  |false=>
   replace H:=H.kn 17 B;exact AL 6 [(23,.bool false)] H λD H=>Bu H B
 intro t D Q C;obtain⟨e,H⟩:=C;subst e;refine AL 1 [(24,.bool (((p0.Name==p1.Name)&&(p0.BG==p1.BG))&&(p0.Kind==p1.Kind)))] H λD H=>Bp 6 (λN Q=>h2=Q/\Has N 94 [(2,pz h.size),(3,pz h1.size),(30,.bool ((((p0.Name==p1.Name)&&(p0.BG==p1.BG))&&(p0.Kind==p1.Kind))&&(p0.Mode==p1.Mode)))]) ?_ ?_
 ·cases B:(((p0.Name==p1.Name)&&(p0.BG==p1.BG))&&(p0.Kind==p1.Kind):Bool)with
  |true=>
   replace H:=H.kn 24 B;refine AX 1 [] 26 1 3 A H λD t H=>?_;refine AX 1 [] 28 0 3 A H λD t H=>?_;exact AL 2 [(30,.bool (p0.Mode==p1.Mode))] H λD H=>Bu H B
  |false=>
   replace H:=H.kn 24 B;exact AL 6 [(30,.bool false)] H λD H=>Bu H B
 intro t D Q C;obtain⟨e,H⟩:=C;subst e;refine AL 1 [(31,.bool ((((p0.Name==p1.Name)&&(p0.BG==p1.BG))&&(p0.Kind==p1.Kind))&&(p0.Mode==p1.Mode)))] H λD H=>Bp 6 (λN Q=>h2=Q/\Has N 94 [(2,pz h.size),(3,pz h1.size),(37,.bool (((((p0.Name==p1.Name)&&(p0.BG==p1.BG))&&(p0.Kind==p1.Kind))&&(p0.Mode==p1.Mode))&&(p0.Cq==p1.Cq)))]) ?_ ?_
 ·cases B:((((p0.Name==p1.Name)&&(p0.BG==p1.BG))&&(p0.Kind==p1.Kind))&&(p0.Mode==p1.Mode):Bool)with
  |true=>
   replace H:=H.kn 31 B;refine AX 1 [] 33 1 4 A H λD t H=>?_;refine AX 1 [] 35 0 4 A H λD t H=>?_;exact AL 2 [(37,.bool (p0.Cq==p1.Cq))] H λD H=>Bu H B
  |false=>
   replace H:=H.kn 31 B;exact AL 6 [(37,.bool false)] H λD H=>Bu H B
 intro t D Q C;obtain⟨e,H⟩:=C;subst e;refine AL 1 [(38,.bool (((((p0.Name==p1.Name)&&(p0.BG==p1.BG))&&(p0.Kind==p1.Kind))&&(p0.Mode==p1.Mode))&&(p0.Cq==p1.Cq)))] H λD H=>Bp 6 (λN Q=>h2=Q/\Has N 94 [(2,pz h.size),(3,pz h1.size),(44,.bool ((((((p0.Name==p1.Name)&&(p0.BG==p1.BG))&&(p0.Kind==p1.Kind))&&(p0.Mode==p1.Mode))&&(p0.Cq==p1.Cq))&&(p0.Cy==p1.Cy)))]) ?_ ?_
 ·cases B:(((((p0.Name==p1.Name)&&(p0.BG==p1.BG))&&(p0.Kind==p1.Kind))&&(p0.Mode==p1.Mode))&&(p0.Cq==p1.Cq):Bool)with
  |true=>
   replace H:=H.kn 38 B;refine AX 1 [] 40 1 5 A H λD t H=>?_;refine AX 1 [] 42 0 5 A H λD t H=>?_;exact AL 2 [(44,.bool (p0.Cy==p1.Cy))] H λD H=>Bu H B
  |false=>
   replace H:=H.kn 38 B;exact AL 6 [(44,.bool false)] H λD H=>Bu H B
 intro t D Q C;obtain⟨e,H⟩:=C;subst e;refine AL 1 [(45,.bool ((((((p0.Name==p1.Name)&&(p0.BG==p1.BG))&&(p0.Kind==p1.Kind))&&(p0.Mode==p1.Mode))&&(p0.Cq==p1.Cq))&&(p0.Cy==p1.Cy)))] H λD H=>Bp 6 (λN Q=>h2=Q/\Has N 94 [(2,pz h.size),(3,pz h1.size),(51,.bool (((((((p0.Name==p1.Name)&&(p0.BG==p1.BG))&&(p0.Kind==p1.Kind))&&(p0.Mode==p1.Mode))&&(p0.Cq==p1.Cq))&&(p0.Cy==p1.Cy))&&(p0.A6==p1.A6)))]) ?_ ?_
 ·cases B:((((((p0.Name==p1.Name)&&(p0.BG==p1.BG))&&(p0.Kind==p1.Kind))&&(p0.Mode==p1.Mode))&&(p0.Cq==p1.Cq))&&(p0.Cy==p1.Cy):Bool)with
  |true=>
   replace H:=H.kn 45 B;refine AX 1 [] 47 1 6 A H λD t H=>?_;refine AX 1 [] 49 0 6 A H λD t H=>?_;exact AL 2 [(51,.bool (p0.A6==p1.A6))] H λD H=>Bu H B
  |false=>
   replace H:=H.kn 45 B;exact AL 6 [(51,.bool false)] H λD H=>Bu H B
 intro t D Q C;obtain⟨e,H⟩:=C;subst e;refine AL 1 [(52,.bool (((((((p0.Name==p1.Name)&&(p0.BG==p1.BG))&&(p0.Kind==p1.Kind))&&(p0.Mode==p1.Mode))&&(p0.Cq==p1.Cq))&&(p0.Cy==p1.Cy))&&(p0.A6==p1.A6)))] H λD H=>Bp 6 (λN Q=>h2=Q/\Has N 94 [(2,pz h.size),(3,pz h1.size),(58,.bool ((((((((p0.Name==p1.Name)&&(p0.BG==p1.BG))&&(p0.Kind==p1.Kind))&&(p0.Mode==p1.Mode))&&(p0.Cq==p1.Cq))&&(p0.Cy==p1.Cy))&&(p0.A6==p1.A6))&&(p0.A7==p1.A7)))]) ?_ ?_
 ·cases B:(((((((p0.Name==p1.Name)&&(p0.BG==p1.BG))&&(p0.Kind==p1.Kind))&&(p0.Mode==p1.Mode))&&(p0.Cq==p1.Cq))&&(p0.Cy==p1.Cy))&&(p0.A6==p1.A6):Bool)with
  |true=>
   replace H:=H.kn 52 B;refine AX 1 [] 54 1 7 A H λD t H=>?_;refine AX 1 [] 56 0 7 A H λD t H=>?_;exact AL 2 [(58,.bool (p0.A7==p1.A7))] H λD H=>Bu H B
  |false=>
   replace H:=H.kn 52 B;exact AL 6 [(58,.bool false)] H λD H=>Bu H B
 intro t D Q C;obtain⟨e,H⟩:=C;subst e;refine AL 1 [(59,.bool ((((((((p0.Name==p1.Name)&&(p0.BG==p1.BG))&&(p0.Kind==p1.Kind))&&(p0.Mode==p1.Mode))&&(p0.Cq==p1.Cq))&&(p0.Cy==p1.Cy))&&(p0.A6==p1.A6))&&(p0.A7==p1.A7)))] H λD H=>Bp 6 (λN Q=>h2=Q/\Has N 94 [(2,pz h.size),(3,pz h1.size),(65,.bool (((((((((p0.Name==p1.Name)&&(p0.BG==p1.BG))&&(p0.Kind==p1.Kind))&&(p0.Mode==p1.Mode))&&(p0.Cq==p1.Cq))&&(p0.Cy==p1.Cy))&&(p0.A6==p1.A6))&&(p0.A7==p1.A7))&&(p0.BY==p1.BY)))]) ?_ ?_
 ·cases B:((((((((p0.Name==p1.Name)&&(p0.BG==p1.BG))&&(p0.Kind==p1.Kind))&&(p0.Mode==p1.Mode))&&(p0.Cq==p1.Cq))&&(p0.Cy==p1.Cy))&&(p0.A6==p1.A6))&&(p0.A7==p1.A7):Bool)with
  |true=>
   replace H:=H.kn 59 B;refine AX 1 [] 61 1 8 A H λD t H=>?_;refine AX 1 [] 63 0 8 A H λD t H=>?_;exact AL 2 [(65,.bool (p0.BY==p1.BY))] H λD H=>Bu H B
  |false=>
   replace H:=H.kn 59 B;exact AL 6 [(65,.bool false)] H λD H=>Bu H B
 intro t D Q C;obtain⟨e,H⟩:=C;subst e;refine AL 1 [(66,.bool (((((((((p0.Name==p1.Name)&&(p0.BG==p1.BG))&&(p0.Kind==p1.Kind))&&(p0.Mode==p1.Mode))&&(p0.Cq==p1.Cq))&&(p0.Cy==p1.Cy))&&(p0.A6==p1.A6))&&(p0.A7==p1.A7))&&(p0.BY==p1.BY)))] H λD H=>Bp 6 (λN Q=>h2=Q/\Has N 94 [(2,pz h.size),(3,pz h1.size),(72,.bool ((((((((((p0.Name==p1.Name)&&(p0.BG==p1.BG))&&(p0.Kind==p1.Kind))&&(p0.Mode==p1.Mode))&&(p0.Cq==p1.Cq))&&(p0.Cy==p1.Cy))&&(p0.A6==p1.A6))&&(p0.A7==p1.A7))&&(p0.BY==p1.BY))&&(p0.Bi==p1.Bi)))]) ?_ ?_
 ·cases B:(((((((((p0.Name==p1.Name)&&(p0.BG==p1.BG))&&(p0.Kind==p1.Kind))&&(p0.Mode==p1.Mode))&&(p0.Cq==p1.Cq))&&(p0.Cy==p1.Cy))&&(p0.A6==p1.A6))&&(p0.A7==p1.A7))&&(p0.BY==p1.BY):Bool)with
  |true=>
   replace H:=H.kn 66 B;refine AX 1 [] 68 1 9 A H λD t H=>?_;refine AX 1 [] 70 0 9 A H λD t H=>?_;exact AL 2 [(72,.bool (p0.Bi==p1.Bi))] H λD H=>Bu H B
  |false=>
   replace H:=H.kn 66 B;exact AL 6 [(72,.bool false)] H λD H=>Bu H B
 intro t D Q C;obtain⟨e,H⟩:=C;subst e;refine AL 1 [(73,.bool ((((((((((p0.Name==p1.Name)&&(p0.BG==p1.BG))&&(p0.Kind==p1.Kind))&&(p0.Mode==p1.Mode))&&(p0.Cq==p1.Cq))&&(p0.Cy==p1.Cy))&&(p0.A6==p1.A6))&&(p0.A7==p1.A7))&&(p0.BY==p1.BY))&&(p0.Bi==p1.Bi)))] H λD H=>?_;obtain⟨x1,O,M⟩:=AJ M;refine Bp 6 (λN Q=>Has N 94 [(2,pz h.size),(3,pz h1.size),(79,.bool x1)]/\HH g Q [oB h1.size (AN p1),oB h.size (AN p0)] F) ?_ ?_
 ·rcases BB O with⟨B,M⟩|⟨B,M⟩
  ·replace H:=H.kn 73 B;refine BQ 1 [] 75 _ _ H (λD=>.of (Bt kr (A.GL 1 rfl (o:=10) (n:=2) ⟨zd rfl,rfl⟩))) λD t H=>?_;refine BQ 1 [] 77 _ _ H (λD=>.of (Bt kr (A.GL 0 rfl (o:=10) (n:=2) ⟨zd rfl,rfl⟩))) λD t H=>?_;obtain⟨x2,X,M⟩:=AJ M;refine Az 78 (.bool x2) h2 H (λD=>.of (jj kr X)) λD t H=>?_;refine AL 1 [(79,.bool x2)] H λD H=>?_;exact wg
  replace H:=H.kn 73 B;refine AL 6 [(79,.bool false)] H λD H=>?_;exact wg
 intro t D Z C;obtain⟨H,A⟩:=C;refine AL 1 [(80,.bool x1)] H λD H=>?_;obtain⟨x3,O,M⟩:=AJ M;refine Bp 6 (λN Q=>Has N 94 [(2,pz h.size),(3,pz h1.size),(86,.bool x3)]/\HH g Q [oB h1.size (AN p1),oB h.size (AN p0)] F) ?_ ?_
 ·rcases BB O with⟨B,M⟩|⟨B,M⟩
  ·replace H:=H.kn 80 B;refine AX 1 [] 82 1 12 A H λD t H=>?_;refine AX 1 [] 84 0 12 A H λD t H=>?_;obtain⟨x4,X,M⟩:=AJ M;obtain⟨v1,h5,R,rfl,A1⟩:=NX X (A.cut 0);replace A:=A.DF A1;refine BO 85 R H λD t H=>?_;refine AL 1 [(86,.bool x4)] H λD H=>?_;exact wg
  replace H:=H.kn 80 B;refine AL 6 [(86,.bool false)] H λD H=>?_;exact wg
 intro t D J C;obtain⟨H,A⟩:=C;refine AL 1 [(87,.bool x3)] H λD H=>Bp 6 (λN Q=>J=Q/\Has N 94 [(93,.bool (x3&&(p0.Data==p1.Data)))]) ?_ ?_
 ·cases B:(x3:Bool)with
  |true=>
   replace H:=H.kn 87 B;refine AX 1 [] 89 1 13 A H λD t H=>?_;refine AX 1 [] 91 0 13 A H λD t H=>?_;exact AL 2 [(93,.bool (p0.Data==p1.Data))] H λD H=>Bu H B
  |false=>
   replace H:=H.kn 87 B;exact AL 6 [(93,.bool false)] H λD H=>Bu H B
 intro t D Q C;obtain⟨e,H⟩:=C;subst e;refine AK 1 [(4,.bool (x3&&(p0.Data==p1.Data)))] H λD H=>AY ?_;exact wi
def D9(p0:List AM)(p1:List AM)(s:Int):Option ((Int)⊕((Unit)⊕(Bool))):=
 match s with
 |x1=>Ag (decide (x1<(p0.length:Int))) ((Kx p0 x1).bind λx3=>(Kx p1 x1).bind λx4=>(EJ x3 x4).bind λx5=>Ag (!x5) (some (.inr (.inr false))) (some (.inl (i64.wrap (x1+1))))) (some (.inr (.inl ())))
def FQ(p0:List AM)(p1:List AM):Option (Bool):=
 Ag ((p0.length:Int) !=(p1.length:Int)) (some false) ((loop (D9 p0 p1) (0:Int)).bind λo1=>(match o1 with| .inl _=>some true| .inr x2=>some x2))
theorem Nz{p0 p1 q0}(M:FQ p0 p1=some q0):tl 29 [vs AN p0,vs AN p1] (.bool q0):=by
 intro g h F av A hc;refine Dp 27 [.tmp 4] hc ?_;unfold FQ at M;refine bg 27 [(0,vs AN p0),(1,vs AN p1)] λD H=>?_;refine AE 1 (AK 1 [] H λD H=>AU (AE 5 (AK 5 [(10,.bool ((p0.length:Int) !=(p1.length:Int)))] H λD H=>Ac 10 H M (λB M H=>?_) λB M H=>?_)))
 ·refine AE 1 (AK 1 [(4,.bool false)] H λD H=>AY ?_);exact wd
 refine By id (AU (AE 1 (AK 1 [(5,Ai 0)] H λD H=>Aa (id:=0) kr ?_)));obtain⟨o1,O,M⟩:=AJ M;refine BJ (Q':=λe N Q=>(e=.exit 0/\.inl ()=o1/\Has N 27 []/\HH g Q [] F)\/(∃x2,e=.ret/\.inr x2=o1/\Has N 27 [(4,.bool x2)]/\HH g Q [] F)\/False) ?_ ?_
 ·refine B7 kr (λ(s:Int) N Q=>∃x1,x1=s/\Has N 27 [(0,vs AN p0),(1,vs AN p1),(5,Ai x1)]/\HH g Q [] F) O ⟨_,rfl,H.ls,A⟩ ?_;intro s q D h1 hI M;obtain⟨x1,rfl,H,A⟩:=hI;unfold D9 at M;refine AU (AE 4 (AK 4 [(14,.bool (decide (x1<(p0.length:Int))))] H λD H=>Ac 14 H M (λB M H=>?_) λB M H=>?_))
  ·refine By id (AU (Aa (id:=1) kr ?_));refine AU (G7 6 10 ?_);obtain⟨x3,X,M⟩:=AJ M;refine BQ 2 [] 19 (.Aw (AN x3)) h1 H (λD=>.of (JB (e:=AN) (x:=x3) Gg (by decide) kr X)) λD t H=>?_;refine Az 20 (.agg (AN x3)) h1 H (λD=>.of (Jj kr)) λD t H=>?_;obtain⟨x4,X,M⟩:=AJ M;refine BQ 2 [] 23 (.Aw (AN x4)) h1 H (λD=>.of (JB (e:=AN) (x:=x4) Gg (by decide) kr X)) λD t H=>?_;refine Az 24 (.agg (AN x4)) h1 H (λD=>.of (Jj kr)) λD t H=>?_;obtain⟨x5,X,M⟩:=AJ M;obtain⟨v1,h2,R,rfl,A1⟩:=Jh X (A.cut 0);replace A:=A.DF A1;refine BO 25 R H λD t H=>?_;refine AK 1 [(26,.bool (!x5))] H λD H=>Ac 26 H M (λB M H=>?_) λB M H=>?_
   ·exact uh
   refine Di 3 id (BU 3 [(0,vs AN p0),(1,vs AN p1),(5,Ai (i64.wrap (x1+1)))] H λD H=>An ?_);exact vo
  exact v6
 intro e D Z V;rcases V with⟨rfl,rfl,H,A⟩|⟨x2,rfl,rfl,H,A⟩|W
 ·exact uj
 ·exact wd
 exact W.elim
end
end Go.Av.L
