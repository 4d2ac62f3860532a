/-
 A part.
-/
import Derived.Test.YtfgmnhjedmkpeaaKCfg
set_option linter.unusedSimpArgs false
namespace Go.Av.L
open IntKind (i64 u8)
open Go.Av Go.Lib
set_option maxRecDepth 10000
set_option linter.unusedVariables false
set_option linter.unusedSimpArgs false
variable {g:Gd} {h:AB} {F:List Ck} {av:List AA}
noncomputable section
def Cc(p0:BB)(p1:Int):Option (Bool):=
 (Iz ([p0.w0,p0.w1,p0.w2,p0.w3]:List Int) (LQ .u8 p1 (6:Int))).bind λx1=>Gv (decide (0<=(Lr .u8 p1 (63:Int))))<|some ((Lr .u64 (LQ .u64 x1 (Lr .u8 p1 (63:Int))) (1:Int))==1)
theorem JJ{p0 p1 q0}(M:Cc p0 p1=some q0)(A:HH g h [] F)(hc:C1 (cfg.still 42) av=[.agg (Cb p0),Ab p1]:=by kernel_rfl):∃v Q,CW cfg g h 42 av v Q/\v=.bool q0/\HH g Q [] F:=by
 refine Mg 14 [.tmp 4] hc ?_;clear hc;unfold Cc at M;refine bg 14 [(0,.agg (Cb p0)),(1,Ab p1)] λD H=>?_;refine AU 2 ?_;obtain⟨h1,e1,A⟩:=A.pu (.cells none 2 (Cb p0));refine DF 2 (.ptr (some (h.size,0))) e1 H λD t H=>?_;refine G3 1 [] 10 H λD H=>?_;obtain⟨x1,Z,M⟩:=AJ M;refine D3 2 [] 7 (.ptr (some (h.size,0+(LQ .u8 p1 (6:Int)).toNat*1))) h1 H (λD=>.of (X1 (by kernel_rfl) (XG Z (h.size,0) 1 rfl))) λD t H=>?_;refine Bj 8 _ _ H (λD=>.of (Cf (by kernel_rfl) (HH.ag A 0 rfl 0 (λw:Int=>Au w) [p0.w0,p0.w1,p0.w2,p0.w3] rfl Z))) λD t H=>?_;refine AR 2 [(10,Ab (Lr .u8 p1 (63:Int)))] H λD H=>?_;obtain⟨C,M⟩:=CT M;refine Bj 11 (Au (LQ .u64 x1 (Lr .u8 p1 (63:Int)))) h1 H (λD=>.of (Ye (by kernel_rfl) C)) λD t H=>?_;refine Ao 3 [(4,.bool ((Lr .u64 (LQ .u64 x1 (Lr .u8 p1 (63:Int))) (1:Int))==1))] H λD H=>Bf ?_;obtain rfl:=Bc M;refine⟨.inl rfl,.bool ((Lr .u64 (LQ .u64 x1 (Lr .u8 p1 (63:Int))) (1:Int))==1),rH H,?_⟩;replace A:=A.d0;exact⟨rfl,A⟩
def Fs(p0:BB)(s:(List UInt8)×Int):Option (((List UInt8)×Int)⊕(((List UInt8)))):=
 match s with
 |(x1,x2)=>A3 (decide (x2<256)) (((Cc p0 (u8.wrap x2)).bind λx5=>A3 x5 ((Xm (u8.wrap x2)).bind λx6=>Gv (O0 1 (x1.length+([x6]:UV).length))<|some (x1++([x6]:UV))) (some x1):Option (((List UInt8)))).bind λx4=>some (.inl (x4,i64.wrap (x2+1)))) (some (.inr x1))
def EW(p0:BB):Option ((List UInt8)):=
 (loop (Fs p0) (([]:UV),(0:Int))).bind λx3=>some x3
theorem K8{p0 q0}(M:EW p0=some q0)(A:HH g h [] F)(hc:C1 (cfg.still 25) av=[.agg (Cb p0)]:=by kernel_rfl):∃v Q,CW cfg g h 25 av v Q/\v=.str q0/\HH g Q [] F:=by
 refine Mg 20 [.tmp 2] hc ?_;clear hc;unfold EW at M;refine bg 20 [(0,.agg (Cb p0))] λD H=>?_;refine AU 2 ?_;obtain⟨h1,e1,A⟩:=A.pu (.cells none 2 (Cb p0));refine DF 1 (.ptr (some (h.size,0))) e1 H λD t H=>?_;refine G3 1 [] 1 H λD H=>Ao 1 [(3,.slice none 0)] H λD H=>BC (AU 1 (Ao 1 [(5,Ai 0)] H λD H=>A4 (id:=0) (by kernel_rfl) ?_));replace A:HH g h1 [.Ag none 5 (Ag eY ([]:UV)),.obj h.size (.cells none 2 (Cb p0))] F:=A.Pr 5;obtain⟨o1,O,M⟩:=AJ M;refine BZ (Q':=λe N Q=>(∃x3,e=.exit 0/\x3=o1/\∃r2,Has N 20 [(3,AY r2 x3.length)]/\HH g Q [.Ag r2 5 (Ag eY x3),.obj h.size (.cells none 2 (Cb p0))] F)\/False) ?_ ?_
 ·refine DN (by kernel_rfl) (λ(s:(List UInt8)×Int) N Q=>∃x1 x2,(x1,x2)=s/\∃r1,Has N 20 [(1,.ptr (some (h.size,0))),(3,AY r1 x1.length),(5,Ai x2)]/\HH g Q [.Ag r1 5 (Ag eY x1),.obj h.size (.cells none 2 (Cb p0))] F) O ⟨_,_,rfl,none,H.ls,A⟩ ?_;clear O M H A;intro s q D I hI M;obtain⟨x1,x2,rfl,r1,H,A⟩:=hI;unfold Fs at M;refine AU 1 (Ao 1 [(6,.bool (decide (x2<256)))] H λD H=>BC (BM 6 H M (λC M H=>?_) λC M H=>?_))
  ·refine E5 id (BC ?_);obtain⟨o2,O,M⟩:=AJ M;refine BZ (Q':=λe N Q=>(∃x4,e=.normal/\x4=o2/\∃r3,Has N 20 [(1,.ptr (some (h.size,0))),(3,AY r3 x4.length),(5,Ai x2)]/\HH g Q [.Ag r3 5 (Ag eY x4),.obj h.size (.cells none 2 (Cb p0))] F)\/False) ?_ ?_
   ·replace M:=O;clear O;refine A4 (id:=1) (by kernel_rfl) ?_;refine AU 2 (G3 2 [(4,Ai x2)] 4 H λD H=>Bj 8 _ _ H (λD=>.of (Db (by kernel_rfl) (A.Gp 1 rfl (o:=0) (n:=4) ⟨zj rfl,rfl⟩))) λD t H=>?_);obtain⟨x5,X,M⟩:=AJ M;obtain⟨v1,K,R,rfl,E⟩:=JJ (av:=[.agg (Cb p0),Ab (u8.wrap x2)]) X (A.cut 0);replace A:=A.SF E;refine Ds 2 [] 11 R H λD t H=>?_;refine Da id (BM 11 H M (λC M H=>?_) λC M H=>?_)
    ·refine Ea 6 (AR 3 [(12,AY r1 x1.length),(14,Ab (u8.wrap x2))] H λD H=>?_);obtain⟨x6,X,M⟩:=AJ M;have X:=WY X;rw[X]at H;obtain⟨h4,e2,A⟩:=A.pL 5 [Ab (x6.toNat:Int)];refine DF 15 (AY (some K.size) (([x6]:UV).length)) e2 H λD t H=>?_;obtain⟨C,M⟩:=CT M;obtain⟨r4,G,X,E⟩:=HH.Ov Wm (by decide) A 1 (xs:=x1) (ys:=([x6]:UV)) rfl (EI A 0 rfl (n:=([x6]:UV).length) (z:=1) rfl (by decide)) rfl rfl C;replace A:HH g G [.Ag (some K.size) 5 ([Ab (x6.toNat:Int)]),.Ag r4 5 (Ag eY (x1++([x6]:UV))),_] F:=E;replace A:=A.k2 1 2;refine Bj 16 _ _ H (λD=>.of (KI (s:=Dt r1 x1.length) (by kernel_rfl) X)) λD t H=>?_;refine DE 1 [(1,.ptr (some (h.size,0))),(3,AY r4 ((x1++([x6]:UV)).length)),(5,Ai x2)] H λD H=>Ac ?_;exact .inl ⟨_,rfl,Bc M,_,H.ls,A⟩
    exact Fl (.inl ⟨_,rfl,Bc M,_,H.ls,A⟩)
   clear O;clear A;intro e D h6 S;rcases S with⟨x4,rfl,rfl,r3,H,A⟩|T
   ·show AW _ _ _ _ _ _ _;refine Ea 2 (DE 2 [(1,.ptr (some (h.size,0))),(3,AY r3 x4.length),(5,Ai (i64.wrap (x2+1)))] H λD H=>Ac ?_);exact nx M ⟨_,_,rfl,_,H.ls,A⟩
   exact T.elim
  refine Cz (i:=0) (by kernel_rfl) ?_;exact nr M λe=>.inl ⟨_,rfl,e,_,H.ls,A⟩
 clear O;clear A;intro e D V S;rcases S with⟨x3,rfl,rfl,r2,H,A⟩|T
 ·show AW _ _ _ _ _ _ _;refine AU 3 (AR 1 [(18,AY r2 x3.length)] H λD H=>Bj 19 (.str x3) V H (λD=>.of (YE (xs:=x3) A 0 rfl (by kernel_rfl))) λD t H=>?_);refine Ao 1 [(2,.str x3)] H λD H=>Bf ?_;obtain rfl:=Bc M;refine⟨.inl rfl,.str x3,rH H,?_⟩;replace A:=A.d0;exact⟨rfl,A⟩
 exact T.elim
def E6(p0:AL)(s:(List AS)×Int):Option (((List AS)×Int)⊕(((List AS)))):=
 match s with
 |(x1,x2)=>A3 (decide (x2<(p0.Ad.length:Int))) ((Iz p0.Ad x2).bind λx4=>(EW x4.Set).bind λx5=>Gv (O0 64 (x1.length+([(⟨x4.Kind,x4.A,x4.B,x4.Min,x4.Max,x4.Bl,x5⟩:AS)]:List AS).length))<|some (.inl ((x1++([(⟨x4.Kind,x4.A,x4.B,x4.Min,x4.Max,x4.Bl,x5⟩:AS)]:List AS)),i64.wrap (x2+1)))) (some (.inr x1))
def C6(p0:AL):Option (Bt):=
 (loop (E6 p0) (([]:List AS),(0:Int))).bind λx3=>some (⟨x3,p0.A2⟩:Bt)
theorem G6{p0 q0}(M:C6 p0=some q0)(A:HH g h [] F)(hc:C1 (cfg.still 8) av=[.agg [vs AG p0.Ad,Ai p0.A2]]:=by kernel_rfl):∃v Q,CW cfg g h 8 av v Q/\v=.agg [vs AD q0.L,Ai q0.A2]/\HH g Q [] F:=by
 refine ae 39 [.cell 2 32] hc ?_;clear hc;unfold C6 at M;refine bg 39 [(0,.agg [vs AG p0.Ad,Ai p0.A2])] λD H=>?_;refine AU 2 ?_;obtain⟨h1,e1,A⟩:=A.pu (.cells none 2 [vs AG p0.Ad,Ai p0.A2]);refine DF 1 (.ptr (some (h.size,0))) e1 H λD t H=>?_;obtain⟨I,e2,A⟩:=A.pu (.cells none 2 [.slice none 0,Ai 0]);refine DF 2 (.ptr (some (h1.size,0))) e2 H λD t H=>?_;refine Jv 5 id (Ak 1 [] 7 1 1 A H λD t H=>?_);obtain⟨K,e3,A⟩:=A.pu (.cells none 2 [.slice none 0,Ai 0]);refine Q9 1 [(8,.agg [.slice none 0,Ai p0.A2])] 3 (.ptr (some (I.size,0))) e3 H λD t H=>?_;obtain⟨h4,X,E⟩:=A.st 0 rfl (o:=0) (new:=[.slice none 0,Ai p0.A2]) (ds:=[.slice none 0,Ai p0.A2]) (zj rfl) rfl rfl;replace A:HH g h4 [.obj I.size (.cells none 2 [.slice none 0,Ai p0.A2]),.obj h1.size (.cells none 2 [.slice none 0,Ai 0]),.obj h.size (.cells none 2 [vs AG p0.Ad,Ai p0.A2])] F:=E;refine Km X H λD t H=>?_;refine Da id (BC (AU 4 (Ak 1 [] 10 2 0 A H λD t H=>?_)));refine Ao 2 [(11,Ai (p0.Ad.length:Int)),(12,Ai 0)] H λD H=>A4 (id:=0) (by kernel_rfl) ?_;replace A:HH g h4 [.Ag none 63 (Ag AD ([]:List AS)),_,_,_] F:=A.Pr 63;obtain⟨o1,O,M⟩:=AJ M;refine BZ (Q':=λe N Q=>(∃x3,e=.exit 0/\x3=o1/\∃r2,Has N 39 [(2,.ptr (some (h1.size,0))),(3,.ptr (some (I.size,0)))]/\HH g Q [.Ag r2 63 (Ag AD x3),.obj I.size (.cells none 2 [AY r2 x3.length,Ai p0.A2]),.obj h1.size (.cells none 2 [.slice none 0,Ai 0]),.obj h.size (.cells none 2 [vs AG p0.Ad,Ai p0.A2])] F)\/False) ?_ ?_
 ·refine DN (by kernel_rfl) (λ(s:(List AS)×Int) N Q=>∃x1 x2,(x1,x2)=s/\∃r1,Has N 39 [(2,.ptr (some (h1.size,0))),(3,.ptr (some (I.size,0))),(10,vs AG p0.Ad),(11,Ai (p0.Ad.length:Int)),(12,Ai x2)]/\HH g Q [.Ag r1 63 (Ag AD x1),.obj I.size (.cells none 2 [AY r1 x1.length,Ai p0.A2]),.obj h1.size (.cells none 2 [.slice none 0,Ai 0]),.obj h.size (.cells none 2 [vs AG p0.Ad,Ai p0.A2])] F) O ⟨_,_,rfl,none,H.ls,A⟩ ?_;clear O M H A;intro s q D G hI M;obtain⟨x1,x2,rfl,r1,H,A⟩:=hI;unfold E6 at M;refine AU 1 (Ao 1 [(13,.bool (decide (x2<(p0.Ad.length:Int))))] H λD H=>BC (BM 13 H M (λC M H=>?_) λC M H=>?_))
  ·refine E5 id (BC (A4 (id:=1) (by kernel_rfl) ?_));refine AU 4 ?_;obtain⟨x4,X,M⟩:=AJ M;refine Bj 14 (.Bu (AG x4)) G H (λD=>.of (Lp (e:=AG) (x:=x4) GN (by decide) (by kernel_rfl) X)) λD t H=>?_;refine Bj 15 (.agg (AG x4)) G H (λD=>.of (L9 (by kernel_rfl))) λD t H=>?_;obtain⟨h6,e4,A⟩:=A.pu (.cells none 2 VS);refine DF 5 (.ptr (some (G.size,0))) e4 H λD t H=>?_;obtain⟨V,X,A⟩:=A.s0 0 (AG x4) [_,_,_,_,_,_,_,_,_,_];refine Km X H λD t H=>?_;refine Da id (M6 5 22 [(0,[]),(1,[]),(2,[]),(3,[]),(4,[]),(5,[]),(6,[]),(7,[]),(8,[]),(9,[]),(10,[]),(11,[]),(12,[]),(13,[]),(14,[]),(15,[]),(16,[1,3,5,7,9,11,13]),(17,[]),(18,[]),(19,[]),(20,[]),(21,[])] ?_);refine AR 1 [(16,.ptr (some (I.size,0)))] H λD H=>D4 17 (AY r1 x1.length) V [(1,I.size)] (g.B4) H (λD=>.of (Cf (by kernel_rfl) (A.l1 2 0))) (λD H=>?_);refine AR 1 [(18,.ptr (some (G.size,0)))] H λD H=>D4 19 (Ai x4.Kind) V [(3,G.size),(1,I.size)] (g.B4) H (λD=>.of (Cf (by kernel_rfl) (A.l1 0 0))) (λD H=>?_);refine AR 1 [(20,.ptr (some (G.size,1)))] H λD H=>D4 21 (Ai x4.A) V [(5,G.size),(3,G.size),(1,I.size)] (g.B4) H (λD=>.of (Cf (by kernel_rfl) (A.l1 0 1))) (λD H=>?_);refine AR 1 [(22,.ptr (some (G.size,2)))] H λD H=>D4 23 (Ai x4.B) V [(7,G.size),(5,G.size),(3,G.size),(1,I.size)] (g.B4) H (λD=>.of (Cf (by kernel_rfl) (A.l1 0 2))) (λD H=>?_);refine AR 1 [(24,.ptr (some (G.size,3)))] H λD H=>D4 25 (Ai x4.Min) V [(9,G.size),(7,G.size),(5,G.size),(3,G.size),(1,I.size)] (g.B4) H (λD=>.of (Cf (by kernel_rfl) (A.l1 0 3))) (λD H=>?_)
   refine AR 1 [(26,.ptr (some (G.size,4)))] H λD H=>D4 27 (Ai x4.Max) V [(11,G.size),(9,G.size),(7,G.size),(5,G.size),(3,G.size),(1,I.size)] (g.B4) H (λD=>.of (Cf (by kernel_rfl) (A.l1 0 4))) (λD H=>?_);refine AR 1 [(28,.ptr (some (G.size,5)))] H λD H=>D4 29 (Ai x4.Bl) V [(13,G.size),(11,G.size),(9,G.size),(7,G.size),(5,G.size),(3,G.size),(1,I.size)] (g.B4) H (λD=>.of (Cf (by kernel_rfl) (A.l1 0 5))) (λD H=>?_);refine AR 1 [(30,.ptr (some (G.size,6)))] H λD H=>D4 31 (.agg (Cb x4.Set)) V [(15,G.size),(13,G.size),(11,G.size),(9,G.size),(7,G.size),(5,G.size),(3,G.size),(1,I.size)] (g.B4) H (λD=>.of (Db (by kernel_rfl) (A.la 0 6 4))) (λD H=>?_);have E:=A.Pp 0 (pr:=[G.size,G.size,G.size,G.size,G.size,G.size,I.size]) (.cons 0 rfl (by simp[Ck.ids]) (.cons 0 rfl (by simp[Ck.ids]) (.cons 0 rfl (by simp[Ck.ids]) (.cons 0 rfl (by simp[Ck.ids]) (.cons 0 rfl (by simp[Ck.ids]) (.cons 0 rfl (by simp[Ck.ids]) (.cons 2 rfl (by simp[Ck.ids]) .nil)))))));obtain⟨x5,X,M⟩:=AJ M;obtain⟨v1,Y,R,rfl,E⟩:=K8 (av:=[.agg (Cb x4.Set)]) X E;replace A:=A.ab E;refine D4 32 (.str x5) Y [(15,G.size),(13,G.size),(11,G.size),(9,G.size),(7,G.size),(5,G.size),(3,G.size),(1,I.size)] (G.size::G.size::G.size::G.size::G.size::G.size::I.size::g.B4) H (λD=>Steps.call (by kernel_rfl) R) (λD H=>?_);refine AR 1 [(33,.agg [Ai x4.Kind,Ai x4.A,Ai x4.B,Ai x4.Min,Ai x4.Max,Ai x4.Bl,.str x5])] H λD H=>?_;obtain⟨h9,e5,A⟩:=A.pL 63 [Ai x4.Kind,Ai x4.A,Ai x4.B,Ai x4.Min,Ai x4.Max,Ai x4.Bl,.str x5]
   refine D4 34 (AY (some Y.size) (([(⟨x4.Kind,x4.A,x4.B,x4.Min,x4.Max,x4.Bl,x5⟩:AS)]:List AS).length)) h9 [(18,Y.size),(15,G.size),(13,G.size),(11,G.size),(9,G.size),(7,G.size),(5,G.size),(3,G.size),(1,I.size)] (g.B4) H (λD=>.of (P9 (by kernel_rfl) (congrArg some e5.symm))) (λD H=>?_);obtain⟨C,M⟩:=CT M;obtain⟨r3,W,X,E⟩:=HH.Ov CV (by decide) A 2 (xs:=x1) (ys:=([(⟨x4.Kind,x4.A,x4.B,x4.Min,x4.Max,x4.Bl,x5⟩:AS)]:List AS)) rfl (EI A 0 rfl (n:=([(⟨x4.Kind,x4.A,x4.B,x4.Min,x4.Max,x4.Bl,x5⟩:AS)]:List AS).length) (z:=7) rfl (by decide)) rfl rfl C;replace A:HH g W [.Ag (some Y.size) 63 ([Ai x4.Kind,Ai x4.A,Ai x4.B,Ai x4.Min,Ai x4.Max,Ai x4.Bl,.str x5]),_,.Ag r3 63 (Ag AD (x1++([(⟨x4.Kind,x4.A,x4.B,x4.Min,x4.Max,x4.Bl,x5⟩:AS)]:List AS))),_,_,_] F:=E;replace A:=A.k5 1 2 3 4 5;refine D4 35 (AY r3 ((x1++([(⟨x4.Kind,x4.A,x4.B,x4.Min,x4.Max,x4.Bl,x5⟩:AS)]:List AS)).length)) W [(18,Y.size),(15,G.size),(13,G.size),(11,G.size),(9,G.size),(7,G.size),(5,G.size),(3,G.size),(1,I.size)] (g.B4) H (λD=>.of (KI (s:=Dt r1 x1.length) (by kernel_rfl) X)) (λD H=>?_);refine AR 1 [(36,.ptr (some (I.size,0)))] H λD H=>?_;obtain⟨U,X,E⟩:=A.st 2 rfl (o:=0) (new:=[AY r3 ((x1++([(⟨x4.Kind,x4.A,x4.B,x4.Min,x4.Max,x4.Bl,x5⟩:AS)]:List AS)).length)]) (ds:=[AY r3 ((x1++([(⟨x4.Kind,x4.A,x4.B,x4.Min,x4.Max,x4.Bl,x5⟩:AS)]:List AS)).length),Ai p0.A2]) (zj rfl) rfl rfl;replace A:HH g U [_,_,.obj I.size (.cells none 2 [AY r3 ((x1++([(⟨x4.Kind,x4.A,x4.B,x4.Min,x4.Max,x4.Bl,x5⟩:AS)]:List AS)).length),Ai p0.A2]),_,_] F:=E
   refine TR (.tuple []) U [(18,Y.size),(15,G.size),(13,G.size),(11,G.size),(9,G.size),(7,G.size),(5,G.size),(3,G.size),(1,I.size)] (g.B4) H (λD=>.of (LH (by kernel_rfl) rfl X)) (λD H=>?_);refine OL 2 id (DE 2 [(2,.ptr (some (h1.size,0))),(3,.ptr (some (I.size,0))),(10,vs AG p0.Ad),(11,Ai (p0.Ad.length:Int)),(12,Ai (i64.wrap (x2+1)))] H λD H=>Ac ?_);replace A:=A.k4 1 2 3 4;exact nx M ⟨_,_,rfl,_,H.ls,A⟩
  refine Cz (i:=0) (by kernel_rfl) ?_;exact nr M λe=>.inl ⟨_,rfl,e,_,H.ls,A⟩
 clear O;clear A;intro e D h12 S;rcases S with⟨x3,rfl,rfl,r2,H,A⟩|T
 ·show AW _ _ _ _ _ _ _;refine AU 2 (Bj 38 _ _ H (λD=>.of (Db (by kernel_rfl) (A.Gp 1 rfl (o:=0) (n:=2) ⟨zj rfl,rfl⟩))) λD t H=>?_);obtain⟨h13,X,A⟩:=A.s2 0 [AY r2 x3.length,Ai p0.A2] [_,_];refine Km X H λD t H=>?_;refine Da id (Bf ?_);obtain rfl:=Bc M;refine⟨.inl rfl,.agg [AY r2 x3.length,Ai p0.A2],Tg (.cell (rT H) (IS (by kernel_rfl) (by kernel_rfl) (A.la 2 0 2)) .nil),?_⟩;obtain⟨h14,hz0,E⟩:=(A.front 0 rfl).aK (n:=x3.length) (z:=7) (CV.Jc _) (by decide);replace A:HH g h14 [_,_,_] F:=E;refine⟨.agg [vs AD x3,Ai p0.A2],h14,by first|rfl|(simp only[ZV,Za,ZH,ZF,Ze,Zn,ZW,ZT,ZN,Zl,Zr,RP,R4,Rp,Rq,R9,Rr,R0,ze,hz0]<;>rfl),?_⟩;replace A:=A.d0;exact⟨rfl,A⟩
 exact T.elim
def E0(p0:Bt)(s:(List Int)×Int×Int):Option (((List Int)×Int×Int)⊕((Unit)⊕(Bool))):=
 match s with
 |(x1,x2,x3)=>A3 (decide (x3<(p0.L.length:Int))) ((Iz p0.L x3).bind λx5=>(A3 (x5.Kind==4) (some (i64.wrap (x2+1))) (some x2):Option ((Int))).bind λx6=>A3 (decide (x6>4)) (some (.inr (.inr false))) (A3 ((decide (x5.Min>4))||(decide (x5.Max>5))) (some (.inr (.inr false))) ((A3 ((decide (x5.A>=0))&&(decide (x5.A<x3))) ((Iz x1 x5.A).bind λx8=>some (i64.wrap ((1:Int)+x8))) (some (1:Int)):Option ((Int))).bind λx7=>(A3 ((decide (x5.B>=0))&&(decide (x5.B<x3))) ((Iz x1 x5.B).bind λx10=>some (i64.wrap (x7+x10))) (some x7):Option ((Int))).bind λx9=>A3 (decide (x9>40)) (some (.inr (.inr false))) (Gv (O0 8 (x1.length+([x9]:List Int).length))<|some (.inl ((x1++([x9]:List Int)),x6,i64.wrap (x3+1))))))) (some (.inr (.inl ())))
def Dm(p0:Bt):Option (Bool):=
 A3 (decide ((p0.L.length:Int)>12)) (some false) ((loop (E0 p0) (([]:List Int),(0:Int),(0:Int))).bind λo1=>(match o1 with| .inl _=>some true| .inr x4=>some x4))
theorem Jx{p0 q0}(M:Dm p0=some q0)(A:HH g h [] F)(hc:C1 (cfg.still 9) av=[.agg [vs AD p0.L,Ai p0.A2]]:=by kernel_rfl):∃v Q,CW cfg g h 9 av v Q/\v=.bool q0/\HH g Q [] F:=by
 refine Mg 78 [.tmp 2] hc ?_;clear hc;unfold Dm at M;refine bg 78 [(0,.agg [vs AD p0.L,Ai p0.A2])] λD H=>?_;refine AU 2 ?_;obtain⟨h1,e1,A⟩:=A.pu (.cells none 2 [vs AD p0.L,Ai p0.A2]);refine DF 1 (.ptr (some (h.size,0))) e1 H λD t H=>?_;refine Ao 1 [] H λD H=>BC (AU 4 (Ak 1 [] 9 0 0 A H λD t H=>?_));refine Ao 2 [(11,.bool (decide ((p0.L.length:Int)>12)))] H λD H=>BM 11 H M (λC M H=>?_) λC M H=>?_
 ·refine AU 1 (Ao 1 [(2,.bool false)] H λD H=>Bf ?_);obtain rfl:=Bc M;refine⟨.inl rfl,.bool false,rH H,?_⟩;replace A:=A.d0;exact⟨rfl,A⟩
 refine JD 2 id ?_;obtain⟨I,e2,A⟩:=A.pL 3 [];refine DF 12 (AY (some h1.size) (([]:List Int).length)) e2 H λD t H=>?_;refine G3 1 [(3,AY (some h1.size) (([]:List Int).length))] 1 H λD H=>Ao 1 [(4,Ai 0)] H λD H=>BC (AU 1 (Ao 1 [(5,Ai 0)] H λD H=>A4 (id:=0) (by kernel_rfl) ?_));replace A:HH g I [.Ag (some h1.size) 3 (Ag (eI .i64) ([]:List Int)),.obj h.size (.cells none 2 [vs AD p0.L,Ai p0.A2])] F:=A;obtain⟨o1,O,M⟩:=AJ M;refine BZ (Q':=λe N Q=>(e=.exit 0/\.inl ()=o1/\Has N 78 []/\HH g Q [.obj h.size (.cells none 2 [vs AD p0.L,Ai p0.A2])] F)\/(∃x4,e=.ret/\.inr x4=o1/\Has N 78 [(2,.bool x4)]/\HH g Q [.obj h.size (.cells none 2 [vs AD p0.L,Ai p0.A2])] F)\/False) ?_ ?_
 ·refine DN (by kernel_rfl) (λ(s:(List Int)×Int×Int) N Q=>∃x1 x2 x3,(x1,x2,x3)=s/\∃r1,Has N 78 [(1,.ptr (some (h.size,0))),(3,AY r1 x1.length),(4,Ai x2),(5,Ai x3)]/\HH g Q [.Ag r1 3 (Ag (eI .i64) x1),.obj h.size (.cells none 2 [vs AD p0.L,Ai p0.A2])] F) O ⟨_,_,_,rfl,some h1.size,H.ls,A⟩ ?_;clear O M H A;intro s q D K hI M;obtain⟨x1,x2,x3,rfl,r1,H,A⟩:=hI;unfold E0 at M;refine BC (AU 5 (Ak 2 [(13,Ai x3)] 15 1 0 A H λD t H=>?_));refine Ao 2 [(17,.bool (decide (x3<(p0.L.length:Int))))] H λD H=>BM 17 H M (λC M H=>?_) λC M H=>?_
  ·refine E5 id (BC (A4 (id:=1) (by kernel_rfl) ?_));refine AU 7 (Ak 1 [] 21 1 0 A H λD t H=>?_);obtain⟨x5,X,M⟩:=AJ M;refine D3 1 [] 23 (.Bu (AD x5)) K H (λD=>.of (Lp (e:=AD) (x:=x5) CV (by decide) (by kernel_rfl) X)) λD t H=>?_;refine Bj 24 (.agg (AD x5)) K H (λD=>.of (L9 (by kernel_rfl))) λD t H=>?_;obtain⟨h4,e3,A⟩:=A.pu (.cells none 2 [Ai 0,Ai 0,Ai 0,Ai 0,Ai 0,Ai 0,.str ([]:UV)]);refine DF 6 (.ptr (some (K.size,0))) e3 H λD t H=>?_;obtain⟨G,X,A⟩:=A.s0 0 (AD x5) [_,_,_,_,_,_,_];refine Km X H λD t H=>?_;refine Da id (BC ?_);obtain⟨o2,O,M⟩:=AJ M;refine BZ (Q':=λe N Q=>(∃x6,e=.normal/\x6=o2/\Has N 78 [(1,.ptr (some (h.size,0))),(3,AY r1 x1.length),(4,Ai x6),(5,Ai x3),(6,.ptr (some (K.size,0)))]/\HH g Q [.obj K.size (.cells none 2 (AD x5)),.Ag r1 3 (Ag (eI .i64) x1),.obj h.size (.cells none 2 [vs AD p0.L,Ai p0.A2])] F)\/False) ?_ ?_
   ·replace M:=O;clear O;refine AU 3 (Ak 1 [] 26 0 0 A H λD t H=>?_);refine Ao 1 [(27,.bool (x5.Kind==4))] H λD H=>BM 27 H M (λC M H=>?_) λC M H=>?_
    ·refine Ea 3 (DE 3 [(1,.ptr (some (h.size,0))),(3,AY r1 x1.length),(4,Ai (i64.wrap (x2+1))),(5,Ai x3),(6,.ptr (some (K.size,0)))] H λD H=>Ac ?_);exact .inl ⟨_,rfl,Bc M,H.ls,A⟩
    exact Fl (.inl ⟨_,rfl,Bc M,H.ls,A⟩)
   clear O;clear A;intro e D h6 S;rcases S with⟨x6,rfl,rfl,H,A⟩|T
   ·show AW _ _ _ _ _ _ _;refine BC (AU 2 (Ao 2 [(31,.bool (decide (x6>4)))] H λD H=>BM 31 H M (λC M H=>?_) λC M H=>?_))
    ·refine AU 1 (Ao 1 [(2,.bool false)] H λD H=>Bf ?_);replace A:=A.k1 2;exact nr M λe=>Or.inr (.inl ⟨_,rfl,e,H.ls,A⟩)
    refine E5 id (BC (AU 8 (Ak 1 [] 33 0 3 A H λD t H=>?_)));refine AR 2 [(35,.bool (decide (x5.Min>4)))] H λD H=>CE 4 (λN Q=>h6=Q/\Has N 78 [(1,.ptr (some (h.size,0))),(3,AY r1 x1.length),(4,Ai x6),(5,Ai x3),(6,.ptr (some (K.size,0))),(39,.bool ((decide (x5.Min>4))||(decide (x5.Max>5))))]) ?_ ?_
    ·cases C:(decide (x5.Min>4):Bool)with
     |true=>
      replace H:=H.kn 35 C;exact AR 4 [(39,.bool true)] H λD H=>BJ H C
     |false=>
      replace H:=H.kn 35 C;refine Ak 1 [] 37 0 4 A H λD t H=>?_;exact AR 2 [(39,.bool (decide (x5.Max>5)))] H λD H=>BJ H C
    intro t D Q J;obtain⟨e,H⟩:=J;subst e;refine Da id (BM 39 H M (λC M H=>?_) λC M H=>?_)
    ·refine AU 1 (Ao 1 [(2,.bool false)] H λD H=>Bf ?_);replace A:=A.k1 2;exact nr M λe=>Or.inr (.inl ⟨_,rfl,e,H.ls,A⟩)
    refine JD 1 id (Ao 1 [(7,Ai 1)] H λD H=>BC ?_);obtain⟨o3,O,M⟩:=AJ M;refine BZ (Q':=λe N Q=>(∃x7,e=.normal/\x7=o3/\Has N 78 [(1,.ptr (some (h.size,0))),(3,AY r1 x1.length),(4,Ai x6),(5,Ai x3),(6,.ptr (some (K.size,0))),(7,Ai x7)]/\HH g Q [.obj K.size (.cells none 2 (AD x5)),.Ag r1 3 (Ag (eI .i64) x1),.obj h.size (.cells none 2 [vs AD p0.L,Ai p0.A2])] F)\/False) ?_ ?_
    ·replace M:=O;clear O;refine AU 9 (Ak 1 [] 41 0 1 A H λD t H=>?_);refine AR 2 [(43,.bool (decide (x5.A>=0)))] H λD H=>CE 5 (λN Q=>h6=Q/\Has N 78 [(1,.ptr (some (h.size,0))),(3,AY r1 x1.length),(4,Ai x6),(5,Ai x3),(6,.ptr (some (K.size,0))),(7,Ai 1),(48,.bool ((decide (x5.A>=0))&&(decide (x5.A<x3))))]) ?_ ?_
     ·cases C:(decide (x5.A>=0):Bool)with
      |true=>
       replace H:=H.kn 43 C;refine Ak 1 [] 45 0 1 A H λD t H=>?_;exact AR 3 [(48,.bool (decide (x5.A<x3)))] H λD H=>BJ H C
      |false=>
       replace H:=H.kn 43 C;exact AR 5 [(48,.bool false)] H λD H=>BJ H C
     intro t D Q J;obtain⟨e,H⟩:=J;subst e;refine Da id (BM 48 H M (λC M H=>?_) λC M H=>?_)
     ·refine Ea 8 (Ak 3 [(49,Ai (1:Int)),(50,AY r1 x1.length)] 52 0 1 A H λD t H=>?_);obtain⟨x8,X,M⟩:=AJ M;obtain⟨i1,er1,_,X,Z⟩:=HH.Ow (encI .i64) (by decide) A 1 (xs:=x1) rfl X;refine Bj 53 (.ptr (some (i1,x5.A.toNat*1))) h6 H (λD=>.of (C9 (s:=Dt r1 x1.length) (by kernel_rfl) X)) λD t H=>?_;refine Bj 54 _ _ H (λD=>.of (Cf (by kernel_rfl) (Fb (encI .i64) (HH.row A 1 rfl er1) Z (o:=0) rfl))) λD t H=>?_;refine DE 2 [(1,.ptr (some (h.size,0))),(3,AY r1 x1.length),(4,Ai x6),(5,Ai x3),(6,.ptr (some (K.size,0))),(7,Ai (i64.wrap ((1:Int)+x8)))] H λD H=>Ac ?_;exact .inl ⟨_,rfl,Bc M,H.ls,A⟩
     exact Fl (.inl ⟨_,rfl,Bc M,H.ls,A⟩)
    clear O;clear A;intro e D V S;rcases S with⟨x7,rfl,rfl,H,A⟩|T
    ·show AW _ _ _ _ _ _ _;refine BC ?_;obtain⟨o4,O,M⟩:=AJ M;refine BZ (Q':=λe N Q=>(∃x9,e=.normal/\x9=o4/\Has N 78 [(1,.ptr (some (h.size,0))),(3,AY r1 x1.length),(4,Ai x6),(5,Ai x3),(7,Ai x9)]/\HH g Q [.obj K.size (.cells none 2 (AD x5)),.Ag r1 3 (Ag (eI .i64) x1),.obj h.size (.cells none 2 [vs AD p0.L,Ai p0.A2])] F)\/False) ?_ ?_
     ·replace M:=O;clear O;refine AU 9 (Ak 1 [] 57 0 2 A H λD t H=>?_);refine AR 2 [(59,.bool (decide (x5.B>=0)))] H λD H=>CE 5 (λN Q=>V=Q/\Has N 78 [(1,.ptr (some (h.size,0))),(3,AY r1 x1.length),(4,Ai x6),(5,Ai x3),(6,.ptr (some (K.size,0))),(7,Ai x7),(64,.bool ((decide (x5.B>=0))&&(decide (x5.B<x3))))]) ?_ ?_
      ·cases C:(decide (x5.B>=0):Bool)with
       |true=>
        replace H:=H.kn 59 C;refine Ak 1 [] 61 0 2 A H λD t H=>?_;exact AR 3 [(64,.bool (decide (x5.B<x3)))] H λD H=>BJ H C
       |false=>
        replace H:=H.kn 59 C;exact AR 5 [(64,.bool false)] H λD H=>BJ H C
      intro t D Q J;obtain⟨e,H⟩:=J;subst e;refine Da id (BM 64 H M (λC M H=>?_) λC M H=>?_)
      ·refine Ea 8 (Ak 3 [(65,Ai x7),(66,AY r1 x1.length)] 68 0 2 A H λD t H=>?_);obtain⟨x10,X,M⟩:=AJ M;obtain⟨i2,er2,_,X,hq2⟩:=HH.Ow (encI .i64) (by decide) A 1 (xs:=x1) rfl X;refine Bj 69 (.ptr (some (i2,x5.B.toNat*1))) V H (λD=>.of (C9 (s:=Dt r1 x1.length) (by kernel_rfl) X)) λD t H=>?_;refine Bj 70 _ _ H (λD=>.of (Cf (by kernel_rfl) (Fb (encI .i64) (HH.row A 1 rfl er2) hq2 (o:=0) rfl))) λD t H=>?_;refine DE 2 [(1,.ptr (some (h.size,0))),(3,AY r1 x1.length),(4,Ai x6),(5,Ai x3),(7,Ai (i64.wrap (x7+x10)))] H λD H=>Ac ?_;exact .inl ⟨_,rfl,Bc M,H.ls,A⟩
      exact Fl (.inl ⟨_,rfl,Bc M,H.ls,A⟩)
     clear O;clear A;intro e D Y S;rcases S with⟨x9,rfl,rfl,H,A⟩|T
     ·show AW _ _ _ _ _ _ _;refine BC (AU 2 (Ao 2 [(73,.bool (decide (x9>40)))] H λD H=>BM 73 H M (λC M H=>?_) λC M H=>?_))
      ·refine AU 1 (Ao 1 [(2,.bool false)] H λD H=>Bf ?_);replace A:=A.k1 2;exact nr M λe=>Or.inr (.inl ⟨_,rfl,e,H.ls,A⟩)
      refine OD 5 id (AR 2 [(74,AY r1 x1.length),(75,Ai x9)] H λD H=>?_);obtain⟨h9,e4,A⟩:=A.pL 3 [Ai x9];refine DF 76 (AY (some Y.size) (([x9]:List Int).length)) e4 H λD t H=>?_;obtain⟨C,M⟩:=CT M;obtain⟨r2,W,X,E⟩:=HH.Ov (encI .i64) (by decide) A 2 (xs:=x1) (ys:=([x9]:List Int)) rfl (EI A 0 rfl (n:=([x9]:List Int).length) (z:=1) rfl (by decide)) rfl rfl C;replace A:HH g W [.Ag (some Y.size) 3 ([Ai x9]),_,.Ag r2 3 (Ag (eI .i64) (x1++([x9]:List Int))),_] F:=E;replace A:=A.k3 1 2 3;refine Bj 77 _ _ H (λD=>.of (KI (s:=Dt r1 x1.length) (by kernel_rfl) X)) λD t H=>?_;refine DE 1 [(1,.ptr (some (h.size,0))),(3,AY r2 ((x1++([x9]:List Int)).length)),(4,Ai x6),(5,Ai x3)] H λD H=>OL 3 id (DE 3 [(1,.ptr (some (h.size,0))),(3,AY r2 ((x1++([x9]:List Int)).length)),(4,Ai x6),(5,Ai (i64.wrap (x3+1)))] H λD H=>Ac ?_);replace A:=A.k2 1 2;exact nx M ⟨_,_,_,rfl,_,H.ls,A⟩
     exact T.elim
    exact T.elim
   exact T.elim
  refine Cz (i:=0) (by kernel_rfl) ?_;replace A:=A.k1 1;exact nr M λe=>.inl ⟨rfl,e,H.ls,A⟩
 clear O;clear A;intro e D U S;rcases S with⟨rfl,rfl,H,A⟩|⟨x4,rfl,rfl,H,A⟩|T
 ·show AW _ _ _ _ _ _ _;refine AU 1 (Ao 1 [(2,.bool true)] H λD H=>Bf ?_);obtain rfl:=Bc M;refine⟨.inl rfl,.bool true,rH H,?_⟩;replace A:=A.d0;exact⟨rfl,A⟩
 ·obtain rfl:=Bc M;refine⟨.inl rfl,.bool x4,rH H,?_⟩;replace A:=A.d0;exact⟨rfl,A⟩
 exact T.elim
def CH:Option Bool:=some true
theorem DY{q0}(M:CH=some q0):CW cfg g h 15 [] (.bool q0) h:=by
 have e1:=zK M;subst e1;exact Wr (by kernel_rfl) rfl rfl (Ur 1000 (by kernel_rfl))
def C8(p0:AN):Option (AN×Bool):=
 (A3 (p0.Kind==0) (some true) (A3 (p0.Kind==6) (some true) (some (p0.Kind==7))):Option ((Bool))).bind λx1=>A3 x1 (some ((⟨p0.Kind,(0:Int),(0:Int),(0:Int),(0:Int),(0:Int),(⟨(0:Int),(0:Int),(0:Int),(0:Int)⟩:BB)⟩:AN),true)) (A3 (p0.Kind==1) (some ((⟨(1:Int),(0:Int),(0:Int),(0:Int),(0:Int),(0:Int),p0.Set⟩:AN),true)) ((A3 (p0.Kind==2) (some true) (some (p0.Kind==3)):Option ((Bool))).bind λx2=>A3 x2 (some ((⟨p0.Kind,p0.A,p0.B,(0:Int),(0:Int),(0:Int),(⟨(0:Int),(0:Int),(0:Int),(0:Int)⟩:BB)⟩:AN),true)) (A3 (p0.Kind==4) (some ((⟨(4:Int),p0.A,(0:Int),p0.Min,p0.Max,(0:Int),(⟨(0:Int),(0:Int),(0:Int),(0:Int)⟩:BB)⟩:AN),true)) (A3 (p0.Kind==5) (some ((⟨(5:Int),p0.A,(0:Int),(0:Int),(0:Int),p0.Bl,(⟨(0:Int),(0:Int),(0:Int),(0:Int)⟩:BB)⟩:AN),true)) (some ((⟨(0:Int),(0:Int),(0:Int),(0:Int),(0:Int),(0:Int),(⟨(0:Int),(0:Int),(0:Int),(0:Int)⟩:BB)⟩:AN),false))))))
theorem Oe{p0 q0 q1}(M:C8 p0=some (q0,q1))(A:HH g h [] F)(hc:C1 (cfg.still 60) av=[.agg (AG p0)]:=by kernel_rfl):∃v Q,CW cfg g h 60 av v Q/\v=.tuple [.agg (AG q0),.bool q1]/\HH g Q [] F:=by
 refine Mg 45 [.cell 2 68,.tmp 3] hc ?_;clear hc;unfold C8 at M;refine bg 45 [(0,.agg (AG p0))] λD H=>?_;refine AU 3 ?_;obtain⟨h1,e1,A⟩:=A.pu (.cells none 2 (AG p0));refine DF 1 (.ptr (some (h.size,0))) e1 H λD t H=>?_;obtain⟨I,e2,A⟩:=A.pu (.cells none 2 VS);refine DF 2 (.ptr (some (h1.size,0))) e2 H λD t H=>?_;refine Ao 1 [] H λD H=>BC (AU 2 (Ak 1 [] 5 1 0 A H λD t H=>?_));refine Da id (A4 (id:=0) (by kernel_rfl) ?_);refine BC ?_;obtain⟨o1,O,M⟩:=AJ M;refine BZ (Q':=λe N Q=>(∃x1,e=.normal/\x1=o1/\Has N 45 [(1,.ptr (some (h.size,0))),(2,.ptr (some (h1.size,0))),(5,Ai p0.Kind),(6,.bool x1)]/\HH g Q [.obj h1.size (.cells none 2 VS),.obj h.size (.cells none 2 (AG p0))] F)\/False) ?_ ?_
 ·replace M:=O;clear O;refine AU 2 (Ao 2 [(6,.bool (p0.Kind==0))] H λD H=>BM 6 H M (λC M H=>?_) λC M H=>?_)
  ·exact Fl (.inl ⟨_,rfl,Bc M,H.ls,A⟩)
  refine AU 2 (DE 2 [(1,.ptr (some (h.size,0))),(2,.ptr (some (h1.size,0))),(5,Ai p0.Kind),(6,.bool (p0.Kind==6))] H λD H=>Da id (BM 6 H M (λC M H=>?_) λC M H=>?_))
  ·exact Fl (.inl ⟨_,rfl,Bc M,H.ls,A⟩)
  refine Ea 2 (DE 2 [(1,.ptr (some (h.size,0))),(2,.ptr (some (h1.size,0))),(5,Ai p0.Kind),(6,.bool (p0.Kind==7))] H λD H=>Ac ?_);exact .inl ⟨_,rfl,Bc M,H.ls,A⟩
 clear O;clear A;intro e D K S;rcases S with⟨x1,rfl,rfl,H,A⟩|T
 ·show AW _ _ _ _ _ _ _;refine BM 6 H M (λC M H=>?_) λC M H=>?_
  ·refine AU 5 (Ak 1 [] 11 1 0 A H λD t H=>?_);obtain⟨h4,X,A⟩:=A.s0 0 [Ai p0.Kind,Ai 0,Ai 0,Ai 0,Ai 0,Ai 0,Au 0,Au 0,Au 0,Au 0] [_,_,_,_,_,_,_,_,_,_];refine NP 1 [] X H λD t H=>?_;refine Ao 1 [(3,.bool true)] H λD H=>Bf ?_;obtain⟨rfl,rfl⟩:=Ms M;refine⟨.inl rfl,.tuple [.agg [Ai p0.Kind,Ai 0,Ai 0,Ai 0,Ai 0,Ai 0,Au 0,Au 0,Au 0,Au 0],.bool true],H4 (.cell (rT H) (IS (by kernel_rfl) (by kernel_rfl) (A.la 0 0 10)) (.tmp (rT H) .nil)),?_⟩;replace A:=A.d0;exact⟨rfl,A⟩
  refine AU 2 (Ao 2 [(13,.bool (p0.Kind==1))] H λD H=>BM 13 H M (λC M H=>?_) λC M H=>?_)
  ·refine AU 5 (D3 1 [] 16 _ _ H (λD=>.of (Db (by kernel_rfl) (A.Gp 1 rfl (o:=6) (n:=4) ⟨zj rfl,rfl⟩))) λD t H=>?_);obtain⟨G,X,A⟩:=A.s0 0 [Ai 1,Ai 0,Ai 0,Ai 0,Ai 0,Ai 0,Au p0.Set.w0,Au p0.Set.w1,Au p0.Set.w2,Au p0.Set.w3] [_,_,_,_,_,_,_,_,_,_];refine NP 1 [] X H λD t H=>?_;refine Ao 1 [(3,.bool true)] H λD H=>Bf ?_;obtain⟨rfl,rfl⟩:=Ms M;refine⟨.inl rfl,.tuple [.agg [Ai 1,Ai 0,Ai 0,Ai 0,Ai 0,Ai 0,Au p0.Set.w0,Au p0.Set.w1,Au p0.Set.w2,Au p0.Set.w3],.bool true],H4 (.cell (rT H) (IS (by kernel_rfl) (by kernel_rfl) (A.la 0 0 10)) (.tmp (rT H) .nil)),?_⟩;replace A:=A.d0;exact⟨rfl,A⟩
  refine BC ?_;obtain⟨o2,O,M⟩:=AJ M;refine BZ (Q':=λe N Q=>(∃x2,e=.normal/\x2=o2/\Has N 45 [(1,.ptr (some (h.size,0))),(2,.ptr (some (h1.size,0))),(5,Ai p0.Kind),(18,.bool x2)]/\HH g Q [.obj h1.size (.cells none 2 VS),.obj h.size (.cells none 2 (AG p0))] F)\/False) ?_ ?_
  ·replace M:=O;clear O;refine AU 2 (Ao 2 [(18,.bool (p0.Kind==2))] H λD H=>BM 18 H M (λC M H=>?_) λC M H=>?_)
   ·exact Fl (.inl ⟨_,rfl,Bc M,H.ls,A⟩)
   refine Ea 2 (DE 2 [(1,.ptr (some (h.size,0))),(2,.ptr (some (h1.size,0))),(5,Ai p0.Kind),(18,.bool (p0.Kind==3))] H λD H=>Ac ?_);exact .inl ⟨_,rfl,Bc M,H.ls,A⟩
  clear O;clear A;intro e D h6 S;rcases S with⟨x2,rfl,rfl,H,A⟩|T
  ·show AW _ _ _ _ _ _ _;refine BM 18 H M (λC M H=>?_) λC M H=>?_
   ·refine AU 9 (Ak 1 [] 22 1 0 A H λD t H=>?_);refine Ak 1 [] 24 1 1 A H λD t H=>?_;refine Ak 1 [] 26 1 2 A H λD t H=>?_;obtain⟨V,X,A⟩:=A.s0 0 [Ai p0.Kind,Ai p0.A,Ai p0.B,Ai 0,Ai 0,Ai 0,Au 0,Au 0,Au 0,Au 0] [_,_,_,_,_,_,_,_,_,_];refine NP 1 [] X H λD t H=>?_;refine Ao 1 [(3,.bool true)] H λD H=>Bf ?_;obtain⟨rfl,rfl⟩:=Ms M;refine⟨.inl rfl,.tuple [.agg [Ai p0.Kind,Ai p0.A,Ai p0.B,Ai 0,Ai 0,Ai 0,Au 0,Au 0,Au 0,Au 0],.bool true],H4 (.cell (rT H) (IS (by kernel_rfl) (by kernel_rfl) (A.la 0 0 10)) (.tmp (rT H) .nil)),?_⟩;replace A:=A.d0;exact⟨rfl,A⟩
   refine AU 2 (Ao 2 [(28,.bool (p0.Kind==4))] H λD H=>BM 28 H M (λC M H=>?_) λC M H=>?_)
   ·refine AU 9 (Ak 1 [] 31 1 1 A H λD t H=>?_);refine Ak 1 [] 33 1 3 A H λD t H=>?_;refine Ak 1 [] 35 1 4 A H λD t H=>?_;obtain⟨Y,X,A⟩:=A.s0 0 [Ai 4,Ai p0.A,Ai 0,Ai p0.Min,Ai p0.Max,Ai 0,Au 0,Au 0,Au 0,Au 0] [_,_,_,_,_,_,_,_,_,_];refine NP 1 [] X H λD t H=>?_;refine Ao 1 [(3,.bool true)] H λD H=>Bf ?_;obtain⟨rfl,rfl⟩:=Ms M;refine⟨.inl rfl,.tuple [.agg [Ai 4,Ai p0.A,Ai 0,Ai p0.Min,Ai p0.Max,Ai 0,Au 0,Au 0,Au 0,Au 0],.bool true],H4 (.cell (rT H) (IS (by kernel_rfl) (by kernel_rfl) (A.la 0 0 10)) (.tmp (rT H) .nil)),?_⟩;replace A:=A.d0;exact⟨rfl,A⟩
   refine AU 2 (Ao 2 [(37,.bool (p0.Kind==5))] H λD H=>BM 37 H M (λC M H=>?_) λC M H=>?_)
   ·refine AU 7 (Ak 1 [] 40 1 1 A H λD t H=>?_);refine Ak 1 [] 42 1 5 A H λD t H=>?_;obtain⟨h9,X,A⟩:=A.s0 0 [Ai 5,Ai p0.A,Ai 0,Ai 0,Ai 0,Ai p0.Bl,Au 0,Au 0,Au 0,Au 0] [_,_,_,_,_,_,_,_,_,_];refine NP 1 [] X H λD t H=>?_;refine Ao 1 [(3,.bool true)] H λD H=>Bf ?_;obtain⟨rfl,rfl⟩:=Ms M;refine⟨.inl rfl,.tuple [.agg [Ai 5,Ai p0.A,Ai 0,Ai 0,Ai 0,Ai p0.Bl,Au 0,Au 0,Au 0,Au 0],.bool true],H4 (.cell (rT H) (IS (by kernel_rfl) (by kernel_rfl) (A.la 0 0 10)) (.tmp (rT H) .nil)),?_⟩;replace A:=A.d0;exact⟨rfl,A⟩
   refine JD 3 id ?_;obtain⟨W,X,A⟩:=A.s0 0 VS [_,_,_,_,_,_,_,_,_,_];refine NP 1 [] X H λD t H=>?_;refine Ao 1 [(3,.bool false)] H λD H=>Bf ?_;obtain⟨rfl,rfl⟩:=Ms M;refine⟨.inl rfl,.tuple [.agg [Ai 0,Ai 0,Ai 0,Ai 0,Ai 0,Ai 0,Au 0,Au 0,Au 0,Au 0],.bool false],H4 (.cell (rT H) (IS (by kernel_rfl) (by kernel_rfl) (A.la 0 0 10)) (.tmp (rT H) .nil)),?_⟩;replace A:=A.d0;exact⟨rfl,A⟩
  exact T.elim
 exact T.elim
def C7(p0:Int)(p1:Int):Option (Bool):=
 some ((decide (p0>=0))&&(decide (p0<p1)))
theorem Fk{p0 p1 bp1 q0}(M:C7 p0 p1=some q0)(A:HH g h [.obj bp1 (.cells none 2 [Ai p1])] F)(hc:C1 (cfg.still 61) av=[Ai p0,.ptr (some (bp1,0))]:=by kernel_rfl):∃v Q,CW cfg g h 61 av v Q/\v=.bool q0/\HH g Q [.obj bp1 (.cells none 2 [Ai p1])] F:=by
 refine Mg 11 [.tmp 3] hc ?_;clear hc;unfold C7 at M;refine bg 11 [(0,Ai p0),(1,.ptr (some (bp1,0)))] λD H=>?_;refine AU 1 (G3 1 [] 8 H λD H=>AR 3 [(6,.bool (decide (p0>=0)))] H λD H=>CE 4 (λN Q=>h=Q/\Has N 11 [(10,.bool ((decide (p0>=0))&&(decide (p0<p1))))]) ?_ ?_)
 ·cases C:(decide (p0>=0):Bool)with
  |true=>
   replace H:=H.kn 6 C;refine Ak 1 [(7,Ai p0)] 8 0 0 A H λD t H=>?_;exact AR 2 [(10,.bool (decide (p0<p1)))] H λD H=>BJ H C
  |false=>
   replace H:=H.kn 6 C;exact AR 4 [(10,.bool false)] H λD H=>BJ H C
 intro t D Q J;obtain⟨e,H⟩:=J;subst e;refine Ao 1 [(3,.bool ((decide (p0>=0))&&(decide (p0<p1))))] H λD H=>Bf ?_;obtain rfl:=Bc M;exact⟨.inl rfl,_,rH H,rfl,A⟩
def C3(p0:AN)(p1:Int):Option (Bool):=
 (C8 p0).bind λ(x1,x2)=>(A3 (!x2) (some true) ((Va cfg.P 68 (AG x1) (AG p0)).bind λx4=>some (!x4)):Option (Bool)).bind λx3=>A3 x3 (some false) ((A3 (p0.Kind==2) (some true) (some (p0.Kind==3)):Option ((Bool))).bind λx5=>A3 x5 ((C7 p0.A p1).bind λx6=>(A3 x6 ((C7 p0.B p1).bind λx8=>some x8) (some false):Option (Bool)).bind λx7=>some x7) (A3 (p0.Kind==4) ((C7 p0.A p1).bind λx9=>some (((x9&&(decide (p0.Min>=0)))&&(decide (p0.Min<=255)))&&((p0.Max==(-1))||((decide (p0.Max>=p0.Min))&&(decide (p0.Max<=255)))))) (A3 (p0.Kind==5) ((C7 p0.A p1).bind λx10=>some ((x10&&(decide (p0.Bl>=1)))&&(decide (p0.Bl<=1024)))) (some true))))
theorem Pt{p0 p1 q0}(M:C3 p0 p1=some q0)(A:HH g h [] F)(hc:C1 (cfg.still 43) av=[.agg (AG p0),Ai p1]:=by kernel_rfl):∃v Q,CW cfg g h 43 av v Q/\v=.bool q0/\HH g Q [] F:=by
 refine Mg 85 [.tmp 4] hc ?_;clear hc;unfold C3 at M;refine bg 85 [(0,.agg (AG p0)),(1,Ai p1)] λD H=>?_;refine AU 3 ?_;obtain⟨h1,e1,A⟩:=A.pu (.cells none 2 (AG p0));refine DF 2 (.ptr (some (h.size,0))) e1 H λD t H=>?_;obtain⟨I,e2,A⟩:=A.pu (.cells none 2 [Ai p1]);refine DF 3 (.ptr (some (h1.size,0))) e2 H λD t H=>?_;refine Ao 1 [] H λD H=>BC (AU 8 (Bj 9 _ _ H (λD=>.of (Db (by kernel_rfl) (A.Gp 1 rfl (o:=0) (n:=10) ⟨zj rfl,rfl⟩))) λD t H=>?_));obtain⟨⟨x1,x2⟩,X,M⟩:=AJ M;obtain⟨v1,K,R,rfl,E⟩:=Oe (av:=[.agg (AG p0)]) X (A.cut 0);replace A:HH g K [.obj h1.size (.cells none 2 [Ai p1]),.obj h.size (.cells none 2 (AG p0))] F:=A.JN (n:=0) E;refine F1 10 R H λD t H=>?_;obtain⟨h4,e3,A⟩:=A.pu (.cells none 2 VS);refine Q9 3 [(11,.agg (AG x1)),(12,.bool x2)] 5 (.ptr (some (K.size,0))) e3 H λD t H=>?_;obtain⟨G,X,A⟩:=A.s0 0 (AG x1) [_,_,_,_,_,_,_,_,_,_];refine Km X H λD t H=>?_;refine G3 1 [(6,.bool x2)] 7 H λD H=>AR 3 [(15,.bool (!x2))] H λD H=>?_;obtain⟨x3,O,M⟩:=AJ M;refine CE 4 (λN Q=>Has N 85 [(2,.ptr (some (h.size,0))),(3,.ptr (some (h1.size,0))),(19,.bool x3)]/\HH g Q [.obj K.size (.cells none 2 (AG x1)),.obj h1.size (.cells none 2 [Ai p1]),.obj h.size (.cells none 2 (AG p0))] F) ?_ ?_
 ·rcases BH O with⟨C,M⟩|⟨C,M⟩
  ·replace H:=H.kn 15 C;refine AR 4 [(19,.bool true)] H λD H=>?_;obtain rfl:=Bc M;exact Ac ⟨H.ls,A⟩
  replace H:=H.kn 15 C;refine Bj 16 _ _ H (λD=>.of (Db (by kernel_rfl) (A.Gp 0 rfl (o:=0) (n:=10) ⟨zj rfl,rfl⟩))) λD t H=>?_;refine Bj 17 _ _ H (λD=>.of (Db (by kernel_rfl) (A.Gp 2 rfl (o:=0) (n:=10) ⟨zj rfl,rfl⟩))) λD t H=>?_;obtain⟨x4,X,M⟩:=AJ M;refine Bj 18 (.bool (!x4)) G H (λD=>.of (X8 (by kernel_rfl) X)) λD t H=>?_;refine AR 1 [(19,.bool (!x4))] H λD H=>?_;obtain rfl:=Bc M;exact Ac ⟨H.ls,A⟩
 clear A;intro t D h6 J;obtain⟨H,A⟩:=J;refine Da id (BM 19 H M (λC M H=>?_) λC M H=>?_)
 ·refine AU 1 (Ao 1 [(4,.bool false)] H λD H=>Bf ?_);obtain rfl:=Bc M;refine⟨.inl rfl,.bool false,rH H,?_⟩;replace A:=A.d0;exact⟨rfl,A⟩
 refine JD 2 id (Ao 2 [(7,.func (.func 61) [] [.ptr (some (h1.size,0))])] H λD H=>BC (AU 2 (Ak 1 [] 22 2 0 A H λD t H=>?_)));refine Da id (A4 (id:=0) (by kernel_rfl) ?_);refine BC ?_;obtain⟨o1,O,M⟩:=AJ M;refine BZ (Q':=λe N Q=>(∃x5,e=.normal/\x5=o1/\Has N 85 [(2,.ptr (some (h.size,0))),(7,.func (.func 61) [] [.ptr (some (h1.size,0))]),(22,Ai p0.Kind),(23,.bool x5)]/\HH g Q [.obj K.size (.cells none 2 (AG x1)),.obj h1.size (.cells none 2 [Ai p1]),.obj h.size (.cells none 2 (AG p0))] F)\/False) ?_ ?_
 ·replace M:=O;clear O;refine AU 2 (Ao 2 [(23,.bool (p0.Kind==2))] H λD H=>BM 23 H M (λC M H=>?_) λC M H=>?_)
  ·exact Fl (.inl ⟨_,rfl,Bc M,H.ls,A⟩)
  refine Ea 2 (DE 2 [(2,.ptr (some (h.size,0))),(7,.func (.func 61) [] [.ptr (some (h1.size,0))]),(22,Ai p0.Kind),(23,.bool (p0.Kind==3))] H λD H=>Ac ?_);exact .inl ⟨_,rfl,Bc M,H.ls,A⟩
 clear O;clear A;intro e D V S;rcases S with⟨x5,rfl,rfl,H,A⟩|T
 ·show AW _ _ _ _ _ _ _;refine BM 23 H M (λC M H=>?_) λC M H=>?_
  ·refine AU 11 (Ak 2 [(26,.func (.func 61) [] [.ptr (some (h1.size,0))])] 28 2 1 A H λD t H=>?_);replace A:=A.k3 1 0 2;obtain⟨x6,X,M⟩:=AJ M;obtain⟨v1,Y,R,rfl,E⟩:=Fk (av:=[Ai p0.A,.ptr (some (h1.size,0))]) X (A.cut 1);replace A:=A.g11 E;refine F1 29 R H λD t H=>?_;refine AR 1 [(30,.bool x6)] H λD H=>?_;obtain⟨x7,O,M⟩:=AJ M;refine CE 5 (λN Q=>Has N 85 [(35,.bool x7)]/\HH g Q [.obj h1.size (.cells none 2 [Ai p1]),.obj K.size (.cells none 2 (AG x1)),.obj h.size (.cells none 2 (AG p0))] F) ?_ ?_
   ·rcases BH O with⟨C,M⟩|⟨C,M⟩
    ·replace H:=H.kn 30 C;refine Ak 2 [(31,.func (.func 61) [] [.ptr (some (h1.size,0))])] 33 2 2 A H λD t H=>?_;obtain⟨x8,X,M⟩:=AJ M;obtain⟨v1,W,R,rfl,E⟩:=Fk (av:=[Ai p0.B,.ptr (some (h1.size,0))]) X (A.cut 1);replace A:=A.g11 E;refine F1 34 R H λD t H=>?_;refine AR 1 [(35,.bool x8)] H λD H=>?_;obtain rfl:=Bc M;exact Ac ⟨H.ls,A⟩
    replace H:=H.kn 30 C;refine AR 5 [(35,.bool false)] H λD H=>?_;obtain rfl:=Bc M;exact Ac ⟨H.ls,A⟩
   clear A;intro t D h9 J;obtain⟨H,A⟩:=J;refine Ao 1 [(4,.bool x7)] H λD H=>Bf ?_;obtain rfl:=Bc M;refine⟨.inl rfl,.bool x7,rH H,?_⟩;replace A:=A.d0;exact⟨rfl,A⟩
  refine AU 2 (Ao 2 [(36,.bool (p0.Kind==4))] H λD H=>BM 36 H M (λC M H=>?_) λC M H=>?_)
  ·refine AU 32 (Ak 2 [(38,.func (.func 61) [] [.ptr (some (h1.size,0))])] 40 2 1 A H λD t H=>?_);replace A:=A.k3 1 0 2;obtain⟨x9,X,M⟩:=AJ M;obtain⟨v1,U,R,rfl,E⟩:=Fk (av:=[Ai p0.A,.ptr (some (h1.size,0))]) X (A.cut 1);replace A:=A.g11 E;refine F1 41 R H λD t H=>?_;refine AR 1 [(42,.bool x9)] H λD H=>CE 4 (λN Q=>U=Q/\Has N 85 [(2,.ptr (some (h.size,0))),(46,.bool (x9&&(decide (p0.Min>=0))))]) ?_ ?_
   ·cases C:(x9:Bool)with
    |true=>
     replace H:=H.kn 42 C;refine Ak 1 [] 44 2 3 A H λD t H=>?_;exact AR 2 [(46,.bool (decide (p0.Min>=0)))] H λD H=>BJ H C
    |false=>
     replace H:=H.kn 42 C;exact AR 4 [(46,.bool false)] H λD H=>BJ H C
   intro t D Q J;obtain⟨e,H⟩:=J;subst e;refine AR 1 [(47,.bool (x9&&(decide (p0.Min>=0))))] H λD H=>CE 4 (λN Q=>U=Q/\Has N 85 [(2,.ptr (some (h.size,0))),(51,.bool ((x9&&(decide (p0.Min>=0)))&&(decide (p0.Min<=255))))]) ?_ ?_
   ·cases C:(x9&&(decide (p0.Min>=0)):Bool)with
    |true=>
     replace H:=H.kn 47 C;refine Ak 1 [] 49 2 3 A H λD t H=>?_;exact AR 2 [(51,.bool (decide (p0.Min<=255)))] H λD H=>BJ H C
    |false=>
     replace H:=H.kn 47 C;exact AR 4 [(51,.bool false)] H λD H=>BJ H C
   intro t D Q J;obtain⟨e,H⟩:=J;subst e;refine AR 1 [(52,.bool ((x9&&(decide (p0.Min>=0)))&&(decide (p0.Min<=255))))] H λD H=>CE 16 (λN Q=>U=Q/\Has N 85 [(68,.bool (((x9&&(decide (p0.Min>=0)))&&(decide (p0.Min<=255)))&&((p0.Max==(-1))||((decide (p0.Max>=p0.Min))&&(decide (p0.Max<=255))))))]) ?_ ?_
   ·cases C:((x9&&(decide (p0.Min>=0)))&&(decide (p0.Min<=255)):Bool)with
    | true=>
     replace H:=H.kn 52 C;refine Ak 1 [] 54 2 4 A H λD t H=>?_;refine AR 2 [(56,.bool (p0.Max==(-1)))] H λD H=>CE 11 (λN Q=>U=Q/\Has N 85 [(52,.bool true),(67,.bool ((p0.Max==(-1))||((decide (p0.Max>=p0.Min))&&(decide (p0.Max<=255)))))]) ?_ ?_
     ·cases C:(p0.Max==(-1):Bool)with
      |true=>
       replace H:=H.kn 56 C;exact AR 11 [(67,.bool true)] H λD H=>BJ H C
      | false=>
       replace H:=H.kn 56 C;refine Ak 1 [] 58 2 4 A H λD t H=>?_;refine Ak 1 [] 60 2 3 A H λD t H=>?_;refine AR 2 [(62,.bool (decide (p0.Max>=p0.Min)))] H λD H=>CE 4 (λN Q=>U=Q/\Has N 85 [(52,.bool true),(56,.bool false),(66,.bool ((decide (p0.Max>=p0.Min))&&(decide (p0.Max<=255))))]) ?_ ?_
       ·cases C:(decide (p0.Max>=p0.Min):Bool)with
        |true=>
         replace H:=H.kn 62 C;refine Ak 1 [] 64 2 4 A H λD t H=>?_;exact AR 2 [(66,.bool (decide (p0.Max<=255)))] H λD H=>BJ H C
        |false=>
         replace H:=H.kn 62 C;exact AR 4 [(66,.bool false)] H λD H=>BJ H C
       intro t D Q J;obtain⟨e,H⟩:=J;subst e;exact AR 1 [(67,.bool ((decide (p0.Max>=p0.Min))&&(decide (p0.Max<=255))))] H λD H=>BJ H C
     intro t D Q J;obtain⟨e,H⟩:=J;subst e;exact AR 1 [(68,.bool ((p0.Max==(-1))||((decide (p0.Max>=p0.Min))&&(decide (p0.Max<=255)))))] H λD H=>BJ H C
    |false=>
     replace H:=H.kn 52 C;exact AR 16 [(68,.bool false)] H λD H=>BJ H C
   intro t D Q J;obtain⟨e,H⟩:=J;subst e;refine Ao 1 [(4,.bool (((x9&&(decide (p0.Min>=0)))&&(decide (p0.Min<=255)))&&((p0.Max==(-1))||((decide (p0.Max>=p0.Min))&&(decide (p0.Max<=255))))))] H λD H=>Bf ?_;obtain rfl:=Bc M;refine⟨.inl rfl,.bool (((x9&&(decide (p0.Min>=0)))&&(decide (p0.Min<=255)))&&((p0.Max==(-1))||((decide (p0.Max>=p0.Min))&&(decide (p0.Max<=255))))),rH H,?_⟩;replace A:=A.d0;exact⟨rfl,A⟩
  refine AU 2 (Ao 2 [(69,.bool (p0.Kind==5))] H λD H=>BM 69 H M (λC M H=>?_) λC M H=>?_)
  ·refine AU 15 (Ak 2 [(71,.func (.func 61) [] [.ptr (some (h1.size,0))])] 73 2 1 A H λD t H=>?_);replace A:=A.k3 1 0 2;obtain⟨x10,X,M⟩:=AJ M;obtain⟨v1,h12,R,rfl,E⟩:=Fk (av:=[Ai p0.A,.ptr (some (h1.size,0))]) X (A.cut 1);replace A:=A.g11 E;refine F1 74 R H λD t H=>?_;refine AR 1 [(75,.bool x10)] H λD H=>CE 4 (λN Q=>h12=Q/\Has N 85 [(2,.ptr (some (h.size,0))),(79,.bool (x10&&(decide (p0.Bl>=1))))]) ?_ ?_
   ·cases C:(x10:Bool)with
    |true=>
     replace H:=H.kn 75 C;refine Ak 1 [] 77 2 5 A H λD t H=>?_;exact AR 2 [(79,.bool (decide (p0.Bl>=1)))] H λD H=>BJ H C
    |false=>
     replace H:=H.kn 75 C;exact AR 4 [(79,.bool false)] H λD H=>BJ H C
   intro t D Q J;obtain⟨e,H⟩:=J;subst e;refine AR 1 [(80,.bool (x10&&(decide (p0.Bl>=1))))] H λD H=>CE 4 (λN Q=>h12=Q/\Has N 85 [(84,.bool ((x10&&(decide (p0.Bl>=1)))&&(decide (p0.Bl<=1024))))]) ?_ ?_
   ·cases C:(x10&&(decide (p0.Bl>=1)):Bool)with
    |true=>
     replace H:=H.kn 80 C;refine Ak 1 [] 82 2 5 A H λD t H=>?_;exact AR 2 [(84,.bool (decide (p0.Bl<=1024)))] H λD H=>BJ H C
    |false=>
     replace H:=H.kn 80 C;exact AR 4 [(84,.bool false)] H λD H=>BJ H C
   intro t D Q J;obtain⟨e,H⟩:=J;subst e;refine Ao 1 [(4,.bool ((x10&&(decide (p0.Bl>=1)))&&(decide (p0.Bl<=1024))))] H λD H=>Bf ?_;obtain rfl:=Bc M;refine⟨.inl rfl,.bool ((x10&&(decide (p0.Bl>=1)))&&(decide (p0.Bl<=1024))),rH H,?_⟩;replace A:=A.d0;exact⟨rfl,A⟩
  refine JD 1 id (Ao 1 [(4,.bool true)] H λD H=>Bf ?_);obtain rfl:=Bc M;refine⟨.inl rfl,.bool true,rH H,?_⟩;replace A:=A.d0;exact⟨rfl,A⟩
 exact T.elim
def EZ(p0:AL)(s:Int):Option ((Int)⊕((Unit)⊕(Bool))):=
 match s with
 |x1=>A3 (decide (x1<(p0.Ad.length:Int))) ((Iz p0.Ad x1).bind λx3=>(C3 x3 x1).bind λx4=>A3 (!x4) (some (.inr (.inr false))) (some (.inl (i64.wrap (x1+1))))) (some (.inr (.inl ())))
def Cm(p0:AL):Option (Bool):=
 A3 (((decide ((p0.Ad.length:Int)>1024))||(decide (p0.A2<0)))||(decide (p0.A2>=(p0.Ad.length:Int)))) (some false) ((loop (EZ p0) (0:Int)).bind λo1=>(match o1 with| .inl _=>some true| .inr x2=>some x2))
theorem Kz{p0 q0}(M:Cm p0=some q0)(A:HH g h [] F)(hc:C1 (cfg.still 26) av=[.agg [vs AG p0.Ad,Ai p0.A2]]:=by kernel_rfl):∃v Q,CW cfg g h 26 av v Q/\v=.bool q0/\HH g Q [] F:=by
 refine Mg 35 [.tmp 2] hc ?_;clear hc;unfold Cm at M;refine bg 35 [(0,.agg [vs AG p0.Ad,Ai p0.A2])] λD H=>?_;refine AU 2 ?_;obtain⟨h1,e1,A⟩:=A.pu (.cells none 2 [vs AG p0.Ad,Ai p0.A2]);refine DF 1 (.ptr (some (h.size,0))) e1 H λD t H=>?_;refine Ao 1 [] H λD H=>BC (AU 17 (Ak 1 [] 6 0 0 A H λD t H=>?_));refine AR 3 [(9,.bool (decide ((p0.Ad.length:Int)>1024)))] H λD H=>CE 4 (λN Q=>h1=Q/\Has N 35 [(1,.ptr (some (h.size,0))),(13,.bool ((decide ((p0.Ad.length:Int)>1024))||(decide (p0.A2<0))))]) ?_ ?_
 ·cases C:(decide ((p0.Ad.length:Int)>1024):Bool)with
  |true=>
   replace H:=H.kn 9 C;exact AR 4 [(13,.bool true)] H λD H=>BJ H C
  |false=>
   replace H:=H.kn 9 C;refine Ak 1 [] 11 0 1 A H λD t H=>?_;exact AR 2 [(13,.bool (decide (p0.A2<0)))] H λD H=>BJ H C
 intro t D Q J;obtain⟨e,H⟩:=J;subst e;refine AR 1 [(14,.bool ((decide ((p0.Ad.length:Int)>1024))||(decide (p0.A2<0))))] H λD H=>CE 7 (λN Q=>h1=Q/\Has N 35 [(1,.ptr (some (h.size,0))),(21,.bool (((decide ((p0.Ad.length:Int)>1024))||(decide (p0.A2<0)))||(decide (p0.A2>=(p0.Ad.length:Int)))))]) ?_ ?_
 ·cases C:((decide ((p0.Ad.length:Int)>1024))||(decide (p0.A2<0)):Bool)with
  |true=>
   replace H:=H.kn 14 C;exact AR 7 [(21,.bool true)] H λD H=>BJ H C
  |false=>
   replace H:=H.kn 14 C;refine Ak 1 [] 16 0 1 A H λD t H=>?_;refine Ak 1 [] 18 0 0 A H λD t H=>?_;exact AR 3 [(21,.bool (decide (p0.A2>=(p0.Ad.length:Int))))] H λD H=>BJ H C
 intro t D Q J;obtain⟨e,H⟩:=J;subst e;refine Da id (BM 21 H M (λC M H=>?_) λC M H=>?_)
 ·refine AU 1 (Ao 1 [(2,.bool false)] H λD H=>Bf ?_);obtain rfl:=Bc M;refine⟨.inl rfl,.bool false,rH H,?_⟩;replace A:=A.d0;exact⟨rfl,A⟩
 refine E5 id (BC (AU 4 (Ak 1 [] 23 0 0 A H λD t H=>?_)));refine Ao 2 [(24,Ai (p0.Ad.length:Int)),(25,Ai 0)] H λD H=>A4 (id:=0) (by kernel_rfl) ?_;obtain⟨o1,O,M⟩:=AJ M;refine BZ (Q':=λe N Q=>(e=.exit 0/\.inl ()=o1/\Has N 35 []/\HH g Q [.obj h.size (.cells none 2 [vs AG p0.Ad,Ai p0.A2])] F)\/(∃x2,e=.ret/\.inr x2=o1/\Has N 35 [(2,.bool x2)]/\HH g Q [.obj h.size (.cells none 2 [vs AG p0.Ad,Ai p0.A2])] F)\/False) ?_ ?_
 ·refine DN (by kernel_rfl) (λ(s:Int) N Q=>∃x1,x1=s/\Has N 35 [(23,vs AG p0.Ad),(24,Ai (p0.Ad.length:Int)),(25,Ai x1)]/\HH g Q [.obj h.size (.cells none 2 [vs AG p0.Ad,Ai p0.A2])] F) O ⟨_,rfl,H.ls,A⟩ ?_;clear O M H A;intro s q D I hI M;obtain⟨x1,rfl,H,A⟩:=hI;unfold EZ at M;refine AU 1 (Ao 1 [(26,.bool (decide (x1<(p0.Ad.length:Int))))] H λD H=>BC (BM 26 H M (λC M H=>?_) λC M H=>?_))
  ·refine E5 id (BC (A4 (id:=1) (by kernel_rfl) ?_));refine AU 6 ?_;obtain⟨x3,X,M⟩:=AJ M;refine D3 1 [(27,Ai x1)] 28 (.Bu (AG x3)) I H (λD=>.of (Lp (e:=AG) (x:=x3) GN (by decide) (by kernel_rfl) X)) λD t H=>?_;refine Bj 29 (.agg (AG x3)) I H (λD=>.of (L9 (by kernel_rfl))) λD t H=>?_;obtain⟨K,e2,A⟩:=A.pu (.cells none 2 VS);refine DF 4 (.ptr (some (I.size,0))) e2 H λD t H=>?_;obtain⟨h4,X,A⟩:=A.s0 0 (AG x3) [_,_,_,_,_,_,_,_,_,_];refine NP 1 [(3,Ai x1)] X H λD t H=>?_;refine Jv 4 id (Bj 30 _ _ H (λD=>.of (Db (by kernel_rfl) (A.Gp 0 rfl (o:=0) (n:=10) ⟨zj rfl,rfl⟩))) λD t H=>?_);obtain⟨x4,X,M⟩:=AJ M;obtain⟨v1,G,R,rfl,E⟩:=Pt (av:=[.agg (AG x3),Ai x1]) X (A.cut 0);replace A:=A.SF E;refine Ds 1 [] 32 R H λD t H=>?_;refine Ao 1 [(33,.bool (!x4))] H λD H=>BM 33 H M (λC M H=>?_) λC M H=>?_
   ·refine AU 1 (Ao 1 [(2,.bool false)] H λD H=>Bf ?_);replace A:=A.k1 1;exact nr M λe=>Or.inr (.inl ⟨_,rfl,e,H.ls,A⟩)
   refine OD 2 id (DE 2 [(23,vs AG p0.Ad),(24,Ai (p0.Ad.length:Int)),(25,Ai (i64.wrap (x1+1)))] H λD H=>Ac ?_);replace A:=A.k1 1;exact nx M ⟨_,rfl,H.ls,A⟩
  refine Cz (i:=0) (by kernel_rfl) ?_;exact nr M λe=>.inl ⟨rfl,e,H.ls,A⟩
 clear O;clear A;intro e D h6 S;rcases S with⟨rfl,rfl,H,A⟩|⟨x2,rfl,rfl,H,A⟩|T
 ·show AW _ _ _ _ _ _ _;refine AU 1 (Ao 1 [(2,.bool true)] H λD H=>Bf ?_);obtain rfl:=Bc M;refine⟨.inl rfl,.bool true,rH H,?_⟩;replace A:=A.d0;exact⟨rfl,A⟩
 ·obtain rfl:=Bc M;refine⟨.inl rfl,.bool x2,rH H,?_⟩;replace A:=A.d0;exact⟨rfl,A⟩
 exact T.elim
def Az(p0:AM)(p1:AE):Option (Int×AM×(List AE)):=
 A3 (p0.A0||(decide ((p0.a_.l_.length:Int)>=p0.DP))) (some ((0:Int),(⟨p0.t_,p0.a_,p0.DP,p0.A0||(decide ((p0.a_.l_.length:Int)>=p0.DP))⟩:AM),p0.a_.l_)) (Gv (O0 56 (p0.a_.l_.length+([p1]:List AE).length))<|some (i64.wrap (((p0.a_.l_++([p1]:List AE)).length:Int) - 1),(⟨p0.t_,(⟨(p0.a_.l_++([p1]:List AE)),p0.a_.AZ⟩:Ah),p0.DP,p0.A0||(decide ((p0.a_.l_.length:Int)>=p0.DP))⟩:AM),(p0.a_.l_++([p1]:List AE))))
theorem B7{p0 p1 bp0 bp0_2 rp0_2_0 q0 u0 u2}(M:Az p0 p1=some (q0,u0,u2))(A:HH g h [.obj bp0 (.cells none 2 (Ax p0 (.ptr (some (bp0_2,0))))),.obj bp0_2 (.cells none 2 [AY rp0_2_0 p0.a_.l_.length,Ai p0.a_.AZ]),.Ag rp0_2_0 91 (Ag AF p0.a_.l_)] F)(hc:C1 (cfg.still 33) av=[.ptr (some (bp0,0)),.agg (AF p1)]:=by kernel_rfl):∃v Q,CW cfg g h 33 av v Q/\∃(r'2:Option Nat),v=Ai q0/\HH g Q [.obj bp0 (.cells none 2 (Ax u0 (.ptr (some (bp0_2,0))))),.obj bp0_2 (.cells none 2 [AY r'2 u2.length,Ai p0.a_.AZ]),.Ag r'2 91 (Ag AF u2)] F:=by
 refine Mg 56 [.tmp 4] hc ?_;clear hc;unfold Az at M;refine bg 56 [(0,.ptr (some (bp0,0))),(1,.agg (AF p1))] λD H=>?_;refine AU 2 ?_;obtain⟨h1,e1,A⟩:=A.pu (.cells none 2 (AF p1));refine DF 3 (.ptr (some (h.size,0))) e1 H λD t H=>?_;refine Ao 1 [] H λD H=>BC (BC (Pc 1 23 ?_));refine Ak 4 [(5,.ptr (some (bp0,0)))] 9 1 4 A H λD t H=>?_;refine AR 1 [(10,.bool p0.A0)] H λD H=>CE 14 (λN Q=>h1=Q/\Has N 56 [(0,.ptr (some (bp0,0))),(3,.ptr (some (h.size,0))),(5,.ptr (some (bp0,0))),(24,.bool (p0.A0||(decide ((p0.a_.l_.length:Int)>=p0.DP))))]) ?_ ?_
 ·cases C:(p0.A0:Bool)with
  |true=>
   replace H:=H.kn 10 C;exact AR 14 [(24,.bool true)] H λD H=>BJ H C
  |false=>
   replace H:=H.kn 10 C;refine Ak 3 [] 14 1 2 A H λD t H=>?_;refine Ak 2 [] 17 2 0 A H λD t H=>?_;refine Ak 4 [(18,Ai (p0.a_.l_.length:Int))] 22 1 3 A H λD t H=>?_;exact AR 2 [(24,.bool (decide ((p0.a_.l_.length:Int)>=p0.DP)))] H λD H=>BJ H C
 intro t D Q J;obtain⟨e,H⟩:=J;subst e;obtain⟨I,X,E⟩:=A.st 1 rfl (o:=4) (new:=[.bool (p0.A0||(decide ((p0.a_.l_.length:Int)>=p0.DP)))]) (ds:=(ME p0 (.ptr (some (bp0_2,0))) (.bool (p0.A0||(decide ((p0.a_.l_.length:Int)>=p0.DP)))))) (zj rfl) rfl rfl;replace A:HH g I [.obj h.size (.cells none 2 (AF p1)),.obj bp0 (.cells none 2 [_,_,_,_,.bool (p0.A0||(decide ((p0.a_.l_.length:Int)>=p0.DP)))]),_,_] F:=E;refine Vh 2 [] X H λD t H=>?_;refine Jv 4 id (Ak 3 [] 30 1 4 A H λD t H=>?_);refine Da id (BM 30 H M (λC M H=>?_) λC M H=>?_)
 ·refine AU 1 (Ao 1 [(4,Ai 0)] H λD H=>Bf ?_);obtain⟨rfl,rfl,rfl⟩:=PF M;refine⟨.inl rfl,Ai 0,rH H,?_⟩;replace A:=A.k3 1 2 3;exact⟨rp0_2_0,rfl,A⟩
 refine E5 id (BC (M6 4 17 [(0,[]),(1,[]),(2,[]),(3,[]),(4,[]),(5,[]),(6,[]),(7,[]),(8,[]),(9,[]),(10,[]),(11,[]),(12,[]),(13,[3]),(14,[]),(15,[]),(16,[])] ?_));refine AR 3 [(33,.ptr (some (bp0,2)))] H λD H=>D4 34 (.ptr (some (bp0_2,0))) I [(3,bp0)] (g.B4) H (λD=>.of (Cf (by kernel_rfl) (A.l1 1 2))) (λD H=>?_);refine AR 3 [(37,.ptr (some (bp0,2)))] H λD H=>D4 38 (.ptr (some (bp0_2,0))) I [(7,bp0),(3,bp0)] (g.B4) H (λD=>.of (Cf (by kernel_rfl) (A.l1 1 2))) (λD H=>?_);refine AR 2 [(40,.ptr (some (bp0_2,0)))] H λD H=>D4 41 (AY rp0_2_0 p0.a_.l_.length) I [(10,bp0_2),(7,bp0),(3,bp0)] (g.B4) H (λD=>.of (Cf (by kernel_rfl) (A.l1 2 0))) (λD H=>?_);refine D4 42 (.agg (AF p1)) I [(11,h.size),(10,bp0_2),(7,bp0),(3,bp0)] (g.B4) H (λD=>.of (Db (by kernel_rfl) (A.la 0 0 7))) (λD H=>?_);obtain⟨K,e2,A⟩:=A.pL 91 (AF p1);refine D4 43 (AY (some I.size) (([p1]:List AE).length)) K [(12,I.size),(11,h.size),(10,bp0_2),(7,bp0),(3,bp0)] (g.B4) H (λD=>.of (P9 (by kernel_rfl) (congrArg some e2.symm))) (λD H=>?_);replace A:HH g K [_,.Ag (some I.size) 91 ((AF p1)),_,_,_] F:=(A.front 4 rfl);have E:=A.Pp 1 (pr:=[bp0]) (.cons 2 rfl (by simp[Ck.ids]) .nil);obtain⟨C,M⟩:=CT M;obtain⟨r1,h4,X,E⟩:=HH.Ov EK (by decide) E 0 (xs:=p0.a_.l_) (ys:=([p1]:List AE)) rfl (EI A 1 rfl (n:=([p1]:List AE).length) (z:=7) rfl (by decide)) rfl rfl C;replace A:=A.aZ E;replace A:=A.k4 0 2 3 4;refine D4 44 (AY r1 ((p0.a_.l_++([p1]:List AE)).length)) h4 [(12,I.size),(11,h.size),(10,bp0_2),(7,bp0),(3,bp0)] (bp0::g.B4) H (λD=>.of (KI (s:=Dt rp0_2_0 p0.a_.l_.length) (by kernel_rfl) X)) (λD H=>?_)
 refine AR 2 [(46,.ptr (some (bp0_2,0)))] H λD H=>?_;obtain⟨G,X,E⟩:=A.st 3 rfl (o:=0) (new:=[AY r1 ((p0.a_.l_++([p1]:List AE)).length)]) (ds:=[AY r1 ((p0.a_.l_++([p1]:List AE)).length),Ai p0.a_.AZ]) (zj rfl) rfl rfl;replace A:HH g G [_,_,_,.obj bp0_2 (.cells none 2 [AY r1 ((p0.a_.l_++([p1]:List AE)).length),Ai p0.a_.AZ])] F:=E;refine TR (.tuple []) G [(12,I.size),(11,h.size),(10,bp0_2),(7,bp0),(3,bp0)] (g.B4) H (λD=>.of (LH (by kernel_rfl) rfl X)) (λD H=>?_);refine Jv 10 id (Ak 3 [] 50 2 2 A H λD t H=>?_);refine Ak 2 [] 53 3 0 A H λD t H=>?_;refine Ao 3 [(4,Ai (i64.wrap (((p0.a_.l_++([p1]:List AE)).length:Int) - 1)))] H λD H=>Bf ?_;obtain⟨rfl,rfl,rfl⟩:=PF M;refine⟨.inl rfl,Ai (i64.wrap (((p0.a_.l_++([p1]:List AE)).length:Int) - 1)),rH H,?_⟩;replace A:=A.k3 2 3 0;exact⟨r1,rfl,A⟩
def Bs(p0:Int)(p1:Int)(p2_0:AM):Option (Int×AM×(List AE)):=
 (Az p2_0 (⟨(2:Int),p0,p1,(⟨(0:Int),(0:Int),(0:Int),(0:Int)⟩:BB)⟩:AE)).bind λ(x1,x2,x3)=>some (x1,(⟨x2.t_,(⟨x3,p2_0.a_.AZ⟩:Ah),x2.DP,x2.A0⟩:AM),x3)
theorem E4{p0 p1 p2_0 bp2 bp2_0 bp2_0_2 rp2_0_2_0 q0 u1 u3}(M:Bs p0 p1 p2_0=some (q0,u1,u3))(A:HH g h [.obj bp2 (.cells none 2 [.ptr (some (bp2_0,0))]),.obj bp2_0 (.cells none 2 (Ax p2_0 (.ptr (some (bp2_0_2,0))))),.obj bp2_0_2 (.cells none 2 [AY rp2_0_2_0 p2_0.a_.l_.length,Ai p2_0.a_.AZ]),.Ag rp2_0_2_0 91 (Ag AF p2_0.a_.l_)] F)(hc:C1 (cfg.still 64) av=[Ai p0,Ai p1,.ptr (some (bp2,0))]:=by kernel_rfl):∃v Q,CW cfg g h 64 av v Q/\∃(r'3:Option Nat),v=Ai q0/\HH g Q [.obj bp2 (.cells none 2 [.ptr (some (bp2_0,0))]),.obj bp2_0 (.cells none 2 (Ax u1 (.ptr (some (bp2_0_2,0))))),.obj bp2_0_2 (.cells none 2 [AY r'3 u3.length,Ai p2_0.a_.AZ]),.Ag r'3 91 (Ag AF u3)] F:=by
 refine Mg 11 [.tmp 5] hc ?_;clear hc;unfold Bs at M;refine bg 11 [(0,Ai p0),(1,Ai p1),(2,.ptr (some (bp2,0)))] λD H=>?_;refine AU 1 (G3 1 [] 6 H λD H=>OI 6 0 0 A H λD t H=>?_);replace A:=A.k4 1 2 3 0;obtain⟨⟨x1,x2,x3⟩,X,M⟩:=AJ M;obtain⟨v1,h1,R,r1,rfl,E⟩:=B7 (av:=[.ptr (some (bp2_0,0)),.agg [Ai 2,Ai p0,Ai p1,Au 0,Au 0,Au 0,Au 0]]) X (A.cut 3);replace A:=A.Rh E;refine Ds 3 [] 10 R H λD t H=>?_;refine Ao 1 [(5,Ai x1)] H λD H=>Bf ?_;obtain⟨rfl,rfl,rfl⟩:=PF M;refine⟨.inl rfl,Ai x1,rH H,?_⟩;replace A:=A.k4 3 0 1 2;exact⟨r1,rfl,A⟩
end
end Go.Av.L
