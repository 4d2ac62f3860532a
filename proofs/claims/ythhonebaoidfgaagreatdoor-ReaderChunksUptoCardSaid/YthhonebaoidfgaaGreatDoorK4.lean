/-
 A part.
-/
import Derived.Test.YthhonebaoidfgaaGreatDoorK3
set_option linter.unusedSimpArgs false
namespace Go.Av.L
open IntKind (i64 u8)
open Go.Av Go.Lib
set_option maxRecDepth 10000
set_option linter.unusedVariables false
set_option linter.unusedSimpArgs false
variable {g:Gd} {h:AF} {F:List Ck} {av:List AD}
noncomputable section
def FZ(p0:List UInt8)(p1_0:AM):Option (Int×AM):=
 (BX p0 (0:Int)).bind λx1=>Ag (decide (x1>=0)) (some ((2:Int),p1_0)) (some ((0:Int),({p1_0 with BG:=p0}:AM)))
theorem L8{p0 p1_0 bp1_0 rp1_0_12 q0 u0}(M:FZ p0 p1_0=some (q0,u0))(A:HH g h [.obj bp1_0 (.cells none 2 (Bf p1_0 (Ad rp1_0_12 p1_0.Extra.length))),.Am rp1_0_12 100 (Am AA p1_0.Extra)] F)(hc:CQ (cfg.still 242) av=[.str p0,.Aw [.ptr (some (bp1_0,1))]]:=by kernel_rfl):∃v Q,Cf cfg g h 242 av v Q/\v=Ai q0/\HH g Q [.obj bp1_0 (.cells none 2 (Bf u0 (Ad rp1_0_12 p1_0.Extra.length))),.Am rp1_0_12 100 (Am AA p1_0.Extra)] F:=by
 refine Dp 10 [.tmp 3] hc ?_;unfold FZ at M;refine bg 10 [(0,.str p0),(1,.Aw [.ptr (some (bp1_0,1))])] λD H=>?_;refine AE 1 (AK 1 [] H λD H=>AU (AE 3 ?_));obtain⟨x1,X,M⟩:=AJ M;obtain⟨v1,h1,R,rfl,E⟩:=Ct X (A.cut 0);replace A:=A.DF E;refine BM 1 [] 5 R H λD t H=>?_;refine AK 1 [(6,.bool (decide (x1>=0)))] H λD H=>Ac 6 H M (λB M H=>?_) λB M H=>?_
 ·exact vp
 refine CC 4 id (Az 7 (.ptr (some (bp1_0,1))) h1 H (λD=>.of (Jj kr)) λD t H=>?_);obtain⟨h2,X,A⟩:=A.s0 1 [.str p0];exact v7
def FN(p0:List UInt8)(p1:List UInt8):Option ((List UInt8)×Bool):=
 (FF p0 p1).bind λ(x1,x2)=>some (x1,x2)
theorem NK{p0 p1 q0 q1}(M:FN p0 p1=some (q0,q1)):tl 243 [.str p0,.str p1] (.tuple [.str q0,.bool q1]):=by
 intro g h F av A hc;refine Dp 11 [.tmp 4,.tmp 5] hc ?_;unfold FN at M;refine bg 11 [(0,.str p0),(1,.str p1)] λD H=>?_;refine AE 2 (Bx 2 [] 7 H λD H=>?_);obtain⟨⟨x1,x2⟩,X,M⟩:=AJ M;obtain⟨v1,h1,R,rfl,E⟩:=LQ X (A.cut 0);replace A:=A.DF E;refine BM 2 [] 8 R H λD t H=>?_;refine AK 4 [(4,.str x1),(5,.bool x2)] H λD H=>AY ?_;exact wb
def GD(p0:List UInt8)(s:Int×Int):Option ((Int×Int)⊕((Int)⊕(Int×Bool))):=
 match s with
 |(x1,x2)=>Ag (decide (x2<(p0.length:Int))) (((KE p0 x2).bind λx9=>(Ag (decide (x9<48)) (some true) ((KE p0 x2).bind λx11=>some (decide (x11>57))):Option (Bool)).bind λx10=>Ag x10 (some (.inr ((0:Int),false))) (Ag (decide (x2<16)) ((KE p0 x2).bind λx12=>some (.inl (i64.wrap ((i64.wrap ((10:Int)*x1))+(i64.wrap (u8.wrap (x12 - 48))))))) (some (.inl x1))):Option ((Int)⊕(Int×Bool))).bind λo2=>(match o2 with| .inl x6=>some (.inl (x6,i64.wrap (x2+1)))| .inr (x7,x8)=>some (.inr (.inr (x7,x8))))) (some (.inr (.inl x1)))
def EC(p0:List UInt8)(p1:Int):Option (Int×Bool):=
 Ag (((p0.length:Int)==0)||(decide ((p0.length:Int)>p1))) (some ((0:Int),false)) ((loop (GD p0) ((0:Int),(0:Int))).bind λo1=>(match o1 with| .inl x3=>some (x3,true)| .inr (x4,x5)=>some (x4,x5)))
theorem Jp{p0 p1 q0 q1}(M:EC p0 p1=some (q0,q1)):tl 244 [.str p0,Ai p1] (.tuple [Ai q0,.bool q1]):=by
 intro g h F av A hc;refine Dp 44 [.tmp 4,.tmp 5] hc ?_;unfold EC at M;refine bg 44 [(0,.str p0),(1,Ai p1)] λD H=>?_;refine AE 2 (AK 2 [] H λD H=>AU (AE 9 (AL 4 [(11,.bool ((p0.length:Int)==0))] H λD H=>Ch 5 11 (λbb=>[(16,.bool (bb||(decide ((p0.length:Int)>p1))))]) H λD H=>?_)));refine BN id (Ac 16 H M (λB M H=>?_) λB M H=>?_)
 ·refine AE 2 (AK 2 [(4,Ai 0),(5,.bool false)] H λD H=>AY ?_);exact wb
 refine CC 1 id (AK 1 [(6,Ai 0)] H λD H=>AU (AE 3 (AK 3 [(18,Ai (p0.length:Int)),(19,Ai 0)] H λD H=>Aa (id:=0) kr ?_)));obtain⟨o1,O,M⟩:=AJ M;refine BJ (Q':=λe N Q=>(∃x3,e=.exit 0/\.inl x3=o1/\Has N 44 [(6,Ai x3)]/\HH g Q [] F)\/(∃x4 x5,e=.ret/\.inr (x4,x5)=o1/\Has N 44 [(4,Ai x4),(5,.bool x5)]/\HH g Q [] F)\/False) ?_ ?_
 ·refine B7 kr (λ(s:Int×Int) N Q=>∃x1 x2,(x1,x2)=s/\Has N 44 [(0,.str p0),(6,Ai x1),(18,Ai (p0.length:Int)),(19,Ai x2)]/\HH g Q [] F) O ⟨_,_,rfl,H.ls,A⟩ ?_;intro s q D h1 hI M;obtain⟨x1,x2,rfl,H,A⟩:=hI;unfold GD at M;refine AE 1 (AK 1 [(20,.bool (decide (x2<(p0.length:Int))))] H λD H=>AU (Ac 20 H M (λB M H=>?_) λB M H=>?_))
  ·refine By id (AU ?_);obtain⟨o2,O,M⟩:=AJ M;refine BJ (Q':=λe N Q=>(∃x6,e=.normal/\.inl x6=o2/\Has N 44 [(0,.str p0),(6,Ai x6),(18,Ai (p0.length:Int)),(19,Ai x2)]/\HH g Q [] F)\/(∃x7 x8,e=.ret/\.inr (x7,x8)=o2/\Has N 44 [(4,Ai x7),(5,.bool x8)]/\HH g Q [] F)\/False) ?_ ?_
   ·replace M:=O;refine Aa (id:=1) kr ?_;refine AE 2 (AK 2 [(7,Ai x2)] H λD H=>AU (AE 10 ?_));obtain⟨x9,X,M⟩:=AJ M;refine BQ 2 [] 24 (Ab x9) h1 H (λD=>.of (Eg kr X)) λD t H=>?_;refine AL 2 [(26,.bool (decide (x9<48)))] H λD H=>?_;obtain⟨x10,O,M⟩:=AJ M;refine Bp 5 (λN Q=>Has N 44 [(0,.str p0),(6,Ai x1),(7,Ai x2),(18,Ai (p0.length:Int)),(19,Ai x2),(31,.bool x10)]/\HH g Q [] F) ?_ ?_
    ·rcases BB O with⟨B,M⟩|⟨B,M⟩
     ·replace H:=H.kn 26 B;refine AL 5 [(31,.bool true)] H λD H=>?_;exact wg
     replace H:=H.kn 26 B;obtain⟨x11,X,M⟩:=AJ M;refine BQ 2 [] 29 (Ab x11) h1 H (λD=>.of (Eg kr X)) λD t H=>?_;refine AL 2 [(31,.bool (decide (x11>57)))] H λD H=>?_;exact wg
    intro t D h2 G;obtain⟨H,A⟩:=G;refine BN id (Ac 31 H M (λB M H=>?_) λB M H=>?_)
    ·refine AE 2 (AK 2 [(4,Ai 0),(5,.bool false)] H λD H=>AY ?_);exact .inr (.inl ⟨_,_,rfl,Ar M,H.ls,A⟩)
    refine CC 2 id (AK 2 [(33,.bool (decide (x2<16)))] H λD H=>Ac 33 H M (λB M H=>?_) λB M H=>?_)
    ·refine CF 9 ?_;obtain⟨x12,X,M⟩:=AJ M;refine BQ 4 [(35,Ai (i64.wrap ((10:Int)*x1)))] 38 (Ab x12) h2 H (λD=>.of (Eg kr X)) λD t H=>?_;refine BU 4 [(0,.str p0),(6,Ai (i64.wrap ((i64.wrap ((10:Int)*x1))+(i64.wrap (u8.wrap (x12 - 48)))))),(18,Ai (p0.length:Int)),(19,Ai x2)] H λD H=>An ?_;exact wo
    exact wx
   intro e D W J;rcases J with⟨x6,rfl,rfl,H,A⟩|⟨x7,x8,rfl,rfl,H,A⟩|K
   ·refine CF 2 (BU 2 [(0,.str p0),(6,Ai x6),(18,Ai (p0.length:Int)),(19,Ai (i64.wrap (x2+1)))] H λD H=>An ?_);exact vg
   ·exact vh
   exact K.elim
  exact wm
 intro e D V J;rcases J with⟨x3,rfl,rfl,H,A⟩|⟨x4,x5,rfl,rfl,H,A⟩|K
 ·refine AE 3 (AK 3 [(4,Ai x3),(5,.bool true)] H λD H=>AY ?_);exact wb
 ·exact wb
 exact K.elim
def Dm(p0:Ax):Option (Ax):=
 Ag (p0.CE==0) (some (⟨i64.wrap (0 - p0.DR),(0:Int)⟩:Ax)) (some (⟨i64.wrap ((i64.wrap (0 - p0.DR)) - 1),i64.wrap ((1000000000:Int) - p0.CE)⟩:Ax))
theorem Oa{p0 q0}(M:Dm p0=some q0):tl 188 [.agg [Ai p0.DR,Ai p0.CE]] (.agg [Ai q0.DR,Ai q0.CE]):=by
 intro g h F av A hc;refine Dp 18 [.cell 2 33] hc ?_;unfold Dm at M;refine bg 18 [(0,.agg [Ai p0.DR,Ai p0.CE])] λD H=>?_;refine AE 2 ?_;obtain⟨h1,e1,A⟩:=A.pu (.cells none 2 [Ai p0.DR,Ai p0.CE]);refine Bj 1 (pz h.size) e1 H λD t H=>?_;obtain⟨h2,e2,A⟩:=A.pu (.cells none 2 [Ai 0,Ai 0]);refine Bj 2 (pz h1.size) e2 H λD t H=>?_;refine BN id (AU (AE 3 (AX 1 [] 4 1 1 A H λD t H=>?_)));refine AK 1 [(5,.bool (p0.CE==0))] H λD H=>Ac 5 H M (λB M H=>?_) λB M H=>?_
 ·refine AE 5 (AX 1 [] 7 1 0 A H λD t H=>?_);obtain⟨W,X,E⟩:=A.st 0 rfl (o:=0) (new:=[Ai (i64.wrap (0 - p0.DR)),Ai 0]) (ds:=[Ai (i64.wrap (0 - p0.DR)),Ai 0]) (zd rfl) rfl rfl;replace A:HH g W [oB h1.size [Ai (i64.wrap (0 - p0.DR)),Ai 0],oB h.size [Ai p0.DR,Ai p0.CE]] F:=E;refine Fi 2 [] X H λD t H=>?_;refine BN id (AY ?_);obtain rfl:=Ar M;refine⟨.inl rfl,.agg [Ai (i64.wrap (0 - p0.DR)),Ai 0],Pe (.cell (rT H) (Cg kr kr (A.la 0 0 2)) .nil),?_⟩;exact vi
 refine CC 9 id (AX 1 [] 11 1 0 A H λD t H=>?_);refine AX 3 [(13,Ai (i64.wrap ((i64.wrap (0 - p0.DR)) - 1)))] 15 1 1 A H λD t H=>?_;obtain⟨V,X,E⟩:=A.st 0 rfl (o:=0) (new:=[Ai (i64.wrap ((i64.wrap (0 - p0.DR)) - 1)),Ai (i64.wrap ((1000000000:Int) - p0.CE))]) (ds:=[Ai (i64.wrap ((i64.wrap (0 - p0.DR)) - 1)),Ai (i64.wrap ((1000000000:Int) - p0.CE))]) (zd rfl) rfl rfl;replace A:HH g V [oB h1.size [Ai (i64.wrap ((i64.wrap (0 - p0.DR)) - 1)),Ai (i64.wrap ((1000000000:Int) - p0.CE))],oB h.size [Ai p0.DR,Ai p0.CE]] F:=E;refine Fi 2 [] X H λD t H=>?_;refine BN id (AY ?_);obtain rfl:=Ar M;refine⟨.inl rfl,.agg [Ai (i64.wrap ((i64.wrap (0 - p0.DR)) - 1)),Ai (i64.wrap ((1000000000:Int) - p0.CE))],Pe (.cell (rT H) (Cg kr kr (A.la 0 0 2)) .nil),?_⟩;exact vi
def D6(p0:Ax):Option (Bool):=
 some ((((decide (p0.DR>=(-9007199254740991)))&&(decide (p0.DR<=9007199254740991)))&&(decide (p0.CE>=0)))&&(decide (p0.CE<1000000000)))
theorem Kn{p0 q0}(M:D6 p0=some q0):tl 153 [.agg [Ai p0.DR,Ai p0.CE]] (.bool q0):=by
 intro g h F av A hc;refine Dp 21 [.tmp 2] hc ?_;unfold D6 at M;refine bg 21 [(0,.agg [Ai p0.DR,Ai p0.CE])] λD H=>?_;refine AE 2 ?_;obtain⟨h1,e1,A⟩:=A.pu (.cells none 2 [Ai p0.DR,Ai p0.CE]);refine Bj 1 (pz h.size) e1 H λD t H=>?_;refine Bx 1 [] 19 H λD H=>AX 1 [] 4 0 0 A H λD t H=>?_;refine AL 2 [(6,.bool (decide (p0.DR>=(-9007199254740991))))] H λD H=>Bp 4 (λN Q=>h1=Q/\Has N 21 [(1,pz h.size),(10,.bool ((decide (p0.DR>=(-9007199254740991)))&&(decide (p0.DR<=9007199254740991))))]) ?_ ?_
 ·cases B:(decide (p0.DR>=(-9007199254740991)):Bool)with
  |true=>
   replace H:=H.kn 6 B;refine AX 1 [] 8 0 0 A H λD t H=>?_;exact AL 2 [(10,.bool (decide (p0.DR<=9007199254740991)))] H λD H=>Bu H B
  |false=>
   replace H:=H.kn 6 B;exact AL 4 [(10,.bool false)] H λD H=>Bu H B
 intro t D Q G;obtain⟨e,H⟩:=G;subst e;refine AL 1 [(11,.bool ((decide (p0.DR>=(-9007199254740991)))&&(decide (p0.DR<=9007199254740991))))] H λD H=>Bp 4 (λN Q=>h1=Q/\Has N 21 [(1,pz h.size),(15,.bool (((decide (p0.DR>=(-9007199254740991)))&&(decide (p0.DR<=9007199254740991)))&&(decide (p0.CE>=0))))]) ?_ ?_
 ·cases B:((decide (p0.DR>=(-9007199254740991)))&&(decide (p0.DR<=9007199254740991)):Bool)with
  |true=>
   replace H:=H.kn 11 B;refine AX 1 [] 13 0 1 A H λD t H=>?_;exact AL 2 [(15,.bool (decide (p0.CE>=0)))] H λD H=>Bu H B
  |false=>
   replace H:=H.kn 11 B;exact AL 4 [(15,.bool false)] H λD H=>Bu H B
 intro t D Q G;obtain⟨e,H⟩:=G;subst e;refine AL 1 [(16,.bool (((decide (p0.DR>=(-9007199254740991)))&&(decide (p0.DR<=9007199254740991)))&&(decide (p0.CE>=0))))] H λD H=>Bp 4 (λN Q=>h1=Q/\Has N 21 [(20,.bool ((((decide (p0.DR>=(-9007199254740991)))&&(decide (p0.DR<=9007199254740991)))&&(decide (p0.CE>=0)))&&(decide (p0.CE<1000000000))))]) ?_ ?_
 ·cases B:(((decide (p0.DR>=(-9007199254740991)))&&(decide (p0.DR<=9007199254740991)))&&(decide (p0.CE>=0)):Bool)with
  |true=>
   replace H:=H.kn 16 B;refine AX 1 [] 18 0 1 A H λD t H=>?_;exact AL 2 [(20,.bool (decide (p0.CE<1000000000)))] H λD H=>Bu H B
  |false=>
   replace H:=H.kn 16 B;exact AL 4 [(20,.bool false)] H λD H=>Bu H B
 intro t D Q G;obtain⟨e,H⟩:=G;subst e;refine AK 1 [(2,.bool ((((decide (p0.DR>=(-9007199254740991)))&&(decide (p0.DR<=9007199254740991)))&&(decide (p0.CE>=0)))&&(decide (p0.CE<1000000000))))] H λD H=>AY ?_;exact wi
def Dj(p0:List UInt8):Option (Ax×Int):=
 (FN p0 ([45]:UV)).bind λ(x1,x2)=>B4 (decide (x1.length<=4294967280))<|(EC ((Lib.cut x1 ([46]:UV)).1) (16:Int)).bind λ(x3,x4)=>Ag (!x4) (some ((⟨(0:Int),(0:Int)⟩:Ax),(2:Int))) ((Ag ((Lib.cut x1 ([46]:UV)).2.2) ((EC ((Lib.cut x1 ([46]:UV)).2.1) (40:Int)).bind λ(x7,x8)=>Ag (!x8) (some (.inr (2:Int))) (B4 (decide (((Lib.cut x1 ([46]:UV)).2.1).length+([48,48,48,48,48,48,48,48]:UV).length<=9223372036854775807))<|(E4 (((Lib.cut x1 ([46]:UV)).2.1)++([48,48,48,48,48,48,48,48]:UV)) none (some (9:Int))).bind λx9=>(EC x9 (9:Int)).bind λ(x10,x11)=>some (.inl x10))) (some (.inl (0:Int))):Option ((Int)⊕(Int))).bind λo1=>(match o1 with| .inl x5=>(Ag x2 ((Dm (⟨x3,x5⟩:Ax)).bind λx14=>some (x14.DR,x14.CE)) (some (x3,x5)):Option ((Int×Int))).bind λ(x12,x13)=>(D6 (⟨x12,x13⟩:Ax)).bind λx15=>Ag (!x15) (some ((⟨(0:Int),(0:Int)⟩:Ax),(6:Int))) (some ((⟨x12,x13⟩:Ax),(0:Int)))| .inr x6=>some ((⟨(0:Int),(0:Int)⟩:Ax),x6)))
theorem TB{p0 q0 q1}(M:Dj p0=some (q0,q1)):tl 220 [.str p0] (.tuple [.agg [Ai q0.DR,Ai q0.CE],Ai q1]):=by
 intro g h F av A hc;refine Dp 61 [.cell 2 33,.tmp 3] hc ?_;unfold Dj at M;refine bg 61 [(0,.str p0)] λD H=>?_;refine AE 2 ?_;obtain⟨h1,e1,A⟩:=A.pu (.cells none 2 [Ai 0,Ai 0]);refine Bj 2 (pz h.size) e1 H λD t H=>?_;refine Bx 1 [] 7 H λD H=>?_;obtain⟨⟨x1,x2⟩,X,M⟩:=AJ M;obtain⟨v1,h2,R,rfl,E⟩:=NK X (A.cut 0);replace A:HH g h2 [oB h.size [Ai (0:Int),Ai (0:Int)]] F:=A.Gr (n:=0) E;refine BM 1 [] 17 R H λD t H=>?_;refine Bx 5 [(4,.str x1),(5,.bool x2)] 9 H λD H=>?_;obtain⟨B,M⟩:=Ap M;refine BQ 1 [] 22 (.tuple [.str ((Lib.cut x1 ([46]:UV)).1),.str ((Lib.cut x1 ([46]:UV)).2.1),.bool ((Lib.cut x1 ([46]:UV)).2.2)]) h2 H (λD=>Steps.call kr (VN (C:=cfg) (f:=146) (a:=0) kr (l:=exts) rfl kr B)) λD t H=>?_;refine Bx 7 [(6,.str ((Lib.cut x1 ([46]:UV)).1)),(7,.str ((Lib.cut x1 ([46]:UV)).2.1)),(8,.bool ((Lib.cut x1 ([46]:UV)).2.2))] 7 H λD H=>?_;obtain⟨⟨x3,x4⟩,X,M⟩:=AJ M;obtain⟨v1,W,R,rfl,E⟩:=Jp X (A.cut 0);replace A:=A.DF E;refine BM 1 [] 28 R H λD t H=>?_;refine AK 5 [(9,Ai x3),(10,.bool x4)] H λD H=>AU (AE 2 (AK 2 [(32,.bool (!x4))] H λD H=>Ac 32 H M (λB M H=>?_) λB M H=>?_))
 ·refine AE 3 ?_;obtain⟨V,X,A⟩:=A.s0 0 [Ai 0,Ai 0];refine Fi 1 [] X H λD t H=>?_;refine AK 1 [(3,Ai 2)] H λD H=>AY ?_;exact vj
 refine CC 1 id (AK 1 [(11,Ai 0)] H λD H=>AU ?_);obtain⟨o1,O,M⟩:=AJ M;refine BJ (Q':=λe N Q=>(∃x5,e=.normal/\.inl x5=o1/\Has N 61 [(2,pz h.size),(5,.bool x2),(9,Ai x3),(11,Ai x5)]/\HH g Q [oB h.size [Ai 0,Ai 0]] F)\/(∃x6,e=.ret/\.inr x6=o1/\Has N 61 [(2,pz h.size),(3,Ai x6)]/\HH g Q [oB h.size [Ai 0,Ai 0]] F)\/False) ?_ ?_
 ·replace M:=O;refine AE 1 (AK 1 [(34,.bool ((Lib.cut x1 ([46]:UV)).2.2))] H λD H=>Ac 34 H M (λB M H=>?_) λB M H=>?_)
  ·refine AU (AE 7 ?_);obtain⟨⟨x7,x8⟩,X,M⟩:=AJ M;obtain⟨v1,h5,R,rfl,E⟩:=Jp X (A.cut 0);replace A:=A.DF E;refine BM 1 [] 37 R H λD t H=>?_;refine Bx 5 [(13,.bool x8)] 2 H λD H=>AK 2 [(41,.bool (!x8))] H λD H=>Ac 41 H M (λB M H=>?_) λB M H=>?_
   ·refine AE 3 ?_;obtain⟨T,X,A⟩:=A.s0 0 [Ai 0,Ai 0];refine Fi 1 [] X H λD t H=>?_;refine AK 1 [(3,Ai 2)] H λD H=>AY ?_;exact .inr (.inl ⟨_,rfl,Ar M,H.ls,A⟩)
   refine Di 8 id (AL 1 [(44,.str ((Lib.cut x1 ([46]:UV)).2.1))] H λD H=>?_);obtain⟨B,M⟩:=Ap M;refine Az 45 (.str (((Lib.cut x1 ([46]:UV)).2.1)++([48,48,48,48,48,48,48,48]:UV))) h5 H (λD=>.of (Dh kr B)) λD t H=>?_;obtain⟨x9,X,M⟩:=AJ M;refine Az 46 (.str x9) h5 H (λD=>.of (Df (k:=.i64) (k':=.i64) (lo:=none) (hi:=(some (9:Int))) kr X)) λD t H=>?_;obtain⟨⟨x10,x11⟩,X,M⟩:=AJ M;obtain⟨v1,h7,R,rfl,E⟩:=Jp X (A.cut 0);replace A:=A.DF E;refine BO 47 R H λD t H=>?_;refine BU 4 [(2,pz h.size),(5,.bool x2),(9,Ai x3),(11,Ai x10)] H λD H=>An ?_;exact wo
  exact wx
 intro e D h8 J;rcases J with⟨x5,rfl,rfl,H,A⟩|⟨x6,rfl,rfl,H,A⟩|K
 ·refine AE 5 ?_;obtain⟨h9,e2,A⟩:=A.pu (.cells none 2 [Ai 0,Ai 0]);refine LM 3 [(52,.agg [Ai x3,Ai x5])] 14 (pz h8.size) e2 H λD t H=>?_;obtain⟨h10,X,A⟩:=A.s0 0 [Ai x3,Ai x5];refine Cx X H λD t H=>?_;refine BN id (AU ?_);obtain⟨o2,O,M⟩:=AJ M;refine BJ (Q':=λe N Q=>(∃x12 x13,e=.normal/\(x12,x13)=o2/\Has N 61 [(2,pz h.size),(14,pz h8.size)]/\HH g Q [oB h8.size [Ai x12,Ai x13],oB h.size [Ai 0,Ai 0]] F)\/False) ?_ ?_
  ·replace M:=O;refine AE 1 (AK 1 [(53,.bool x2)] H λD H=>Ac 53 H M (λB M H=>?_) λB M H=>?_)
   ·refine CF 3 (Az 54 _ _ H (λD=>.of (Bt kr (A.GL 0 rfl (o:=0) (n:=2) ⟨zd rfl,rfl⟩))) λD t H=>?_);obtain⟨x14,X,M⟩:=AJ M;obtain⟨v1,h11,R,rfl,E⟩:=Oa (av:=[.agg [Ai x3,Ai x5]]) X (A.cut 0);replace A:=A.DF E;refine BO 55 R H λD t H=>?_;obtain⟨h12,X,A⟩:=A.s0 0 [Ai x14.DR,Ai x14.CE];refine Cx X H λD t H=>?_;refine An ?_;exact .inl ⟨_,_,rfl,Ar M,H.ls,A⟩
   exact C2 (.inl ⟨_,_,rfl,Ar M,H.ls,A⟩)
  intro e D h13 J;rcases J with⟨x12,x13,rfl,rfl,H,A⟩|K
  ·refine AU (AE 3 (Az 56 _ _ H (λD=>.of (Bt kr (A.GL 0 rfl (o:=0) (n:=2) ⟨zd rfl,rfl⟩))) λD t H=>?_));obtain⟨x15,X,M⟩:=AJ M;obtain⟨v1,h14,R,rfl,E⟩:=Kn (av:=[.agg [Ai x12,Ai x13]]) X (A.cut 0);replace A:=A.DF E;refine BO 57 R H λD t H=>?_;refine AK 1 [(58,.bool (!x15))] H λD H=>Ac 58 H M (λB M H=>?_) λB M H=>?_
   ·refine AE 3 ?_;obtain⟨h15,X,A⟩:=A.s1 0 [Ai 0,Ai 0];refine Fi 1 [] X H λD t H=>?_;refine AK 1 [(3,Ai 6)] H λD H=>AY ?_;exact ul
   refine CC 3 id (Az 60 _ _ H (λD=>.of (Bt kr (A.GL 0 rfl (o:=0) (n:=2) ⟨zd rfl,rfl⟩))) λD t H=>?_);obtain⟨h16,X,A⟩:=A.s1 0 [Ai x12,Ai x13];refine Cx X H λD t H=>?_;refine AK 1 [(3,Ai 0)] H λD H=>AY ?_;exact ul
  exact K.elim
 ·exact vj
 exact K.elim
def GF(p0:List UInt8)(p1_0:AM):Option (Int×AM):=
 (Dj p0).bind λ(x1,x2)=>(Ag (x2==0) (some (x1.DR,x1.CE)) (some (p1_0.Time.DR,p1_0.Time.CE)):Option ((Int×Int))).bind λ(x3,x4)=>some (x2,({p1_0 with Time:=(⟨x3,x4⟩:Ax)}:AM))
theorem Mz{p0 p1_0 bp1_0 rp1_0_12 q0 u0}(M:GF p0 p1_0=some (q0,u0))(A:HH g h [.obj bp1_0 (.cells none 2 (Bf p1_0 (Ad rp1_0_12 p1_0.Extra.length))),.Am rp1_0_12 100 (Am AA p1_0.Extra)] F)(hc:CQ (cfg.still 219) av=[.str p0,.Aw [.ptr (some (bp1_0,0))]]:=by kernel_rfl):∃v Q,Cf cfg g h 219 av v Q/\v=Ai q0/\HH g Q [.obj bp1_0 (.cells none 2 (Bf u0 (Ad rp1_0_12 p1_0.Extra.length))),.Am rp1_0_12 100 (Am AA p1_0.Extra)] F:=by
 refine Dp 18 [.tmp 3] hc ?_;unfold GF at M;refine bg 18 [(0,.str p0),(1,.Aw [pz bp1_0])] λD H=>?_;refine AE 1 (Bx 1 [] 8 H λD H=>?_);obtain⟨⟨x1,x2⟩,X,M⟩:=AJ M;obtain⟨v1,h1,R,rfl,E⟩:=TB X (A.cut 0);replace A:=A.DF E;refine BM 1 [] 8 R H λD t H=>?_;obtain⟨h2,e1,A⟩:=A.pu (.cells none 2 [Ai 0,Ai 0]);refine LM 3 [(9,.agg [Ai x1.DR,Ai x1.CE]),(10,Ai x2)] 4 (pz h1.size) e1 H λD t H=>?_;obtain⟨W,X,A⟩:=A.s0 0 [Ai x1.DR,Ai x1.CE];refine Cx X H λD t H=>?_;refine AK 1 [(5,Ai x2)] H λD H=>AU ?_;obtain⟨o1,O,M⟩:=AJ M;refine BJ (Q':=λe N Q=>(∃x3 x4,e=.normal/\(x3,x4)=o1/\Has N 18 [(5,Ai x2)]/\HH g Q [oB bp1_0 [.str p1_0.Name,.str p1_0.BG,Ab p1_0.Kind,Ai p1_0.Mode,Ai p1_0.Cq,Ai p1_0.Cy,.str p1_0.A6,.str p1_0.A7,Ai p1_0.BY,Ai p1_0.Bi,Ai x3,Ai x4,Ad rp1_0_12 p1_0.Extra.length,.str p1_0.Data],.Am rp1_0_12 100 (Am AA p1_0.Extra)] F)\/False) ?_ ?_
 ·replace M:=O;refine AE 2 (AK 2 [(12,.bool (x2==0))] H λD H=>Ac 12 H M (λB M H=>?_) λB M H=>?_)
  ·refine CF 5 (Az 13 (pz bp1_0) W H (λD=>.of (Jj kr)) λD t H=>?_);refine Az 14 _ _ H (λD=>.of (Bt kr (A.GL 0 rfl (o:=0) (n:=2) ⟨zd rfl,rfl⟩))) λD t H=>?_;obtain⟨V,X,A⟩:=A.s1 10 [Ai x1.DR,Ai x1.CE];refine Fi 2 [] X H λD t H=>?_;refine An ?_;replace A:=A.k2 1 2;exact .inl ⟨_,_,rfl,Ar M,H.ls,A⟩
  refine C2 ?_;replace A:=A.k2 1 2;exact .inl ⟨_,_,rfl,Ar M,H.ls,A⟩
 intro e D h5 J;rcases J with⟨x3,x4,rfl,rfl,H,A⟩|K
 ·refine AE 2 (AK 2 [(3,Ai x2)] H λD H=>AY ?_);exact wb
 exact K.elim
def FE(p0:List UInt8)(p1:List UInt8):Option (Bool):=
 (Ag (decide ((p0.length:Int)>=(p1.length:Int))) ((E4 p0 (some (i64.wrap ((p0.length:Int) - (p1.length:Int)))) none).bind λx2=>some (x2==p1)) (some false):Option (Bool)).bind λx1=>some x1
theorem LR{p0 p1 q0}(M:FE p0 p1=some q0):tl 207 [.str p0,.str p1] (.bool q0):=by
 intro g h F av A hc;refine Dp 21 [.tmp 4] hc ?_;unfold FE at M;refine bg 21 [(0,.str p0),(1,.str p1)] λD H=>?_;refine AE 1 (Bx 1 [] 17 H λD H=>AL 6 [(10,.bool (decide ((p0.length:Int)>=(p1.length:Int))))] H λD H=>?_);obtain⟨x1,O,M⟩:=AJ M;refine Bp 10 (λN Q=>Has N 21 [(20,.bool x1)]/\HH g Q [] F) ?_ ?_
 ·rcases BB O with⟨B,M⟩|⟨B,M⟩
  ·replace H:=H.kn 10 B;obtain⟨x2,X,M⟩:=AJ M;refine BQ 6 [] 17 (.str x2) h H (λD=>.of (Df (k:=.i64) (k':=.i64) (lo:=(some (i64.wrap ((p0.length:Int) - (p1.length:Int))))) (hi:=none) kr X)) λD t H=>?_;refine AL 3 [(20,.bool (x2==p1))] H λD H=>?_;exact wg
  replace H:=H.kn 10 B;refine AL 10 [(20,.bool false)] H λD H=>?_;exact wg
 intro t D h1 G;obtain⟨H,A⟩:=G;exact ut
def FO(p0:List UInt8)(p1:List UInt8):Option (Bool):=
 (FE p0 p1).bind λx1=>some x1
theorem Nj{p0 p1 q0}(M:FO p0 p1=some q0):tl 179 [.str p0,.str p1] (.bool q0):=by
 intro g h F av A hc;refine Dp 8 [.tmp 4] hc ?_;unfold FO at M;refine bg 8 [(0,.str p0),(1,.str p1)] λD H=>?_;refine AE 1 (Bx 1 [] 4 H λD H=>?_);obtain⟨x1,X,M⟩:=AJ M;obtain⟨v1,h1,R,rfl,E⟩:=LR X (A.cut 0);replace A:=A.DF E;refine BM 2 [] 7 R H λD t H=>?_;exact ut
def Fj(p0:List AB)(s:Int):Option ((Int)⊕((Unit)⊕(Bool))):=
 match s with
 |x1=>Ag (decide (x1<(p0.length:Int))) ((Kx p0 x1).bind λx3=>Ag (x3.Key==([103,105,100]:UV)) (some (.inr (.inr false))) (Ag (x3.Key==([117,105,100]:UV)) (some (.inr (.inr false))) (Ag (x3.Key==([115,105,122,101]:UV)) (some (.inr (.inr false))) (Ag (x3.Key==([103,110,97,109,101]:UV)) (some (.inr (.inr false))) (Ag (x3.Key==([117,110,97,109,101]:UV)) (some (.inr (.inr false))) (Ag (x3.Key==([112,97,116,104]:UV)) (some (.inr (.inr false))) (Ag (x3.Key==([108,105,110,107,112,97,116,104]:UV)) (some (.inr (.inr false))) (Ag (x3.Key==([109,116,105,109,101]:UV)) (some (.inr (.inr false))) ((Ag ((x3.Key==([]:UV))||(x3.Value==([]:UV))) (some true) ((BX x3.Key (61:Int)).bind λx5=>some (decide (x5>=0))):Option (Bool)).bind λx4=>(Ag x4 (some true) ((Ag (decide (x1>0)) ((Kx p0 (i64.wrap (x1 - 1))).bind λx8=>some (!(Op.bytesLess x8.Key x3.Key))) (some false):Option (Bool)).bind λx7=>some x7):Option (Bool)).bind λx6=>Ag x6 (some (.inr (.inr false))) (some (.inl (i64.wrap (x1+1))))))))))))) (some (.inr (.inl ())))
def H3(p0:List AB):Option (Bool):=
 (loop (Fj p0) (0:Int)).bind λo1=>(match o1 with| .inl _=>some true| .inr x2=>some x2)
theorem Sk{p0 q0}(M:H3 p0=some q0):tl 151 [vs AA p0] (.bool q0):=by
 intro g h F av A hc;refine Dp 59 [.tmp 2] hc ?_;unfold H3 at M;refine bg 59 [(0,vs AA p0)] λD H=>?_;refine AE 1 (Bx 1 [] 5 H λD H=>?_);obtain⟨h1,e1,A⟩:=A.pu (.cells none 2 OB);refine LM 1 [] 9 (pz h.size) e1 H λD t H=>?_;obtain⟨h2,e2,A⟩:=A.pu (.cells none 2 [Ai 0]);refine Bj 10 (pz h1.size) e2 H λD t H=>?_;obtain⟨W,e3⟩:∃x,x=h2.push (.map 3 [(.str ([103,105,100]:UV),.func (.func 241) [] [.Aw [.ptr (some (h.size,5))]]),(.str ([117,105,100]:UV),.func (.func 241) [] [.Aw [.ptr (some (h.size,4))]]),(.str ([115,105,122,101]:UV),.func (.func 241) [] [.Aw [pz h1.size]]),(.str ([103,110,97,109,101]:UV),.func (.func 242) [] [.Aw [.ptr (some (h.size,7))]]),(.str ([117,110,97,109,101]:UV),.func (.func 242) [] [.Aw [.ptr (some (h.size,6))]]),(.str ([112,97,116,104]:UV),.func (.func 242) [] [.Aw [pz h.size]]),(.str ([108,105,110,107,112,97,116,104]:UV),.func (.func 242) [] [.Aw [.ptr (some (h.size,1))]]),(.str ([109,116,105,109,101]:UV),.func (.func 219) [] [.Aw [pz h.size]])]):=⟨_,rfl⟩;replace A:HH g W [.obj h2.size (.map 3 [(.str ([103,105,100]:UV),.func (.func 241) [] [.Aw [.ptr (some (h.size,5))]]),(.str ([117,105,100]:UV),.func (.func 241) [] [.Aw [.ptr (some (h.size,4))]]),(.str ([115,105,122,101]:UV),.func (.func 241) [] [.Aw [pz h1.size]]),(.str ([103,110,97,109,101]:UV),.func (.func 242) [] [.Aw [.ptr (some (h.size,7))]]),(.str ([117,110,97,109,101]:UV),.func (.func 242) [] [.Aw [.ptr (some (h.size,6))]]),(.str ([112,97,116,104]:UV),.func (.func 242) [] [.Aw [pz h.size]]),(.str ([108,105,110,107,112,97,116,104]:UV),.func (.func 242) [] [.Aw [.ptr (some (h.size,1))]]),(.str ([109,116,105,109,101]:UV),.func (.func 219) [] [.Aw [pz h.size]])]),oB h1.size [Ai 0],oB h.size OB] F:=(A.push _).to e3
 have R:∀g,Cf cfg g h2 187 [pz h.size,pz h1.size] (.map (some h2.size)) W:=λg=>by rw[e3];exact ak (C:=cfg) (f:=187) (j:=0) (n:=2) (es:=[(.str ([103,105,100]:UV),.func (.func 241) [] [.Aw [.ptr (some (h.size,5))]]),(.str ([117,105,100]:UV),.func (.func 241) [] [.Aw [.ptr (some (h.size,4))]]),(.str ([115,105,122,101]:UV),.func (.func 241) [] [.Aw [pz h1.size]]),(.str ([103,110,97,109,101]:UV),.func (.func 242) [] [.Aw [.ptr (some (h.size,7))]]),(.str ([117,110,97,109,101]:UV),.func (.func 242) [] [.Aw [.ptr (some (h.size,6))]]),(.str ([112,97,116,104]:UV),.func (.func 242) [] [.Aw [pz h.size]]),(.str ([108,105,110,107,112,97,116,104]:UV),.func (.func 242) [] [.Aw [.ptr (some (h.size,1))]]),(.str ([109,116,105,109,101]:UV),.func (.func 219) [] [.Aw [pz h.size]])]) kr (l:=exts) rfl kr kr kr
 refine Az 11 _ _ H (λD=>Steps.call kr (R _)) λD t H=>?_;refine AK 1 [(3,.map (some h2.size))] H λD H=>AU (AE 3 (AK 3 [(12,vs AA p0),(13,Ai (p0.length:Int)),(14,Ai 0)] H λD H=>Aa (id:=0) kr ?_));obtain⟨o1,O,M⟩:=AJ M;refine BJ (Q':=λe N Q=>(e=.exit 0/\.inl ()=o1/\Has N 59 []/\HH g Q [.obj h2.size (.map 3 [(.str ([103,105,100]:UV),.func (.func 241) [] [.Aw [.ptr (some (h.size,5))]]),(.str ([117,105,100]:UV),.func (.func 241) [] [.Aw [.ptr (some (h.size,4))]]),(.str ([115,105,122,101]:UV),.func (.func 241) [] [.Aw [pz h1.size]]),(.str ([103,110,97,109,101]:UV),.func (.func 242) [] [.Aw [.ptr (some (h.size,7))]]),(.str ([117,110,97,109,101]:UV),.func (.func 242) [] [.Aw [.ptr (some (h.size,6))]]),(.str ([112,97,116,104]:UV),.func (.func 242) [] [.Aw [pz h.size]]),(.str ([108,105,110,107,112,97,116,104]:UV),.func (.func 242) [] [.Aw [.ptr (some (h.size,1))]]),(.str ([109,116,105,109,101]:UV),.func (.func 219) [] [.Aw [pz h.size]])]),oB h1.size [Ai 0],oB h.size OB] F)\/(∃x2,e=.ret/\.inr x2=o1/\Has N 59 [(2,.bool x2)]/\HH g Q [.obj h2.size (.map 3 [(.str ([103,105,100]:UV),.func (.func 241) [] [.Aw [.ptr (some (h.size,5))]]),(.str ([117,105,100]:UV),.func (.func 241) [] [.Aw [.ptr (some (h.size,4))]]),(.str ([115,105,122,101]:UV),.func (.func 241) [] [.Aw [pz h1.size]]),(.str ([103,110,97,109,101]:UV),.func (.func 242) [] [.Aw [.ptr (some (h.size,7))]]),(.str ([117,110,97,109,101]:UV),.func (.func 242) [] [.Aw [.ptr (some (h.size,6))]]),(.str ([112,97,116,104]:UV),.func (.func 242) [] [.Aw [pz h.size]]),(.str ([108,105,110,107,112,97,116,104]:UV),.func (.func 242) [] [.Aw [.ptr (some (h.size,1))]]),(.str ([109,116,105,109,101]:UV),.func (.func 219) [] [.Aw [pz h.size]])]),oB h1.size [Ai 0],oB h.size OB] F)\/False) ?_ ?_
 ·refine B7 kr (λ(s:Int) N Q=>∃x1,x1=s/\Has N 59 [(0,vs AA p0),(3,.map (some h2.size)),(12,vs AA p0),(13,Ai (p0.length:Int)),(14,Ai x1)]/\HH g Q [.obj h2.size (.map 3 [(.str ([103,105,100]:UV),.func (.func 241) [] [.Aw [.ptr (some (h.size,5))]]),(.str ([117,105,100]:UV),.func (.func 241) [] [.Aw [.ptr (some (h.size,4))]]),(.str ([115,105,122,101]:UV),.func (.func 241) [] [.Aw [pz h1.size]]),(.str ([103,110,97,109,101]:UV),.func (.func 242) [] [.Aw [.ptr (some (h.size,7))]]),(.str ([117,110,97,109,101]:UV),.func (.func 242) [] [.Aw [.ptr (some (h.size,6))]]),(.str ([112,97,116,104]:UV),.func (.func 242) [] [.Aw [pz h.size]]),(.str ([108,105,110,107,112,97,116,104]:UV),.func (.func 242) [] [.Aw [.ptr (some (h.size,1))]]),(.str ([109,116,105,109,101]:UV),.func (.func 219) [] [.Aw [pz h.size]])]),oB h1.size [Ai 0],oB h.size OB] F) O ⟨_,rfl,H.ls,A⟩ ?_;intro s q D V hI M;obtain⟨x1,rfl,H,A⟩:=hI;unfold Fj at M;refine AE 1 (AK 1 [(15,.bool (decide (x1<(p0.length:Int))))] H λD H=>AU (Ac 15 H M (λB M H=>?_) λB M H=>?_))
  ·refine By id (AU (Aa (id:=1) kr ?_));refine AE 6 ?_;obtain⟨x3,X,M⟩:=AJ M;refine BQ 1 [(16,Ai x1)] 17 (.Aw [.str x3.Key,.str x3.Value]) V H (λD=>.of (JB (e:=AA) (x:=x3) BK (by decide) kr X)) λD t H=>?_;refine Az 18 (.agg [.str x3.Key,.str x3.Value]) V H (λD=>.of (Jj kr)) λD t H=>?_;obtain⟨h5,e4,A⟩:=A.pu (.cells none 2 [.str eZ,.str eZ]);refine Bj 5 (pz V.size) e4 H λD t H=>?_;obtain⟨T,X,A⟩:=A.s0 0 [.str x3.Key,.str x3.Value];refine Fi 1 [(4,Ai x1)] X H λD t H=>?_;refine CI 9 id (AX 2 [(20,.map (some h2.size))] 22 0 0 A H λD t H=>?_);rcases BB M with⟨B,M⟩|⟨I,M⟩
   ·refine Az 23 (.tuple [.func (.func 241) [] [.Aw [.ptr (some (h.size,5))]],.bool true]) T H (λD=>.of (I8 kr (HH.Hx (P:=cfg.P) A 1 rfl (t:=231) (kt:=9) (et:=235) kr kr (s:=x3.Key) (.hit B)))) λD t H=>?_;exact wh
   rcases BB M with⟨B,M⟩|⟨S,M⟩
   ·refine Az 23 (.tuple [.func (.func 241) [] [.Aw [.ptr (some (h.size,4))]],.bool true]) T H (λD=>.of (I8 kr (HH.Hx (P:=cfg.P) A 1 rfl (t:=231) (kt:=9) (et:=235) kr kr (s:=x3.Key) (.C4 I (.hit B))))) λD t H=>?_;exact wh
   rcases BB M with⟨B,M⟩|⟨U,M⟩
   ·refine Az 23 (.tuple [.func (.func 241) [] [.Aw [pz h1.size]],.bool true]) T H (λD=>.of (I8 kr (HH.Hx (P:=cfg.P) A 1 rfl (t:=231) (kt:=9) (et:=235) kr kr (s:=x3.Key) (.C4 I (.C4 S (.hit B)))))) λD t H=>?_;exact wh
   rcases BB M with⟨B,M⟩|⟨Y,M⟩
   ·refine Az 23 (.tuple [.func (.func 242) [] [.Aw [.ptr (some (h.size,7))]],.bool true]) T H (λD=>.of (I8 kr (HH.Hx (P:=cfg.P) A 1 rfl (t:=231) (kt:=9) (et:=235) kr kr (s:=x3.Key) (.C4 I (.C4 S (.C4 U (.hit B))))))) λD t H=>?_;exact wh
   rcases BB M with⟨B,M⟩|⟨Z,M⟩
   ·refine Az 23 (.tuple [.func (.func 242) [] [.Aw [.ptr (some (h.size,6))]],.bool true]) T H (λD=>.of (I8 kr (HH.Hx (P:=cfg.P) A 1 rfl (t:=231) (kt:=9) (et:=235) kr kr (s:=x3.Key) (.C4 I (.C4 S (.C4 U (.C4 Y (.hit B)))))))) λD t H=>?_;exact wh
   rcases BB M with⟨B,M⟩|⟨hk6,M⟩
   ·refine Az 23 (.tuple [.func (.func 242) [] [.Aw [pz h.size]],.bool true]) T H (λD=>.of (I8 kr (HH.Hx (P:=cfg.P) A 1 rfl (t:=231) (kt:=9) (et:=235) kr kr (s:=x3.Key) (.C4 I (.C4 S (.C4 U (.C4 Y (.C4 Z (.hit B))))))))) λD t H=>?_;exact wh
   rcases BB M with⟨B,M⟩|⟨hk7,M⟩
   ·refine Az 23 (.tuple [.func (.func 242) [] [.Aw [.ptr (some (h.size,1))]],.bool true]) T H (λD=>.of (I8 kr (HH.Hx (P:=cfg.P) A 1 rfl (t:=231) (kt:=9) (et:=235) kr kr (s:=x3.Key) (.C4 I (.C4 S (.C4 U (.C4 Y (.C4 Z (.C4 hk6 (.hit B)))))))))) λD t H=>?_;exact wh
   rcases BB M with⟨B,M⟩|⟨hk8,M⟩
   ·refine Az 23 (.tuple [.func (.func 219) [] [.Aw [pz h.size]],.bool true]) T H (λD=>.of (I8 kr (HH.Hx (P:=cfg.P) A 1 rfl (t:=231) (kt:=9) (et:=235) kr kr (s:=x3.Key) (.C4 I (.C4 S (.C4 U (.C4 Y (.C4 Z (.C4 hk6 (.C4 hk7 (.hit B))))))))))) λD t H=>?_;exact wh
   refine Az 23 (.tuple [.nilFunc,.bool false]) T H (λD=>.of (I8 kr (HH.Yv (P:=cfg.P) A 1 rfl (t:=231) (kt:=9) (et:=235) kr kr (z:=.nilFunc) kr (s:=x3.Key) (.C4 I (.C4 S (.C4 U (.C4 Y (.C4 Z (.C4 hk6 (.C4 hk7 (.C4 hk8 (.nil)))))))))))) λD t H=>?_;refine AK 5 [(7,.bool false)] H λD H=>AU (G7 6 32 ?_);refine AX 3 [(27,.bool false)] 29 0 0 A H λD t H=>?_;refine AL 3 [(32,.bool (x3.Key==eZ))] H λD H=>Bp 4 (λN Q=>T=Q/\Has N 59 [(0,vs AA p0),(3,.map (some h2.size)),(4,Ai x1),(5,pz V.size),(12,vs AA p0),(13,Ai (p0.length:Int)),(14,Ai x1),(36,.bool ((x3.Key==eZ)||(x3.Value==eZ)))]) ?_ ?_
   ·cases B:(x3.Key==eZ:Bool)with
    |true=>
     replace H:=H.kn 32 B;exact AL 4 [(36,.bool true)] H λD H=>Bu H B
    |false=>
     replace H:=H.kn 32 B;refine AX 1 [] 34 0 1 A H λD t H=>?_;exact AL 2 [(36,.bool (x3.Value==eZ))] H λD H=>Bu H B
   intro t D Q G;obtain⟨e,H⟩:=G;subst e;refine AL 1 [(37,.bool ((x3.Key==eZ)||(x3.Value==eZ)))] H λD H=>?_;obtain⟨x4,O,M⟩:=AJ M;refine Bp 5 (λN Q=>Has N 59 [(0,vs AA p0),(3,.map (some h2.size)),(4,Ai x1),(5,pz V.size),(12,vs AA p0),(13,Ai (p0.length:Int)),(14,Ai x1),(42,.bool x4)]/\HH g Q [oB V.size [.str x3.Key,.str x3.Value],.obj h2.size (.map 3 [(.str ([103,105,100]:UV),.func (.func 241) [] [.Aw [.ptr (some (h.size,5))]]),(.str ([117,105,100]:UV),.func (.func 241) [] [.Aw [.ptr (some (h.size,4))]]),(.str ([115,105,122,101]:UV),.func (.func 241) [] [.Aw [pz h1.size]]),(.str ([103,110,97,109,101]:UV),.func (.func 242) [] [.Aw [.ptr (some (h.size,7))]]),(.str ([117,110,97,109,101]:UV),.func (.func 242) [] [.Aw [.ptr (some (h.size,6))]]),(.str ([112,97,116,104]:UV),.func (.func 242) [] [.Aw [pz h.size]]),(.str ([108,105,110,107,112,97,116,104]:UV),.func (.func 242) [] [.Aw [.ptr (some (h.size,1))]]),(.str ([109,116,105,109,101]:UV),.func (.func 219) [] [.Aw [pz h.size]])]),oB h1.size [Ai 0],oB h.size OB] F) ?_ ?_
   ·rcases BB O with⟨B,M⟩|⟨B,M⟩
    ·replace H:=H.kn 37 B;refine AL 5 [(42,.bool true)] H λD H=>?_;exact wg
    replace H:=H.kn 37 B;refine AX 1 [] 39 0 0 A H λD t H=>?_;obtain⟨x5,X,M⟩:=AJ M;obtain⟨v1,h8,R,rfl,E⟩:=Ct X (A.cut 0);replace A:=A.DF E;refine BO 40 R H λD t H=>?_;refine AL 2 [(42,.bool (decide (x5>=0)))] H λD H=>?_;exact wg
   intro t D h7 G;obtain⟨H,A⟩:=G;refine AL 1 [(43,.bool x4)] H λD H=>?_;obtain⟨x6,O,M⟩:=AJ M;refine Bp 14 (λN Q=>Has N 59 [(0,vs AA p0),(3,.map (some h2.size)),(12,vs AA p0),(13,Ai (p0.length:Int)),(14,Ai x1),(57,.bool x6)]/\HH g Q [.obj h2.size (.map 3 [(.str ([103,105,100]:UV),.func (.func 241) [] [.Aw [.ptr (some (h.size,5))]]),(.str ([117,105,100]:UV),.func (.func 241) [] [.Aw [.ptr (some (h.size,4))]]),(.str ([115,105,122,101]:UV),.func (.func 241) [] [.Aw [pz h1.size]]),(.str ([103,110,97,109,101]:UV),.func (.func 242) [] [.Aw [.ptr (some (h.size,7))]]),(.str ([117,110,97,109,101]:UV),.func (.func 242) [] [.Aw [.ptr (some (h.size,6))]]),(.str ([112,97,116,104]:UV),.func (.func 242) [] [.Aw [pz h.size]]),(.str ([108,105,110,107,112,97,116,104]:UV),.func (.func 242) [] [.Aw [.ptr (some (h.size,1))]]),(.str ([109,116,105,109,101]:UV),.func (.func 219) [] [.Aw [pz h.size]])]),oB h1.size [Ai 0],oB h.size OB] F) ?_ ?_
   ·rcases BB O with⟨B,M⟩|⟨B,M⟩
    ·replace H:=H.kn 43 B;refine AL 14 [(57,.bool true)] H λD H=>?_;exact uw
    replace H:=H.kn 43 B;refine AL 3 [(46,.bool (decide (x1>0)))] H λD H=>?_;obtain⟨x7,O,M⟩:=AJ M;refine Bp 10 (λN Q=>Has N 59 [(0,vs AA p0),(3,.map (some h2.size)),(12,vs AA p0),(13,Ai (p0.length:Int)),(14,Ai x1),(43,.bool false),(56,.bool x7)]/\HH g Q [.obj h2.size (.map 3 [(.str ([103,105,100]:UV),.func (.func 241) [] [.Aw [.ptr (some (h.size,5))]]),(.str ([117,105,100]:UV),.func (.func 241) [] [.Aw [.ptr (some (h.size,4))]]),(.str ([115,105,122,101]:UV),.func (.func 241) [] [.Aw [pz h1.size]]),(.str ([103,110,97,109,101]:UV),.func (.func 242) [] [.Aw [.ptr (some (h.size,7))]]),(.str ([117,110,97,109,101]:UV),.func (.func 242) [] [.Aw [.ptr (some (h.size,6))]]),(.str ([112,97,116,104]:UV),.func (.func 242) [] [.Aw [pz h.size]]),(.str ([108,105,110,107,112,97,116,104]:UV),.func (.func 242) [] [.Aw [.ptr (some (h.size,1))]]),(.str ([109,116,105,109,101]:UV),.func (.func 219) [] [.Aw [pz h.size]])]),oB h1.size [Ai 0],oB h.size OB] F) ?_ ?_
    ·rcases BB O with⟨B,M⟩|⟨B,M⟩
     ·replace H:=H.kn 46 B;obtain⟨x8,X,M⟩:=AJ M;refine BQ 3 [] 50 (.Aw [.str x8.Key,.str x8.Value]) h7 H (λD=>.of (JB (e:=AA) (x:=x8) BK (by decide) kr X)) λD t H=>?_;refine BQ 1 [] 52 (.str x8.Key) h7 H (λD=>.of (Jj kr)) λD t H=>?_;refine AX 1 [] 54 0 0 A H λD t H=>?_;refine AL 2 [(56,.bool (!(Op.bytesLess x8.Key x3.Key)))] H λD H=>?_;exact uw
     replace H:=H.kn 46 B;refine AL 10 [(56,.bool false)] H λD H=>?_;exact uw
    intro t D h10 G;obtain⟨H,A⟩:=G;refine AL 1 [(57,.bool x7)] H λD H=>?_;exact wg
   intro t D h9 G;obtain⟨H,A⟩:=G;refine BN id (Ac 57 H M (λB M H=>?_) λB M H=>?_)
   ·refine AE 1 (AK 1 [(2,.bool false)] H λD H=>AY ?_);exact wy
   refine Di 2 id (BU 2 [(0,vs AA p0),(3,.map (some h2.size)),(12,vs AA p0),(13,Ai (p0.length:Int)),(14,Ai (i64.wrap (x1+1)))] H λD H=>An ?_);exact vo
  exact v6
 intro e D h11 J;rcases J with⟨rfl,rfl,H,A⟩|⟨x2,rfl,rfl,H,A⟩|K
 ·refine AE 1 (AK 1 [(2,.bool true)] H λD H=>AY ?_);exact wi
 ·exact wi
 exact K.elim
def Db(p0:Int)(p1:List Int)(s:Int):Option ((Int)⊕((Unit)⊕(Bool))):=
 match s with
 |x1=>Ag (decide (x1<(p1.length:Int))) ((Kx p1 x1).bind λx3=>Ag ((decide (x3<0))||(decide (x3>=p0))) (some (.inr (.inr false))) (some (.inl (i64.wrap (x1+1))))) (some (.inr (.inl ())))
def Dq(p0:Int)(p1:List Int):Option (Bool):=
 (loop (Db p0 p1) (0:Int)).bind λo1=>(match o1 with| .inl _=>some true| .inr x2=>some x2)
theorem Hw{p0 p1 rp1 q0}(M:Dq p0 p1=some q0)(A:HH g h [.Am rp1 3 (Am (eI .i64) p1)] F)(hc:CQ (cfg.still 152) av=[Ai p0,Ad rp1 p1.length]:=by kernel_rfl):∃v Q,Cf cfg g h 152 av v Q/\v=.bool q0/\HH g Q [.Am rp1 3 (Am (eI .i64) p1)] F:=by
 refine Dp 21 [.tmp 4] hc ?_;unfold Dq at M;refine bg 21 [(0,Ai p0),(1,Ad rp1 p1.length)] λD H=>?_;refine AE 1 (AK 1 [] H λD H=>AU (AE 3 (AK 3 [(7,Ad rp1 p1.length),(8,Ai (p1.length:Int)),(9,Ai 0)] H λD H=>Aa (id:=0) kr ?_)));obtain⟨o1,O,M⟩:=AJ M;refine BJ (Q':=λe N Q=>(e=.exit 0/\.inl ()=o1/\Has N 21 []/\HH g Q [.Am rp1 3 (Am (eI .i64) p1)] F)\/(∃x2,e=.ret/\.inr x2=o1/\Has N 21 [(4,.bool x2)]/\HH g Q [.Am rp1 3 (Am (eI .i64) p1)] F)\/False) ?_ ?_
 ·refine B7 kr (λ(s:Int) N Q=>∃x1,x1=s/\Has N 21 [(0,Ai p0),(7,Ad rp1 p1.length),(8,Ai (p1.length:Int)),(9,Ai x1)]/\HH g Q [.Am rp1 3 (Am (eI .i64) p1)] F) O ⟨_,rfl,H.ls,A⟩ ?_;intro s q D h1 hI M;obtain⟨x1,rfl,H,A⟩:=hI;unfold Db at M;refine AE 1 (AK 1 [(10,.bool (decide (x1<(p1.length:Int))))] H λD H=>AU (Ac 10 H M (λB M H=>?_) λB M H=>?_))
  ·refine By id (AU (Aa (id:=1) kr ?_));refine AE 3 ?_;obtain⟨x3,X,M⟩:=AJ M;obtain⟨i1,er1,_,X,hq1⟩:=HH.ir (encI .i64) (by decide) A 0 (xs:=p1) rfl X;refine Az 11 (.ptr (some (i1,x1.toNat*1))) h1 H (λD=>.of (Sc (s:=GA rp1 p1.length) kr X)) λD t H=>?_;refine Az 12 _ _ H (λD=>.of (Fb kr (Pc (encI .i64) (HH.row A 0 rfl er1) hq1 (o:=0) rfl))) λD t H=>?_;refine Bx 1 [(6,Ai x3)] 7 H λD H=>AL 3 [(15,.bool (decide (x3<0)))] H λD H=>Ch 4 15 (λbb=>[(19,.bool (bb||(decide (x3>=p0))))]) H λD H=>?_;refine BN id (Ac 19 H M (λB M H=>?_) λB M H=>?_)
   ·exact uh
   refine Di 2 id (BU 2 [(0,Ai p0),(7,Ad rp1 p1.length),(8,Ai (p1.length:Int)),(9,Ai (i64.wrap (x1+1)))] H λD H=>An ?_);exact vo
  exact v6
 intro e D h2 J;rcases J with⟨rfl,rfl,H,A⟩|⟨x2,rfl,rfl,H,A⟩|K
 ·exact uj
 ·exact wd
 exact K.elim
def JQ(p0:AM)(s:Int):Option ((Int)⊕((Unit)⊕(Int))):=
 match s with
 |x1=>Ag (decide (x1<(([p0.Name,p0.BG,p0.A6,p0.A7]:List (List UInt8)).length:Int))) ((Kx ([p0.Name,p0.BG,p0.A6,p0.A7]:List (List UInt8)) x1).bind λx3=>(BX x3 (0:Int)).bind λx4=>Ag (decide (x4>=0)) (some (.inr (.inr (2:Int)))) (some (.inl (i64.wrap (x1+1))))) (some (.inr (.inl ())))
def HE(p0:AM):Option (Int):=
 (loop (JQ p0) (0:Int)).bind λo1=>(match o1 with| .inl _=>(Ag (p0.Name==([]:UV)) (some true) ((H3 p0.Extra).bind λx6=>some (!x6)):Option (Bool)).bind λx5=>Ag x5 (some (2:Int)) ((Dq (9007199254740992:Int) ([p0.Cq,p0.Cy]:List Int)).bind λx7=>(Ag (!x7) (some true) ((Dq (2097152:Int) ([p0.Mode,p0.BY,p0.Bi]:List Int)).bind λx9=>some (!x9)):Option (Bool)).bind λx8=>(Ag x8 (some true) ((D6 p0.Time).bind λx11=>some (!x11)):Option (Bool)).bind λx10=>Ag x10 (some (6:Int)) (some (0:Int)))| .inr x2=>some x2)
theorem Na{p0 q0}(M:HE p0=some q0):tl 117 [.agg (AN p0)] (Ai q0):=by
 intro g h F av A hc;refine Dp 58 [.tmp 2] hc ?_;unfold HE at M;refine bg 58 [(0,.agg (AN p0))] λD H=>?_;refine AE 2 ?_;obtain⟨h1,e1,A⟩:=A.pu (.cells none 2 (AN p0));refine Bj 1 (pz h.size) e1 H λD t H=>?_;refine AK 1 [] H λD H=>AU (AE 11 (AX 1 [] 6 0 0 A H λD t H=>?_));refine AX 1 [] 8 0 1 A H λD t H=>?_;refine AX 1 [] 10 0 6 A H λD t H=>?_;refine AX 1 [] 12 0 7 A H λD t H=>?_;obtain⟨h2,e2,A⟩:=A.pL 9 [.str p0.Name,.str p0.BG,.str p0.A6,.str p0.A7];refine Bj 13 (Ad (some h1.size) (([p0.Name,p0.BG,p0.A6,p0.A7]:List (List UInt8)).length)) e2 H λD t H=>?_;refine AK 2 [(14,Ai (([p0.Name,p0.BG,p0.A6,p0.A7]:List (List UInt8)).length:Int)),(15,Ai 0)] H λD H=>Aa (id:=0) kr ?_;replace A:HH g h2 [.Am (some h1.size) 9 (Am eS ([p0.Name,p0.BG,p0.A6,p0.A7]:List (List UInt8))),oB h.size (AN p0)] F:=A;obtain⟨o1,O,M⟩:=AJ M;refine BJ (Q':=λe N Q=>(e=.exit 0/\.inl ()=o1/\Has N 58 [(1,pz h.size)]/\HH g Q [oB h.size (AN p0)] F)\/(∃x2,e=.ret/\.inr x2=o1/\Has N 58 [(2,Ai x2)]/\HH g Q [] F)\/False) ?_ ?_
 ·refine B7 kr (λ(s:Int) N Q=>∃x1,x1=s/\Has N 58 [(1,pz h.size),(13,Ad (some h1.size) (([p0.Name,p0.BG,p0.A6,p0.A7]:List (List UInt8)).length)),(14,Ai (([p0.Name,p0.BG,p0.A6,p0.A7]:List (List UInt8)).length:Int)),(15,Ai x1)]/\HH g Q [.Am (some h1.size) 9 (Am eS ([p0.Name,p0.BG,p0.A6,p0.A7]:List (List UInt8))),oB h.size (AN p0)] F) O ⟨_,rfl,H.ls,A⟩ ?_;intro s q D W hI M;obtain⟨x1,rfl,H,A⟩:=hI;unfold JQ at M;refine AE 1 (AK 1 [(16,.bool (decide (x1<(([p0.Name,p0.BG,p0.A6,p0.A7]:List (List UInt8)).length:Int))))] H λD H=>AU (Ac 16 H M (λB M H=>?_) λB M H=>?_))
  ·refine By id (AU (Aa (id:=1) kr ?_));refine AE 3 ?_;obtain⟨x3,X,M⟩:=AJ M;obtain⟨i1,er1,_,X,hq1⟩:=HH.ir encS (by decide) A 0 (xs:=([p0.Name,p0.BG,p0.A6,p0.A7]:List (List UInt8))) rfl X;refine Az 17 (.ptr (some (i1,x1.toNat*1))) W H (λD=>.of (Sc (s:=GA (some h1.size) (([p0.Name,p0.BG,p0.A6,p0.A7]:List (List UInt8)).length)) kr X)) λD t H=>?_;refine Az 18 _ _ H (λD=>.of (Fb kr (Pc encS (HH.row A 0 rfl er1) hq1 (o:=0) rfl))) λD t H=>?_;refine Bx 1 [(4,.str x3)] 3 H λD H=>?_;obtain⟨x4,X,M⟩:=AJ M;obtain⟨v1,V,R,rfl,E⟩:=Ct X (A.cut 0);replace A:=A.DF E;refine BM 1 [] 20 R H λD t H=>?_;refine AK 1 [(21,.bool (decide (x4>=0)))] H λD H=>Ac 21 H M (λB M H=>?_) λB M H=>?_
   ·refine AE 1 (AK 1 [(2,Ai 2)] H λD H=>AY ?_);replace A:=A.d0;exact wy
   refine Di 2 id (BU 2 [(1,pz h.size),(13,Ad (some h1.size) (([p0.Name,p0.BG,p0.A6,p0.A7]:List (List UInt8)).length)),(14,Ai (([p0.Name,p0.BG,p0.A6,p0.A7]:List (List UInt8)).length:Int)),(15,Ai (i64.wrap (x1+1)))] H λD H=>An ?_);exact vo
  refine Be (i:=0) kr ?_;replace A:=A.k1 1;exact nr M λe=>.inl ⟨rfl,e,H.ls,A⟩
 intro e D h5 J;rcases J with⟨rfl,rfl,H,A⟩|⟨x2,rfl,rfl,H,A⟩|K
 ·refine AU (Aa (id:=2) kr ?_);refine AE 10 (AX 1 [] 25 0 0 A H λD t H=>?_);refine AL 2 [(27,.bool (p0.Name==eZ))] H λD H=>?_;obtain⟨x5,O,M⟩:=AJ M;refine Bp 5 (λN Q=>Has N 58 [(1,pz h.size),(32,.bool x5)]/\HH g Q [oB h.size (AN p0)] F) ?_ ?_
  ·rcases BB O with⟨B,M⟩|⟨B,M⟩
   ·replace H:=H.kn 27 B;refine AL 5 [(32,.bool true)] H λD H=>?_;exact wg
   replace H:=H.kn 27 B;refine AX 1 [] 29 0 12 A H λD t H=>?_;obtain⟨x6,X,M⟩:=AJ M;obtain⟨v1,h7,R,rfl,E⟩:=Sk X (A.cut 0);replace A:=A.DF E;refine BO 30 R H λD t H=>?_;refine AL 2 [(32,.bool (!x6))] H λD H=>?_;exact wg
  intro t D T G;obtain⟨H,A⟩:=G;refine AK 1 [(23,.bool x5)] H λD H=>Ac 23 H M (λB M H=>?_) λB M H=>?_
  ·refine AE 1 (AK 1 [(2,Ai 2)] H λD H=>AY ?_);exact wi
  refine AE 25 (AX 1 [] 35 0 4 A H λD t H=>?_);refine AX 1 [] 37 0 5 A H λD t H=>?_;obtain⟨h8,e3,A⟩:=A.pL 3 [Ai p0.Cq,Ai p0.Cy];refine Bj 38 (Ad (some T.size) (([p0.Cq,p0.Cy]:List Int).length)) e3 H λD t H=>?_;replace A:HH g h8 [.Am (some T.size) 3 (Am (eI .i64) ([p0.Cq,p0.Cy]:List Int)),_] F:=A;obtain⟨x7,X,M⟩:=AJ M;obtain⟨v1,h9,R,rfl,E⟩:=Hw (av:=[Ai 9007199254740992,Ad (some T.size) (([p0.Cq,p0.Cy]:List Int).length)]) X (A.cut 1);replace A:=A.g11 E;refine BO 39 R H λD t H=>?_;refine AL 2 [(41,.bool (!x7))] H λD H=>?_;obtain⟨x8,O,M⟩:=AJ M;refine Bp 10 (λN Q=>Has N 58 [(1,pz h.size),(51,.bool x8)]/\HH g Q [oB h.size (AN p0)] F) ?_ ?_
  ·rcases BB O with⟨B,M⟩|⟨B,M⟩
   ·replace H:=H.kn 41 B;refine AL 10 [(51,.bool true)] H λD H=>?_;obtain rfl:=Ar M;replace A:=A.k1 1;exact vz
   replace H:=H.kn 41 B;refine AX 1 [] 43 1 3 A H λD t H=>?_;refine AX 1 [] 45 1 8 A H λD t H=>?_;refine AX 1 [] 47 1 9 A H λD t H=>?_;obtain⟨h11,e4,A⟩:=A.pL 3 [Ai p0.Mode,Ai p0.BY,Ai p0.Bi];refine Bj 48 (Ad (some h9.size) (([p0.Mode,p0.BY,p0.Bi]:List Int).length)) e4 H λD t H=>?_;replace A:HH g h11 [.Am (some h9.size) 3 (Am (eI .i64) ([p0.Mode,p0.BY,p0.Bi]:List Int)),_,_] F:=A;obtain⟨x9,X,M⟩:=AJ M;obtain⟨v1,h12,R,rfl,E⟩:=Hw (av:=[Ai 2097152,Ad (some h9.size) (([p0.Mode,p0.BY,p0.Bi]:List Int).length)]) X (A.cut 1);replace A:=A.g11 E;refine BO 49 R H λD t H=>?_;refine AL 2 [(51,.bool (!x9))] H λD H=>?_;obtain rfl:=Ar M;replace A:=A.k1 2;exact vz
  intro t D h10 G;obtain⟨H,A⟩:=G;refine AL 1 [(52,.bool x8)] H λD H=>?_;obtain⟨x10,O,M⟩:=AJ M;refine Bp 5 (λN Q=>Has N 58 [(57,.bool x10)]/\HH g Q [] F) ?_ ?_
  ·rcases BB O with⟨B,M⟩|⟨B,M⟩
   ·replace H:=H.kn 52 B;refine AL 5 [(57,.bool true)] H λD H=>?_;exact vk
   replace H:=H.kn 52 B;refine BQ 1 [] 54 _ _ H (λD=>.of (Bt kr (A.GL 0 rfl (o:=10) (n:=2) ⟨zd rfl,rfl⟩))) λD t H=>?_;obtain⟨x11,X,M⟩:=AJ M;obtain⟨v1,h14,R,rfl,E⟩:=Kn (av:=[.agg [Ai p0.Time.DR,Ai p0.Time.CE]]) X (A.cut 0);replace A:=A.DF E;refine BO 55 R H λD t H=>?_;refine AL 2 [(57,.bool (!x11))] H λD H=>?_;exact vk
  intro t D h13 G;obtain⟨H,A⟩:=G;refine AK 1 [(33,.bool x10)] H λD H=>Ac 33 H M (λB M H=>?_) λB M H=>?_
  ·refine AE 1 (AK 1 [(2,Ai 6)] H λD H=>AY ?_);exact wd
  exact um
 ·exact wd
 exact K.elim
def Hy(p0:AM)(p1:Int):Option (Int):=
 (HE p0).bind λx1=>Ag (x1 !=0) (some x1) ((Dq (9007199254740992:Int) ([p1]:List Int)).bind λx2=>Ag (!x2) (some (6:Int)) (some (0:Int)))
theorem Rt{p0 p1 q0}(M:Hy p0 p1=some q0):tl 119 [.agg (AN p0),Ai p1] (Ai q0):=by
 intro g h F av A hc;refine Dp 15 [.tmp 4] hc ?_;unfold Hy at M;refine bg 15 [(0,.agg (AN p0)),(1,Ai p1)] λD H=>?_;refine AE 2 ?_;obtain⟨h1,e1,A⟩:=A.pu (.cells none 2 (AN p0));refine Bj 2 (pz h.size) e1 H λD t H=>?_;refine AK 1 [] H λD H=>AU (AE 3 (Az 6 _ _ H (λD=>.of (Bt kr (A.GL 0 rfl (o:=0) (n:=14) ⟨zd rfl,rfl⟩))) λD t H=>?_));obtain⟨x1,X,M⟩:=AJ M;obtain⟨v1,h2,R,rfl,E⟩:=Na X (A.cut 0);replace A:HH g h2 [oB h.size (AN p0)] F:=A.Gr (n:=0) E;refine BO 7 R H λD t H=>?_;refine Bx 1 [(5,Ai x1)] 2 H λD H=>AK 2 [(9,.bool (x1 !=0))] H λD H=>Ac 9 H M (λB M H=>?_) λB M H=>?_
 ·refine AE 2 (AK 2 [(4,Ai x1)] H λD H=>AY ?_);exact wi
 refine By id (AU (AE 4 (AL 1 [(11,Ai p1)] H λD H=>?_)));obtain⟨W,e2,A⟩:=A.pL 3 [Ai p1];refine Bj 12 (Ad (some h2.size) (([p1]:List Int).length)) e2 H λD t H=>?_;replace A:HH g W [.Am (some h2.size) 3 (Am (eI .i64) ([p1]:List Int)),_] F:=A;obtain⟨x2,X,M⟩:=AJ M;obtain⟨v1,V,R,rfl,E⟩:=Hw (av:=[Ai 9007199254740992,Ad (some h2.size) (([p1]:List Int).length)]) X (A.cut 1);replace A:=A.g11 E;refine BO 13 R H λD t H=>?_;refine AK 1 [(14,.bool (!x2))] H λD H=>Ac 14 H M (λB M H=>?_) λB M H=>?_
 ·refine AE 1 (AK 1 [(4,Ai 6)] H λD H=>AY ?_);exact wi
 refine CC 1 id (AK 1 [(4,Ai 0)] H λD H=>AY ?_);exact wi
def II(p0:AO)(p1:AM):Option (AO):=
 some ({p0 with Cy:=p1.Cy}:AO)
theorem OV{p0 p1 bp0 bp1 u0}(M:II p0 p1=some u0)(A:HH g h [.obj bp0 (.cells none 2 (AP p0)),.obj bp1 (.cells none 2 (AN p1))] F)(hc:CQ (cfg.still 155) av=[.ptr (some (bp0,0)),.ptr (some (bp1,0))]:=by kernel_rfl):∃v Q,Cf cfg g h 155 av v Q/\v=.tuple []/\HH g Q [.obj bp0 (.cells none 2 (AP u0)),.obj bp1 (.cells none 2 (AN p1))] F:=by
 refine Dp 8 [] hc ?_;unfold II at M;refine bg 8 [(0,pz bp0),(1,pz bp1)] λD H=>?_;refine CF 6 (AX 2 [(3,pz bp0)] 5 1 5 A H λD t H=>?_);obtain⟨h1,X,A⟩:=A.s0 5 [Ai p1.Cy];exact wt
def EA(p0:List UInt8)(p1:Int)(s:Int):Option ((Int)⊕((Unit)⊕(Int))):=
 match s with
 |x1=>Ag (decide (x1>=0)) ((KE p0 x1).bind λx3=>Ag (x3==p1) (some (.inr (.inr x1))) (some (.inl (i64.wrap (x1 - 1))))) (some (.inr (.inl ())))
def DZ(p0:List UInt8)(p1:Int):Option (Int):=
 (loop (EA p0 p1) (i64.wrap ((p0.length:Int) - 1))).bind λo1=>(match o1 with| .inl _=>some (-1:Int)| .inr x2=>some x2)
theorem JL{p0 p1 q0}(M:DZ p0 p1=some q0):tl 231 [.str p0,Ab p1] (Ai q0):=by
 intro g h F av A hc;refine Dp 19 [.tmp 4] hc ?_;unfold DZ at M;refine bg 19 [(0,.str p0),(1,Ab p1)] λD H=>?_;refine AE 1 (AK 1 [] H λD H=>AU (AE 4 (AK 4 [(5,Ai (i64.wrap ((p0.length:Int) - 1)))] H λD H=>Aa (id:=0) kr ?_)));obtain⟨o1,O,M⟩:=AJ M;refine BJ (Q':=λe N Q=>(e=.exit 0/\.inl ()=o1/\Has N 19 []/\HH g Q [] F)\/(∃x2,e=.ret/\.inr x2=o1/\Has N 19 [(4,Ai x2)]/\HH g Q [] F)\/False) ?_ ?_
 ·refine B7 kr (λ(s:Int) N Q=>∃x1,x1=s/\Has N 19 [(0,.str p0),(1,Ab p1),(5,Ai x1)]/\HH g Q [] F) O ⟨_,rfl,H.ls,A⟩ ?_;intro s q D h1 hI M;obtain⟨x1,rfl,H,A⟩:=hI;unfold EA at M;refine AU (AE 2 (AK 2 [(10,.bool (decide (x1>=0)))] H λD H=>Ac 10 H M (λB M H=>?_) λB M H=>?_))
  ·refine By id (AU (Aa (id:=1) kr ?_));refine AE 5 ?_;obtain⟨x3,X,M⟩:=AJ M;refine BQ 2 [] 15 (Ab x3) h1 H (λD=>.of (Eg kr X)) λD t H=>?_;refine AK 2 [(17,.bool (x3==p1))] H λD H=>Ac 17 H M (λB M H=>?_) λB M H=>?_
   ·refine AE 2 (AK 2 [(4,Ai x1)] H λD H=>AY ?_);exact wy
   refine Di 3 id (BU 3 [(0,.str p0),(1,Ab p1),(5,Ai (i64.wrap (x1 - 1)))] H λD H=>An ?_);exact vo
  exact v6
 intro e D h2 J;rcases J with⟨rfl,rfl,H,A⟩|⟨x2,rfl,rfl,H,A⟩|K
 ·refine AE 1 (AK 1 [(4,Ai (-1))] H λD H=>AY ?_);exact wd
 ·exact wd
 exact K.elim
def DE(p0:List UInt8)(p1:Int):Option (Int):=
 (DZ p0 p1).bind λx1=>some x1
theorem H4{p0 p1 q0}(M:DE p0 p1=some q0):tl 202 [.str p0,Ab p1] (Ai q0):=by
 intro g h F av A hc;refine Dp 8 [.tmp 4] hc ?_;unfold DE at M;refine bg 8 [(0,.str p0),(1,Ab p1)] λD H=>?_;refine AE 1 (Bx 1 [] 4 H λD H=>?_);obtain⟨x1,X,M⟩:=AJ M;obtain⟨v1,h1,R,rfl,E⟩:=JL X (A.cut 0);exact uo
def Gv(p0:Int):Option (Bool):=
 some ((decide (p0>=0))&&(decide (p0<=1099511627776)))
theorem Oj{p0 q0}(M:Gv p0=some q0):tl 103 [Ai p0] (.bool q0):=by
 intro g h F av A hc;refine Dp 9 [.tmp 2] hc ?_;unfold Gv at M;refine bg 9 [(0,Ai p0)] λD H=>?_;refine AE 1 (Bx 1 [] 7 H λD H=>AL 3 [(5,.bool (decide (p0>=0)))] H λD H=>Ch 3 5 (λbb=>[(8,.bool (bb&&(decide (p0<=1099511627776))))]) H λD H=>?_);refine AK 1 [(2,.bool ((decide (p0>=0))&&(decide (p0<=1099511627776))))] H λD H=>AY ?_;exact wd
end
end Go.Av.L
