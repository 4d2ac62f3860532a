/-
 A part.
-/
import Derived.Test.YtgkbpgefomapgaaGreatDoorK0
namespace Go.Av.L
open IntKind (i64 u8)
open Go.Av Go.Lib
set_option maxRecDepth 10000
set_option linter.unusedVariables false
set_option linter.unusedSimpArgs false
variable {g:Gd} {h:AS} {F:List Ck} {av:List AE}
noncomputable section
def D9(p0:AL):Option (Bool):=
 (Ae (p0.at_==(p0.s_.length:Int)) (some true) ((C9 p0 ([124]:UV)).bind λx2=>some x2):Option (Bool)).bind λx1=>(Ae x1 (some true) ((C9 p0 ([41]:UV)).bind λx4=>some x4):Option (Bool)).bind λx3=>some x3
theorem Ir{p0 bp0 rp0_3 q0}(M:D9 p0=some q0)(A:HH g h [.obj bp0 (.cells none 2 (An p0 (AH rp0_3 p0.t_.AN.length))),.AP rp0_3 113 (AP AA p0.t_.AN)] F)(hc:Bf (cfg.still 85) av=[.ptr (some (bp0,0))]:=by kernel_rfl):∃v Q,Bm cfg g h 85 av v Q/\v=.bool q0/\HH g Q [.obj bp0 (.cells none 2 (An p0 (AH rp0_3 p0.t_.AN.length))),.AP rp0_3 113 (AP AA p0.t_.AN)] F:=by
 refine E5 21 [.tmp 2] hc ?_;clear hc;unfold D9 at M;refine bg 21 [(0,.ptr (some (bp0,0)))] λD H=>?_;refine AD 1 (AK 1 [] H λD H=>AQ (Ek 1 19 ?_));refine Aa 3 [] 6 0 1 A H λD t H=>?_;refine Aa 3 [] 10 0 0 A H λD t H=>?_;refine AI 3 [(13,.bool (p0.at_==(p0.s_.length:Int)))] H λD H=>?_;obtain⟨x1,O,M⟩:=AG M;refine BP 3 (λN Q=>Has N 21 [(0,.ptr (some (bp0,0))),(16,.bool x1)]/\HH g Q [.obj bp0 (.cells none 2 (An p0 (AH rp0_3 p0.t_.AN.length))),.AP rp0_3 113 (AP AA p0.t_.AN)] F) ?_ ?_
 ·rcases BS O with⟨C,M⟩|⟨C,M⟩
  ·replace H:=H.kn 13 C;refine AI 3 [(16,.bool true)] H λD H=>?_;obtain rfl:=Ag M;exact Aj ⟨H.ls,A⟩
  replace H:=H.kn 13 C;obtain⟨x2,X,M⟩:=AG M;obtain⟨v1,S,R,rfl,E⟩:=F9 (av:=[.ptr (some (bp0,0)),.str ([124]:UV)]) X (A.cut 2);replace A:=A.g22 E;refine As 1 [] 15 R H λD t H=>?_;refine AI 1 [(16,.bool x2)] H λD H=>?_;obtain rfl:=Ag M;exact Aj ⟨H.ls,A⟩
 clear A;intro t D h1 G;obtain⟨H,A⟩:=G;refine AI 1 [(17,.bool x1)] H λD H=>?_;obtain⟨x3,O,M⟩:=AG M;refine BP 3 (λN Q=>Has N 21 [(20,.bool x3)]/\HH g Q [.obj bp0 (.cells none 2 (An p0 (AH rp0_3 p0.t_.AN.length))),.AP rp0_3 113 (AP AA p0.t_.AN)] F) ?_ ?_
 ·rcases BS O with⟨C,M⟩|⟨C,M⟩
  ·replace H:=H.kn 17 C;refine AI 3 [(20,.bool true)] H λD H=>?_;obtain rfl:=Ag M;exact Aj ⟨H.ls,A⟩
  replace H:=H.kn 17 C;obtain⟨x4,X,M⟩:=AG M;obtain⟨v1,W,R,rfl,E⟩:=F9 (av:=[.ptr (some (bp0,0)),.str ([41]:UV)]) X (A.cut 2);replace A:=A.g22 E;refine As 1 [] 19 R H λD t H=>?_;refine AI 1 [(20,.bool x4)] H λD H=>?_;obtain rfl:=Ag M;exact Aj ⟨H.ls,A⟩
 clear A;intro t D K G;obtain⟨H,A⟩:=G;refine AK 1 [(2,.bool x3)] H λD H=>Ak ?_;obtain rfl:=Ag M;exact⟨.inl rfl,_,rH H,rfl,A⟩
def GF(p0:BE)(p1:Int):Option (BE):=
 (FT ([p0.w0,p0.w1,p0.w2,p0.w3]:List Int) (HW .u8 p1 (6:Int))).bind λx1=>Ds (decide (0<=(Ey .u8 p1 (63:Int))))<|(FT ([p0.w0,p0.w1,p0.w2,p0.w3]:List Int) (HW .u8 p1 (6:Int))).bind λx2=>some (⟨(bif (HW .u8 p1 (6:Int))==0 then IW .u64 x1 (Js .u64 (1:Int) (Ey .u8 p1 (63:Int)))else p0.w0),(bif ((HW .u8 p1 (6:Int)) - 1)==0 then IW .u64 x1 (Js .u64 (1:Int) (Ey .u8 p1 (63:Int)))else p0.w1),(bif (((HW .u8 p1 (6:Int)) - 1) - 1)==0 then IW .u64 x1 (Js .u64 (1:Int) (Ey .u8 p1 (63:Int)))else p0.w2),(bif ((((HW .u8 p1 (6:Int)) - 1) - 1) - 1)==0 then IW .u64 x1 (Js .u64 (1:Int) (Ey .u8 p1 (63:Int)))else p0.w3)⟩:BE)
theorem LL{p0 p1 bp0 u0}(M:GF p0 p1=some u0)(A:HH g h [.obj bp0 (.cells none 2 (AR p0))] F)(hc:Bf (cfg.still 123) av=[.ptr (some (bp0,0)),Ab p1]:=by kernel_rfl):∃v Q,Bm cfg g h 123 av v Q/\v=.tuple []/\HH g Q [.obj bp0 (.cells none 2 (AR u0))] F:=by
 refine E5 16 [] hc ?_;clear hc;unfold GF at M;refine bg 16 [(0,.ptr (some (bp0,0))),(1,Ab p1)] λD H=>?_;refine Ek 0 13 ?_;obtain⟨x1,T,M⟩:=AG M;refine BD 4 [(4,.ptr (some (bp0,0))),(6,Ab (HW .u8 p1 (6:Int)))] 8 (.ptr (some (bp0,0+(HW .u8 p1 (6:Int)).toNat*1))) h H (λD=>.of (L5 (by kernel_rfl) (KO T (bp0,0) 1 rfl))) λD t H=>?_;refine Aw 9 _ _ H (λD=>.of (Dj (by kernel_rfl) (HH.Zj A 0 rfl 0 (λw:Int=>Au w) [p0.w0,p0.w1,p0.w2,p0.w3] rfl T))) λD t H=>?_;refine AI 2 [(11,Ab (Ey .u8 p1 (63:Int)))] H λD H=>?_;obtain⟨C,M⟩:=BN M;refine Aw 12 (Au (Js .u64 (1:Int) (Ey .u8 p1 (63:Int)))) h H (λD=>.of (aO (by kernel_rfl) C)) λD t H=>?_;obtain⟨x2,Y,M⟩:=AG M;refine BD 2 [(13,Au (IW .u64 x1 (Js .u64 (1:Int) (Ey .u8 p1 (63:Int)))))] 15 (.ptr (some (bp0,0+(HW .u8 p1 (6:Int)).toNat*1))) h H (λD=>.of (L5 (by kernel_rfl) (KO Y (bp0,0) 1 rfl))) λD t H=>?_;obtain⟨h1,X,E⟩:=HH.bF A 0 rfl 0 (λw:Int=>Au w) [p0.w0,p0.w1,p0.w2,p0.w3] (IW .u64 x1 (Js .u64 (1:Int) (Ey .u8 p1 (63:Int)))) (ds:=[Au (bif (HW .u8 p1 (6:Int))==0 then IW .u64 x1 (Js .u64 (1:Int) (Ey .u8 p1 (63:Int)))else p0.w0),Au (bif ((HW .u8 p1 (6:Int)) - 1)==0 then IW .u64 x1 (Js .u64 (1:Int) (Ey .u8 p1 (63:Int)))else p0.w1),Au (bif (((HW .u8 p1 (6:Int)) - 1) - 1)==0 then IW .u64 x1 (Js .u64 (1:Int) (Ey .u8 p1 (63:Int)))else p0.w2),Au (bif ((((HW .u8 p1 (6:Int)) - 1) - 1) - 1)==0 then IW .u64 x1 (Js .u64 (1:Int) (Ey .u8 p1 (63:Int)))else p0.w3)]) rfl Y rfl rfl;replace A:HH g h1 [.obj bp0 (.cells none 2 [Au (bif (HW .u8 p1 (6:Int))==0 then IW .u64 x1 (Js .u64 (1:Int) (Ey .u8 p1 (63:Int)))else p0.w0),Au (bif ((HW .u8 p1 (6:Int)) - 1)==0 then IW .u64 x1 (Js .u64 (1:Int) (Ey .u8 p1 (63:Int)))else p0.w1),Au (bif (((HW .u8 p1 (6:Int)) - 1) - 1)==0 then IW .u64 x1 (Js .u64 (1:Int) (Ey .u8 p1 (63:Int)))else p0.w2),Au (bif ((((HW .u8 p1 (6:Int)) - 1) - 1) - 1)==0 then IW .u64 x1 (Js .u64 (1:Int) (Ey .u8 p1 (63:Int)))else p0.w3)])] F:=E
 refine I4 X H λD t H=>?_;refine Aj ?_;obtain rfl:=Ag M;refine⟨.inr rfl,.tuple [],rH H,?_⟩;exact⟨rfl,A⟩
def JB(p1:Int)(s:Int×Int×Int×Int×Int):Option ((Int×Int×Int×Int×Int)⊕((Int×Int×Int×Int))):=
 match s with
 |(x1,x2,x3,x4,x5)=>Ae (decide (x5<=(i64.wrap p1))) ((GF (⟨x1,x2,x3,x4⟩:BE) (u8.wrap x5)).bind λx10=>some (.inl (x10.w0,x10.w1,x10.w2,x10.w3,i64.wrap (x5+1)))) (some (.inr (x1,x2,x3,x4)))
def CX(p0:Int)(p1:Int):Option (BE):=
 (loop (JB p1) ((0:Int),(0:Int),(0:Int),(0:Int),i64.wrap p0)).bind λ(x6,x7,x8,x9)=>some (⟨x6,x7,x8,x9⟩:BE)
theorem C4{p0 p1 q0}(M:CX p0 p1=some q0)(A:HH g h [] F)(hc:Bf (cfg.still 107) av=[Ab p0,Ab p1]:=by kernel_rfl):∃v Q,Bm cfg g h 107 av v Q/\v=.agg (AR q0)/\HH g Q [] F:=by
 refine E5 19 [.cell 4 111] hc ?_;clear hc;unfold CX at M;refine bg 19 [(0,Ab p0),(1,Ab p1)] λD H=>?_;refine AD 1 ?_;obtain⟨h1,e1,A⟩:=A.pu (.cells none 2 [Au 0,Au 0,Au 0,Au 0]);refine Bc 4 (.ptr (some (h.size,0))) e1 H λD t H=>?_;refine B6 1 id ?_;obtain⟨S,e2,A⟩:=A.pu (.cells none 2 [Au 0,Au 0,Au 0,Au 0]);refine Bc 5 (.ptr (some (h1.size,0))) e2 H λD t H=>?_;refine BK id (AQ (AD 3 (AK 3 [(6,Ai (i64.wrap p0))] H λD H=>Ad (id:=0) (by kernel_rfl) ?_)));obtain⟨o1,O,M⟩:=AG M;refine Ap (Q':=λe N Q=>(∃x6 x7 x8 x9,e=.exit 0/\(x6,x7,x8,x9)=o1/\Has N 19 [(4,.ptr (some (h.size,0))),(5,.ptr (some (h1.size,0)))]/\HH g Q [.obj h1.size (.cells none 2 [Au x6,Au x7,Au x8,Au x9]),.obj h.size (.cells none 2 [Au 0,Au 0,Au 0,Au 0])] F)\/False) ?_ ?_
 ·refine Bp (by kernel_rfl) (λ(s:Int×Int×Int×Int×Int) N Q=>∃x1 x2 x3 x4 x5,(x1,x2,x3,x4,x5)=s/\Has N 19 [(1,Ab p1),(4,.ptr (some (h.size,0))),(5,.ptr (some (h1.size,0))),(6,Ai x5)]/\HH g Q [.obj h1.size (.cells none 2 [Au x1,Au x2,Au x3,Au x4]),.obj h.size (.cells none 2 [Au 0,Au 0,Au 0,Au 0])] F) O ⟨_,_,_,_,_,rfl,H.ls,A⟩ ?_;clear O M H A;intro s q D K hI M;obtain⟨x1,x2,x3,x4,x5,rfl,H,A⟩:=hI;unfold JB at M;refine AQ (AD 4 (AK 4 [(12,.bool (decide (x5<=(i64.wrap p1))))] H λD H=>AU 12 H M (λC M H=>?_) λC M H=>?_))
  ·refine Bt id (AQ (Ad (id:=1) (by kernel_rfl) ?_));refine BY 3 ?_;obtain⟨x10,X,M⟩:=AG M;obtain⟨v1,W,R,rfl,E⟩:=LL (av:=[.ptr (some (h1.size,0)),Ab (u8.wrap x5)]) X (A.cut 1);replace A:=A.g11 E;refine Ld 2 [] R H λD t H=>?_;refine Fu 3 id (BA 3 [(1,Ab p1),(4,.ptr (some (h.size,0))),(5,.ptr (some (h1.size,0))),(6,Ai (i64.wrap (x5+1)))] H λD H=>Aj ?_);exact nx M ⟨_,_,_,_,_,rfl,H.ls,A⟩
  refine BM (i:=0) (by kernel_rfl) ?_;exact nr M λe=>.inl ⟨_,_,_,_,rfl,e,H.ls,A⟩
 clear O;clear A;intro e D V I;rcases I with⟨x6,x7,x8,x9,rfl,rfl,H,A⟩|J
 ·show AW _ _ _ _ _ _ _;refine AD 2 (Aw 18 _ _ H (λD=>.of (B0 (by kernel_rfl) (A.G7 0 rfl (o:=0) (n:=4) ⟨zb rfl,rfl⟩))) λD t H=>?_);obtain⟨Z,X,A⟩:=A.s1 0 [Au x6,Au x7,Au x8,Au x9] [_,_,_,_];refine Cu X H λD t H=>?_;refine BK id (Ak ?_);obtain rfl:=Ag M;refine⟨.inl rfl,.agg [Au x6,Au x7,Au x8,Au x9],Ik (.cell (rT H) (Bk (by kernel_rfl) (by kernel_rfl) (A.la 1 0 4)) .nil),?_⟩;replace A:=A.d0;exact⟨rfl,A⟩
 exact J.elim
def JQ(p0:AM):Option (AM×Bool):=
 (Ae (p0.Kind==0) (some true) (Ae (p0.Kind==6) (some true) (some (p0.Kind==7))):Option ((Bool))).bind λx1=>Ae x1 (some ((⟨p0.Kind,(0:Int),(0:Int),(0:Int),(0:Int),(0:Int),(⟨(0:Int),(0:Int),(0:Int),(0:Int)⟩:BE)⟩:AM),true)) (Ae (p0.Kind==1) (some ((⟨(1:Int),(0:Int),(0:Int),(0:Int),(0:Int),(0:Int),p0.Set⟩:AM),true)) ((Ae (p0.Kind==2) (some true) (some (p0.Kind==3)):Option ((Bool))).bind λx2=>Ae x2 (some ((⟨p0.Kind,p0.A,p0.B,(0:Int),(0:Int),(0:Int),(⟨(0:Int),(0:Int),(0:Int),(0:Int)⟩:BE)⟩:AM),true)) (Ae (p0.Kind==4) (some ((⟨(4:Int),p0.A,(0:Int),p0.Min,p0.Max,(0:Int),(⟨(0:Int),(0:Int),(0:Int),(0:Int)⟩:BE)⟩:AM),true)) (Ae (p0.Kind==5) (some ((⟨(5:Int),p0.A,(0:Int),(0:Int),(0:Int),p0.By,(⟨(0:Int),(0:Int),(0:Int),(0:Int)⟩:BE)⟩:AM),true)) (some ((⟨(0:Int),(0:Int),(0:Int),(0:Int),(0:Int),(0:Int),(⟨(0:Int),(0:Int),(0:Int),(0:Int)⟩:BE)⟩:AM),false))))))
theorem S4{p0 q0 q1}(M:JQ p0=some (q0,q1))(A:HH g h [] F)(hc:Bf (cfg.still 91) av=[.agg (AA p0)]:=by kernel_rfl):∃v Q,Bm cfg g h 91 av v Q/\v=.tuple [.agg (AA q0),.bool q1]/\HH g Q [] F:=by
 refine E5 45 [.cell 2 113,.tmp 3] hc ?_;clear hc;unfold JQ at M;refine bg 45 [(0,.agg (AA p0))] λD H=>?_;refine AD 3 ?_;obtain⟨h1,e1,A⟩:=A.pu (.cells none 2 (AA p0));refine Bc 1 (.ptr (some (h.size,0))) e1 H λD t H=>?_;obtain⟨S,e2,A⟩:=A.pu (.cells none 2 Wg);refine Bc 2 (.ptr (some (h1.size,0))) e2 H λD t H=>?_;refine AK 1 [] H λD H=>AQ (AD 2 (Aa 1 [] 5 1 0 A H λD t H=>?_));refine BK id (Ad (id:=0) (by kernel_rfl) ?_);refine AQ ?_;obtain⟨o1,O,M⟩:=AG M;refine Ap (Q':=λe N Q=>(∃x1,e=.normal/\x1=o1/\Has N 45 [(1,.ptr (some (h.size,0))),(2,.ptr (some (h1.size,0))),(5,Ai p0.Kind),(6,.bool x1)]/\HH g Q [.obj h1.size (.cells none 2 Wg),.obj h.size (.cells none 2 (AA p0))] F)\/False) ?_ ?_
 ·replace M:=O;clear O;refine AD 2 (AK 2 [(6,.bool (p0.Kind==0))] H λD H=>AU 6 H M (λC M H=>?_) λC M H=>?_)
  ·exact Bv (.inl ⟨_,rfl,Ag M,H.ls,A⟩)
  refine AD 2 (BA 2 [(1,.ptr (some (h.size,0))),(2,.ptr (some (h1.size,0))),(5,Ai p0.Kind),(6,.bool (p0.Kind==6))] H λD H=>BK id (AU 6 H M (λC M H=>?_) λC M H=>?_))
  ·exact Bv (.inl ⟨_,rfl,Ag M,H.ls,A⟩)
  refine BY 2 (BA 2 [(1,.ptr (some (h.size,0))),(2,.ptr (some (h1.size,0))),(5,Ai p0.Kind),(6,.bool (p0.Kind==7))] H λD H=>Aj ?_);exact .inl ⟨_,rfl,Ag M,H.ls,A⟩
 clear O;clear A;intro e D K I;rcases I with⟨x1,rfl,rfl,H,A⟩|J
 ·show AW _ _ _ _ _ _ _;refine AU 6 H M (λC M H=>?_) λC M H=>?_
  ·refine AD 5 (Aa 1 [] 11 1 0 A H λD t H=>?_);obtain⟨W,X,A⟩:=A.s0 0 [Ai p0.Kind,Ai 0,Ai 0,Ai 0,Ai 0,Ai 0,Au 0,Au 0,Au 0,Au 0] [_,_,_,_,_,_,_,_,_,_];refine Ft 1 [] X H λD t H=>?_;refine AK 1 [(3,.bool true)] H λD H=>Ak ?_;obtain⟨rfl,rfl⟩:=C1 M;refine⟨.inl rfl,.tuple [.agg [Ai p0.Kind,Ai 0,Ai 0,Ai 0,Ai 0,Ai 0,Au 0,Au 0,Au 0,Au 0],.bool true],Bl (.cell (rT H) (Bk (by kernel_rfl) (by kernel_rfl) (A.la 0 0 10)) (.tmp (rT H) .nil)),?_⟩;replace A:=A.d0;exact⟨rfl,A⟩
  refine AD 2 (AK 2 [(13,.bool (p0.Kind==1))] H λD H=>AU 13 H M (λC M H=>?_) λC M H=>?_)
  ·refine AD 5 (BD 1 [] 16 _ _ H (λD=>.of (B0 (by kernel_rfl) (A.G7 1 rfl (o:=6) (n:=4) ⟨zb rfl,rfl⟩))) λD t H=>?_);obtain⟨V,X,A⟩:=A.s0 0 [Ai 1,Ai 0,Ai 0,Ai 0,Ai 0,Ai 0,Au p0.Set.w0,Au p0.Set.w1,Au p0.Set.w2,Au p0.Set.w3] [_,_,_,_,_,_,_,_,_,_];refine Ft 1 [] X H λD t H=>?_;refine AK 1 [(3,.bool true)] H λD H=>Ak ?_;obtain⟨rfl,rfl⟩:=C1 M;refine⟨.inl rfl,.tuple [.agg [Ai 1,Ai 0,Ai 0,Ai 0,Ai 0,Ai 0,Au p0.Set.w0,Au p0.Set.w1,Au p0.Set.w2,Au p0.Set.w3],.bool true],Bl (.cell (rT H) (Bk (by kernel_rfl) (by kernel_rfl) (A.la 0 0 10)) (.tmp (rT H) .nil)),?_⟩;replace A:=A.d0;exact⟨rfl,A⟩
  refine AQ ?_;obtain⟨o2,O,M⟩:=AG M;refine Ap (Q':=λe N Q=>(∃x2,e=.normal/\x2=o2/\Has N 45 [(1,.ptr (some (h.size,0))),(2,.ptr (some (h1.size,0))),(5,Ai p0.Kind),(18,.bool x2)]/\HH g Q [.obj h1.size (.cells none 2 Wg),.obj h.size (.cells none 2 (AA p0))] F)\/False) ?_ ?_
  ·replace M:=O;clear O;refine AD 2 (AK 2 [(18,.bool (p0.Kind==2))] H λD H=>AU 18 H M (λC M H=>?_) λC M H=>?_)
   ·exact Bv (.inl ⟨_,rfl,Ag M,H.ls,A⟩)
   refine BY 2 (BA 2 [(1,.ptr (some (h.size,0))),(2,.ptr (some (h1.size,0))),(5,Ai p0.Kind),(18,.bool (p0.Kind==3))] H λD H=>Aj ?_);exact .inl ⟨_,rfl,Ag M,H.ls,A⟩
  clear O;clear A;intro e D Z I;rcases I with⟨x2,rfl,rfl,H,A⟩|J
  ·show AW _ _ _ _ _ _ _;refine AU 18 H M (λC M H=>?_) λC M H=>?_
   ·refine AD 9 (Aa 1 [] 22 1 0 A H λD t H=>?_);refine Aa 1 [] 24 1 1 A H λD t H=>?_;refine Aa 1 [] 26 1 2 A H λD t H=>?_;obtain⟨h7,X,A⟩:=A.s0 0 [Ai p0.Kind,Ai p0.A,Ai p0.B,Ai 0,Ai 0,Ai 0,Au 0,Au 0,Au 0,Au 0] [_,_,_,_,_,_,_,_,_,_];refine Ft 1 [] X H λD t H=>?_;refine AK 1 [(3,.bool true)] H λD H=>Ak ?_;obtain⟨rfl,rfl⟩:=C1 M;refine⟨.inl rfl,.tuple [.agg [Ai p0.Kind,Ai p0.A,Ai p0.B,Ai 0,Ai 0,Ai 0,Au 0,Au 0,Au 0,Au 0],.bool true],Bl (.cell (rT H) (Bk (by kernel_rfl) (by kernel_rfl) (A.la 0 0 10)) (.tmp (rT H) .nil)),?_⟩;replace A:=A.d0;exact⟨rfl,A⟩
   refine AD 2 (AK 2 [(28,.bool (p0.Kind==4))] H λD H=>AU 28 H M (λC M H=>?_) λC M H=>?_)
   ·refine AD 9 (Aa 1 [] 31 1 1 A H λD t H=>?_);refine Aa 1 [] 33 1 3 A H λD t H=>?_;refine Aa 1 [] 35 1 4 A H λD t H=>?_;obtain⟨h8,X,A⟩:=A.s0 0 [Ai 4,Ai p0.A,Ai 0,Ai p0.Min,Ai p0.Max,Ai 0,Au 0,Au 0,Au 0,Au 0] [_,_,_,_,_,_,_,_,_,_];refine Ft 1 [] X H λD t H=>?_;refine AK 1 [(3,.bool true)] H λD H=>Ak ?_;obtain⟨rfl,rfl⟩:=C1 M;refine⟨.inl rfl,.tuple [.agg [Ai 4,Ai p0.A,Ai 0,Ai p0.Min,Ai p0.Max,Ai 0,Au 0,Au 0,Au 0,Au 0],.bool true],Bl (.cell (rT H) (Bk (by kernel_rfl) (by kernel_rfl) (A.la 0 0 10)) (.tmp (rT H) .nil)),?_⟩;replace A:=A.d0;exact⟨rfl,A⟩
   refine AD 2 (AK 2 [(37,.bool (p0.Kind==5))] H λD H=>AU 37 H M (λC M H=>?_) λC M H=>?_)
   ·refine AD 7 (Aa 1 [] 40 1 1 A H λD t H=>?_);refine Aa 1 [] 42 1 5 A H λD t H=>?_;obtain⟨h9,X,A⟩:=A.s0 0 [Ai 5,Ai p0.A,Ai 0,Ai 0,Ai 0,Ai p0.By,Au 0,Au 0,Au 0,Au 0] [_,_,_,_,_,_,_,_,_,_];refine Ft 1 [] X H λD t H=>?_;refine AK 1 [(3,.bool true)] H λD H=>Ak ?_;obtain⟨rfl,rfl⟩:=C1 M;refine⟨.inl rfl,.tuple [.agg [Ai 5,Ai p0.A,Ai 0,Ai 0,Ai 0,Ai p0.By,Au 0,Au 0,Au 0,Au 0],.bool true],Bl (.cell (rT H) (Bk (by kernel_rfl) (by kernel_rfl) (A.la 0 0 10)) (.tmp (rT H) .nil)),?_⟩;replace A:=A.d0;exact⟨rfl,A⟩
   refine CH 3 id ?_;obtain⟨h10,X,A⟩:=A.s0 0 Wg [_,_,_,_,_,_,_,_,_,_];refine Ft 1 [] X H λD t H=>?_;refine AK 1 [(3,.bool false)] H λD H=>Ak ?_;obtain⟨rfl,rfl⟩:=C1 M;refine⟨.inl rfl,.tuple [.agg [Ai 0,Ai 0,Ai 0,Ai 0,Ai 0,Ai 0,Au 0,Au 0,Au 0,Au 0],.bool false],Bl (.cell (rT H) (Bk (by kernel_rfl) (by kernel_rfl) (A.la 0 0 10)) (.tmp (rT H) .nil)),?_⟩;replace A:=A.d0;exact⟨rfl,A⟩
  exact J.elim
 exact J.elim
def G5(p0:AM)(p1:Int):Option (Bool):=
 (JQ p0).bind λ(x1,x2)=>(Ae (!x2) (some true) ((ZJ cfg.P 113 (AA x1) (AA p0)).bind λx4=>some (!x4)):Option (Bool)).bind λx3=>Ae x3 (some false) ((Ae (p0.Kind==2) (some true) (some (p0.Kind==3)):Option ((Bool))).bind λx5=>Ae x5 ((DH p0.A p1).bind λx6=>(Ae x6 ((DH p0.B p1).bind λx8=>some x8) (some false):Option (Bool)).bind λx7=>some x7) (Ae (p0.Kind==4) ((DH p0.A p1).bind λx9=>some (((x9&&(decide (p0.Min>=0)))&&(decide (p0.Min<=255)))&&((p0.Max==(-1))||((decide (p0.Max>=p0.Min))&&(decide (p0.Max<=255)))))) (Ae (p0.Kind==5) ((DH p0.A p1).bind λx10=>some ((x10&&(decide (p0.By>=1)))&&(decide (p0.By<=1024)))) (some true))))
theorem Pq{p0 p1 q0}(M:G5 p0 p1=some q0)(A:HH g h [] F)(hc:Bf (cfg.still 64) av=[.agg (AA p0),Ai p1]:=by kernel_rfl):∃v Q,Bm cfg g h 64 av v Q/\v=.bool q0/\HH g Q [] F:=by
 refine E5 85 [.tmp 4] hc ?_;clear hc;unfold G5 at M;refine bg 85 [(0,.agg (AA p0)),(1,Ai p1)] λD H=>?_;refine AD 3 ?_;obtain⟨h1,e1,A⟩:=A.pu (.cells none 2 (AA p0));refine Bc 2 (.ptr (some (h.size,0))) e1 H λD t H=>?_;obtain⟨S,e2,A⟩:=A.pu (.cells none 2 [Ai p1]);refine Bc 3 (.ptr (some (h1.size,0))) e2 H λD t H=>?_;refine AK 1 [] H λD H=>AQ (AD 8 (Aw 9 _ _ H (λD=>.of (B0 (by kernel_rfl) (A.G7 1 rfl (o:=0) (n:=10) ⟨zb rfl,rfl⟩))) λD t H=>?_));obtain⟨⟨x1,x2⟩,X,M⟩:=AG M;obtain⟨v1,K,R,rfl,E⟩:=S4 (av:=[.agg (AA p0)]) X (A.cut 0);replace A:HH g K [.obj h1.size (.cells none 2 [Ai p1]),.obj h.size (.cells none 2 (AA p0))] F:=A.Fq (n:=0) E;refine Bq 10 R H λD t H=>?_;obtain⟨W,e3,A⟩:=A.pu (.cells none 2 Wg);refine HT 3 [(11,.agg (AA x1)),(12,.bool x2)] 5 (.ptr (some (K.size,0))) e3 H λD t H=>?_;obtain⟨V,X,A⟩:=A.s0 0 (AA x1) [_,_,_,_,_,_,_,_,_,_];refine Cu X H λD t H=>?_;refine B4 1 [(6,.bool x2)] 7 H λD H=>AI 3 [(15,.bool (!x2))] H λD H=>?_;obtain⟨x3,O,M⟩:=AG M;refine BP 4 (λN Q=>Has N 85 [(2,.ptr (some (h.size,0))),(3,.ptr (some (h1.size,0))),(19,.bool x3)]/\HH g Q [.obj K.size (.cells none 2 (AA x1)),.obj h1.size (.cells none 2 [Ai p1]),.obj h.size (.cells none 2 (AA p0))] F) ?_ ?_
 ·rcases BS O with⟨C,M⟩|⟨C,M⟩
  ·replace H:=H.kn 15 C;refine AI 4 [(19,.bool true)] H λD H=>?_;obtain rfl:=Ag M;exact Aj ⟨H.ls,A⟩
  replace H:=H.kn 15 C;refine Aw 16 _ _ H (λD=>.of (B0 (by kernel_rfl) (A.G7 0 rfl (o:=0) (n:=10) ⟨zb rfl,rfl⟩))) λD t H=>?_;refine Aw 17 _ _ H (λD=>.of (B0 (by kernel_rfl) (A.G7 2 rfl (o:=0) (n:=10) ⟨zb rfl,rfl⟩))) λD t H=>?_;obtain⟨x4,X,M⟩:=AG M;refine Aw 18 (.bool (!x4)) V H (λD=>.of (a8 (by kernel_rfl) X)) λD t H=>?_;refine AI 1 [(19,.bool (!x4))] H λD H=>?_;obtain rfl:=Ag M;exact Aj ⟨H.ls,A⟩
 clear A;intro t D Z G;obtain⟨H,A⟩:=G;refine BK id (AU 19 H M (λC M H=>?_) λC M H=>?_)
 ·refine AD 1 (AK 1 [(4,.bool false)] H λD H=>Ak ?_);obtain rfl:=Ag M;refine⟨.inl rfl,.bool false,rH H,?_⟩;replace A:=A.d0;exact⟨rfl,A⟩
 refine CH 2 id (AK 2 [(7,.func (.func 92) [] [.ptr (some (h1.size,0))])] H λD H=>AQ (AD 2 (Aa 1 [] 22 2 0 A H λD t H=>?_)));refine BK id (Ad (id:=0) (by kernel_rfl) ?_);refine AQ ?_;obtain⟨o1,O,M⟩:=AG M;refine Ap (Q':=λe N Q=>(∃x5,e=.normal/\x5=o1/\Has N 85 [(2,.ptr (some (h.size,0))),(7,.func (.func 92) [] [.ptr (some (h1.size,0))]),(22,Ai p0.Kind),(23,.bool x5)]/\HH g Q [.obj K.size (.cells none 2 (AA x1)),.obj h1.size (.cells none 2 [Ai p1]),.obj h.size (.cells none 2 (AA p0))] F)\/False) ?_ ?_
 ·replace M:=O;clear O;refine AD 2 (AK 2 [(23,.bool (p0.Kind==2))] H λD H=>AU 23 H M (λC M H=>?_) λC M H=>?_)
  ·exact Bv (.inl ⟨_,rfl,Ag M,H.ls,A⟩)
  refine BY 2 (BA 2 [(2,.ptr (some (h.size,0))),(7,.func (.func 92) [] [.ptr (some (h1.size,0))]),(22,Ai p0.Kind),(23,.bool (p0.Kind==3))] H λD H=>Aj ?_);exact .inl ⟨_,rfl,Ag M,H.ls,A⟩
 clear O;clear A;intro e D h7 I;rcases I with⟨x5,rfl,rfl,H,A⟩|J
 ·show AW _ _ _ _ _ _ _;refine AU 23 H M (λC M H=>?_) λC M H=>?_
  ·refine AD 11 (Aa 2 [(26,.func (.func 92) [] [.ptr (some (h1.size,0))])] 28 2 1 A H λD t H=>?_);replace A:=A.k3 1 0 2;obtain⟨x6,X,M⟩:=AG M;obtain⟨v1,h8,R,rfl,E⟩:=HS (av:=[Ai p0.A,.ptr (some (h1.size,0))]) X (A.cut 1);replace A:=A.g11 E;refine Bq 29 R H λD t H=>?_;refine AI 1 [(30,.bool x6)] H λD H=>?_;obtain⟨x7,O,M⟩:=AG M;refine BP 5 (λN Q=>Has N 85 [(35,.bool x7)]/\HH g Q [.obj h1.size (.cells none 2 [Ai p1]),.obj K.size (.cells none 2 (AA x1)),.obj h.size (.cells none 2 (AA p0))] F) ?_ ?_
   ·rcases BS O with⟨C,M⟩|⟨C,M⟩
    ·replace H:=H.kn 30 C;refine Aa 2 [(31,.func (.func 92) [] [.ptr (some (h1.size,0))])] 33 2 2 A H λD t H=>?_;obtain⟨x8,X,M⟩:=AG M;obtain⟨v1,h10,R,rfl,E⟩:=HS (av:=[Ai p0.B,.ptr (some (h1.size,0))]) X (A.cut 1);replace A:=A.g11 E;refine Bq 34 R H λD t H=>?_;refine AI 1 [(35,.bool x8)] H λD H=>?_;obtain rfl:=Ag M;exact Aj ⟨H.ls,A⟩
    replace H:=H.kn 30 C;refine AI 5 [(35,.bool false)] H λD H=>?_;obtain rfl:=Ag M;exact Aj ⟨H.ls,A⟩
   clear A;intro t D h9 G;obtain⟨H,A⟩:=G;refine AK 1 [(4,.bool x7)] H λD H=>Ak ?_;obtain rfl:=Ag M;refine⟨.inl rfl,.bool x7,rH H,?_⟩;replace A:=A.d0;exact⟨rfl,A⟩
  refine AD 2 (AK 2 [(36,.bool (p0.Kind==4))] H λD H=>AU 36 H M (λC M H=>?_) λC M H=>?_)
  ·refine AD 32 (Aa 2 [(38,.func (.func 92) [] [.ptr (some (h1.size,0))])] 40 2 1 A H λD t H=>?_);replace A:=A.k3 1 0 2;obtain⟨x9,X,M⟩:=AG M;obtain⟨v1,U,R,rfl,E⟩:=HS (av:=[Ai p0.A,.ptr (some (h1.size,0))]) X (A.cut 1);replace A:=A.g11 E;refine Bq 41 R H λD t H=>?_;refine AI 1 [(42,.bool x9)] H λD H=>BP 4 (λN Q=>U=Q/\Has N 85 [(2,.ptr (some (h.size,0))),(46,.bool (x9&&(decide (p0.Min>=0))))]) ?_ ?_
   ·cases C:(x9:Bool)with
    |true=>
     replace H:=H.kn 42 C;refine Aa 1 [] 44 2 3 A H λD t H=>?_;exact AI 2 [(46,.bool (decide (p0.Min>=0)))] H λD H=>BH H C
    |false=>
     replace H:=H.kn 42 C;exact AI 4 [(46,.bool false)] H λD H=>BH H C
   intro t D Q G;obtain⟨e,H⟩:=G;subst e;refine AI 1 [(47,.bool (x9&&(decide (p0.Min>=0))))] H λD H=>BP 4 (λN Q=>U=Q/\Has N 85 [(2,.ptr (some (h.size,0))),(51,.bool ((x9&&(decide (p0.Min>=0)))&&(decide (p0.Min<=255))))]) ?_ ?_
   ·cases C:(x9&&(decide (p0.Min>=0)):Bool)with
    |true=>
     replace H:=H.kn 47 C;refine Aa 1 [] 49 2 3 A H λD t H=>?_;exact AI 2 [(51,.bool (decide (p0.Min<=255)))] H λD H=>BH H C
    |false=>
     replace H:=H.kn 47 C;exact AI 4 [(51,.bool false)] H λD H=>BH H C
   intro t D Q G;obtain⟨e,H⟩:=G;subst e;refine AI 1 [(52,.bool ((x9&&(decide (p0.Min>=0)))&&(decide (p0.Min<=255))))] H λD H=>BP 16 (λN Q=>U=Q/\Has N 85 [(68,.bool (((x9&&(decide (p0.Min>=0)))&&(decide (p0.Min<=255)))&&((p0.Max==(-1))||((decide (p0.Max>=p0.Min))&&(decide (p0.Max<=255))))))]) ?_ ?_
   ·cases C:((x9&&(decide (p0.Min>=0)))&&(decide (p0.Min<=255)):Bool)with
    | true=>
     replace H:=H.kn 52 C;refine Aa 1 [] 54 2 4 A H λD t H=>?_;refine AI 2 [(56,.bool (p0.Max==(-1)))] H λD H=>BP 11 (λN Q=>U=Q/\Has N 85 [(52,.bool true),(67,.bool ((p0.Max==(-1))||((decide (p0.Max>=p0.Min))&&(decide (p0.Max<=255)))))]) ?_ ?_
     ·cases C:(p0.Max==(-1):Bool)with
      |true=>
       replace H:=H.kn 56 C;exact AI 11 [(67,.bool true)] H λD H=>BH H C
      | false=>
       replace H:=H.kn 56 C;refine Aa 1 [] 58 2 4 A H λD t H=>?_;refine Aa 1 [] 60 2 3 A H λD t H=>?_;refine AI 2 [(62,.bool (decide (p0.Max>=p0.Min)))] H λD H=>BP 4 (λN Q=>U=Q/\Has N 85 [(52,.bool true),(56,.bool false),(66,.bool ((decide (p0.Max>=p0.Min))&&(decide (p0.Max<=255))))]) ?_ ?_
       ·cases C:(decide (p0.Max>=p0.Min):Bool)with
        |true=>
         replace H:=H.kn 62 C;refine Aa 1 [] 64 2 4 A H λD t H=>?_;exact AI 2 [(66,.bool (decide (p0.Max<=255)))] H λD H=>BH H C
        |false=>
         replace H:=H.kn 62 C;exact AI 4 [(66,.bool false)] H λD H=>BH H C
       intro t D Q G;obtain⟨e,H⟩:=G;subst e;exact AI 1 [(67,.bool ((decide (p0.Max>=p0.Min))&&(decide (p0.Max<=255))))] H λD H=>BH H C
     intro t D Q G;obtain⟨e,H⟩:=G;subst e;exact AI 1 [(68,.bool ((p0.Max==(-1))||((decide (p0.Max>=p0.Min))&&(decide (p0.Max<=255)))))] H λD H=>BH H C
    |false=>
     replace H:=H.kn 52 C;exact AI 16 [(68,.bool false)] H λD H=>BH H C
   intro t D Q G;obtain⟨e,H⟩:=G;subst e;refine AK 1 [(4,.bool (((x9&&(decide (p0.Min>=0)))&&(decide (p0.Min<=255)))&&((p0.Max==(-1))||((decide (p0.Max>=p0.Min))&&(decide (p0.Max<=255))))))] H λD H=>Ak ?_;obtain rfl:=Ag M;refine⟨.inl rfl,.bool (((x9&&(decide (p0.Min>=0)))&&(decide (p0.Min<=255)))&&((p0.Max==(-1))||((decide (p0.Max>=p0.Min))&&(decide (p0.Max<=255))))),rH H,?_⟩;replace A:=A.d0;exact⟨rfl,A⟩
  refine AD 2 (AK 2 [(69,.bool (p0.Kind==5))] H λD H=>AU 69 H M (λC M H=>?_) λC M H=>?_)
  ·refine AD 15 (Aa 2 [(71,.func (.func 92) [] [.ptr (some (h1.size,0))])] 73 2 1 A H λD t H=>?_);replace A:=A.k3 1 0 2;obtain⟨x10,X,M⟩:=AG M;obtain⟨v1,h12,R,rfl,E⟩:=HS (av:=[Ai p0.A,.ptr (some (h1.size,0))]) X (A.cut 1);replace A:=A.g11 E;refine Bq 74 R H λD t H=>?_;refine AI 1 [(75,.bool x10)] H λD H=>BP 4 (λN Q=>h12=Q/\Has N 85 [(2,.ptr (some (h.size,0))),(79,.bool (x10&&(decide (p0.By>=1))))]) ?_ ?_
   ·cases C:(x10:Bool)with
    |true=>
     replace H:=H.kn 75 C;refine Aa 1 [] 77 2 5 A H λD t H=>?_;exact AI 2 [(79,.bool (decide (p0.By>=1)))] H λD H=>BH H C
    |false=>
     replace H:=H.kn 75 C;exact AI 4 [(79,.bool false)] H λD H=>BH H C
   intro t D Q G;obtain⟨e,H⟩:=G;subst e;refine AI 1 [(80,.bool (x10&&(decide (p0.By>=1))))] H λD H=>BP 4 (λN Q=>h12=Q/\Has N 85 [(84,.bool ((x10&&(decide (p0.By>=1)))&&(decide (p0.By<=1024))))]) ?_ ?_
   ·cases C:(x10&&(decide (p0.By>=1)):Bool)with
    |true=>
     replace H:=H.kn 80 C;refine Aa 1 [] 82 2 5 A H λD t H=>?_;exact AI 2 [(84,.bool (decide (p0.By<=1024)))] H λD H=>BH H C
    |false=>
     replace H:=H.kn 80 C;exact AI 4 [(84,.bool false)] H λD H=>BH H C
   intro t D Q G;obtain⟨e,H⟩:=G;subst e;refine AK 1 [(4,.bool ((x10&&(decide (p0.By>=1)))&&(decide (p0.By<=1024))))] H λD H=>Ak ?_;obtain rfl:=Ag M;refine⟨.inl rfl,.bool ((x10&&(decide (p0.By>=1)))&&(decide (p0.By<=1024))),rH H,?_⟩;replace A:=A.d0;exact⟨rfl,A⟩
  refine CH 1 id (AK 1 [(4,.bool true)] H λD H=>Ak ?_);obtain rfl:=Ag M;refine⟨.inl rfl,.bool true,rH H,?_⟩;replace A:=A.d0;exact⟨rfl,A⟩
 exact J.elim
def F8(p0:AL)(p1:AM):Option (Int×Int×AL×(List AM)):=
 Ae (decide ((p0.t_.AN.length:Int)>=1024)) (some ((0:Int),(8:Int),p0,p0.t_.AN)) ((G5 p1 (p0.t_.AN.length:Int)).bind λx1=>Ae (!x1) (some ((0:Int),(1:Int),p0,p0.t_.AN)) (Ds (J5 80 (p0.t_.AN.length+([p1]:List AM).length))<|some (i64.wrap (((p0.t_.AN++([p1]:List AM)).length:Int) - 1),(0:Int),(⟨p0.s_,p0.at_,p0.Al,(⟨(p0.t_.AN++([p1]:List AM)),i64.wrap (((p0.t_.AN++([p1]:List AM)).length:Int) - 1)⟩:AO),p0.BC,p0.BV,p0.BU,p0.BO⟩:AL),(p0.t_.AN++([p1]:List AM)))))
theorem Li{p0 p1 bp0 rp0_3 q0 q1 u0 u1}(M:F8 p0 p1=some (q0,q1,u0,u1))(A:HH g h [.obj bp0 (.cells none 2 (An p0 (AH rp0_3 p0.t_.AN.length))),.AP rp0_3 113 (AP AA p0.t_.AN)] F)(hc:Bf (cfg.still 108) av=[.ptr (some (bp0,3)),.agg (AA p1)]:=by kernel_rfl):∃v Q,Bm cfg g h 108 av v Q/\∃(r'1:Option Nat),v=.tuple [Ai q0,Ai q1]/\HH g Q [.obj bp0 (.cells none 2 (An u0 (AH r'1 u1.length))),.AP r'1 113 (AP AA u1)] F:=by
 refine E5 45 [.tmp 4,.tmp 5] hc ?_;clear hc;unfold F8 at M;refine bg 45 [(0,.ptr (some (bp0,3))),(1,.agg (AA p1))] λD H=>?_;refine AD 3 ?_;obtain⟨h1,e1,A⟩:=A.pu (.cells none 2 (AA p1));refine Bc 3 (.ptr (some (h.size,0))) e1 H λD t H=>?_;refine AK 2 [] H λD H=>AQ (Ad (id:=0) (by kernel_rfl) ?_);refine AD 7 (Aa 3 [] 10 1 3 A H λD t H=>?_);refine AK 3 [(6,.bool (decide ((p0.t_.AN.length:Int)>=1024)))] H λD H=>AU 6 H M (λC M H=>?_) λC M H=>?_
 ·refine AD 2 (AK 2 [(4,Ai 0),(5,Ai 8)] H λD H=>Ak ?_);obtain⟨rfl,rfl,rfl,rfl⟩:=UX M;refine⟨.inl rfl,.tuple [Ai 0,Ai 8],rH H,?_⟩;replace A:=A.k2 1 2;exact⟨rp0_3,rfl,A⟩
 refine AQ (Ek 3 9 ?_);refine Aw 14 _ _ H (λD=>.of (B0 (by kernel_rfl) (A.G7 0 rfl (o:=0) (n:=10) ⟨zb rfl,rfl⟩))) λD t H=>?_;refine Aa 3 [] 18 1 3 A H λD t H=>?_;obtain⟨x1,X,M⟩:=AG M;obtain⟨v1,S,R,rfl,E⟩:=Pq (av:=[.agg (AA p1),Ai (p0.t_.AN.length:Int)]) X (A.cut 0);replace A:HH g S [.obj h.size (.cells none 2 (AA p1)),_,_] F:=A.Fq (n:=0) E;refine As 1 [] 20 R H λD t H=>?_;refine AK 2 [(13,.bool (!x1))] H λD H=>AU 13 H M (λC M H=>?_) λC M H=>?_
 ·refine AD 2 (AK 2 [(4,Ai 0),(5,Ai 1)] H λD H=>Ak ?_);obtain⟨rfl,rfl,rfl,rfl⟩:=UX M;refine⟨.inl rfl,.tuple [Ai 0,Ai 1],rH H,?_⟩;replace A:=A.k2 1 2;exact⟨rp0_3,rfl,A⟩
 refine Bt id (AQ (Ek 5 11 ?_));refine Aa 4 [(22,.ptr (some (bp0,3)))] 26 1 3 A H λD t H=>?_;refine Aw 27 _ _ H (λD=>.of (B0 (by kernel_rfl) (A.G7 0 rfl (o:=0) (n:=10) ⟨zb rfl,rfl⟩))) λD t H=>?_;obtain⟨K,e2,A⟩:=A.pL 113 (AA p1);refine Bc 28 (AH (some S.size) (([p1]:List AM).length)) e2 H λD t H=>?_;obtain⟨C,M⟩:=BN M;obtain⟨r1,W,X,E⟩:=HH.Iv CB (by decide) A 3 (xs:=p0.t_.AN) (ys:=([p1]:List AM)) rfl (Bz A 0 rfl (n:=([p1]:List AM).length) (z:=10) rfl (by decide)) rfl rfl C;replace A:HH g W [.AP (some S.size) 113 ((AA p1)),_,_,.AP r1 113 (AP AA (p0.t_.AN++([p1]:List AM)))] F:=E;replace A:=A.k3 1 2 3;refine Aw 29 _ _ H (λD=>.of (El (s:=Ca rp0_3 p0.t_.AN.length) (by kernel_rfl) X)) λD t H=>?_;obtain⟨V,X,E⟩:=A.st 1 rfl (o:=3) (new:=[AH r1 ((p0.t_.AN++([p1]:List AM)).length)]) (ds:=(An p0 (AH r1 ((p0.t_.AN++([p1]:List AM)).length)))) (zb rfl) rfl rfl;replace A:HH g V [_,.obj bp0 (.cells none 2 [_,_,_,AH r1 ((p0.t_.AN++([p1]:List AM)).length),_,_,_,_,_]),_] F:=E;refine Ct 2 [] X H λD t H=>?_;refine B6 10 id (Aa 4 [(32,.ptr (some (bp0,3)))] 36 1 3 A H λD t H=>?_);obtain⟨Z,X,E⟩:=A.st 1 rfl (o:=4) (new:=[Ai (i64.wrap (((p0.t_.AN++([p1]:List AM)).length:Int) - 1))]) (ds:=(QV p0 (AH r1 ((p0.t_.AN++([p1]:List AM)).length)) (Ai (i64.wrap (((p0.t_.AN++([p1]:List AM)).length:Int) - 1))))) (zb rfl) rfl rfl;replace A:HH g Z [_,.obj bp0 (.cells none 2 [_,_,_,_,Ai (i64.wrap (((p0.t_.AN++([p1]:List AM)).length:Int) - 1)),_,_,_,_]),_] F:=E;refine Ct 4 [] X H λD t H=>?_;refine B6 6 id (Aa 3 [] 44 1 4 A H λD t H=>?_)
 refine AK 2 [(4,Ai (i64.wrap (((p0.t_.AN++([p1]:List AM)).length:Int) - 1))),(5,Ai 0)] H λD H=>Ak ?_;obtain⟨rfl,rfl,rfl,rfl⟩:=UX M;refine⟨.inl rfl,.tuple [Ai (i64.wrap (((p0.t_.AN++([p1]:List AM)).length:Int) - 1)),Ai 0],rH H,?_⟩;replace A:=A.k2 1 2;exact⟨r1,rfl,A⟩
def Bx(p0:AL)(p1:AM):Option (Int×AL×(List AM)):=
 Ae p0.BO (some ((0:Int),p0,p0.t_.AN)) ((F8 p0 p1).bind λ(x1,x2,x3,x4)=>(Ae (x2 !=0) (some true) (some x3.BO):Option ((Bool))).bind λx5=>some (x1,(⟨x3.s_,x3.at_,x3.Al,(⟨x4,x3.t_.BI⟩:AO),x3.BC,x3.BV,x3.BU,x5⟩:AL),x4))
theorem Ch{p0 p1 bp0 rp0_3 q0 u0 u1}(M:Bx p0 p1=some (q0,u0,u1))(A:HH g h [.obj bp0 (.cells none 2 (An p0 (AH rp0_3 p0.t_.AN.length))),.AP rp0_3 113 (AP AA p0.t_.AN)] F)(hc:Bf (cfg.still 88) av=[.ptr (some (bp0,0)),.agg (AA p1)]:=by kernel_rfl):∃v Q,Bm cfg g h 88 av v Q/\∃(r'1:Option Nat),v=Ai q0/\HH g Q [.obj bp0 (.cells none 2 (An u0 (AH r'1 u1.length))),.AP r'1 113 (AP AA u1)] F:=by
 refine E5 25 [.tmp 4] hc ?_;clear hc;unfold Bx at M;refine bg 25 [(0,.ptr (some (bp0,0))),(1,.agg (AA p1))] λD H=>?_;refine AD 2 ?_;obtain⟨h1,e1,A⟩:=A.pu (.cells none 2 (AA p1));refine Bc 3 (.ptr (some (h.size,0))) e1 H λD t H=>?_;refine AK 1 [] H λD H=>AQ (AD 4 (Aa 3 [] 10 1 8 A H λD t H=>?_));refine BK id (AU 10 H M (λC M H=>?_) λC M H=>?_)
 ·refine AD 1 (AK 1 [(4,Ai 0)] H λD H=>Ak ?_);obtain⟨rfl,rfl,rfl⟩:=DG M;refine⟨.inl rfl,Ai 0,rH H,?_⟩;replace A:=A.k2 1 2;exact⟨rp0_3,rfl,A⟩
 refine Bt id (AQ (Ek 3 10 ?_));refine BD 3 [(14,.ptr (some (bp0,3)))] 15 _ _ H (λD=>.of (B0 (by kernel_rfl) (A.G7 0 rfl (o:=0) (n:=10) ⟨zb rfl,rfl⟩))) λD t H=>?_;replace A:HH g h1 [_,_,.obj h.size (.cells none 2 (AA p1))] F:=((A.front 2 rfl).front 2 rfl);obtain⟨⟨x1,x2,x3,x4⟩,X,M⟩:=AG M;obtain⟨v1,S,R,r1,rfl,E⟩:=Li (av:=[.ptr (some (bp0,3)),.agg (AA p1)]) X (A.cut 2);replace A:=A.g22 E;refine Bq 16 R H λD t H=>?_;refine AK 5 [(5,Ai x1),(6,Ai x2)] H λD H=>AQ ?_;obtain⟨o1,O,M⟩:=AG M;refine Ap (Q':=λe N Q=>(∃x5,e=.normal/\x5=o1/\Has N 25 [(5,Ai x1)]/\HH g Q [.obj bp0 (.cells none 2 (Q5 x3 (AH r1 x4.length) (.bool x5))),.AP r1 113 (AP AA x4),.obj h.size (.cells none 2 (AA p1))] F)\/False) ?_ ?_
 ·replace M:=O;clear O;refine AD 2 (AK 2 [(20,.bool (x2 !=0))] H λD H=>AU 20 H M (λC M H=>?_) λC M H=>?_)
  ·refine BY 4 ?_;obtain⟨K,X,A⟩:=A.s0 8 [.bool true] [_,_,_,_,_,_,_,_,_];refine Ct 3 [] X H λD t H=>?_;refine Aj ?_;exact .inl ⟨_,rfl,Ag M,H.ls,A⟩
  exact Bv (.inl ⟨_,rfl,Ag M,H.ls,A⟩)
 clear O;clear A;intro e D W I;rcases I with⟨x5,rfl,rfl,H,A⟩|J
 ·show AW _ _ _ _ _ _ _;refine AD 2 (AK 2 [(4,Ai x1)] H λD H=>Ak ?_);obtain⟨rfl,rfl,rfl⟩:=DG M;refine⟨.inl rfl,Ai x1,rH H,?_⟩;replace A:=A.d2;exact⟨r1,rfl,A⟩
 exact J.elim
def Dv(p0:AL)(p1:Int):Option (Int×AL×(List AM)):=
 (CX p1 p1).bind λx1=>(Bx p0 (⟨(1:Int),(0:Int),(0:Int),(0:Int),(0:Int),(0:Int),x1⟩:AM)).bind λ(x2,x3,x4)=>some (x2,(⟨x3.s_,x3.at_,x3.Al,(⟨x4,x3.t_.BI⟩:AO),x3.BC,x3.BV,x3.BU,x3.BO⟩:AL),x4)
theorem Hj{p0 p1 bp0 rp0_3 q0 u0 u1}(M:Dv p0 p1=some (q0,u0,u1))(A:HH g h [.obj bp0 (.cells none 2 (An p0 (AH rp0_3 p0.t_.AN.length))),.AP rp0_3 113 (AP AA p0.t_.AN)] F)(hc:Bf (cfg.still 87) av=[.ptr (some (bp0,0)),Ab p1]:=by kernel_rfl):∃v Q,Bm cfg g h 87 av v Q/\∃(r'1:Option Nat),v=Ai q0/\HH g Q [.obj bp0 (.cells none 2 (An u0 (AH r'1 u1.length))),.AP r'1 113 (AP AA u1)] F:=by
 refine E5 11 [.tmp 4] hc ?_;clear hc;unfold Dv at M;refine bg 11 [(0,.ptr (some (bp0,0))),(1,Ab p1)] λD H=>?_;refine AD 1 (B4 1 [] 7 H λD H=>?_);obtain⟨x1,X,M⟩:=AG M;obtain⟨v1,h1,R,rfl,E⟩:=C4 (av:=[Ab p1,Ab p1]) X (A.cut 0);replace A:=A.FL E;refine As 3 [(5,.ptr (some (bp0,0)))] 8 R H λD t H=>?_;obtain⟨⟨x2,x3,x4⟩,X,M⟩:=AG M;obtain⟨v1,S,R,r1,rfl,E⟩:=Ch (av:=[.ptr (some (bp0,0)),.agg [Ai 1,Ai 0,Ai 0,Ai 0,Ai 0,Ai 0,Au x1.w0,Au x1.w1,Au x1.w2,Au x1.w3]]) X (A.cut 2);replace A:=A.g22 E;refine As 1 [] 10 R H λD t H=>?_;refine AK 1 [(4,Ai x2)] H λD H=>Ak ?_;obtain⟨rfl,rfl,rfl⟩:=DG M;exact⟨.inl rfl,_,rH H,_,rfl,A⟩
def CP(p0:AL)(p1:List UInt8):Option (Bool×AL):=
 (C9 p0 p1).bind λx1=>Ae (!x1) (some (false,p0)) ((Ae (!p0.Al) (some (i64.wrap ((i64.wrap (p0.at_+(p1.length:Int)))+1))) (some (i64.wrap (p0.at_+(p1.length:Int)))):Option ((Int))).bind λx2=>some (true,(⟨p0.s_,x2,p0.Al,p0.t_,p0.BC,p0.BV,p0.BU,p0.BO⟩:AL)))
theorem DK{p0 p1 bp0 rp0_3 q0 u0}(M:CP p0 p1=some (q0,u0))(A:HH g h [.obj bp0 (.cells none 2 (An p0 (AH rp0_3 p0.t_.AN.length))),.AP rp0_3 113 (AP AA p0.t_.AN)] F)(hc:Bf (cfg.still 62) av=[.ptr (some (bp0,0)),.str p1]:=by kernel_rfl):∃v Q,Bm cfg g h 62 av v Q/\v=.bool q0/\HH g Q [.obj bp0 (.cells none 2 (An u0 (AH rp0_3 p0.t_.AN.length))),.AP rp0_3 113 (AP AA p0.t_.AN)] F:=by
 refine E5 30 [.tmp 4] hc ?_;clear hc;unfold CP at M;refine bg 30 [(0,.ptr (some (bp0,0))),(1,.str p1)] λD H=>?_;refine AD 1 (AK 1 [] H λD H=>AQ (AD 4 ?_));obtain⟨x1,X,M⟩:=AG M;obtain⟨v1,h1,R,rfl,E⟩:=F9 (av:=[.ptr (some (bp0,0)),.str p1]) X (A.cut 2);replace A:=A.g22 E;refine As 2 [] 7 R H λD t H=>?_;refine AK 1 [(8,.bool (!x1))] H λD H=>AU 8 H M (λC M H=>?_) λC M H=>?_
 ·refine AD 1 (AK 1 [(4,.bool false)] H λD H=>Ak ?_);obtain⟨rfl,rfl⟩:=C1 M;exact⟨.inl rfl,_,rH H,rfl,A⟩
 refine CH 10 id (Aa 3 [(9,.ptr (some (bp0,0)))] 12 0 1 A H λD t H=>?_);obtain⟨S,X,A⟩:=A.s0 1 [Ai (i64.wrap (p0.at_+(p1.length:Int)))] [_,_,_,_,_,_,_,_,_];refine Ct 5 [] X H λD t H=>?_;refine BK id (AQ ?_);obtain⟨o1,O,M⟩:=AG M;refine Ap (Q':=λe N Q=>(∃x2,e=.normal/\x2=o1/\Has N 30 []/\HH g Q [.obj bp0 (.cells none 2 (He p0 (Ai x2) (AH rp0_3 p0.t_.AN.length))),.AP rp0_3 113 (AP AA p0.t_.AN)] F)\/False) ?_ ?_
 ·replace M:=O;clear O;refine AD 5 (Aa 3 [] 21 0 2 A H λD t H=>?_);refine AK 1 [(22,.bool (!p0.Al))] H λD H=>AU 22 H M (λC M H=>?_) λC M H=>?_
  ·refine BY 8 (Aa 3 [(23,.ptr (some (bp0,0)))] 26 0 1 A H λD t H=>?_);obtain⟨K,X,A⟩:=A.s0 1 [Ai (i64.wrap ((i64.wrap (p0.at_+(p1.length:Int)))+1))] [_,_,_,_,_,_,_,_,_];refine Ct 3 [] X H λD t H=>?_;refine Aj ?_;exact .inl ⟨_,rfl,Ag M,H.ls,A⟩
  exact Bv (.inl ⟨_,rfl,Ag M,H.ls,A⟩)
 clear O;clear A;intro e D W I;rcases I with⟨x2,rfl,rfl,H,A⟩|J
 ·show AW _ _ _ _ _ _ _;refine AD 1 (AK 1 [(4,.bool true)] H λD H=>Ak ?_);obtain⟨rfl,rfl⟩:=C1 M;exact⟨.inl rfl,_,rH H,rfl,A⟩
 exact J.elim
def GX(p0:AL)(s:Int×Int×Int):Option ((Int×Int×Int)⊕((Int×Int×Int))):=
 match s with
 |(x1,x2,x3)=>(Ae (decide (x1<(p0.s_.length:Int))) ((IA p0.s_ x1).bind λx8=>some (decide (x8>=48))) (some false):Option (Bool)).bind λx7=>(Ae x7 ((IA p0.s_ x1).bind λx10=>some (decide (x10<=57))) (some false):Option (Bool)).bind λx9=>Ae (x9&&(decide (x3<4))) ((IA p0.s_ x1).bind λx11=>some (.inl (i64.wrap (x1+1),i64.wrap ((i64.wrap ((10:Int)*x2))+(i64.wrap (u8.wrap (x11 - 48)))),i64.wrap (x3+1)))) (some (.inr (x1,x2,x3)))
def D4(p0:AL):Option (Int×Bool×AL):=
 (loop (GX p0) (p0.at_,(0:Int),(0:Int))).bind λ(x4,x5,x6)=>some (x5,((decide (x6>=1))&&(decide (x6<=3)))&&(decide (x5<=255)),(⟨p0.s_,x4,p0.Al,p0.t_,p0.BC,p0.BV,p0.BU,p0.BO⟩:AL))
theorem Io{p0 bp0 rp0_3 q0 q1 u0}(M:D4 p0=some (q0,q1,u0))(A:HH g h [.obj bp0 (.cells none 2 (An p0 (AH rp0_3 p0.t_.AN.length))),.AP rp0_3 113 (AP AA p0.t_.AN)] F)(hc:Bf (cfg.still 122) av=[.ptr (some (bp0,0))]:=by kernel_rfl):∃v Q,Bm cfg g h 122 av v Q/\v=.tuple [Ai q0,.bool q1]/\HH g Q [.obj bp0 (.cells none 2 (An u0 (AH rp0_3 p0.t_.AN.length))),.AP rp0_3 113 (AP AA p0.t_.AN)] F:=by
 refine E5 78 [.tmp 2,.tmp 3] hc ?_;clear hc;unfold D4 at M;refine bg 78 [(0,.ptr (some (bp0,0)))] λD H=>?_;refine AD 2 (B4 2 [] 2 H λD H=>AK 2 [(4,Ai 0),(5,Ai 0)] H λD H=>AQ (Ad (id:=0) (by kernel_rfl) ?_));obtain⟨o1,O,M⟩:=AG M;refine Ap (Q':=λe N Q=>(∃x4 x5 x6,e=.exit 0/\(x4,x5,x6)=o1/\Has N 78 [(4,Ai x5),(5,Ai x6)]/\HH g Q [.obj bp0 (.cells none 2 (He p0 (Ai x4) (AH rp0_3 p0.t_.AN.length))),.AP rp0_3 113 (AP AA p0.t_.AN)] F)\/False) ?_ ?_
 ·refine Bp (by kernel_rfl) (λ(s:Int×Int×Int) N Q=>∃x1 x2 x3,(x1,x2,x3)=s/\Has N 78 [(0,.ptr (some (bp0,0))),(4,Ai x2),(5,Ai x3)]/\HH g Q [.obj bp0 (.cells none 2 (He p0 (Ai x1) (AH rp0_3 p0.t_.AN.length))),.AP rp0_3 113 (AP AA p0.t_.AN)] F) O ⟨_,_,_,rfl,H.ls,A⟩ ?_;clear O M H A;intro s q D h1 hI M;obtain⟨x1,x2,x3,rfl,H,A⟩:=hI;unfold GX at M;refine AQ (AQ (Ek 2 38 ?_));refine Aa 3 [] 9 0 1 A H λD t H=>?_;refine Aa 3 [] 13 0 0 A H λD t H=>?_;refine AI 3 [(16,.bool (decide (x1<(p0.s_.length:Int))))] H λD H=>?_;obtain⟨x7,O,M⟩:=AG M;refine BP 11 (λN Q=>Has N 78 [(0,.ptr (some (bp0,0))),(4,Ai x2),(5,Ai x3),(27,.bool x7)]/\HH g Q [.obj bp0 (.cells none 2 (He p0 (Ai x1) (AH rp0_3 p0.t_.AN.length))),.AP rp0_3 113 (AP AA p0.t_.AN)] F) ?_ ?_
  ·rcases BS O with⟨C,M⟩|⟨C,M⟩
   ·replace H:=H.kn 16 C;refine Aa 3 [] 20 0 0 A H λD t H=>?_;refine Aa 3 [] 24 0 1 A H λD t H=>?_;obtain⟨x8,X,M⟩:=AG M;refine Aw 25 (Ab x8) h1 H (λD=>.of (DN (by kernel_rfl) X)) λD t H=>?_;refine AI 2 [(27,.bool (decide (x8>=48)))] H λD H=>?_;obtain rfl:=Ag M;exact Aj ⟨H.ls,A⟩
   replace H:=H.kn 16 C;refine AI 11 [(27,.bool false)] H λD H=>?_;obtain rfl:=Ag M;exact Aj ⟨H.ls,A⟩
  clear A;intro t D S G;obtain⟨H,A⟩:=G;refine AI 1 [(28,.bool x7)] H λD H=>?_;obtain⟨x9,O,M⟩:=AG M;refine BP 11 (λN Q=>Has N 78 [(0,.ptr (some (bp0,0))),(4,Ai x2),(5,Ai x3),(39,.bool x9)]/\HH g Q [.obj bp0 (.cells none 2 (He p0 (Ai x1) (AH rp0_3 p0.t_.AN.length))),.AP rp0_3 113 (AP AA p0.t_.AN)] F) ?_ ?_
  ·rcases BS O with⟨C,M⟩|⟨C,M⟩
   ·replace H:=H.kn 28 C;refine Aa 3 [] 32 0 0 A H λD t H=>?_;refine Aa 3 [] 36 0 1 A H λD t H=>?_;obtain⟨x10,X,M⟩:=AG M;refine Aw 37 (Ab x10) S H (λD=>.of (DN (by kernel_rfl) X)) λD t H=>?_;refine AI 2 [(39,.bool (decide (x10<=57)))] H λD H=>?_;obtain rfl:=Ag M;exact Aj ⟨H.ls,A⟩
   replace H:=H.kn 28 C;refine AI 11 [(39,.bool false)] H λD H=>?_;obtain rfl:=Ag M;exact Aj ⟨H.ls,A⟩
  clear A;intro t D K G;obtain⟨H,A⟩:=G;refine AI 1 [(40,.bool x9)] H λD H=>BP 3 (λN Q=>K=Q/\Has N 78 [(0,.ptr (some (bp0,0))),(4,Ai x2),(5,Ai x3),(43,.bool (x9&&(decide (x3<4))))]) ?_ ?_
  ·cases C:(x9:Bool)with
   |true=>
    replace H:=H.kn 40 C;exact AI 3 [(43,.bool (decide (x3<4)))] H λD H=>BH H C
   |false=>
    replace H:=H.kn 40 C;exact AI 3 [(43,.bool false)] H λD H=>BH H C
  intro t D Q G;obtain⟨e,H⟩:=G;subst e;refine BK id (AU 43 H M (λC M H=>?_) λC M H=>?_)
  ·refine Bt id (Ad (id:=1) (by kernel_rfl) ?_);refine AQ (Ek 3 15 ?_);refine Aa 5 [(45,Ai (i64.wrap ((10:Int)*x2)))] 49 0 0 A H λD t H=>?_;refine Aa 3 [] 53 0 1 A H λD t H=>?_;obtain⟨x11,X,M⟩:=AG M;refine Aw 54 (Ab x11) K H (λD=>.of (DN (by kernel_rfl) X)) λD t H=>?_;refine BA 4 [(0,.ptr (some (bp0,0))),(4,Ai (i64.wrap ((i64.wrap ((10:Int)*x2))+(i64.wrap (u8.wrap (x11 - 48)))))),(5,Ai x3)] H λD H=>B6 8 id (Aa 3 [(58,.ptr (some (bp0,0)))] 61 0 1 A H λD t H=>?_);obtain⟨W,X,A⟩:=A.s0 1 [Ai (i64.wrap (x1+1))] [_,_,_,_,_,_,_,_,_];refine Ct 3 [] X H λD t H=>?_;refine Fu 3 id (BA 3 [(0,.ptr (some (bp0,0))),(4,Ai (i64.wrap ((i64.wrap ((10:Int)*x2))+(i64.wrap (u8.wrap (x11 - 48)))))),(5,Ai (i64.wrap (x3+1)))] H λD H=>Aj ?_);exact nx M ⟨_,_,_,rfl,H.ls,A⟩
  refine BM (i:=0) (by kernel_rfl) ?_;exact nr M λe=>.inl ⟨_,_,_,rfl,e,H.ls,A⟩
 clear O;clear A;intro e D V I;rcases I with⟨x4,x5,x6,rfl,rfl,H,A⟩|J
 ·show AW _ _ _ _ _ _ _;refine AD 13 (AI 4 [(67,Ai x5),(70,.bool (decide (x6>=1)))] H λD H=>BP 3 (λN Q=>V=Q/\Has N 78 [(4,Ai x5),(67,Ai x5),(73,.bool ((decide (x6>=1))&&(decide (x6<=3))))]) ?_ ?_)
  ·cases C:(decide (x6>=1):Bool)with
   |true=>
    replace H:=H.kn 70 C;exact AI 3 [(73,.bool (decide (x6<=3)))] H λD H=>BH H C
   |false=>
    replace H:=H.kn 70 C;exact AI 3 [(73,.bool false)] H λD H=>BH H C
  intro t D Q G;obtain⟨e,H⟩:=G;subst e;refine AI 1 [(74,.bool ((decide (x6>=1))&&(decide (x6<=3))))] H λD H=>BP 3 (λN Q=>V=Q/\Has N 78 [(67,Ai x5),(77,.bool (((decide (x6>=1))&&(decide (x6<=3)))&&(decide (x5<=255))))]) ?_ ?_
  ·cases C:((decide (x6>=1))&&(decide (x6<=3)):Bool)with
   |true=>
    replace H:=H.kn 74 C;exact AI 3 [(77,.bool (decide (x5<=255)))] H λD H=>BH H C
   |false=>
    replace H:=H.kn 74 C;exact AI 3 [(77,.bool false)] H λD H=>BH H C
  intro t D Q G;obtain⟨e,H⟩:=G;subst e;refine AK 2 [(2,Ai x5),(3,.bool (((decide (x6>=1))&&(decide (x6<=3)))&&(decide (x5<=255))))] H λD H=>Ak ?_;obtain⟨rfl,rfl,rfl⟩:=DG M;exact⟨.inl rfl,_,rH H,rfl,A⟩
 exact J.elim
def Er(p0:AL):Option (Int×Int×Bool×AL):=
 (D4 p0).bind λ(x1,x2,x3)=>Ae (!x2) (some ((0:Int),(0:Int),false,(⟨x3.s_,x3.at_,x3.Al,(⟨p0.t_.AN,x3.t_.BI⟩:AO),x3.BC,x3.BV,x3.BU,x3.BO⟩:AL))) (((I0 x3.s_ (some x3.at_) none).bind λx25=>(CK x25 ([44]:UV)).bind λx26=>Ae x26 ((C9 (⟨x3.s_,i64.wrap (x3.at_+1),x3.Al,(⟨p0.t_.AN,x3.t_.BI⟩:AO),x3.BC,x3.BV,x3.BU,x3.BO⟩:AL) ([125]:UV)).bind λx27=>Ae (!x27) ((D4 (⟨x3.s_,i64.wrap (x3.at_+1),x3.Al,(⟨p0.t_.AN,x3.t_.BI⟩:AO),x3.BC,x3.BV,x3.BU,x3.BO⟩:AL)).bind λ(x28,x29,x30)=>Ae ((!x29)||(decide (x28<x1))) (some (.inr (x30.s_,x30.at_,x30.Al,x30.t_.BI,x30.BC,x30.BV,x30.BU,x30.BO,(0:Int),(0:Int),false))) (some (.inl (x30.s_,x30.at_,x30.Al,x30.t_.BI,x30.BC,x30.BV,x30.BU,x30.BO,x1,x28)))) (some (.inl (x3.s_,i64.wrap (x3.at_+1),x3.Al,x3.t_.BI,x3.BC,x3.BV,x3.BU,x3.BO,x1,(-1:Int))))) (some (.inl (x3.s_,x3.at_,x3.Al,x3.t_.BI,x3.BC,x3.BV,x3.BU,x3.BO,x1,x1))):Option (((List UInt8)×Int×Bool×Int×Int×Int×Int×Bool×Int×Int)⊕((List UInt8)×Int×Bool×Int×Int×Int×Int×Bool×Int×Int×Bool))).bind λo1=>(match o1 with| .inl (x4,x5,x6,x7,x8,x9,x10,x11,x12,x13)=>(CP (⟨x4,x5,x6,(⟨p0.t_.AN,x7⟩:AO),x8,x9,x10,x11⟩:AL) ([125]:UV)).bind λ(x31,x32)=>some (x12,x13,x31,(⟨x32.s_,x32.at_,x32.Al,(⟨p0.t_.AN,x32.t_.BI⟩:AO),x32.BC,x32.BV,x32.BU,x32.BO⟩:AL))| .inr (x14,x15,x16,x17,x18,x19,x20,x21,x22,x23,x24)=>some (x22,x23,x24,(⟨x14,x15,x16,(⟨p0.t_.AN,x17⟩:AO),x18,x19,x20,x21⟩:AL))))
theorem Lh{p0 bp0 rp0_3 q0 q1 q2 u0}(M:Er p0=some (q0,q1,q2,u0))(A:HH g h [.obj bp0 (.cells none 2 (An p0 (AH rp0_3 p0.t_.AN.length))),.AP rp0_3 113 (AP AA p0.t_.AN)] F)(hc:Bf (cfg.still 106) av=[.ptr (some (bp0,0))]:=by kernel_rfl):∃v Q,Bm cfg g h 106 av v Q/\v=.tuple [Ai q0,Ai q1,.bool q2]/\HH g Q [.obj bp0 (.cells none 2 (An u0 (AH rp0_3 p0.t_.AN.length))),.AP rp0_3 113 (AP AA p0.t_.AN)] F:=by
 refine E5 49 [.tmp 2,.tmp 3,.tmp 4] hc ?_;clear hc;unfold Er at M;refine bg 49 [(0,.ptr (some (bp0,0)))] λD H=>?_;refine AD 3 (AK 3 [] H λD H=>AQ (AD 7 ?_));obtain⟨⟨x1,x2,x3⟩,X,M⟩:=AG M;obtain⟨v1,h1,R,rfl,E⟩:=Io (av:=[.ptr (some (bp0,0))]) X (A.cut 2);replace A:=A.g22 E;refine As 1 [] 7 R H λD t H=>?_;refine B4 5 [(2,Ai x1),(4,.bool x2)] 2 H λD H=>AK 2 [(11,.bool (!x2))] H λD H=>AU 11 H M (λC M H=>?_) λC M H=>?_
 ·refine AD 3 (BA 3 [(2,Ai 0),(3,Ai 0),(4,.bool false)] H λD H=>BK id (Ak ?_));obtain⟨rfl,rfl,rfl,rfl⟩:=UX M;exact⟨.inl rfl,_,rH H,rfl,A⟩
 refine CH 2 id (AK 2 [(3,Ai x1)] H λD H=>AQ ?_);obtain⟨o1,O,M⟩:=AG M;refine Ap (Q':=λe N Q=>(∃x4 x5 x6 x7 x8 x9 x10 x11 x12 x13,e=.normal/\.inl (x4,x5,x6,x7,x8,x9,x10,x11,x12,x13)=o1/\Has N 49 [(0,.ptr (some (bp0,0))),(2,Ai x12),(3,Ai x13)]/\HH g Q [.obj bp0 (.cells none 2 [.str x4,Ai x5,.bool x6,AH rp0_3 p0.t_.AN.length,Ai x7,Ai x8,Ai x9,Ai x10,.bool x11]),.AP rp0_3 113 (AP AA p0.t_.AN)] F)\/(∃x14 x15 x16 x17 x18 x19 x20 x21 x22 x23 x24,e=.ret/\.inr (x14,x15,x16,x17,x18,x19,x20,x21,x22,x23,x24)=o1/\Has N 49 [(2,Ai x22),(3,Ai x23),(4,.bool x24)]/\HH g Q [.obj bp0 (.cells none 2 [.str x14,Ai x15,.bool x16,AH rp0_3 p0.t_.AN.length,Ai x17,Ai x18,Ai x19,Ai x20,.bool x21]),.AP rp0_3 113 (AP AA p0.t_.AN)] F)\/False) ?_ ?_
 ·replace M:=O;clear O;refine AQ (Ek 5 10 ?_);refine Aa 3 [] 16 0 0 A H λD t H=>?_;refine Aa 3 [] 20 0 1 A H λD t H=>?_;obtain⟨x25,X,M⟩:=AG M;refine Aw 21 (.str x25) h1 H (λD=>.of (Gu (k:=.i64) (k':=.i64) (lo:=(some x3.at_)) (hi:=none) (by kernel_rfl) X)) λD t H=>?_;obtain⟨x26,X,M⟩:=AG M;obtain⟨v1,S,R,rfl,E⟩:=DC (av:=[.str x25,.str ([44]:UV)]) X (A.cut 0);replace A:=A.FL E;refine Bq 22 R H λD t H=>?_;refine BK id (AU 22 H M (λC M H=>?_) λC M H=>?_)
  ·refine AD 8 (Aa 3 [(23,.ptr (some (bp0,0)))] 26 0 1 A H λD t H=>?_);obtain⟨K,X,A⟩:=A.s0 1 [Ai (i64.wrap (x3.at_+1))] [_,_,_,_,_,_,_,_,_];refine Ct 3 [] X H λD t H=>?_;refine B6 1 id (BA 1 [(0,.ptr (some (bp0,0))),(2,Ai x1),(3,Ai (-1))] H λD H=>B6 3 id ?_);obtain⟨x27,X,M⟩:=AG M;obtain⟨v1,W,R,rfl,E⟩:=F9 (av:=[.ptr (some (bp0,0)),.str ([125]:UV)]) X (A.cut 2);replace A:=A.g22 E;refine As 1 [] 31 R H λD t H=>?_;refine AK 1 [(32,.bool (!x27))] H λD H=>AU 32 H M (λC M H=>?_) λC M H=>?_
   ·refine AD 7 ?_;obtain⟨⟨x28,x29,x30⟩,X,M⟩:=AG M;obtain⟨v1,V,R,rfl,E⟩:=Io (av:=[.ptr (some (bp0,0))]) X (A.cut 2);replace A:=A.g22 E;refine As 1 [] 35 R H λD t H=>?_;refine BA 5 [(0,.ptr (some (bp0,0))),(2,Ai x1),(3,Ai x28),(4,.bool x29)] H λD H=>B6 7 id (AI 3 [(40,.bool (!x29))] H λD H=>BP 4 (λN Q=>V=Q/\Has N 49 [(0,.ptr (some (bp0,0))),(2,Ai x1),(3,Ai x28),(44,.bool ((!x29)||(decide (x28<x1))))]) ?_ ?_)
    ·cases C:(!x29:Bool)with
     |true=>
      replace H:=H.kn 40 C;exact AI 4 [(44,.bool true)] H λD H=>BH H C
     |false=>
      replace H:=H.kn 40 C;exact AI 4 [(44,.bool (decide (x28<x1)))] H λD H=>BH H C
    intro t D Q G;obtain⟨e,H⟩:=G;subst e;refine BK id (AU 44 H M (λC M H=>?_) λC M H=>?_)
    ·refine AD 3 (BA 3 [(2,Ai 0),(3,Ai 0),(4,.bool false)] H λD H=>BK id (Ak ?_));exact .inr (.inl ⟨_,_,_,_,_,_,_,_,_,_,_,rfl,Ag M,H.ls,A⟩)
    exact Bv (.inl ⟨_,_,_,_,_,_,_,_,_,_,rfl,Ag M,H.ls,A⟩)
   exact Bv (.inl ⟨_,_,_,_,_,_,_,_,_,_,rfl,Ag M,H.ls,A⟩)
  exact Bv (.inl ⟨_,_,_,_,_,_,_,_,_,_,rfl,Ag M,H.ls,A⟩)
 clear O;clear A;intro e D Z I;rcases I with⟨x4,x5,x6,x7,x8,x9,x10,x11,x12,x13,rfl,rfl,H,A⟩|⟨x14,x15,x16,x17,x18,x19,x20,x21,x22,x23,x24,rfl,rfl,H,A⟩|J
 ·show AW _ _ _ _ _ _ _;refine AD 7 ?_;obtain⟨⟨x31,x32⟩,X,M⟩:=AG M;obtain⟨v1,h7,R,rfl,E⟩:=DK (av:=[.ptr (some (bp0,0)),.str ([125]:UV)]) X (A.cut 2);replace A:=A.g22 E;refine As 3 [(45,Ai x12),(46,Ai x13)] 48 R H λD t H=>?_;refine BA 3 [(2,Ai x12),(3,Ai x13),(4,.bool x31)] H λD H=>BK id (Ak ?_);obtain⟨rfl,rfl,rfl,rfl⟩:=UX M;exact⟨.inl rfl,_,rH H,rfl,A⟩
 ·obtain⟨rfl,rfl,rfl,rfl⟩:=UX M;exact⟨.inl rfl,_,rH H,rfl,A⟩
 exact J.elim
def Ci(p0:AL)(p1:Int):Option (AL):=
 Ae (decide (p0.BU<0)) (some (⟨p0.s_,p0.at_,p0.Al,p0.t_,p0.BC,p0.BV,p1,p0.BO⟩:AL)) (some p0)
theorem D3{p0 p1 bp0 rp0_3 u0}(M:Ci p0 p1=some u0)(A:HH g h [.obj bp0 (.cells none 2 (An p0 (AH rp0_3 p0.t_.AN.length))),.AP rp0_3 113 (AP AA p0.t_.AN)] F)(hc:Bf (cfg.still 39) av=[.ptr (some (bp0,0)),Ai p1]:=by kernel_rfl):∃v Q,Bm cfg g h 39 av v Q/\v=.tuple []/\HH g Q [.obj bp0 (.cells none 2 (An u0 (AH rp0_3 p0.t_.AN.length))),.AP rp0_3 113 (AP AA p0.t_.AN)] F:=by
 refine E5 13 [] hc ?_;clear hc;unfold Ci at M;refine bg 13 [(0,.ptr (some (bp0,0))),(1,Ai p1)] λD H=>?_;refine AD 5 (Aa 3 [] 7 0 7 A H λD t H=>?_);refine AK 1 [(8,.bool (decide (p0.BU<0)))] H λD H=>AU 8 H M (λC M H=>?_) λC M H=>?_
 ·refine BY 5 ?_;obtain⟨h1,X,A⟩:=A.s0 7 [Ai p1] [_,_,_,_,_,_,_,_,_];refine Ct 4 [] X H λD t H=>?_;refine Aj ?_;obtain rfl:=Ag M;refine⟨.inr rfl,.tuple [],rH H,?_⟩;exact⟨rfl,A⟩
 refine Bv ?_;obtain rfl:=Ag M;refine⟨.inr rfl,.tuple [],rH H,?_⟩;exact⟨rfl,A⟩
def Cb(p0:BT)(p1:List UInt8):Option (Bool×BT):=
 (I0 p0.s_ (some p0.at_) none).bind λx1=>(CK x1 p1).bind λx2=>Ae (!x2) (some (false,p0)) (some (true,(⟨p0.s_,i64.wrap (p0.at_+(p1.length:Int)),p0.IS,p0.Cq⟩:BT)))
theorem EJ{p0 p1 bp0 q0 u0}(M:Cb p0 p1=some (q0,u0))(A:HH g h [.obj bp0 (.cells none 2 (Cp p0))] F)(hc:Bf (cfg.still 124) av=[.ptr (some (bp0,0)),.str p1]:=by kernel_rfl):∃v Q,Bm cfg g h 124 av v Q/\v=.bool q0/\HH g Q [.obj bp0 (.cells none 2 (Cp u0))] F:=by
 refine E5 26 [.tmp 4] hc ?_;clear hc;unfold Cb at M;refine bg 26 [(0,.ptr (some (bp0,0))),(1,.str p1)] λD H=>?_;refine AD 1 (AK 1 [] H λD H=>AQ (AQ (Ek 1 12 ?_)));refine Aa 3 [] 8 0 0 A H λD t H=>?_;refine Aa 3 [] 12 0 1 A H λD t H=>?_;obtain⟨x1,X,M⟩:=AG M;refine Aw 13 (.str x1) h H (λD=>.of (Gu (k:=.i64) (k':=.i64) (lo:=(some p0.at_)) (hi:=none) (by kernel_rfl) X)) λD t H=>?_;obtain⟨x2,X,M⟩:=AG M;obtain⟨v1,h1,R,rfl,E⟩:=DC (av:=[.str x1,.str p1]) X (A.cut 0);replace A:=A.FL E;refine As 1 [] 15 R H λD t H=>?_;refine AK 1 [(16,.bool (!x2))] H λD H=>AU 16 H M (λC M H=>?_) λC M H=>?_
 ·refine AD 1 (AK 1 [(4,.bool false)] H λD H=>Ak ?_);obtain⟨rfl,rfl⟩:=C1 M;exact⟨.inl rfl,_,rH H,rfl,A⟩
 refine CH 10 id (Aa 3 [(17,.ptr (some (bp0,0)))] 20 0 1 A H λD t H=>?_);obtain⟨S,X,A⟩:=A.s0 1 [Ai (i64.wrap (p0.at_+(p1.length:Int)))] [_,_,_,_,_,_,_];refine Ct 5 [] X H λD t H=>?_;refine B6 1 id (AK 1 [(4,.bool true)] H λD H=>Ak ?_);obtain⟨rfl,rfl⟩:=C1 M;exact⟨.inl rfl,_,rH H,rfl,A⟩
def Di(p0:BE)(p1:Int):Option (Bool):=
 (FT ([p0.w0,p0.w1,p0.w2,p0.w3]:List Int) (HW .u8 p1 (6:Int))).bind λx1=>Ds (decide (0<=(Ey .u8 p1 (63:Int))))<|some ((Ey .u64 (HW .u64 x1 (Ey .u8 p1 (63:Int))) (1:Int))==1)
theorem Hq{p0 p1 q0}(M:Di p0 p1=some q0)(A:HH g h [] F)(hc:Bf (cfg.still 74) av=[.agg (AR p0),Ab p1]:=by kernel_rfl):∃v Q,Bm cfg g h 74 av v Q/\v=.bool q0/\HH g Q [] F:=by
 refine E5 14 [.tmp 4] hc ?_;clear hc;unfold Di at M;refine bg 14 [(0,.agg (AR p0)),(1,Ab p1)] λD H=>?_;refine AD 2 ?_;obtain⟨h1,e1,A⟩:=A.pu (.cells none 2 (AR p0));refine Bc 2 (.ptr (some (h.size,0))) e1 H λD t H=>?_;refine B4 1 [] 10 H λD H=>?_;obtain⟨x1,T,M⟩:=AG M;refine BD 2 [] 7 (.ptr (some (h.size,0+(HW .u8 p1 (6:Int)).toNat*1))) h1 H (λD=>.of (L5 (by kernel_rfl) (KO T (h.size,0) 1 rfl))) λD t H=>?_;refine Aw 8 _ _ H (λD=>.of (Dj (by kernel_rfl) (HH.Zj A 0 rfl 0 (λw:Int=>Au w) [p0.w0,p0.w1,p0.w2,p0.w3] rfl T))) λD t H=>?_;refine AI 2 [(10,Ab (Ey .u8 p1 (63:Int)))] H λD H=>?_;obtain⟨C,M⟩:=BN M;refine Aw 11 (Au (HW .u64 x1 (Ey .u8 p1 (63:Int)))) h1 H (λD=>.of (aj (by kernel_rfl) C)) λD t H=>?_;refine AK 3 [(4,.bool ((Ey .u64 (HW .u64 x1 (Ey .u8 p1 (63:Int))) (1:Int))==1))] H λD H=>Ak ?_;obtain rfl:=Ag M;refine⟨.inl rfl,.bool ((Ey .u64 (HW .u64 x1 (Ey .u8 p1 (63:Int))) (1:Int))==1),rH H,?_⟩;replace A:=A.d0;exact⟨rfl,A⟩
end
end Go.Av.L
