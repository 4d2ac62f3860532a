/-
 A part.
-/
import Derived.Test.YtfgmnhjedmkpeaaKCfg
set_option linter.unusedSimpArgs false
namespace Go.Av.L
open IntKind (i64 u8)
open Go.Av Go.Lib
set_option maxRecDepth 10000
set_option linter.unusedVariables false
set_option linter.unusedSimpArgs false
variable {g:Gd} {h:AE} {F:List Ck} {av:List AD}
noncomputable section
def C1(p0:AL):Option (Bool):=
 some (decide (p0.BG<0))
theorem Dj{p0 bp0 rp0_3 q0}(M:C1 p0=some q0)(A:HH g h [.obj bp0 (.cells none 2 (Ae p0 (AR rp0_3 p0.t_.AK.length))),.Af rp0_3 68 (Af AB p0.t_.AK)] F)(hc:CB (cfg.still 22) av=[.ptr (some (bp0,0))]:=by kernel_rfl):∃v Q,Bw cfg g h 22 av v Q/\v=.bool q0/\HH g Q [.obj bp0 (.cells none 2 (Ae p0 (AR rp0_3 p0.t_.AK.length))),.Af rp0_3 68 (Af AB p0.t_.AK)] F:=by
 refine Hs 8 [.tmp 2] hc ?_;clear hc;unfold C1 at M;refine bg 8 [(0,.ptr (some (bp0,0)))] λD H=>?_;refine AM 1 (Eo 1 [] 6 H λD H=>AV 3 [] 6 0 7 A H λD t H=>?_);refine AZ 2 [(2,.bool (decide (p0.BG<0)))] H λD H=>Ax ?_;obtain rfl:=Aw M;exact⟨.inl rfl,_,rH H,rfl,A⟩
def Es(p0:List UInt8)(p1:List UInt8):Option (Bool):=
 (Aj (decide ((p0.length:Int)>=(p1.length:Int))) ((Kx p0 none (some (p1.length:Int))).bind λx2=>some (x2==p1)) (some false):Option (Bool)).bind λx1=>some x1
theorem Kd{p0 p1 q0}(M:Es p0 p1=some q0)(A:HH g h [] F)(hc:CB (cfg.still 80) av=[.str p0,.str p1]:=by kernel_rfl):∃v Q,Bw cfg g h 80 av v Q/\v=.bool q0/\HH g Q [] F:=by
 refine Hs 18 [.tmp 4] hc ?_;clear hc;unfold Es at M;refine bg 18 [(0,.str p0),(1,.str p1)] λD H=>?_;refine AM 1 (Eo 1 [] 14 H λD H=>AO 6 [(10,.bool (decide ((p0.length:Int)>=(p1.length:Int))))] H λD H=>?_);obtain⟨x1,O,M⟩:=AI M;refine Ba 7 (λN Q=>Has N 18 [(17,.bool x1)]/\HH g Q [] F) ?_ ?_
 ·rcases Ay O with⟨C,M⟩|⟨C,M⟩
  ·replace H:=H.kn 10 C;obtain⟨x2,X,M⟩:=AI M;refine Bk 3 [] 14 (.str x2) h H (λD=>.of (J8 (k:=.i64) (k':=.i64) (lo:=none) (hi:=(some (p1.length:Int))) (by kernel_rfl) X)) λD t H=>?_;refine AO 3 [(17,.bool (x2==p1))] H λD H=>?_;obtain rfl:=Aw M;exact AY ⟨H.ls,A⟩
  replace H:=H.kn 10 C;refine AO 7 [(17,.bool false)] H λD H=>?_;obtain rfl:=Aw M;exact AY ⟨H.ls,A⟩
 clear A;intro t D h1 G;obtain⟨H,A⟩:=G;refine AZ 1 [(4,.bool x1)] H λD H=>Ax ?_;obtain rfl:=Aw M;exact⟨.inl rfl,_,rH H,rfl,A⟩
def B7(p0:List UInt8)(p1:List UInt8):Option (Bool):=
 (Es p0 p1).bind λx1=>some x1
theorem Co{p0 p1 q0}(M:B7 p0 p1=some q0)(A:HH g h [] F)(hc:CB (cfg.still 70) av=[.str p0,.str p1]:=by kernel_rfl):∃v Q,Bw cfg g h 70 av v Q/\v=.bool q0/\HH g Q [] F:=by
 refine Hs 8 [.tmp 4] hc ?_;clear hc;unfold B7 at M;refine bg 8 [(0,.str p0),(1,.str p1)] λD H=>?_;refine AM 1 (Eo 1 [] 4 H λD H=>?_);obtain⟨x1,X,M⟩:=AI M;obtain⟨v1,h1,R,rfl,E⟩:=Kd (av:=[.str p0,.str p1]) X (A.cut 0);replace A:=A.II E;refine BK 2 [] 7 R H λD t H=>?_;refine AZ 1 [(4,.bool x1)] H λD H=>Ax ?_;obtain rfl:=Aw M;exact⟨.inl rfl,_,rH H,rfl,A⟩
def Cp(p0:AL)(p1:List UInt8):Option (Bool):=
 (Aj (!p0.AX) (F6 (decide (([92]:Ym).length+p1.length<=9223372036854775807))<|some (([92]:Ym)++p1)) (some p1):Option (((List UInt8)))).bind λx1=>(Kx p0.s_ (some p0.at_) none).bind λx2=>(B7 x2 x1).bind λx3=>some x3
theorem Fe{p0 p1 bp0 rp0_3 q0}(M:Cp p0 p1=some q0)(A:HH g h [.obj bp0 (.cells none 2 (Ae p0 (AR rp0_3 p0.t_.AK.length))),.Af rp0_3 68 (Af AB p0.t_.AK)] F)(hc:CB (cfg.still 59) av=[.ptr (some (bp0,0)),.str p1]:=by kernel_rfl):∃v Q,Bw cfg g h 59 av v Q/\v=.bool q0/\HH g Q [.obj bp0 (.cells none 2 (Ae p0 (AR rp0_3 p0.t_.AK.length))),.Af rp0_3 68 (Af AB p0.t_.AK)] F:=by
 refine Hs 23 [.tmp 4] hc ?_;clear hc;unfold Cp at M;refine bg 23 [(0,.ptr (some (bp0,0))),(1,.str p1)] λD H=>?_;refine AM 1 (AZ 1 [] H λD H=>Ag ?_);obtain⟨o1,O,M⟩:=AI M;refine BB (Q':=λe N Q=>(∃x1,e=.normal/\x1=o1/\Has N 23 [(0,.ptr (some (bp0,0))),(1,.str x1)]/\HH g Q [.obj bp0 (.cells none 2 (Ae p0 (AR rp0_3 p0.t_.AK.length))),.Af rp0_3 68 (Af AB p0.t_.AK)] F)\/False) ?_ ?_
 ·replace M:=O;clear O;refine AM 5 (AV 3 [] 8 0 2 A H λD t H=>?_);refine AZ 1 [(9,.bool (!p0.AX))] H λD H=>Al 9 H M (λC M H=>?_) λC M H=>?_
  ·refine Cb 3 (AO 1 [(10,.str p1)] H λD H=>?_);obtain⟨C,M⟩:=B0 M;refine Az 11 (.str (([92]:Ym)++p1)) h H (λD=>.of (Vx (by kernel_rfl) C)) λD t H=>?_;refine B6 1 [(0,.ptr (some (bp0,0))),(1,.str (([92]:Ym)++p1))] H λD H=>AY ?_;exact .inl ⟨_,rfl,Aw M,H.ls,A⟩
  exact DI (.inl ⟨_,rfl,Aw M,H.ls,A⟩)
 clear O;clear A;intro e D h1 I;rcases I with⟨x1,rfl,rfl,H,A⟩|J
 ·show AW _ _ _ _ _ _ _;refine Ag (Fj 3 12 ?_);refine AV 3 [] 15 0 0 A H λD t H=>?_;refine AV 3 [] 19 0 1 A H λD t H=>?_;obtain⟨x2,X,M⟩:=AI M;refine Az 20 (.str x2) h1 H (λD=>.of (J8 (k:=.i64) (k':=.i64) (lo:=(some p0.at_)) (hi:=none) (by kernel_rfl) X)) λD t H=>?_;obtain⟨x3,X,M⟩:=AI M;obtain⟨v1,S,R,rfl,E⟩:=Co (av:=[.str x2,.str x1]) X (A.cut 0);replace A:=A.II E;refine BK 1 [] 22 R H λD t H=>?_;refine AZ 1 [(4,.bool x3)] H λD H=>Ax ?_;obtain rfl:=Aw M;exact⟨.inl rfl,_,rH H,rfl,A⟩
 exact J.elim
def DZ(p0:AL):Option (Bool):=
 (Aj (p0.at_==(p0.s_.length:Int)) (some true) ((Cp p0 ([124]:Ym)).bind λx2=>some x2):Option (Bool)).bind λx1=>(Aj x1 (some true) ((Cp p0 ([41]:Ym)).bind λx4=>some x4):Option (Bool)).bind λx3=>some x3
theorem IM{p0 bp0 rp0_3 q0}(M:DZ p0=some q0)(A:HH g h [.obj bp0 (.cells none 2 (Ae p0 (AR rp0_3 p0.t_.AK.length))),.Af rp0_3 68 (Af AB p0.t_.AK)] F)(hc:CB (cfg.still 54) av=[.ptr (some (bp0,0))]:=by kernel_rfl):∃v Q,Bw cfg g h 54 av v Q/\v=.bool q0/\HH g Q [.obj bp0 (.cells none 2 (Ae p0 (AR rp0_3 p0.t_.AK.length))),.Af rp0_3 68 (Af AB p0.t_.AK)] F:=by
 refine Hs 21 [.tmp 2] hc ?_;clear hc;unfold DZ at M;refine bg 21 [(0,.ptr (some (bp0,0)))] λD H=>?_;refine AM 1 (AZ 1 [] H λD H=>Ag (Fj 1 19 ?_));refine AV 3 [] 6 0 1 A H λD t H=>?_;refine AV 3 [] 10 0 0 A H λD t H=>?_;refine AO 3 [(13,.bool (p0.at_==(p0.s_.length:Int)))] H λD H=>?_;obtain⟨x1,O,M⟩:=AI M;refine Ba 3 (λN Q=>Has N 21 [(0,.ptr (some (bp0,0))),(16,.bool x1)]/\HH g Q [.obj bp0 (.cells none 2 (Ae p0 (AR rp0_3 p0.t_.AK.length))),.Af rp0_3 68 (Af AB p0.t_.AK)] F) ?_ ?_
 ·rcases Ay O with⟨C,M⟩|⟨C,M⟩
  ·replace H:=H.kn 13 C;refine AO 3 [(16,.bool true)] H λD H=>?_;obtain rfl:=Aw M;exact AY ⟨H.ls,A⟩
  replace H:=H.kn 13 C;obtain⟨x2,X,M⟩:=AI M;obtain⟨v1,S,R,rfl,E⟩:=Fe (av:=[.ptr (some (bp0,0)),.str ([124]:Ym)]) X (A.cut 2);replace A:=A.g22 E;refine BK 1 [] 15 R H λD t H=>?_;refine AO 1 [(16,.bool x2)] H λD H=>?_;obtain rfl:=Aw M;exact AY ⟨H.ls,A⟩
 clear A;intro t D h1 G;obtain⟨H,A⟩:=G;refine AO 1 [(17,.bool x1)] H λD H=>?_;obtain⟨x3,O,M⟩:=AI M;refine Ba 3 (λN Q=>Has N 21 [(20,.bool x3)]/\HH g Q [.obj bp0 (.cells none 2 (Ae p0 (AR rp0_3 p0.t_.AK.length))),.Af rp0_3 68 (Af AB p0.t_.AK)] F) ?_ ?_
 ·rcases Ay O with⟨C,M⟩|⟨C,M⟩
  ·replace H:=H.kn 17 C;refine AO 3 [(20,.bool true)] H λD H=>?_;obtain rfl:=Aw M;exact AY ⟨H.ls,A⟩
  replace H:=H.kn 17 C;obtain⟨x4,X,M⟩:=AI M;obtain⟨v1,U,R,rfl,E⟩:=Fe (av:=[.ptr (some (bp0,0)),.str ([41]:Ym)]) X (A.cut 2);replace A:=A.g22 E;refine BK 1 [] 19 R H λD t H=>?_;refine AO 1 [(20,.bool x4)] H λD H=>?_;obtain rfl:=Aw M;exact AY ⟨H.ls,A⟩
 clear A;intro t D K G;obtain⟨H,A⟩:=G;refine AZ 1 [(2,.bool x3)] H λD H=>Ax ?_;obtain rfl:=Aw M;exact⟨.inl rfl,_,rH H,rfl,A⟩
def Fm(p0:Ar)(p1:Int):Option (Ar):=
 (Fy ([p0.w0,p0.w1,p0.w2,p0.w3]:List Int) (H3 .u8 p1 (6:Int))).bind λx1=>F6 (decide (0<=(Fl .u8 p1 (63:Int))))<|(Fy ([p0.w0,p0.w1,p0.w2,p0.w3]:List Int) (H3 .u8 p1 (6:Int))).bind λx2=>some (⟨(bif (H3 .u8 p1 (6:Int))==0 then N8 .u64 x1 (MD .u64 (1:Int) (Fl .u8 p1 (63:Int)))else p0.w0),(bif ((H3 .u8 p1 (6:Int)) - 1)==0 then N8 .u64 x1 (MD .u64 (1:Int) (Fl .u8 p1 (63:Int)))else p0.w1),(bif (((H3 .u8 p1 (6:Int)) - 1) - 1)==0 then N8 .u64 x1 (MD .u64 (1:Int) (Fl .u8 p1 (63:Int)))else p0.w2),(bif ((((H3 .u8 p1 (6:Int)) - 1) - 1) - 1)==0 then N8 .u64 x1 (MD .u64 (1:Int) (Fl .u8 p1 (63:Int)))else p0.w3)⟩:Ar)
theorem Kq{p0 p1 bp0 u0}(M:Fm p0 p1=some u0)(A:HH g h [.obj bp0 (.cells none 2 (AN p0))] F)(hc:CB (cfg.still 82) av=[.ptr (some (bp0,0)),Ab p1]:=by kernel_rfl):∃v Q,Bw cfg g h 82 av v Q/\v=.tuple []/\HH g Q [.obj bp0 (.cells none 2 (AN u0))] F:=by
 refine Hs 16 [] hc ?_;clear hc;unfold Fm at M;refine bg 16 [(0,.ptr (some (bp0,0))),(1,Ab p1)] λD H=>?_;refine Fj 0 13 ?_;obtain⟨x1,Y,M⟩:=AI M;refine Bk 4 [(4,.ptr (some (bp0,0))),(6,Ab (H3 .u8 p1 (6:Int)))] 8 (.ptr (some (bp0,0+(H3 .u8 p1 (6:Int)).toNat*1))) h H (λD=>.of (L7 (by kernel_rfl) (Jy Y (bp0,0) 1 rfl))) λD t H=>?_;refine Az 9 _ _ H (λD=>.of (Cx (by kernel_rfl) (HH.WE A 0 rfl 0 (λw:Int=>Au w) [p0.w0,p0.w1,p0.w2,p0.w3] rfl Y))) λD t H=>?_;refine AO 2 [(11,Ab (Fl .u8 p1 (63:Int)))] H λD H=>?_;obtain⟨C,M⟩:=B0 M;refine Az 12 (Au (MD .u64 (1:Int) (Fl .u8 p1 (63:Int)))) h H (λD=>.of (XX (by kernel_rfl) C)) λD t H=>?_;obtain⟨x2,W,M⟩:=AI M;refine Bk 2 [(13,Au (N8 .u64 x1 (MD .u64 (1:Int) (Fl .u8 p1 (63:Int)))))] 15 (.ptr (some (bp0,0+(H3 .u8 p1 (6:Int)).toNat*1))) h H (λD=>.of (L7 (by kernel_rfl) (Jy W (bp0,0) 1 rfl))) λD t H=>?_;obtain⟨h1,X,E⟩:=HH.X3 A 0 rfl 0 (λw:Int=>Au w) [p0.w0,p0.w1,p0.w2,p0.w3] (N8 .u64 x1 (MD .u64 (1:Int) (Fl .u8 p1 (63:Int)))) (ds:=[Au (bif (H3 .u8 p1 (6:Int))==0 then N8 .u64 x1 (MD .u64 (1:Int) (Fl .u8 p1 (63:Int)))else p0.w0),Au (bif ((H3 .u8 p1 (6:Int)) - 1)==0 then N8 .u64 x1 (MD .u64 (1:Int) (Fl .u8 p1 (63:Int)))else p0.w1),Au (bif (((H3 .u8 p1 (6:Int)) - 1) - 1)==0 then N8 .u64 x1 (MD .u64 (1:Int) (Fl .u8 p1 (63:Int)))else p0.w2),Au (bif ((((H3 .u8 p1 (6:Int)) - 1) - 1) - 1)==0 then N8 .u64 x1 (MD .u64 (1:Int) (Fl .u8 p1 (63:Int)))else p0.w3)]) rfl W rfl rfl;replace A:HH g h1 [.obj bp0 (.cells none 2 [Au (bif (H3 .u8 p1 (6:Int))==0 then N8 .u64 x1 (MD .u64 (1:Int) (Fl .u8 p1 (63:Int)))else p0.w0),Au (bif ((H3 .u8 p1 (6:Int)) - 1)==0 then N8 .u64 x1 (MD .u64 (1:Int) (Fl .u8 p1 (63:Int)))else p0.w1),Au (bif (((H3 .u8 p1 (6:Int)) - 1) - 1)==0 then N8 .u64 x1 (MD .u64 (1:Int) (Fl .u8 p1 (63:Int)))else p0.w2),Au (bif ((((H3 .u8 p1 (6:Int)) - 1) - 1) - 1)==0 then N8 .u64 x1 (MD .u64 (1:Int) (Fl .u8 p1 (63:Int)))else p0.w3)])] F:=E
 refine Ku X H λD t H=>?_;refine AY ?_;obtain rfl:=Aw M;refine⟨.inr rfl,.tuple [],rH H,?_⟩;exact⟨rfl,A⟩
def Iy(p1:Int)(s:Int×Int×Int×Int×Int):Option ((Int×Int×Int×Int×Int)⊕((Int×Int×Int×Int))):=
 match s with
 |(x1,x2,x3,x4,x5)=>Aj (decide (x5<=(i64.wrap p1))) ((Fm (⟨x1,x2,x3,x4⟩:Ar) (u8.wrap x5)).bind λx10=>some (.inl (x10.w0,x10.w1,x10.w2,x10.w3,i64.wrap (x5+1)))) (some (.inr (x1,x2,x3,x4)))
def CJ(p0:Int)(p1:Int):Option (Ar):=
 (loop (Iy p1) ((0:Int),(0:Int),(0:Int),(0:Int),i64.wrap p0)).bind λ(x6,x7,x8,x9)=>some (⟨x6,x7,x8,x9⟩:Ar)
theorem Ci{p0 p1 q0}(M:CJ p0 p1=some q0)(A:HH g h [] F)(hc:CB (cfg.still 72) av=[Ab p0,Ab p1]:=by kernel_rfl):∃v Q,Bw cfg g h 72 av v Q/\v=.agg (AN q0)/\HH g Q [] F:=by
 refine Hs 19 [.cell 4 66] hc ?_;clear hc;unfold CJ at M;refine bg 19 [(0,Ab p0),(1,Ab p1)] λD H=>?_;refine AM 1 ?_;obtain⟨h1,e1,A⟩:=A.pu (.cells none 2 [Au 0,Au 0,Au 0,Au 0]);refine Bq 4 (.ptr (some (h.size,0))) e1 H λD t H=>?_;refine Ce 1 id ?_;obtain⟨S,e2,A⟩:=A.pu (.cells none 2 [Au 0,Au 0,Au 0,Au 0]);refine Bq 5 (.ptr (some (h1.size,0))) e2 H λD t H=>?_;refine BX id (Ag (AM 3 (AZ 3 [(6,Ai (i64.wrap p0))] H λD H=>Am (id:=0) (by kernel_rfl) ?_)));obtain⟨o1,O,M⟩:=AI M;refine BB (Q':=λe N Q=>(∃x6 x7 x8 x9,e=.exit 0/\(x6,x7,x8,x9)=o1/\Has N 19 [(4,.ptr (some (h.size,0))),(5,.ptr (some (h1.size,0)))]/\HH g Q [.obj h1.size (.cells none 2 [Au x6,Au x7,Au x8,Au x9]),.obj h.size (.cells none 2 [Au 0,Au 0,Au 0,Au 0])] F)\/False) ?_ ?_
 ·refine CR (by kernel_rfl) (λ(s:Int×Int×Int×Int×Int) N Q=>∃x1 x2 x3 x4 x5,(x1,x2,x3,x4,x5)=s/\Has N 19 [(1,Ab p1),(4,.ptr (some (h.size,0))),(5,.ptr (some (h1.size,0))),(6,Ai x5)]/\HH g Q [.obj h1.size (.cells none 2 [Au x1,Au x2,Au x3,Au x4]),.obj h.size (.cells none 2 [Au 0,Au 0,Au 0,Au 0])] F) O ⟨_,_,_,_,_,rfl,H.ls,A⟩ ?_;clear O M H A;intro s q D K hI M;obtain⟨x1,x2,x3,x4,x5,rfl,H,A⟩:=hI;unfold Iy at M;refine Ag (AM 4 (AZ 4 [(12,.bool (decide (x5<=(i64.wrap p1))))] H λD H=>Al 12 H M (λC M H=>?_) λC M H=>?_))
  ·refine DD id (Ag (Am (id:=1) (by kernel_rfl) ?_));refine Cb 3 ?_;obtain⟨x10,X,M⟩:=AI M;obtain⟨v1,U,R,rfl,E⟩:=Kq (av:=[.ptr (some (h1.size,0)),Ab (u8.wrap x5)]) X (A.cut 1);replace A:=A.g11 E;refine ML 2 [] R H λD t H=>?_;refine KP 3 id (B6 3 [(1,Ab p1),(4,.ptr (some (h.size,0))),(5,.ptr (some (h1.size,0))),(6,Ai (i64.wrap (x5+1)))] H λD H=>AY ?_);exact nx M ⟨_,_,_,_,_,rfl,H.ls,A⟩
  refine Bx (i:=0) (by kernel_rfl) ?_;exact nr M λe=>.inl ⟨_,_,_,_,rfl,e,H.ls,A⟩
 clear O;clear A;intro e D V I;rcases I with⟨x6,x7,x8,x9,rfl,rfl,H,A⟩|J
 ·show AW _ _ _ _ _ _ _;refine AM 2 (Az 18 _ _ H (λD=>.of (Bb (by kernel_rfl) (A.Eb 0 rfl (o:=0) (n:=4) ⟨zb rfl,rfl⟩))) λD t H=>?_);obtain⟨h6,X,A⟩:=A.s1 0 [Au x6,Au x7,Au x8,Au x9] [_,_,_,_];refine DL X H λD t H=>?_;refine BX id (Ax ?_);obtain rfl:=Aw M;refine⟨.inl rfl,.agg [Au x6,Au x7,Au x8,Au x9],IE (.cell (rT H) (CE (by kernel_rfl) (by kernel_rfl) (A.la 1 0 4)) .nil),?_⟩;replace A:=A.d0;exact⟨rfl,A⟩
 exact J.elim
def Dr(p0:AF):Option (AF×Bool):=
 (Aj (p0.Kind==0) (some true) (Aj (p0.Kind==6) (some true) (some (p0.Kind==7))):Option ((Bool))).bind λx1=>Aj x1 (some ((⟨p0.Kind,(0:Int),(0:Int),(0:Int),(0:Int),(0:Int),(⟨(0:Int),(0:Int),(0:Int),(0:Int)⟩:Ar)⟩:AF),true)) (Aj (p0.Kind==1) (some ((⟨(1:Int),(0:Int),(0:Int),(0:Int),(0:Int),(0:Int),p0.Set⟩:AF),true)) ((Aj (p0.Kind==2) (some true) (some (p0.Kind==3)):Option ((Bool))).bind λx2=>Aj x2 (some ((⟨p0.Kind,p0.A,p0.B,(0:Int),(0:Int),(0:Int),(⟨(0:Int),(0:Int),(0:Int),(0:Int)⟩:Ar)⟩:AF),true)) (Aj (p0.Kind==4) (some ((⟨(4:Int),p0.A,(0:Int),p0.Min,p0.Max,(0:Int),(⟨(0:Int),(0:Int),(0:Int),(0:Int)⟩:Ar)⟩:AF),true)) (Aj (p0.Kind==5) (some ((⟨(5:Int),p0.A,(0:Int),(0:Int),(0:Int),p0.BO,(⟨(0:Int),(0:Int),(0:Int),(0:Int)⟩:Ar)⟩:AF),true)) (some ((⟨(0:Int),(0:Int),(0:Int),(0:Int),(0:Int),(0:Int),(⟨(0:Int),(0:Int),(0:Int),(0:Int)⟩:Ar)⟩:AF),false))))))
theorem QP{p0 q0 q1}(M:Dr p0=some (q0,q1))(A:HH g h [] F)(hc:CB (cfg.still 60) av=[.agg (AB p0)]:=by kernel_rfl):∃v Q,Bw cfg g h 60 av v Q/\v=.tuple [.agg (AB q0),.bool q1]/\HH g Q [] F:=by
 refine Hs 45 [.cell 2 68,.tmp 3] hc ?_;clear hc;unfold Dr at M;refine bg 45 [(0,.agg (AB p0))] λD H=>?_;refine AM 3 ?_;obtain⟨h1,e1,A⟩:=A.pu (.cells none 2 (AB p0));refine Bq 1 (.ptr (some (h.size,0))) e1 H λD t H=>?_;obtain⟨S,e2,A⟩:=A.pu (.cells none 2 TT);refine Bq 2 (.ptr (some (h1.size,0))) e2 H λD t H=>?_;refine AZ 1 [] H λD H=>Ag (AM 2 (AV 1 [] 5 1 0 A H λD t H=>?_));refine BX id (Am (id:=0) (by kernel_rfl) ?_);refine Ag ?_;obtain⟨o1,O,M⟩:=AI M;refine BB (Q':=λe N Q=>(∃x1,e=.normal/\x1=o1/\Has N 45 [(1,.ptr (some (h.size,0))),(2,.ptr (some (h1.size,0))),(5,Ai p0.Kind),(6,.bool x1)]/\HH g Q [.obj h1.size (.cells none 2 TT),.obj h.size (.cells none 2 (AB p0))] F)\/False) ?_ ?_
 ·replace M:=O;clear O;refine AM 2 (AZ 2 [(6,.bool (p0.Kind==0))] H λD H=>Al 6 H M (λC M H=>?_) λC M H=>?_)
  ·exact DI (.inl ⟨_,rfl,Aw M,H.ls,A⟩)
  refine AM 2 (B6 2 [(1,.ptr (some (h.size,0))),(2,.ptr (some (h1.size,0))),(5,Ai p0.Kind),(6,.bool (p0.Kind==6))] H λD H=>BX id (Al 6 H M (λC M H=>?_) λC M H=>?_))
  ·exact DI (.inl ⟨_,rfl,Aw M,H.ls,A⟩)
  refine Cb 2 (B6 2 [(1,.ptr (some (h.size,0))),(2,.ptr (some (h1.size,0))),(5,Ai p0.Kind),(6,.bool (p0.Kind==7))] H λD H=>AY ?_);exact .inl ⟨_,rfl,Aw M,H.ls,A⟩
 clear O;clear A;intro e D K I;rcases I with⟨x1,rfl,rfl,H,A⟩|J
 ·show AW _ _ _ _ _ _ _;refine Al 6 H M (λC M H=>?_) λC M H=>?_
  ·refine AM 5 (AV 1 [] 11 1 0 A H λD t H=>?_);obtain⟨U,X,A⟩:=A.s0 0 [Ai p0.Kind,Ai 0,Ai 0,Ai 0,Ai 0,Ai 0,Au 0,Au 0,Au 0,Au 0] [_,_,_,_,_,_,_,_,_,_];refine JI 1 [] X H λD t H=>?_;refine AZ 1 [(3,.bool true)] H λD H=>Ax ?_;obtain⟨rfl,rfl⟩:=FJ M;refine⟨.inl rfl,.tuple [.agg [Ai p0.Kind,Ai 0,Ai 0,Ai 0,Ai 0,Ai 0,Au 0,Au 0,Au 0,Au 0],.bool true],CU (.cell (rT H) (CE (by kernel_rfl) (by kernel_rfl) (A.la 0 0 10)) (.tmp (rT H) .nil)),?_⟩;replace A:=A.d0;exact⟨rfl,A⟩
  refine AM 2 (AZ 2 [(13,.bool (p0.Kind==1))] H λD H=>Al 13 H M (λC M H=>?_) λC M H=>?_)
  ·refine AM 5 (Bk 1 [] 16 _ _ H (λD=>.of (Bb (by kernel_rfl) (A.Eb 1 rfl (o:=6) (n:=4) ⟨zb rfl,rfl⟩))) λD t H=>?_);obtain⟨V,X,A⟩:=A.s0 0 [Ai 1,Ai 0,Ai 0,Ai 0,Ai 0,Ai 0,Au p0.Set.w0,Au p0.Set.w1,Au p0.Set.w2,Au p0.Set.w3] [_,_,_,_,_,_,_,_,_,_];refine JI 1 [] X H λD t H=>?_;refine AZ 1 [(3,.bool true)] H λD H=>Ax ?_;obtain⟨rfl,rfl⟩:=FJ M;refine⟨.inl rfl,.tuple [.agg [Ai 1,Ai 0,Ai 0,Ai 0,Ai 0,Ai 0,Au p0.Set.w0,Au p0.Set.w1,Au p0.Set.w2,Au p0.Set.w3],.bool true],CU (.cell (rT H) (CE (by kernel_rfl) (by kernel_rfl) (A.la 0 0 10)) (.tmp (rT H) .nil)),?_⟩;replace A:=A.d0;exact⟨rfl,A⟩
  refine Ag ?_;obtain⟨o2,O,M⟩:=AI M;refine BB (Q':=λe N Q=>(∃x2,e=.normal/\x2=o2/\Has N 45 [(1,.ptr (some (h.size,0))),(2,.ptr (some (h1.size,0))),(5,Ai p0.Kind),(18,.bool x2)]/\HH g Q [.obj h1.size (.cells none 2 TT),.obj h.size (.cells none 2 (AB p0))] F)\/False) ?_ ?_
  ·replace M:=O;clear O;refine AM 2 (AZ 2 [(18,.bool (p0.Kind==2))] H λD H=>Al 18 H M (λC M H=>?_) λC M H=>?_)
   ·exact DI (.inl ⟨_,rfl,Aw M,H.ls,A⟩)
   refine Cb 2 (B6 2 [(1,.ptr (some (h.size,0))),(2,.ptr (some (h1.size,0))),(5,Ai p0.Kind),(18,.bool (p0.Kind==3))] H λD H=>AY ?_);exact .inl ⟨_,rfl,Aw M,H.ls,A⟩
  clear O;clear A;intro e D h6 I;rcases I with⟨x2,rfl,rfl,H,A⟩|J
  ·show AW _ _ _ _ _ _ _;refine Al 18 H M (λC M H=>?_) λC M H=>?_
   ·refine AM 9 (AV 1 [] 22 1 0 A H λD t H=>?_);refine AV 1 [] 24 1 1 A H λD t H=>?_;refine AV 1 [] 26 1 2 A H λD t H=>?_;obtain⟨h7,X,A⟩:=A.s0 0 [Ai p0.Kind,Ai p0.A,Ai p0.B,Ai 0,Ai 0,Ai 0,Au 0,Au 0,Au 0,Au 0] [_,_,_,_,_,_,_,_,_,_];refine JI 1 [] X H λD t H=>?_;refine AZ 1 [(3,.bool true)] H λD H=>Ax ?_;obtain⟨rfl,rfl⟩:=FJ M;refine⟨.inl rfl,.tuple [.agg [Ai p0.Kind,Ai p0.A,Ai p0.B,Ai 0,Ai 0,Ai 0,Au 0,Au 0,Au 0,Au 0],.bool true],CU (.cell (rT H) (CE (by kernel_rfl) (by kernel_rfl) (A.la 0 0 10)) (.tmp (rT H) .nil)),?_⟩;replace A:=A.d0;exact⟨rfl,A⟩
   refine AM 2 (AZ 2 [(28,.bool (p0.Kind==4))] H λD H=>Al 28 H M (λC M H=>?_) λC M H=>?_)
   ·refine AM 9 (AV 1 [] 31 1 1 A H λD t H=>?_);refine AV 1 [] 33 1 3 A H λD t H=>?_;refine AV 1 [] 35 1 4 A H λD t H=>?_;obtain⟨h8,X,A⟩:=A.s0 0 [Ai 4,Ai p0.A,Ai 0,Ai p0.Min,Ai p0.Max,Ai 0,Au 0,Au 0,Au 0,Au 0] [_,_,_,_,_,_,_,_,_,_];refine JI 1 [] X H λD t H=>?_;refine AZ 1 [(3,.bool true)] H λD H=>Ax ?_;obtain⟨rfl,rfl⟩:=FJ M;refine⟨.inl rfl,.tuple [.agg [Ai 4,Ai p0.A,Ai 0,Ai p0.Min,Ai p0.Max,Ai 0,Au 0,Au 0,Au 0,Au 0],.bool true],CU (.cell (rT H) (CE (by kernel_rfl) (by kernel_rfl) (A.la 0 0 10)) (.tmp (rT H) .nil)),?_⟩;replace A:=A.d0;exact⟨rfl,A⟩
   refine AM 2 (AZ 2 [(37,.bool (p0.Kind==5))] H λD H=>Al 37 H M (λC M H=>?_) λC M H=>?_)
   ·refine AM 7 (AV 1 [] 40 1 1 A H λD t H=>?_);refine AV 1 [] 42 1 5 A H λD t H=>?_;obtain⟨h9,X,A⟩:=A.s0 0 [Ai 5,Ai p0.A,Ai 0,Ai 0,Ai 0,Ai p0.BO,Au 0,Au 0,Au 0,Au 0] [_,_,_,_,_,_,_,_,_,_];refine JI 1 [] X H λD t H=>?_;refine AZ 1 [(3,.bool true)] H λD H=>Ax ?_;obtain⟨rfl,rfl⟩:=FJ M;refine⟨.inl rfl,.tuple [.agg [Ai 5,Ai p0.A,Ai 0,Ai 0,Ai 0,Ai p0.BO,Au 0,Au 0,Au 0,Au 0],.bool true],CU (.cell (rT H) (CE (by kernel_rfl) (by kernel_rfl) (A.la 0 0 10)) (.tmp (rT H) .nil)),?_⟩;replace A:=A.d0;exact⟨rfl,A⟩
   refine D3 3 id ?_;obtain⟨h10,X,A⟩:=A.s0 0 TT [_,_,_,_,_,_,_,_,_,_];refine JI 1 [] X H λD t H=>?_;refine AZ 1 [(3,.bool false)] H λD H=>Ax ?_;obtain⟨rfl,rfl⟩:=FJ M;refine⟨.inl rfl,.tuple [.agg [Ai 0,Ai 0,Ai 0,Ai 0,Ai 0,Ai 0,Au 0,Au 0,Au 0,Au 0],.bool false],CU (.cell (rT H) (CE (by kernel_rfl) (by kernel_rfl) (A.la 0 0 10)) (.tmp (rT H) .nil)),?_⟩;replace A:=A.d0;exact⟨rfl,A⟩
  exact J.elim
 exact J.elim
def Dy(p0:Int)(p1:Int):Option (Bool):=
 some ((decide (p0>=0))&&(decide (p0<p1)))
theorem G3{p0 p1 bp1 q0}(M:Dy p0 p1=some q0)(A:HH g h [.obj bp1 (.cells none 2 [Ai p1])] F)(hc:CB (cfg.still 61) av=[Ai p0,.ptr (some (bp1,0))]:=by kernel_rfl):∃v Q,Bw cfg g h 61 av v Q/\v=.bool q0/\HH g Q [.obj bp1 (.cells none 2 [Ai p1])] F:=by
 refine Hs 11 [.tmp 3] hc ?_;clear hc;unfold Dy at M;refine bg 11 [(0,Ai p0),(1,.ptr (some (bp1,0)))] λD H=>?_;refine AM 1 (Eo 1 [] 8 H λD H=>AO 3 [(6,.bool (decide (p0>=0)))] H λD H=>Ba 4 (λN Q=>h=Q/\Has N 11 [(10,.bool ((decide (p0>=0))&&(decide (p0<p1))))]) ?_ ?_)
 ·cases C:(decide (p0>=0):Bool)with
  |true=>
   replace H:=H.kn 6 C;refine AV 1 [(7,Ai p0)] 8 0 0 A H λD t H=>?_;exact AO 2 [(10,.bool (decide (p0<p1)))] H λD H=>BC H C
  |false=>
   replace H:=H.kn 6 C;exact AO 4 [(10,.bool false)] H λD H=>BC H C
 intro t D Q G;obtain⟨e,H⟩:=G;subst e;refine AZ 1 [(3,.bool ((decide (p0>=0))&&(decide (p0<p1))))] H λD H=>Ax ?_;obtain rfl:=Aw M;exact⟨.inl rfl,_,rH H,rfl,A⟩
def DC(p0:AF)(p1:Int):Option (Bool):=
 (Dr p0).bind λ(x1,x2)=>(Aj (!x2) (some true) ((RQ cfg.P 68 (AB x1) (AB p0)).bind λx4=>some (!x4)):Option (Bool)).bind λx3=>Aj x3 (some false) ((Aj (p0.Kind==2) (some true) (some (p0.Kind==3)):Option ((Bool))).bind λx5=>Aj x5 ((Dy p0.A p1).bind λx6=>(Aj x6 ((Dy p0.B p1).bind λx8=>some x8) (some false):Option (Bool)).bind λx7=>some x7) (Aj (p0.Kind==4) ((Dy p0.A p1).bind λx9=>some (((x9&&(decide (p0.Min>=0)))&&(decide (p0.Min<=255)))&&((p0.Max==(-1))||((decide (p0.Max>=p0.Min))&&(decide (p0.Max<=255)))))) (Aj (p0.Kind==5) ((Dy p0.A p1).bind λx10=>some ((x10&&(decide (p0.BO>=1)))&&(decide (p0.BO<=1024)))) (some true))))
theorem Oe{p0 p1 q0}(M:DC p0 p1=some q0)(A:HH g h [] F)(hc:CB (cfg.still 43) av=[.agg (AB p0),Ai p1]:=by kernel_rfl):∃v Q,Bw cfg g h 43 av v Q/\v=.bool q0/\HH g Q [] F:=by
 refine Hs 85 [.tmp 4] hc ?_;clear hc;unfold DC at M;refine bg 85 [(0,.agg (AB p0)),(1,Ai p1)] λD H=>?_;refine AM 3 ?_;obtain⟨h1,e1,A⟩:=A.pu (.cells none 2 (AB p0));refine Bq 2 (.ptr (some (h.size,0))) e1 H λD t H=>?_;obtain⟨S,e2,A⟩:=A.pu (.cells none 2 [Ai p1]);refine Bq 3 (.ptr (some (h1.size,0))) e2 H λD t H=>?_;refine AZ 1 [] H λD H=>Ag (AM 8 (Az 9 _ _ H (λD=>.of (Bb (by kernel_rfl) (A.Eb 1 rfl (o:=0) (n:=10) ⟨zb rfl,rfl⟩))) λD t H=>?_));obtain⟨⟨x1,x2⟩,X,M⟩:=AI M;obtain⟨v1,K,R,rfl,E⟩:=QP (av:=[.agg (AB p0)]) X (A.cut 0);replace A:HH g K [.obj h1.size (.cells none 2 [Ai p1]),.obj h.size (.cells none 2 (AB p0))] F:=A.Lq (n:=0) E;refine CA 10 R H λD t H=>?_;obtain⟨U,e3,A⟩:=A.pu (.cells none 2 TT);refine Mq 3 [(11,.agg (AB x1)),(12,.bool x2)] 5 (.ptr (some (K.size,0))) e3 H λD t H=>?_;obtain⟨V,X,A⟩:=A.s0 0 (AB x1) [_,_,_,_,_,_,_,_,_,_];refine DL X H λD t H=>?_;refine Eo 1 [(6,.bool x2)] 7 H λD H=>AO 3 [(15,.bool (!x2))] H λD H=>?_;obtain⟨x3,O,M⟩:=AI M;refine Ba 4 (λN Q=>Has N 85 [(2,.ptr (some (h.size,0))),(3,.ptr (some (h1.size,0))),(19,.bool x3)]/\HH g Q [.obj K.size (.cells none 2 (AB x1)),.obj h1.size (.cells none 2 [Ai p1]),.obj h.size (.cells none 2 (AB p0))] F) ?_ ?_
 ·rcases Ay O with⟨C,M⟩|⟨C,M⟩
  ·replace H:=H.kn 15 C;refine AO 4 [(19,.bool true)] H λD H=>?_;obtain rfl:=Aw M;exact AY ⟨H.ls,A⟩
  replace H:=H.kn 15 C;refine Az 16 _ _ H (λD=>.of (Bb (by kernel_rfl) (A.Eb 0 rfl (o:=0) (n:=10) ⟨zb rfl,rfl⟩))) λD t H=>?_;refine Az 17 _ _ H (λD=>.of (Bb (by kernel_rfl) (A.Eb 2 rfl (o:=0) (n:=10) ⟨zb rfl,rfl⟩))) λD t H=>?_;obtain⟨x4,X,M⟩:=AI M;refine Az 18 (.bool (!x4)) V H (λD=>.of (Vt (by kernel_rfl) X)) λD t H=>?_;refine AO 1 [(19,.bool (!x4))] H λD H=>?_;obtain rfl:=Aw M;exact AY ⟨H.ls,A⟩
 clear A;intro t D h6 G;obtain⟨H,A⟩:=G;refine BX id (Al 19 H M (λC M H=>?_) λC M H=>?_)
 ·refine AM 1 (AZ 1 [(4,.bool false)] H λD H=>Ax ?_);obtain rfl:=Aw M;refine⟨.inl rfl,.bool false,rH H,?_⟩;replace A:=A.d0;exact⟨rfl,A⟩
 refine D3 2 id (AZ 2 [(7,.func (.func 61) [] [.ptr (some (h1.size,0))])] H λD H=>Ag (AM 2 (AV 1 [] 22 2 0 A H λD t H=>?_)));refine BX id (Am (id:=0) (by kernel_rfl) ?_);refine Ag ?_;obtain⟨o1,O,M⟩:=AI M;refine BB (Q':=λe N Q=>(∃x5,e=.normal/\x5=o1/\Has N 85 [(2,.ptr (some (h.size,0))),(7,.func (.func 61) [] [.ptr (some (h1.size,0))]),(22,Ai p0.Kind),(23,.bool x5)]/\HH g Q [.obj K.size (.cells none 2 (AB x1)),.obj h1.size (.cells none 2 [Ai p1]),.obj h.size (.cells none 2 (AB p0))] F)\/False) ?_ ?_
 ·replace M:=O;clear O;refine AM 2 (AZ 2 [(23,.bool (p0.Kind==2))] H λD H=>Al 23 H M (λC M H=>?_) λC M H=>?_)
  ·exact DI (.inl ⟨_,rfl,Aw M,H.ls,A⟩)
  refine Cb 2 (B6 2 [(2,.ptr (some (h.size,0))),(7,.func (.func 61) [] [.ptr (some (h1.size,0))]),(22,Ai p0.Kind),(23,.bool (p0.Kind==3))] H λD H=>AY ?_);exact .inl ⟨_,rfl,Aw M,H.ls,A⟩
 clear O;clear A;intro e D h7 I;rcases I with⟨x5,rfl,rfl,H,A⟩|J
 ·show AW _ _ _ _ _ _ _;refine Al 23 H M (λC M H=>?_) λC M H=>?_
  ·refine AM 11 (AV 2 [(26,.func (.func 61) [] [.ptr (some (h1.size,0))])] 28 2 1 A H λD t H=>?_);replace A:=A.k3 1 0 2;obtain⟨x6,X,M⟩:=AI M;obtain⟨v1,h8,R,rfl,E⟩:=G3 (av:=[Ai p0.A,.ptr (some (h1.size,0))]) X (A.cut 1);replace A:=A.g11 E;refine CA 29 R H λD t H=>?_;refine AO 1 [(30,.bool x6)] H λD H=>?_;obtain⟨x7,O,M⟩:=AI M;refine Ba 5 (λN Q=>Has N 85 [(35,.bool x7)]/\HH g Q [.obj h1.size (.cells none 2 [Ai p1]),.obj K.size (.cells none 2 (AB x1)),.obj h.size (.cells none 2 (AB p0))] F) ?_ ?_
   ·rcases Ay O with⟨C,M⟩|⟨C,M⟩
    ·replace H:=H.kn 30 C;refine AV 2 [(31,.func (.func 61) [] [.ptr (some (h1.size,0))])] 33 2 2 A H λD t H=>?_;obtain⟨x8,X,M⟩:=AI M;obtain⟨v1,h10,R,rfl,E⟩:=G3 (av:=[Ai p0.B,.ptr (some (h1.size,0))]) X (A.cut 1);replace A:=A.g11 E;refine CA 34 R H λD t H=>?_;refine AO 1 [(35,.bool x8)] H λD H=>?_;obtain rfl:=Aw M;exact AY ⟨H.ls,A⟩
    replace H:=H.kn 30 C;refine AO 5 [(35,.bool false)] H λD H=>?_;obtain rfl:=Aw M;exact AY ⟨H.ls,A⟩
   clear A;intro t D h9 G;obtain⟨H,A⟩:=G;refine AZ 1 [(4,.bool x7)] H λD H=>Ax ?_;obtain rfl:=Aw M;refine⟨.inl rfl,.bool x7,rH H,?_⟩;replace A:=A.d0;exact⟨rfl,A⟩
  refine AM 2 (AZ 2 [(36,.bool (p0.Kind==4))] H λD H=>Al 36 H M (λC M H=>?_) λC M H=>?_)
  ·refine AM 32 (AV 2 [(38,.func (.func 61) [] [.ptr (some (h1.size,0))])] 40 2 1 A H λD t H=>?_);replace A:=A.k3 1 0 2;obtain⟨x9,X,M⟩:=AI M;obtain⟨v1,T,R,rfl,E⟩:=G3 (av:=[Ai p0.A,.ptr (some (h1.size,0))]) X (A.cut 1);replace A:=A.g11 E;refine CA 41 R H λD t H=>?_;refine AO 1 [(42,.bool x9)] H λD H=>Ba 4 (λN Q=>T=Q/\Has N 85 [(2,.ptr (some (h.size,0))),(46,.bool (x9&&(decide (p0.Min>=0))))]) ?_ ?_
   ·cases C:(x9:Bool)with
    |true=>
     replace H:=H.kn 42 C;refine AV 1 [] 44 2 3 A H λD t H=>?_;exact AO 2 [(46,.bool (decide (p0.Min>=0)))] H λD H=>BC H C
    |false=>
     replace H:=H.kn 42 C;exact AO 4 [(46,.bool false)] H λD H=>BC H C
   intro t D Q G;obtain⟨e,H⟩:=G;subst e;refine AO 1 [(47,.bool (x9&&(decide (p0.Min>=0))))] H λD H=>Ba 4 (λN Q=>T=Q/\Has N 85 [(2,.ptr (some (h.size,0))),(51,.bool ((x9&&(decide (p0.Min>=0)))&&(decide (p0.Min<=255))))]) ?_ ?_
   ·cases C:(x9&&(decide (p0.Min>=0)):Bool)with
    |true=>
     replace H:=H.kn 47 C;refine AV 1 [] 49 2 3 A H λD t H=>?_;exact AO 2 [(51,.bool (decide (p0.Min<=255)))] H λD H=>BC H C
    |false=>
     replace H:=H.kn 47 C;exact AO 4 [(51,.bool false)] H λD H=>BC H C
   intro t D Q G;obtain⟨e,H⟩:=G;subst e;refine AO 1 [(52,.bool ((x9&&(decide (p0.Min>=0)))&&(decide (p0.Min<=255))))] H λD H=>Ba 16 (λN Q=>T=Q/\Has N 85 [(68,.bool (((x9&&(decide (p0.Min>=0)))&&(decide (p0.Min<=255)))&&((p0.Max==(-1))||((decide (p0.Max>=p0.Min))&&(decide (p0.Max<=255))))))]) ?_ ?_
   ·cases C:((x9&&(decide (p0.Min>=0)))&&(decide (p0.Min<=255)):Bool)with
    | true=>
     replace H:=H.kn 52 C;refine AV 1 [] 54 2 4 A H λD t H=>?_;refine AO 2 [(56,.bool (p0.Max==(-1)))] H λD H=>Ba 11 (λN Q=>T=Q/\Has N 85 [(52,.bool true),(67,.bool ((p0.Max==(-1))||((decide (p0.Max>=p0.Min))&&(decide (p0.Max<=255)))))]) ?_ ?_
     ·cases C:(p0.Max==(-1):Bool)with
      |true=>
       replace H:=H.kn 56 C;exact AO 11 [(67,.bool true)] H λD H=>BC H C
      | false=>
       replace H:=H.kn 56 C;refine AV 1 [] 58 2 4 A H λD t H=>?_;refine AV 1 [] 60 2 3 A H λD t H=>?_;refine AO 2 [(62,.bool (decide (p0.Max>=p0.Min)))] H λD H=>Ba 4 (λN Q=>T=Q/\Has N 85 [(52,.bool true),(56,.bool false),(66,.bool ((decide (p0.Max>=p0.Min))&&(decide (p0.Max<=255))))]) ?_ ?_
       ·cases C:(decide (p0.Max>=p0.Min):Bool)with
        |true=>
         replace H:=H.kn 62 C;refine AV 1 [] 64 2 4 A H λD t H=>?_;exact AO 2 [(66,.bool (decide (p0.Max<=255)))] H λD H=>BC H C
        |false=>
         replace H:=H.kn 62 C;exact AO 4 [(66,.bool false)] H λD H=>BC H C
       intro t D Q G;obtain⟨e,H⟩:=G;subst e;exact AO 1 [(67,.bool ((decide (p0.Max>=p0.Min))&&(decide (p0.Max<=255))))] H λD H=>BC H C
     intro t D Q G;obtain⟨e,H⟩:=G;subst e;exact AO 1 [(68,.bool ((p0.Max==(-1))||((decide (p0.Max>=p0.Min))&&(decide (p0.Max<=255)))))] H λD H=>BC H C
    |false=>
     replace H:=H.kn 52 C;exact AO 16 [(68,.bool false)] H λD H=>BC H C
   intro t D Q G;obtain⟨e,H⟩:=G;subst e;refine AZ 1 [(4,.bool (((x9&&(decide (p0.Min>=0)))&&(decide (p0.Min<=255)))&&((p0.Max==(-1))||((decide (p0.Max>=p0.Min))&&(decide (p0.Max<=255))))))] H λD H=>Ax ?_;obtain rfl:=Aw M;refine⟨.inl rfl,.bool (((x9&&(decide (p0.Min>=0)))&&(decide (p0.Min<=255)))&&((p0.Max==(-1))||((decide (p0.Max>=p0.Min))&&(decide (p0.Max<=255))))),rH H,?_⟩;replace A:=A.d0;exact⟨rfl,A⟩
  refine AM 2 (AZ 2 [(69,.bool (p0.Kind==5))] H λD H=>Al 69 H M (λC M H=>?_) λC M H=>?_)
  ·refine AM 15 (AV 2 [(71,.func (.func 61) [] [.ptr (some (h1.size,0))])] 73 2 1 A H λD t H=>?_);replace A:=A.k3 1 0 2;obtain⟨x10,X,M⟩:=AI M;obtain⟨v1,Z,R,rfl,E⟩:=G3 (av:=[Ai p0.A,.ptr (some (h1.size,0))]) X (A.cut 1);replace A:=A.g11 E;refine CA 74 R H λD t H=>?_;refine AO 1 [(75,.bool x10)] H λD H=>Ba 4 (λN Q=>Z=Q/\Has N 85 [(2,.ptr (some (h.size,0))),(79,.bool (x10&&(decide (p0.BO>=1))))]) ?_ ?_
   ·cases C:(x10:Bool)with
    |true=>
     replace H:=H.kn 75 C;refine AV 1 [] 77 2 5 A H λD t H=>?_;exact AO 2 [(79,.bool (decide (p0.BO>=1)))] H λD H=>BC H C
    |false=>
     replace H:=H.kn 75 C;exact AO 4 [(79,.bool false)] H λD H=>BC H C
   intro t D Q G;obtain⟨e,H⟩:=G;subst e;refine AO 1 [(80,.bool (x10&&(decide (p0.BO>=1))))] H λD H=>Ba 4 (λN Q=>Z=Q/\Has N 85 [(84,.bool ((x10&&(decide (p0.BO>=1)))&&(decide (p0.BO<=1024))))]) ?_ ?_
   ·cases C:(x10&&(decide (p0.BO>=1)):Bool)with
    |true=>
     replace H:=H.kn 80 C;refine AV 1 [] 82 2 5 A H λD t H=>?_;exact AO 2 [(84,.bool (decide (p0.BO<=1024)))] H λD H=>BC H C
    |false=>
     replace H:=H.kn 80 C;exact AO 4 [(84,.bool false)] H λD H=>BC H C
   intro t D Q G;obtain⟨e,H⟩:=G;subst e;refine AZ 1 [(4,.bool ((x10&&(decide (p0.BO>=1)))&&(decide (p0.BO<=1024))))] H λD H=>Ax ?_;obtain rfl:=Aw M;refine⟨.inl rfl,.bool ((x10&&(decide (p0.BO>=1)))&&(decide (p0.BO<=1024))),rH H,?_⟩;replace A:=A.d0;exact⟨rfl,A⟩
  refine D3 1 id (AZ 1 [(4,.bool true)] H λD H=>Ax ?_);obtain rfl:=Aw M;refine⟨.inl rfl,.bool true,rH H,?_⟩;replace A:=A.d0;exact⟨rfl,A⟩
 exact J.elim
def Ff(p0:AL)(p1:AF):Option (Int×Int×AL×(List AF)):=
 Aj (decide ((p0.t_.AK.length:Int)>=1024)) (some ((0:Int),(8:Int),p0,p0.t_.AK)) ((DC p1 (p0.t_.AK.length:Int)).bind λx1=>Aj (!x1) (some ((0:Int),(1:Int),p0,p0.t_.AK)) (F6 (Pb 80 (p0.t_.AK.length+([p1]:List AF).length))<|some (i64.wrap (((p0.t_.AK++([p1]:List AF)).length:Int) - 1),(0:Int),(⟨p0.s_,p0.at_,p0.AX,(⟨(p0.t_.AK++([p1]:List AF)),i64.wrap (((p0.t_.AK++([p1]:List AF)).length:Int) - 1)⟩:AS),p0.Ao,p0.BH,p0.BG,p0.BW⟩:AL),(p0.t_.AK++([p1]:List AF)))))
theorem La{p0 p1 bp0 rp0_3 q0 q1 u0 u1}(M:Ff p0 p1=some (q0,q1,u0,u1))(A:HH g h [.obj bp0 (.cells none 2 (Ae p0 (AR rp0_3 p0.t_.AK.length))),.Af rp0_3 68 (Af AB p0.t_.AK)] F)(hc:CB (cfg.still 73) av=[.ptr (some (bp0,3)),.agg (AB p1)]:=by kernel_rfl):∃v Q,Bw cfg g h 73 av v Q/\∃(r'1:Option Nat),v=.tuple [Ai q0,Ai q1]/\HH g Q [.obj bp0 (.cells none 2 (Ae u0 (AR r'1 u1.length))),.Af r'1 68 (Af AB u1)] F:=by
 refine Hs 45 [.tmp 4,.tmp 5] hc ?_;clear hc;unfold Ff at M;refine bg 45 [(0,.ptr (some (bp0,3))),(1,.agg (AB p1))] λD H=>?_;refine AM 3 ?_;obtain⟨h1,e1,A⟩:=A.pu (.cells none 2 (AB p1));refine Bq 3 (.ptr (some (h.size,0))) e1 H λD t H=>?_;refine AZ 2 [] H λD H=>Ag (Am (id:=0) (by kernel_rfl) ?_);refine AM 7 (AV 3 [] 10 1 3 A H λD t H=>?_);refine AZ 3 [(6,.bool (decide ((p0.t_.AK.length:Int)>=1024)))] H λD H=>Al 6 H M (λC M H=>?_) λC M H=>?_
 ·refine AM 2 (AZ 2 [(4,Ai 0),(5,Ai 8)] H λD H=>Ax ?_);obtain⟨rfl,rfl,rfl,rfl⟩:=RT M;refine⟨.inl rfl,.tuple [Ai 0,Ai 8],rH H,?_⟩;replace A:=A.k2 1 2;exact⟨rp0_3,rfl,A⟩
 refine Ag (Fj 3 9 ?_);refine Az 14 _ _ H (λD=>.of (Bb (by kernel_rfl) (A.Eb 0 rfl (o:=0) (n:=10) ⟨zb rfl,rfl⟩))) λD t H=>?_;refine AV 3 [] 18 1 3 A H λD t H=>?_;obtain⟨x1,X,M⟩:=AI M;obtain⟨v1,S,R,rfl,E⟩:=Oe (av:=[.agg (AB p1),Ai (p0.t_.AK.length:Int)]) X (A.cut 0);replace A:HH g S [.obj h.size (.cells none 2 (AB p1)),_,_] F:=A.Lq (n:=0) E;refine BK 1 [] 20 R H λD t H=>?_;refine AZ 2 [(13,.bool (!x1))] H λD H=>Al 13 H M (λC M H=>?_) λC M H=>?_
 ·refine AM 2 (AZ 2 [(4,Ai 0),(5,Ai 1)] H λD H=>Ax ?_);obtain⟨rfl,rfl,rfl,rfl⟩:=RT M;refine⟨.inl rfl,.tuple [Ai 0,Ai 1],rH H,?_⟩;replace A:=A.k2 1 2;exact⟨rp0_3,rfl,A⟩
 refine DD id (Ag (Fj 5 11 ?_));refine AV 4 [(22,.ptr (some (bp0,3)))] 26 1 3 A H λD t H=>?_;refine Az 27 _ _ H (λD=>.of (Bb (by kernel_rfl) (A.Eb 0 rfl (o:=0) (n:=10) ⟨zb rfl,rfl⟩))) λD t H=>?_;obtain⟨K,e2,A⟩:=A.pL 68 (AB p1);refine Bq 28 (AR (some S.size) (([p1]:List AF).length)) e2 H λD t H=>?_;obtain⟨C,M⟩:=B0 M;obtain⟨r1,U,X,E⟩:=HH.OJ Df (by decide) A 3 (xs:=p0.t_.AK) (ys:=([p1]:List AF)) rfl (Dm A 0 rfl (n:=([p1]:List AF).length) (z:=10) rfl (by decide)) rfl rfl C;replace A:HH g U [.Af (some S.size) 68 ((AB p1)),_,_,.Af r1 68 (Af AB (p0.t_.AK++([p1]:List AF)))] F:=E;replace A:=A.k3 1 2 3;refine Az 29 _ _ H (λD=>.of (JF (s:=DM rp0_3 p0.t_.AK.length) (by kernel_rfl) X)) λD t H=>?_;obtain⟨V,X,E⟩:=A.st 1 rfl (o:=3) (new:=[AR r1 ((p0.t_.AK++([p1]:List AF)).length)]) (ds:=(Ae p0 (AR r1 ((p0.t_.AK++([p1]:List AF)).length)))) (zb rfl) rfl rfl;replace A:HH g V [_,.obj bp0 (.cells none 2 [_,_,_,AR r1 ((p0.t_.AK++([p1]:List AF)).length),_,_,_,_,_]),_] F:=E;refine FO 2 [] X H λD t H=>?_;refine Ce 10 id (AV 4 [(32,.ptr (some (bp0,3)))] 36 1 3 A H λD t H=>?_);obtain⟨h6,X,E⟩:=A.st 1 rfl (o:=4) (new:=[Ai (i64.wrap (((p0.t_.AK++([p1]:List AF)).length:Int) - 1))]) (ds:=(PJ p0 (AR r1 ((p0.t_.AK++([p1]:List AF)).length)) (Ai (i64.wrap (((p0.t_.AK++([p1]:List AF)).length:Int) - 1))))) (zb rfl) rfl rfl;replace A:HH g h6 [_,.obj bp0 (.cells none 2 [_,_,_,_,Ai (i64.wrap (((p0.t_.AK++([p1]:List AF)).length:Int) - 1)),_,_,_,_]),_] F:=E;refine FO 4 [] X H λD t H=>?_;refine Ce 6 id (AV 3 [] 44 1 4 A H λD t H=>?_)
 refine AZ 2 [(4,Ai (i64.wrap (((p0.t_.AK++([p1]:List AF)).length:Int) - 1))),(5,Ai 0)] H λD H=>Ax ?_;obtain⟨rfl,rfl,rfl,rfl⟩:=RT M;refine⟨.inl rfl,.tuple [Ai (i64.wrap (((p0.t_.AK++([p1]:List AF)).length:Int) - 1)),Ai 0],rH H,?_⟩;replace A:=A.k2 1 2;exact⟨r1,rfl,A⟩
def Bj(p0:AL)(p1:AF):Option (Int×AL×(List AF)):=
 Aj p0.BW (some ((0:Int),p0,p0.t_.AK)) ((Ff p0 p1).bind λ(x1,x2,x3,x4)=>(Aj (x2 !=0) (some true) (some x3.BW):Option ((Bool))).bind λx5=>some (x1,(⟨x3.s_,x3.at_,x3.AX,(⟨x4,x3.t_.Ac⟩:AS),x3.Ao,x3.BH,x3.BG,x5⟩:AL),x4))
theorem CQ{p0 p1 bp0 rp0_3 q0 u0 u1}(M:Bj p0 p1=some (q0,u0,u1))(A:HH g h [.obj bp0 (.cells none 2 (Ae p0 (AR rp0_3 p0.t_.AK.length))),.Af rp0_3 68 (Af AB p0.t_.AK)] F)(hc:CB (cfg.still 57) av=[.ptr (some (bp0,0)),.agg (AB p1)]:=by kernel_rfl):∃v Q,Bw cfg g h 57 av v Q/\∃(r'1:Option Nat),v=Ai q0/\HH g Q [.obj bp0 (.cells none 2 (Ae u0 (AR r'1 u1.length))),.Af r'1 68 (Af AB u1)] F:=by
 refine Hs 25 [.tmp 4] hc ?_;clear hc;unfold Bj at M;refine bg 25 [(0,.ptr (some (bp0,0))),(1,.agg (AB p1))] λD H=>?_;refine AM 2 ?_;obtain⟨h1,e1,A⟩:=A.pu (.cells none 2 (AB p1));refine Bq 3 (.ptr (some (h.size,0))) e1 H λD t H=>?_;refine AZ 1 [] H λD H=>Ag (AM 4 (AV 3 [] 10 1 8 A H λD t H=>?_));refine BX id (Al 10 H M (λC M H=>?_) λC M H=>?_)
 ·refine AM 1 (AZ 1 [(4,Ai 0)] H λD H=>Ax ?_);obtain⟨rfl,rfl,rfl⟩:=G6 M;refine⟨.inl rfl,Ai 0,rH H,?_⟩;replace A:=A.k2 1 2;exact⟨rp0_3,rfl,A⟩
 refine DD id (Ag (Fj 3 10 ?_));refine Bk 3 [(14,.ptr (some (bp0,3)))] 15 _ _ H (λD=>.of (Bb (by kernel_rfl) (A.Eb 0 rfl (o:=0) (n:=10) ⟨zb rfl,rfl⟩))) λD t H=>?_;replace A:HH g h1 [_,_,.obj h.size (.cells none 2 (AB p1))] F:=((A.front 2 rfl).front 2 rfl);obtain⟨⟨x1,x2,x3,x4⟩,X,M⟩:=AI M;obtain⟨v1,S,R,r1,rfl,E⟩:=La (av:=[.ptr (some (bp0,3)),.agg (AB p1)]) X (A.cut 2);replace A:=A.g22 E;refine CA 16 R H λD t H=>?_;refine AZ 5 [(5,Ai x1),(6,Ai x2)] H λD H=>Ag ?_;obtain⟨o1,O,M⟩:=AI M;refine BB (Q':=λe N Q=>(∃x5,e=.normal/\x5=o1/\Has N 25 [(5,Ai x1)]/\HH g Q [.obj bp0 (.cells none 2 (PG x3 (AR r1 x4.length) (.bool x5))),.Af r1 68 (Af AB x4),.obj h.size (.cells none 2 (AB p1))] F)\/False) ?_ ?_
 ·replace M:=O;clear O;refine AM 2 (AZ 2 [(20,.bool (x2 !=0))] H λD H=>Al 20 H M (λC M H=>?_) λC M H=>?_)
  ·refine Cb 4 ?_;obtain⟨K,X,A⟩:=A.s0 8 [.bool true] [_,_,_,_,_,_,_,_,_];refine FO 3 [] X H λD t H=>?_;refine AY ?_;exact .inl ⟨_,rfl,Aw M,H.ls,A⟩
  exact DI (.inl ⟨_,rfl,Aw M,H.ls,A⟩)
 clear O;clear A;intro e D U I;rcases I with⟨x5,rfl,rfl,H,A⟩|J
 ·show AW _ _ _ _ _ _ _;refine AM 2 (AZ 2 [(4,Ai x1)] H λD H=>Ax ?_);obtain⟨rfl,rfl,rfl⟩:=G6 M;refine⟨.inl rfl,Ai x1,rH H,?_⟩;replace A:=A.d2;exact⟨r1,rfl,A⟩
 exact J.elim
def DQ(p0:AL)(p1:Int):Option (Int×AL×(List AF)):=
 (CJ p1 p1).bind λx1=>(Bj p0 (⟨(1:Int),(0:Int),(0:Int),(0:Int),(0:Int),(0:Int),x1⟩:AF)).bind λ(x2,x3,x4)=>some (x2,(⟨x3.s_,x3.at_,x3.AX,(⟨x4,x3.t_.Ac⟩:AS),x3.Ao,x3.BH,x3.BG,x3.BW⟩:AL),x4)
theorem HM{p0 p1 bp0 rp0_3 q0 u0 u1}(M:DQ p0 p1=some (q0,u0,u1))(A:HH g h [.obj bp0 (.cells none 2 (Ae p0 (AR rp0_3 p0.t_.AK.length))),.Af rp0_3 68 (Af AB p0.t_.AK)] F)(hc:CB (cfg.still 56) av=[.ptr (some (bp0,0)),Ab p1]:=by kernel_rfl):∃v Q,Bw cfg g h 56 av v Q/\∃(r'1:Option Nat),v=Ai q0/\HH g Q [.obj bp0 (.cells none 2 (Ae u0 (AR r'1 u1.length))),.Af r'1 68 (Af AB u1)] F:=by
 refine Hs 11 [.tmp 4] hc ?_;clear hc;unfold DQ at M;refine bg 11 [(0,.ptr (some (bp0,0))),(1,Ab p1)] λD H=>?_;refine AM 1 (Eo 1 [] 7 H λD H=>?_);obtain⟨x1,X,M⟩:=AI M;obtain⟨v1,h1,R,rfl,E⟩:=Ci (av:=[Ab p1,Ab p1]) X (A.cut 0);replace A:=A.II E;refine BK 3 [(5,.ptr (some (bp0,0)))] 8 R H λD t H=>?_;obtain⟨⟨x2,x3,x4⟩,X,M⟩:=AI M;obtain⟨v1,S,R,r1,rfl,E⟩:=CQ (av:=[.ptr (some (bp0,0)),.agg [Ai 1,Ai 0,Ai 0,Ai 0,Ai 0,Ai 0,Au x1.w0,Au x1.w1,Au x1.w2,Au x1.w3]]) X (A.cut 2);replace A:=A.g22 E;refine BK 1 [] 10 R H λD t H=>?_;refine AZ 1 [(4,Ai x2)] H λD H=>Ax ?_;obtain⟨rfl,rfl,rfl⟩:=G6 M;exact⟨.inl rfl,_,rH H,_,rfl,A⟩
def CF(p0:AL)(p1:List UInt8):Option (Bool×AL):=
 (Cp p0 p1).bind λx1=>Aj (!x1) (some (false,p0)) ((Aj (!p0.AX) (some (i64.wrap ((i64.wrap (p0.at_+(p1.length:Int)))+1))) (some (i64.wrap (p0.at_+(p1.length:Int)))):Option ((Int))).bind λx2=>some (true,(⟨p0.s_,x2,p0.AX,p0.t_,p0.Ao,p0.BH,p0.BG,p0.BW⟩:AL)))
theorem C0{p0 p1 bp0 rp0_3 q0 u0}(M:CF p0 p1=some (q0,u0))(A:HH g h [.obj bp0 (.cells none 2 (Ae p0 (AR rp0_3 p0.t_.AK.length))),.Af rp0_3 68 (Af AB p0.t_.AK)] F)(hc:CB (cfg.still 40) av=[.ptr (some (bp0,0)),.str p1]:=by kernel_rfl):∃v Q,Bw cfg g h 40 av v Q/\v=.bool q0/\HH g Q [.obj bp0 (.cells none 2 (Ae u0 (AR rp0_3 p0.t_.AK.length))),.Af rp0_3 68 (Af AB p0.t_.AK)] F:=by
 refine Hs 30 [.tmp 4] hc ?_;clear hc;unfold CF at M;refine bg 30 [(0,.ptr (some (bp0,0))),(1,.str p1)] λD H=>?_;refine AM 1 (AZ 1 [] H λD H=>Ag (AM 4 ?_));obtain⟨x1,X,M⟩:=AI M;obtain⟨v1,h1,R,rfl,E⟩:=Fe (av:=[.ptr (some (bp0,0)),.str p1]) X (A.cut 2);replace A:=A.g22 E;refine BK 2 [] 7 R H λD t H=>?_;refine AZ 1 [(8,.bool (!x1))] H λD H=>Al 8 H M (λC M H=>?_) λC M H=>?_
 ·refine AM 1 (AZ 1 [(4,.bool false)] H λD H=>Ax ?_);obtain⟨rfl,rfl⟩:=FJ M;exact⟨.inl rfl,_,rH H,rfl,A⟩
 refine D3 10 id (AV 3 [(9,.ptr (some (bp0,0)))] 12 0 1 A H λD t H=>?_);obtain⟨S,X,A⟩:=A.s0 1 [Ai (i64.wrap (p0.at_+(p1.length:Int)))] [_,_,_,_,_,_,_,_,_];refine FO 5 [] X H λD t H=>?_;refine BX id (Ag ?_);obtain⟨o1,O,M⟩:=AI M;refine BB (Q':=λe N Q=>(∃x2,e=.normal/\x2=o1/\Has N 30 []/\HH g Q [.obj bp0 (.cells none 2 (HE p0 (Ai x2) (AR rp0_3 p0.t_.AK.length))),.Af rp0_3 68 (Af AB p0.t_.AK)] F)\/False) ?_ ?_
 ·replace M:=O;clear O;refine AM 5 (AV 3 [] 21 0 2 A H λD t H=>?_);refine AZ 1 [(22,.bool (!p0.AX))] H λD H=>Al 22 H M (λC M H=>?_) λC M H=>?_
  ·refine Cb 8 (AV 3 [(23,.ptr (some (bp0,0)))] 26 0 1 A H λD t H=>?_);obtain⟨K,X,A⟩:=A.s0 1 [Ai (i64.wrap ((i64.wrap (p0.at_+(p1.length:Int)))+1))] [_,_,_,_,_,_,_,_,_];refine FO 3 [] X H λD t H=>?_;refine AY ?_;exact .inl ⟨_,rfl,Aw M,H.ls,A⟩
  exact DI (.inl ⟨_,rfl,Aw M,H.ls,A⟩)
 clear O;clear A;intro e D U I;rcases I with⟨x2,rfl,rfl,H,A⟩|J
 ·show AW _ _ _ _ _ _ _;refine AM 1 (AZ 1 [(4,.bool true)] H λD H=>Ax ?_);obtain⟨rfl,rfl⟩:=FJ M;exact⟨.inl rfl,_,rH H,rfl,A⟩
 exact J.elim
def F2(p0:AL)(s:Int×Int×Int):Option ((Int×Int×Int)⊕((Int×Int×Int))):=
 match s with
 |(x1,x2,x3)=>(Aj (decide (x1<(p0.s_.length:Int))) ((OF p0.s_ x1).bind λx8=>some (decide (x8>=48))) (some false):Option (Bool)).bind λx7=>(Aj x7 ((OF p0.s_ x1).bind λx10=>some (decide (x10<=57))) (some false):Option (Bool)).bind λx9=>Aj (x9&&(decide (x3<4))) ((OF p0.s_ x1).bind λx11=>some (.inl (i64.wrap (x1+1),i64.wrap ((i64.wrap ((10:Int)*x2))+(i64.wrap (u8.wrap (x11 - 48)))),i64.wrap (x3+1)))) (some (.inr (x1,x2,x3)))
def DV(p0:AL):Option (Int×Bool×AL):=
 (loop (F2 p0) (p0.at_,(0:Int),(0:Int))).bind λ(x4,x5,x6)=>some (x5,((decide (x6>=1))&&(decide (x6<=3)))&&(decide (x5<=255)),(⟨p0.s_,x4,p0.AX,p0.t_,p0.Ao,p0.BH,p0.BG,p0.BW⟩:AL))
theorem Ia{p0 bp0 rp0_3 q0 q1 u0}(M:DV p0=some (q0,q1,u0))(A:HH g h [.obj bp0 (.cells none 2 (Ae p0 (AR rp0_3 p0.t_.AK.length))),.Af rp0_3 68 (Af AB p0.t_.AK)] F)(hc:CB (cfg.still 81) av=[.ptr (some (bp0,0))]:=by kernel_rfl):∃v Q,Bw cfg g h 81 av v Q/\v=.tuple [Ai q0,.bool q1]/\HH g Q [.obj bp0 (.cells none 2 (Ae u0 (AR rp0_3 p0.t_.AK.length))),.Af rp0_3 68 (Af AB p0.t_.AK)] F:=by
 refine Hs 78 [.tmp 2,.tmp 3] hc ?_;clear hc;unfold DV at M;refine bg 78 [(0,.ptr (some (bp0,0)))] λD H=>?_;refine AM 2 (Eo 2 [] 2 H λD H=>AZ 2 [(4,Ai 0),(5,Ai 0)] H λD H=>Ag (Am (id:=0) (by kernel_rfl) ?_));obtain⟨o1,O,M⟩:=AI M;refine BB (Q':=λe N Q=>(∃x4 x5 x6,e=.exit 0/\(x4,x5,x6)=o1/\Has N 78 [(4,Ai x5),(5,Ai x6)]/\HH g Q [.obj bp0 (.cells none 2 (HE p0 (Ai x4) (AR rp0_3 p0.t_.AK.length))),.Af rp0_3 68 (Af AB p0.t_.AK)] F)\/False) ?_ ?_
 ·refine CR (by kernel_rfl) (λ(s:Int×Int×Int) N Q=>∃x1 x2 x3,(x1,x2,x3)=s/\Has N 78 [(0,.ptr (some (bp0,0))),(4,Ai x2),(5,Ai x3)]/\HH g Q [.obj bp0 (.cells none 2 (HE p0 (Ai x1) (AR rp0_3 p0.t_.AK.length))),.Af rp0_3 68 (Af AB p0.t_.AK)] F) O ⟨_,_,_,rfl,H.ls,A⟩ ?_;clear O M H A;intro s q D h1 hI M;obtain⟨x1,x2,x3,rfl,H,A⟩:=hI;unfold F2 at M;refine Ag (Ag (Fj 2 38 ?_));refine AV 3 [] 9 0 1 A H λD t H=>?_;refine AV 3 [] 13 0 0 A H λD t H=>?_;refine AO 3 [(16,.bool (decide (x1<(p0.s_.length:Int))))] H λD H=>?_;obtain⟨x7,O,M⟩:=AI M;refine Ba 11 (λN Q=>Has N 78 [(0,.ptr (some (bp0,0))),(4,Ai x2),(5,Ai x3),(27,.bool x7)]/\HH g Q [.obj bp0 (.cells none 2 (HE p0 (Ai x1) (AR rp0_3 p0.t_.AK.length))),.Af rp0_3 68 (Af AB p0.t_.AK)] F) ?_ ?_
  ·rcases Ay O with⟨C,M⟩|⟨C,M⟩
   ·replace H:=H.kn 16 C;refine AV 3 [] 20 0 0 A H λD t H=>?_;refine AV 3 [] 24 0 1 A H λD t H=>?_;obtain⟨x8,X,M⟩:=AI M;refine Az 25 (Ab x8) h1 H (λD=>.of (JD (by kernel_rfl) X)) λD t H=>?_;refine AO 2 [(27,.bool (decide (x8>=48)))] H λD H=>?_;obtain rfl:=Aw M;exact AY ⟨H.ls,A⟩
   replace H:=H.kn 16 C;refine AO 11 [(27,.bool false)] H λD H=>?_;obtain rfl:=Aw M;exact AY ⟨H.ls,A⟩
  clear A;intro t D S G;obtain⟨H,A⟩:=G;refine AO 1 [(28,.bool x7)] H λD H=>?_;obtain⟨x9,O,M⟩:=AI M;refine Ba 11 (λN Q=>Has N 78 [(0,.ptr (some (bp0,0))),(4,Ai x2),(5,Ai x3),(39,.bool x9)]/\HH g Q [.obj bp0 (.cells none 2 (HE p0 (Ai x1) (AR rp0_3 p0.t_.AK.length))),.Af rp0_3 68 (Af AB p0.t_.AK)] F) ?_ ?_
  ·rcases Ay O with⟨C,M⟩|⟨C,M⟩
   ·replace H:=H.kn 28 C;refine AV 3 [] 32 0 0 A H λD t H=>?_;refine AV 3 [] 36 0 1 A H λD t H=>?_;obtain⟨x10,X,M⟩:=AI M;refine Az 37 (Ab x10) S H (λD=>.of (JD (by kernel_rfl) X)) λD t H=>?_;refine AO 2 [(39,.bool (decide (x10<=57)))] H λD H=>?_;obtain rfl:=Aw M;exact AY ⟨H.ls,A⟩
   replace H:=H.kn 28 C;refine AO 11 [(39,.bool false)] H λD H=>?_;obtain rfl:=Aw M;exact AY ⟨H.ls,A⟩
  clear A;intro t D K G;obtain⟨H,A⟩:=G;refine AO 1 [(40,.bool x9)] H λD H=>Ba 3 (λN Q=>K=Q/\Has N 78 [(0,.ptr (some (bp0,0))),(4,Ai x2),(5,Ai x3),(43,.bool (x9&&(decide (x3<4))))]) ?_ ?_
  ·cases C:(x9:Bool)with
   |true=>
    replace H:=H.kn 40 C;exact AO 3 [(43,.bool (decide (x3<4)))] H λD H=>BC H C
   |false=>
    replace H:=H.kn 40 C;exact AO 3 [(43,.bool false)] H λD H=>BC H C
  intro t D Q G;obtain⟨e,H⟩:=G;subst e;refine BX id (Al 43 H M (λC M H=>?_) λC M H=>?_)
  ·refine DD id (Am (id:=1) (by kernel_rfl) ?_);refine Ag (Fj 3 15 ?_);refine AV 5 [(45,Ai (i64.wrap ((10:Int)*x2)))] 49 0 0 A H λD t H=>?_;refine AV 3 [] 53 0 1 A H λD t H=>?_;obtain⟨x11,X,M⟩:=AI M;refine Az 54 (Ab x11) K H (λD=>.of (JD (by kernel_rfl) X)) λD t H=>?_;refine B6 4 [(0,.ptr (some (bp0,0))),(4,Ai (i64.wrap ((i64.wrap ((10:Int)*x2))+(i64.wrap (u8.wrap (x11 - 48)))))),(5,Ai x3)] H λD H=>Ce 8 id (AV 3 [(58,.ptr (some (bp0,0)))] 61 0 1 A H λD t H=>?_);obtain⟨U,X,A⟩:=A.s0 1 [Ai (i64.wrap (x1+1))] [_,_,_,_,_,_,_,_,_];refine FO 3 [] X H λD t H=>?_;refine KP 3 id (B6 3 [(0,.ptr (some (bp0,0))),(4,Ai (i64.wrap ((i64.wrap ((10:Int)*x2))+(i64.wrap (u8.wrap (x11 - 48)))))),(5,Ai (i64.wrap (x3+1)))] H λD H=>AY ?_);exact nx M ⟨_,_,_,rfl,H.ls,A⟩
  refine Bx (i:=0) (by kernel_rfl) ?_;exact nr M λe=>.inl ⟨_,_,_,rfl,e,H.ls,A⟩
 clear O;clear A;intro e D V I;rcases I with⟨x4,x5,x6,rfl,rfl,H,A⟩|J
 ·show AW _ _ _ _ _ _ _;refine AM 13 (AO 4 [(67,Ai x5),(70,.bool (decide (x6>=1)))] H λD H=>Ba 3 (λN Q=>V=Q/\Has N 78 [(4,Ai x5),(67,Ai x5),(73,.bool ((decide (x6>=1))&&(decide (x6<=3))))]) ?_ ?_)
  ·cases C:(decide (x6>=1):Bool)with
   |true=>
    replace H:=H.kn 70 C;exact AO 3 [(73,.bool (decide (x6<=3)))] H λD H=>BC H C
   |false=>
    replace H:=H.kn 70 C;exact AO 3 [(73,.bool false)] H λD H=>BC H C
  intro t D Q G;obtain⟨e,H⟩:=G;subst e;refine AO 1 [(74,.bool ((decide (x6>=1))&&(decide (x6<=3))))] H λD H=>Ba 3 (λN Q=>V=Q/\Has N 78 [(67,Ai x5),(77,.bool (((decide (x6>=1))&&(decide (x6<=3)))&&(decide (x5<=255))))]) ?_ ?_
  ·cases C:((decide (x6>=1))&&(decide (x6<=3)):Bool)with
   |true=>
    replace H:=H.kn 74 C;exact AO 3 [(77,.bool (decide (x5<=255)))] H λD H=>BC H C
   |false=>
    replace H:=H.kn 74 C;exact AO 3 [(77,.bool false)] H λD H=>BC H C
  intro t D Q G;obtain⟨e,H⟩:=G;subst e;refine AZ 2 [(2,Ai x5),(3,.bool (((decide (x6>=1))&&(decide (x6<=3)))&&(decide (x5<=255))))] H λD H=>Ax ?_;obtain⟨rfl,rfl,rfl⟩:=G6 M;exact⟨.inl rfl,_,rH H,rfl,A⟩
 exact J.elim
def CO(p0:AL)(p1:Int):Option (AL):=
 Aj (decide (p0.BG<0)) (some (⟨p0.s_,p0.at_,p0.AX,p0.t_,p0.Ao,p0.BH,p1,p0.BW⟩:AL)) (some p0)
theorem DX{p0 p1 bp0 rp0_3 u0}(M:CO p0 p1=some u0)(A:HH g h [.obj bp0 (.cells none 2 (Ae p0 (AR rp0_3 p0.t_.AK.length))),.Af rp0_3 68 (Af AB p0.t_.AK)] F)(hc:CB (cfg.still 23) av=[.ptr (some (bp0,0)),Ai p1]:=by kernel_rfl):∃v Q,Bw cfg g h 23 av v Q/\v=.tuple []/\HH g Q [.obj bp0 (.cells none 2 (Ae u0 (AR rp0_3 p0.t_.AK.length))),.Af rp0_3 68 (Af AB p0.t_.AK)] F:=by
 refine Hs 13 [] hc ?_;clear hc;unfold CO at M;refine bg 13 [(0,.ptr (some (bp0,0))),(1,Ai p1)] λD H=>?_;refine AM 5 (AV 3 [] 7 0 7 A H λD t H=>?_);refine AZ 1 [(8,.bool (decide (p0.BG<0)))] H λD H=>Al 8 H M (λC M H=>?_) λC M H=>?_
 ·refine Cb 5 ?_;obtain⟨h1,X,A⟩:=A.s0 7 [Ai p1] [_,_,_,_,_,_,_,_,_];refine FO 4 [] X H λD t H=>?_;refine AY ?_;obtain rfl:=Aw M;refine⟨.inr rfl,.tuple [],rH H,?_⟩;exact⟨rfl,A⟩
 refine DI ?_;obtain rfl:=Aw M;refine⟨.inr rfl,.tuple [],rH H,?_⟩;exact⟨rfl,A⟩
def CM(p0:BE)(p1:List UInt8):Option (Bool×BE):=
 (Kx p0.s_ (some p0.at_) none).bind λx1=>(B7 x1 p1).bind λx2=>Aj (!x2) (some (false,p0)) (some (true,(⟨p0.s_,i64.wrap (p0.at_+(p1.length:Int)),p0.H6,p0.D2⟩:BE)))
theorem Dx{p0 p1 bp0 q0 u0}(M:CM p0 p1=some (q0,u0))(A:HH g h [.obj bp0 (.cells none 2 (CZ p0))] F)(hc:CB (cfg.still 83) av=[.ptr (some (bp0,0)),.str p1]:=by kernel_rfl):∃v Q,Bw cfg g h 83 av v Q/\v=.bool q0/\HH g Q [.obj bp0 (.cells none 2 (CZ u0))] F:=by
 refine Hs 26 [.tmp 4] hc ?_;clear hc;unfold CM at M;refine bg 26 [(0,.ptr (some (bp0,0))),(1,.str p1)] λD H=>?_;refine AM 1 (AZ 1 [] H λD H=>Ag (Ag (Fj 1 12 ?_)));refine AV 3 [] 8 0 0 A H λD t H=>?_;refine AV 3 [] 12 0 1 A H λD t H=>?_;obtain⟨x1,X,M⟩:=AI M;refine Az 13 (.str x1) h H (λD=>.of (J8 (k:=.i64) (k':=.i64) (lo:=(some p0.at_)) (hi:=none) (by kernel_rfl) X)) λD t H=>?_;obtain⟨x2,X,M⟩:=AI M;obtain⟨v1,h1,R,rfl,E⟩:=Co (av:=[.str x1,.str p1]) X (A.cut 0);replace A:=A.II E;refine BK 1 [] 15 R H λD t H=>?_;refine AZ 1 [(16,.bool (!x2))] H λD H=>Al 16 H M (λC M H=>?_) λC M H=>?_
 ·refine AM 1 (AZ 1 [(4,.bool false)] H λD H=>Ax ?_);obtain⟨rfl,rfl⟩:=FJ M;exact⟨.inl rfl,_,rH H,rfl,A⟩
 refine D3 10 id (AV 3 [(17,.ptr (some (bp0,0)))] 20 0 1 A H λD t H=>?_);obtain⟨S,X,A⟩:=A.s0 1 [Ai (i64.wrap (p0.at_+(p1.length:Int)))] [_,_,_,_,_,_,_];refine FO 5 [] X H λD t H=>?_;refine Ce 1 id (AZ 1 [(4,.bool true)] H λD H=>Ax ?_);obtain⟨rfl,rfl⟩:=FJ M;exact⟨.inl rfl,_,rH H,rfl,A⟩
def E6(p0:AL):Option (Bool):=
 (DZ (⟨p0.s_,i64.wrap (p0.at_+1),p0.AX,p0.t_,p0.Ao,p0.BH,p0.BG,p0.BW⟩:AL)).bind λx1=>some x1
theorem MT{p0 bp0 rp0_3 q0}(M:E6 p0=some q0)(A:HH g h [.obj bp0 (.cells none 2 (Ae p0 (AR rp0_3 p0.t_.AK.length))),.Af rp0_3 68 (Af AB p0.t_.AK)] F)(hc:CB (cfg.still 76) av=[.ptr (some (bp0,0))]:=by kernel_rfl):∃v Q,Bw cfg g h 76 av v Q/\v=.bool q0/\HH g Q [.obj bp0 (.cells none 2 (Ae p0 (AR rp0_3 p0.t_.AK.length))),.Af rp0_3 68 (Af AB p0.t_.AK)] F:=by
 refine Hs 12 [.tmp 2] hc ?_;clear hc;unfold E6 at M;refine bg 12 [(0,.ptr (some (bp0,0)))] λD H=>?_;refine AM 1 (Eo 1 [] 5 H λD H=>Bk 2 [] 6 _ _ H (λD=>.of (Bb (by kernel_rfl) (A.Eb 0 rfl (o:=0) (n:=9) ⟨zb rfl,rfl⟩))) λD t H=>?_);obtain⟨h1,e1,A⟩:=A.pu (.cells none 2 [.str ([]:Ym),Ai 0,.bool false,.slice none 0,Ai 0,Ai 0,Ai 0,Ai 0,.bool false]);refine Bq 3 (.ptr (some (h.size,0))) e1 H λD t H=>?_;obtain⟨S,X,A⟩:=A.s0 0 (Ae p0 (AR rp0_3 p0.t_.AK.length)) [_,_,_,_,_,_,_,_,_];refine DL X H λD t H=>?_;refine Ce 5 id (AV 1 [] 8 0 1 A H λD t H=>?_);obtain⟨K,X,A⟩:=A.s0 1 [Ai (i64.wrap (p0.at_+1))] [_,_,_,_,_,_,_,_,_];refine FO 2 [] X H λD t H=>?_;refine Ce 2 id ?_;replace A:=A.k3 0 2 1;obtain⟨x1,X,M⟩:=AI M;obtain⟨v1,U,R,rfl,E⟩:=IM (av:=[.ptr (some (h.size,0))]) X (A.cut 2);replace A:=A.g22 E;refine CA 11 R H λD t H=>?_;refine AZ 1 [(2,.bool x1)] H λD H=>Ax ?_;obtain rfl:=Aw M;refine⟨.inl rfl,.bool x1,rH H,?_⟩;replace A:=A.k2 2 1;exact⟨rfl,A⟩
end
end Go.Av.L
