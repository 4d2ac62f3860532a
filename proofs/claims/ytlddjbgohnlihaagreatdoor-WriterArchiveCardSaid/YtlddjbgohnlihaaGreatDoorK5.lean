/-
 A part.
-/
import Derived.Test.YtlddjbgohnlihaaGreatDoorK4
namespace Go.Av.L
open IntKind (i64)
open Go.Av Go.Lib
set_option maxRecDepth 10000
set_option linter.unusedVariables false
set_option linter.unusedSimpArgs false
variable {g:Gd} {h:AI} {F:List Ck} {av:List AB}
noncomputable section
def D7(p0:List UInt8):Option (AN×Int):=
 AX ((p0.length:Int) !=512) (some ((⟨([]:UV),([]:UV),(0:Int),(0:Int),(0:Int),(0:Int),(0:Int),(0:Int),([]:UV),([]:UV),(0:Int),(0:Int),(0:Int)⟩:AN),(1:Int))) ((EA p0).bind fun x1=>AX (!x1) (some ((⟨([]:UV),([]:UV),(0:Int),(0:Int),(0:Int),(0:Int),(0:Int),(0:Int),([]:UV),([]:UV),(0:Int),(0:Int),(0:Int)⟩:AN),(4:Int))) ((D6 p0 (some (257:Int)) (some (265:Int))).bind fun x2=>(AX (x2==([117,115,116,97,114,0,48,48]:UV)) (some (2:Int)) (AX (x2==([117,115,116,97,114,32,32,0]:UV)) (some (3:Int)) (none)):Option ((Int))).bind fun x3=>(BR p0 (100:Int) (8:Int) false).bind fun(x4,x5)=>AX (x5 !=0) (some ((⟨([]:UV),([]:UV),(0:Int),(0:Int),(0:Int),(0:Int),(0:Int),(0:Int),([]:UV),([]:UV),(0:Int),(0:Int),(0:Int)⟩:AN),x5)) ((BR p0 (108:Int) (8:Int) false).bind fun(x6,x7)=>AX (x7 !=0) (some ((⟨([]:UV),([]:UV),(0:Int),(0:Int),(0:Int),(0:Int),(0:Int),(0:Int),([]:UV),([]:UV),(0:Int),(0:Int),(0:Int)⟩:AN),x7)) ((BR p0 (116:Int) (8:Int) false).bind fun(x8,x9)=>AX (x9 !=0) (some ((⟨([]:UV),([]:UV),(0:Int),(0:Int),(0:Int),(0:Int),(0:Int),(0:Int),([]:UV),([]:UV),(0:Int),(0:Int),(0:Int)⟩:AN),x9)) ((BR p0 (124:Int) (12:Int) false).bind fun(x10,x11)=>AX (x11 !=0) (some ((⟨([]:UV),([]:UV),(0:Int),(0:Int),(0:Int),(0:Int),(0:Int),(0:Int),([]:UV),([]:UV),(0:Int),(0:Int),(0:Int)⟩:AN),x11)) ((BR p0 (136:Int) (12:Int) true).bind fun(x12,x13)=>AX (x13 !=0) (some ((⟨([]:UV),([]:UV),(0:Int),(0:Int),(0:Int),(0:Int),(0:Int),(0:Int),([]:UV),([]:UV),(0:Int),(0:Int),(0:Int)⟩:AN),x13)) ((AX (decide (x3>1)) ((BR p0 (329:Int) (8:Int) false).bind fun(x19,x20)=>AX (x20 !=0) (some (.inr x20)) ((BR p0 (337:Int) (8:Int) false).bind fun(x21,x22)=>AX (x22 !=0) (some (.inr x22)) ((D6 p0 (some (265:Int)) (some (297:Int))).bind fun x23=>(A6 x23).bind fun x24=>(D6 p0 (some (297:Int)) (some (329:Int))).bind fun x25=>(A6 x25).bind fun x26=>some (.inl (x24,x26,x19,x21))))) (some (.inl (([]:UV),([]:UV),(0:Int),(0:Int)))):Option (((List UInt8)×(List UInt8)×Int×Int)⊕(Int))).bind fun o2=>(match o2 with| .inl (x14,x15,x16,x17)=>(D6 p0 none (some (100:Int))).bind fun x27=>(A6 x27).bind fun x28=>(D6 p0 (some (345:Int)) (some (500:Int))).bind fun x29=>(A6 x29).bind fun x30=>(AX ((x3==2)&&(!(x30==([]:UV)))) (Bn (decide (x30.length+([47]:UV).length≤9223372036854775807))<|Bn (decide ((x30++([47]:UV)).length+x28.length≤9223372036854775807))<|some ((x30++([47]:UV))++x28)) (some x28):Option (((List UInt8)))).bind fun x31=>(D6 p0 (some (157:Int)) (some (257:Int))).bind fun x32=>(A6 x32).bind fun x33=>(JQ p0 (156:Int)).bind fun x34=>(AX (x34==0) (some (48:Int)) (some x34):Option ((Int))).bind fun x35=>some ((⟨x31,x33,x35,x4,x6,x8,x10,x12,x14,x15,x16,x17,x3⟩:AN),(0:Int))| .inr x18=>some ((⟨([]:UV),([]:UV),(0:Int),(0:Int),(0:Int),(0:Int),(0:Int),(0:Int),([]:UV),([]:UV),(0:Int),(0:Int),(0:Int)⟩:AN),x18)))))))))
theorem K5{p0 q0 q1}(M:D7 p0=some (q0,q1))(A:HH g h [] F)(hc:BA (cfg.still 34) av=[.str p0]:=by kernel_rfl):∃v Q,BI cfg g h 34 av v Q∧v=.tuple [.agg (AL q0),Ai q1]∧HH g Q [] F:=by
 refine EL 144 [.cell 2 75,.tmp 3] hc ?_;clear hc;unfold D7 at M;refine bg 144 [(0,.str p0)] fun D H=>?_;refine AF 2 ?_;obtain⟨h1,e1,A⟩:=A.pu (.cells none 2 [.str ([]:UV),.str ([]:UV),Ab 0,Ai 0,Ai 0,Ai 0,Ai 0,Ai 0,.str ([]:UV),.str ([]:UV),Ai 0,Ai 0,Ai 0]);refine A9 2 (.ptr (some (h.size,0))) e1 H fun D t H=>?_;refine Bk 1 [] 3 H fun D H=>?_;obtain⟨h2,e2,A⟩:=A.pu (.cells none 2 [.str ([]:UV),.str ([]:UV),Ab 0,Ai 0,Ai 0,Ai 0,Ai 0,Ai 0,.str ([]:UV),.str ([]:UV),Ai 0,Ai 0,Ai 0]);refine IS 1 [(9,.agg [.str ([]:UV),.str ([]:UV),Ab (0:Int),Ai (0:Int),Ai (0:Int),Ai (0:Int),Ai (0:Int),Ai (0:Int),.str ([]:UV),.str ([]:UV),Ai (0:Int),Ai (0:Int),Ai (0:Int)])] 4 (.ptr (some (h1.size,0))) e2 H fun D t H=>?_;obtain⟨T,X,E⟩:=A.st 0 rfl (o:=0) (new:=[.str ([]:UV),.str ([]:UV),Ab 0,Ai 0,Ai 0,Ai 0,Ai 0,Ai 0,.str ([]:UV),.str ([]:UV),Ai 0,Ai 0,Ai 0]) (ds:=[.str ([]:UV),.str ([]:UV),Ab 0,Ai 0,Ai 0,Ai 0,Ai 0,Ai 0,.str ([]:UV),.str ([]:UV),Ai 0,Ai 0,Ai 0]) (zb rfl) rfl rfl;replace A:HH g T [.obj h1.size (.cells none 2 [.str ([]:UV),.str ([]:UV),Ab 0,Ai 0,Ai 0,Ai 0,Ai 0,Ai 0,.str ([]:UV),.str ([]:UV),Ai 0,Ai 0,Ai 0]),.obj h.size (.cells none 2 [.str ([]:UV),.str ([]:UV),Ab 0,Ai 0,Ai 0,Ai 0,Ai 0,Ai 0,.str ([]:UV),.str ([]:UV),Ai 0,Ai 0,Ai 0])] F:=E;refine Ca X H fun D t H=>?_;refine A8 id (AO (AF 3 (AM 3 [(12,.bool ((p0.length:Int) !=512))] H fun D H=>AU 12 H M (fun B M H=>?_) fun B M H=>?_)))
 ·refine AF 3 (Aa 13 _ _ H (fun D=>.of (Ay (by kernel_rfl) (A.DY 0 rfl (o:=0) (n:=13) ⟨zb rfl,rfl⟩))) fun D t H=>?_);obtain⟨Y,X,A⟩:=A.s1 0 [.str ([]:UV),.str ([]:UV),Ab 0,Ai 0,Ai 0,Ai 0,Ai 0,Ai 0,.str ([]:UV),.str ([]:UV),Ai 0,Ai 0,Ai 0] [_,_,_,_,_,_,_,_,_,_,_,_,_];refine Ca X H fun D t H=>?_;refine AM 1 [(3,Ai 1)] H fun D H=>AY ?_;obtain⟨rfl,rfl⟩:=B3 M;refine⟨.inl rfl,.tuple [.agg [.str ([]:UV),.str ([]:UV),Ab 0,Ai 0,Ai 0,Ai 0,Ai 0,Ai 0,.str ([]:UV),.str ([]:UV),Ai 0,Ai 0,Ai 0],Ai 1],Bs (.cell (rT H) (Bm (by kernel_rfl) (by kernel_rfl) (A.la 1 0 13)) (.tmp (rT H) .nil)),?_⟩;replace A:=A.d0;exact⟨rfl,A⟩
 refine BY id (AO (AF 3 ?_));obtain⟨x1,X,M⟩:=bind_some M;obtain⟨v1,J,R,rfl,E⟩:=K6 (av:=[.str p0]) X (A.cut 0);replace A:=A.Dx E;refine Az 1 [] 15 R H fun D t H=>?_;refine AM 1 [(16,.bool (!x1))] H fun D H=>AU 16 H M (fun B M H=>?_) fun B M H=>?_
 ·refine AF 3 (Aa 17 _ _ H (fun D=>.of (Ay (by kernel_rfl) (A.DY 0 rfl (o:=0) (n:=13) ⟨zb rfl,rfl⟩))) fun D t H=>?_);obtain⟨W,X,A⟩:=A.s1 0 [.str ([]:UV),.str ([]:UV),Ab 0,Ai 0,Ai 0,Ai 0,Ai 0,Ai 0,.str ([]:UV),.str ([]:UV),Ai 0,Ai 0,Ai 0] [_,_,_,_,_,_,_,_,_,_,_,_,_];refine Ca X H fun D t H=>?_;refine AM 1 [(3,Ai 4)] H fun D H=>AY ?_;obtain⟨rfl,rfl⟩:=B3 M;refine⟨.inl rfl,.tuple [.agg [.str ([]:UV),.str ([]:UV),Ab 0,Ai 0,Ai 0,Ai 0,Ai 0,Ai 0,.str ([]:UV),.str ([]:UV),Ai 0,Ai 0,Ai 0],Ai 4],Bs (.cell (rT H) (Bm (by kernel_rfl) (by kernel_rfl) (A.la 1 0 13)) (.tmp (rT H) .nil)),?_⟩;replace A:=A.d0;exact⟨rfl,A⟩
 refine BZ 3 id ?_;obtain⟨Z,e3,A⟩:=A.pu (.cells none 2 [.str ([]:UV),.str ([]:UV),Ab 0,Ai 0,Ai 0,Ai 0,Ai 0,Ai 0,.str ([]:UV),.str ([]:UV),Ai 0,Ai 0,Ai 0]);refine IS 1 [(18,.agg [.str ([]:UV),.str ([]:UV),Ab (0:Int),Ai (0:Int),Ai (0:Int),Ai (0:Int),Ai (0:Int),Ai (0:Int),.str ([]:UV),.str ([]:UV),Ai (0:Int),Ai (0:Int),Ai (0:Int)])] 5 (.ptr (some (J.size,0))) e3 H fun D t H=>?_;obtain⟨V,X,A⟩:=A.s0 0 [.str ([]:UV),.str ([]:UV),Ab 0,Ai 0,Ai 0,Ai 0,Ai 0,Ai 0,.str ([]:UV),.str ([]:UV),Ai 0,Ai 0,Ai 0] [_,_,_,_,_,_,_,_,_,_,_,_,_];refine Ca X H fun D t H=>?_;refine Be 3 id ?_;obtain⟨x2,X,M⟩:=bind_some M;refine Aq 1 [] 20 (.str x2) V H (fun D=>.of (Cy (k:=.i64) (k':=.i64) (lo:=(some (257:Int))) (hi:=(some (265:Int))) (by kernel_rfl) X)) fun D t H=>?_;refine AM 1 [(6,.str x2)] H fun D H=>AO ?_;obtain⟨o1,O,M⟩:=bind_some M;refine An (Q':=fun e N Q=>(∃x3,e=.normal∧x3=o1∧Has N 144 [(0,.str p0),(2,.ptr (some (h.size,0))),(4,.ptr (some (h1.size,0))),(5,.ptr (some (J.size,0)))]∧HH g Q [.obj J.size (.cells none 2 [.str ([]:UV),.str ([]:UV),Ab 0,Ai 0,Ai 0,Ai 0,Ai 0,Ai 0,.str ([]:UV),.str ([]:UV),Ai 0,Ai 0,Ai x3]),.obj h1.size (.cells none 2 [.str ([]:UV),.str ([]:UV),Ab 0,Ai 0,Ai 0,Ai 0,Ai 0,Ai 0,.str ([]:UV),.str ([]:UV),Ai 0,Ai 0,Ai 0]),.obj h.size (.cells none 2 [.str ([]:UV),.str ([]:UV),Ab 0,Ai 0,Ai 0,Ai 0,Ai 0,Ai 0,.str ([]:UV),.str ([]:UV),Ai 0,Ai 0,Ai 0])] F)∨False) ?_ ?_
 ·replace M:=O;clear O;refine AF 2 (AM 2 [(22,.bool (x2==([117,115,116,97,114,0,48,48]:UV)))] H fun D H=>AU 22 H M (fun B M H=>?_) fun B M H=>?_)
  ·refine BH 2 ?_;obtain⟨h9,X,A⟩:=A.s0 12 [Ai 2] [_,_,_,_,_,_,_,_,_,_,_,_,_];refine Bc 1 [] X H fun D t H=>?_;refine at_nil ?_;exact .inl ⟨_,rfl,Ac M,H.ls,A⟩
  refine AF 2 (AM 2 [(25,.bool (x2==([117,115,116,97,114,32,32,0]:UV)))] H fun D H=>AU 25 H M (fun B M H=>?_) fun B M H=>?_)
  ·refine BH 2 ?_;obtain⟨h10,X,A⟩:=A.s0 12 [Ai 3] [_,_,_,_,_,_,_,_,_,_,_,_,_];refine Bc 1 [] X H fun D t H=>?_;refine at_nil ?_;exact .inl ⟨_,rfl,Ac M,H.ls,A⟩
  refine AF 2 ?_;cases M
 clear O;clear A;intro e D U C;rcases C with⟨x3,rfl,rfl,H,A⟩|I
 ·show AW _ _ _ _ _ _ _;refine AF 1 (Bk 1 [] 8 H fun D H=>?_);obtain⟨⟨x4,x5⟩,X,M⟩:=bind_some M;obtain⟨v1,h12,R,rfl,E⟩:=By (av:=[.str p0,Ai 100,Ai 8,.bool false]) X (A.cut 0);replace A:=A.Dx E;refine Az 1 [] 33 R H fun D t H=>?_;obtain⟨h13,X,A⟩:=A.s0 3 [Ai x4] [_,_,_,_,_,_,_,_,_,_,_,_,_];refine Bc 4 [(35,Ai x5)] X H fun D t H=>?_;refine AM 1 [(7,Ai x5)] H fun D H=>AO (AF 2 (AM 2 [(38,.bool (x5 !=0))] H fun D H=>AU 38 H M (fun B M H=>?_) fun B M H=>?_))
  ·refine AF 4 (Aa 39 _ _ H (fun D=>.of (Ay (by kernel_rfl) (A.DY 1 rfl (o:=0) (n:=13) ⟨zb rfl,rfl⟩))) fun D t H=>?_);obtain⟨h14,X,A⟩:=A.s2 0 [.str ([]:UV),.str ([]:UV),Ab 0,Ai 0,Ai 0,Ai 0,Ai 0,Ai 0,.str ([]:UV),.str ([]:UV),Ai 0,Ai 0,Ai 0] [_,_,_,_,_,_,_,_,_,_,_,_,_];refine FG 1 [(40,Ai x5)] X H fun D t H=>?_;refine AM 1 [(3,Ai x5)] H fun D H=>AY ?_;obtain⟨rfl,rfl⟩:=B3 M;refine⟨.inl rfl,.tuple [.agg [.str ([]:UV),.str ([]:UV),Ab 0,Ai 0,Ai 0,Ai 0,Ai 0,Ai 0,.str ([]:UV),.str ([]:UV),Ai 0,Ai 0,Ai 0],Ai x5],Bs (.cell (rT H) (Bm (by kernel_rfl) (by kernel_rfl) (A.la 2 0 13)) (.tmp (rT H) .nil)),?_⟩;replace A:=A.d0;exact⟨rfl,A⟩
  refine BZ 8 id ?_;obtain⟨⟨x6,x7⟩,X,M⟩:=bind_some M;obtain⟨v1,h15,R,rfl,E⟩:=By (av:=[.str p0,Ai 108,Ai 8,.bool false]) X (A.cut 0);replace A:=A.Dx E;refine Az 1 [] 43 R H fun D t H=>?_;obtain⟨h16,X,A⟩:=A.s0 4 [Ai x6] [_,_,_,_,_,_,_,_,_,_,_,_,_];refine Bc 4 [(45,Ai x7)] X H fun D t H=>?_;refine Aw 1 [(0,.str p0),(2,.ptr (some (h.size,0))),(4,.ptr (some (h1.size,0))),(5,.ptr (some (J.size,0))),(7,Ai x7)] H fun D H=>A8 id (AO (AF 2 (AM 2 [(48,.bool (x7 !=0))] H fun D H=>AU 48 H M (fun B M H=>?_) fun B M H=>?_)))
  ·refine AF 4 (Aa 49 _ _ H (fun D=>.of (Ay (by kernel_rfl) (A.DY 1 rfl (o:=0) (n:=13) ⟨zb rfl,rfl⟩))) fun D t H=>?_);obtain⟨h17,X,A⟩:=A.s2 0 [.str ([]:UV),.str ([]:UV),Ab 0,Ai 0,Ai 0,Ai 0,Ai 0,Ai 0,.str ([]:UV),.str ([]:UV),Ai 0,Ai 0,Ai 0] [_,_,_,_,_,_,_,_,_,_,_,_,_];refine FG 1 [(50,Ai x7)] X H fun D t H=>?_;refine AM 1 [(3,Ai x7)] H fun D H=>AY ?_;obtain⟨rfl,rfl⟩:=B3 M;refine⟨.inl rfl,.tuple [.agg [.str ([]:UV),.str ([]:UV),Ab 0,Ai 0,Ai 0,Ai 0,Ai 0,Ai 0,.str ([]:UV),.str ([]:UV),Ai 0,Ai 0,Ai 0],Ai x7],Bs (.cell (rT H) (Bm (by kernel_rfl) (by kernel_rfl) (A.la 2 0 13)) (.tmp (rT H) .nil)),?_⟩;replace A:=A.d0;exact⟨rfl,A⟩
  refine BZ 8 id ?_;obtain⟨⟨x8,x9⟩,X,M⟩:=bind_some M;obtain⟨v1,h18,R,rfl,E⟩:=By (av:=[.str p0,Ai 116,Ai 8,.bool false]) X (A.cut 0);replace A:=A.Dx E;refine Az 1 [] 53 R H fun D t H=>?_;obtain⟨h19,X,A⟩:=A.s0 5 [Ai x8] [_,_,_,_,_,_,_,_,_,_,_,_,_];refine Bc 4 [(55,Ai x9)] X H fun D t H=>?_;refine Aw 1 [(0,.str p0),(2,.ptr (some (h.size,0))),(4,.ptr (some (h1.size,0))),(5,.ptr (some (J.size,0))),(7,Ai x9)] H fun D H=>A8 id (AO (AF 2 (AM 2 [(58,.bool (x9 !=0))] H fun D H=>AU 58 H M (fun B M H=>?_) fun B M H=>?_)))
  ·refine AF 4 (Aa 59 _ _ H (fun D=>.of (Ay (by kernel_rfl) (A.DY 1 rfl (o:=0) (n:=13) ⟨zb rfl,rfl⟩))) fun D t H=>?_);obtain⟨h20,X,A⟩:=A.s2 0 [.str ([]:UV),.str ([]:UV),Ab 0,Ai 0,Ai 0,Ai 0,Ai 0,Ai 0,.str ([]:UV),.str ([]:UV),Ai 0,Ai 0,Ai 0] [_,_,_,_,_,_,_,_,_,_,_,_,_];refine FG 1 [(60,Ai x9)] X H fun D t H=>?_;refine AM 1 [(3,Ai x9)] H fun D H=>AY ?_;obtain⟨rfl,rfl⟩:=B3 M;refine⟨.inl rfl,.tuple [.agg [.str ([]:UV),.str ([]:UV),Ab 0,Ai 0,Ai 0,Ai 0,Ai 0,Ai 0,.str ([]:UV),.str ([]:UV),Ai 0,Ai 0,Ai 0],Ai x9],Bs (.cell (rT H) (Bm (by kernel_rfl) (by kernel_rfl) (A.la 2 0 13)) (.tmp (rT H) .nil)),?_⟩;replace A:=A.d0;exact⟨rfl,A⟩
  refine BZ 8 id ?_;obtain⟨⟨x10,x11⟩,X,M⟩:=bind_some M;obtain⟨v1,h21,R,rfl,E⟩:=By (av:=[.str p0,Ai 124,Ai 12,.bool false]) X (A.cut 0);replace A:=A.Dx E;refine Az 1 [] 63 R H fun D t H=>?_;obtain⟨h22,X,A⟩:=A.s0 6 [Ai x10] [_,_,_,_,_,_,_,_,_,_,_,_,_];refine Bc 4 [(65,Ai x11)] X H fun D t H=>?_;refine Aw 1 [(0,.str p0),(2,.ptr (some (h.size,0))),(4,.ptr (some (h1.size,0))),(5,.ptr (some (J.size,0))),(7,Ai x11)] H fun D H=>A8 id (AO (AF 2 (AM 2 [(68,.bool (x11 !=0))] H fun D H=>AU 68 H M (fun B M H=>?_) fun B M H=>?_)))
  ·refine AF 4 (Aa 69 _ _ H (fun D=>.of (Ay (by kernel_rfl) (A.DY 1 rfl (o:=0) (n:=13) ⟨zb rfl,rfl⟩))) fun D t H=>?_);obtain⟨h23,X,A⟩:=A.s2 0 [.str ([]:UV),.str ([]:UV),Ab 0,Ai 0,Ai 0,Ai 0,Ai 0,Ai 0,.str ([]:UV),.str ([]:UV),Ai 0,Ai 0,Ai 0] [_,_,_,_,_,_,_,_,_,_,_,_,_];refine FG 1 [(70,Ai x11)] X H fun D t H=>?_;refine AM 1 [(3,Ai x11)] H fun D H=>AY ?_;obtain⟨rfl,rfl⟩:=B3 M;refine⟨.inl rfl,.tuple [.agg [.str ([]:UV),.str ([]:UV),Ab 0,Ai 0,Ai 0,Ai 0,Ai 0,Ai 0,.str ([]:UV),.str ([]:UV),Ai 0,Ai 0,Ai 0],Ai x11],Bs (.cell (rT H) (Bm (by kernel_rfl) (by kernel_rfl) (A.la 2 0 13)) (.tmp (rT H) .nil)),?_⟩;replace A:=A.d0;exact⟨rfl,A⟩
  refine BZ 8 id ?_;obtain⟨⟨x12,x13⟩,X,M⟩:=bind_some M;obtain⟨v1,h24,R,rfl,E⟩:=By (av:=[.str p0,Ai 136,Ai 12,.bool true]) X (A.cut 0);replace A:=A.Dx E;refine Az 1 [] 73 R H fun D t H=>?_;obtain⟨h25,X,A⟩:=A.s0 7 [Ai x12] [_,_,_,_,_,_,_,_,_,_,_,_,_];refine Bc 4 [(75,Ai x13)] X H fun D t H=>?_;refine Aw 1 [(0,.str p0),(2,.ptr (some (h.size,0))),(4,.ptr (some (h1.size,0))),(5,.ptr (some (J.size,0))),(7,Ai x13)] H fun D H=>A8 id (AO (AF 2 (AM 2 [(78,.bool (x13 !=0))] H fun D H=>AU 78 H M (fun B M H=>?_) fun B M H=>?_)))
  ·refine AF 4 (Aa 79 _ _ H (fun D=>.of (Ay (by kernel_rfl) (A.DY 1 rfl (o:=0) (n:=13) ⟨zb rfl,rfl⟩))) fun D t H=>?_);obtain⟨h26,X,A⟩:=A.s2 0 [.str ([]:UV),.str ([]:UV),Ab 0,Ai 0,Ai 0,Ai 0,Ai 0,Ai 0,.str ([]:UV),.str ([]:UV),Ai 0,Ai 0,Ai 0] [_,_,_,_,_,_,_,_,_,_,_,_,_];refine FG 1 [(80,Ai x13)] X H fun D t H=>?_;refine AM 1 [(3,Ai x13)] H fun D H=>AY ?_;obtain⟨rfl,rfl⟩:=B3 M;refine⟨.inl rfl,.tuple [.agg [.str ([]:UV),.str ([]:UV),Ab 0,Ai 0,Ai 0,Ai 0,Ai 0,Ai 0,.str ([]:UV),.str ([]:UV),Ai 0,Ai 0,Ai 0],Ai x13],Bs (.cell (rT H) (Bm (by kernel_rfl) (by kernel_rfl) (A.la 2 0 13)) (.tmp (rT H) .nil)),?_⟩;replace A:=A.d0;exact⟨rfl,A⟩
  refine BY id (AO ?_);obtain⟨o2,O,M⟩:=bind_some M;refine An (Q':=fun e N Q=>(∃x14 x15 x16 x17,e=.normal∧.inl (x14,x15,x16,x17)=o2∧Has N 144 [(0,.str p0),(2,.ptr (some (h.size,0))),(5,.ptr (some (J.size,0)))]∧HH g Q [.obj J.size (.cells none 2 [.str ([]:UV),.str ([]:UV),Ab 0,Ai x4,Ai x6,Ai x8,Ai x10,Ai x12,.str x14,.str x15,Ai x16,Ai x17,Ai x3]),.obj h.size (.cells none 2 [.str ([]:UV),.str ([]:UV),Ab 0,Ai 0,Ai 0,Ai 0,Ai 0,Ai 0,.str ([]:UV),.str ([]:UV),Ai 0,Ai 0,Ai 0])] F)∨(∃x18,e=.ret∧.inr x18=o2∧Has N 144 [(2,.ptr (some (h.size,0))),(3,Ai x18)]∧HH g Q [.obj h.size (.cells none 2 [.str ([]:UV),.str ([]:UV),Ab 0,Ai 0,Ai 0,Ai 0,Ai 0,Ai 0,.str ([]:UV),.str ([]:UV),Ai 0,Ai 0,Ai 0])] F)∨False) ?_ ?_
  ·replace M:=O;clear O;refine AF 3 (AS 1 [] 82 0 12 A H fun D t H=>?_);refine AM 1 [(83,.bool (decide (x3>1)))] H fun D H=>AU 83 H M (fun B M H=>?_) fun B M H=>?_
   ·refine AF 8 ?_;obtain⟨⟨x19,x20⟩,X,M⟩:=bind_some M;obtain⟨v1,h27,R,rfl,E⟩:=By (av:=[.str p0,Ai 329,Ai 8,.bool false]) X (A.cut 0);replace A:=A.Dx E;refine Az 1 [] 86 R H fun D t H=>?_;obtain⟨h28,X,A⟩:=A.s0 10 [Ai x19] [_,_,_,_,_,_,_,_,_,_,_,_,_];refine Bc 4 [(88,Ai x20)] X H fun D t H=>?_;refine Aw 1 [(0,.str p0),(2,.ptr (some (h.size,0))),(4,.ptr (some (h1.size,0))),(5,.ptr (some (J.size,0))),(7,Ai x20)] H fun D H=>A8 id (AO (AF 2 (AM 2 [(91,.bool (x20 !=0))] H fun D H=>AU 91 H M (fun B M H=>?_) fun B M H=>?_)))
    ·refine AF 4 (Aa 92 _ _ H (fun D=>.of (Ay (by kernel_rfl) (A.DY 1 rfl (o:=0) (n:=13) ⟨zb rfl,rfl⟩))) fun D t H=>?_);obtain⟨h29,X,A⟩:=A.s2 0 [.str ([]:UV),.str ([]:UV),Ab 0,Ai 0,Ai 0,Ai 0,Ai 0,Ai 0,.str ([]:UV),.str ([]:UV),Ai 0,Ai 0,Ai 0] [_,_,_,_,_,_,_,_,_,_,_,_,_];refine FG 1 [(93,Ai x20)] X H fun D t H=>?_;refine AM 1 [(3,Ai x20)] H fun D H=>AY ?_;replace A:=A.k1 2;exact .inr (.inl ⟨_,rfl,Ac M,H.ls,A⟩)
    refine BZ 8 id ?_;obtain⟨⟨x21,x22⟩,X,M⟩:=bind_some M;obtain⟨v1,h30,R,rfl,E⟩:=By (av:=[.str p0,Ai 337,Ai 8,.bool false]) X (A.cut 0);replace A:=A.Dx E;refine Az 1 [] 96 R H fun D t H=>?_;obtain⟨h31,X,A⟩:=A.s0 11 [Ai x21] [_,_,_,_,_,_,_,_,_,_,_,_,_];refine Bc 4 [(98,Ai x22)] X H fun D t H=>?_;refine Aw 1 [(0,.str p0),(2,.ptr (some (h.size,0))),(4,.ptr (some (h1.size,0))),(5,.ptr (some (J.size,0))),(7,Ai x22)] H fun D H=>A8 id (AO (AF 2 (AM 2 [(101,.bool (x22 !=0))] H fun D H=>AU 101 H M (fun B M H=>?_) fun B M H=>?_)))
    ·refine AF 4 (Aa 102 _ _ H (fun D=>.of (Ay (by kernel_rfl) (A.DY 1 rfl (o:=0) (n:=13) ⟨zb rfl,rfl⟩))) fun D t H=>?_);obtain⟨h32,X,A⟩:=A.s2 0 [.str ([]:UV),.str ([]:UV),Ab 0,Ai 0,Ai 0,Ai 0,Ai 0,Ai 0,.str ([]:UV),.str ([]:UV),Ai 0,Ai 0,Ai 0] [_,_,_,_,_,_,_,_,_,_,_,_,_];refine FG 1 [(103,Ai x22)] X H fun D t H=>?_;refine AM 1 [(3,Ai x22)] H fun D H=>AY ?_;replace A:=A.k1 2;exact .inr (.inl ⟨_,rfl,Ac M,H.ls,A⟩)
    refine BZ 5 id ?_;obtain⟨x23,X,M⟩:=bind_some M;refine Aq 1 [] 105 (.str x23) h31 H (fun D=>.of (Cy (k:=.i64) (k':=.i64) (lo:=(some (265:Int))) (hi:=(some (297:Int))) (by kernel_rfl) X)) fun D t H=>?_;obtain⟨x24,X,M⟩:=bind_some M;obtain⟨v1,h33,R,rfl,E⟩:=Bd (av:=[.str x23]) X (A.cut 0);replace A:=A.Dx E;refine A5 106 R H fun D t H=>?_;obtain⟨h34,X,A⟩:=A.s0 8 [.str x24] [_,_,_,_,_,_,_,_,_,_,_,_,_];refine Bc 1 [] X H fun D t H=>?_;refine Ee 5 id ?_;obtain⟨x25,X,M⟩:=bind_some M;refine Aq 1 [] 109 (.str x25) h34 H (fun D=>.of (Cy (k:=.i64) (k':=.i64) (lo:=(some (297:Int))) (hi:=(some (329:Int))) (by kernel_rfl) X)) fun D t H=>?_;obtain⟨x26,X,M⟩:=bind_some M;obtain⟨v1,h35,R,rfl,E⟩:=Bd (av:=[.str x25]) X (A.cut 0);replace A:=A.Dx E;refine A5 110 R H fun D t H=>?_;obtain⟨h36,X,A⟩:=A.s0 9 [.str x26] [_,_,_,_,_,_,_,_,_,_,_,_,_];refine Bc 1 [] X H fun D t H=>?_;refine at_nil ?_;replace A:=A.k2 0 2;exact .inl ⟨_,_,_,_,rfl,Ac M,H.ls,A⟩
   refine Dp ?_;replace A:=A.k2 0 2;exact .inl ⟨_,_,_,_,rfl,Ac M,H.ls,A⟩
  clear O;clear A;intro e D h37 C;rcases C with⟨x14,x15,x16,x17,rfl,rfl,H,A⟩|⟨x18,rfl,rfl,H,A⟩|I
  ·show AW _ _ _ _ _ _ _;refine AF 5 ?_;obtain⟨x27,X,M⟩:=bind_some M;refine Aq 1 [] 113 (.str x27) h37 H (fun D=>.of (Cy (k:=.i64) (k':=.i64) (lo:=none) (hi:=(some (100:Int))) (by kernel_rfl) X)) fun D t H=>?_;obtain⟨x28,X,M⟩:=bind_some M;obtain⟨v1,h38,R,rfl,E⟩:=Bd (av:=[.str x27]) X (A.cut 0);replace A:=A.Dx E;refine A5 114 R H fun D t H=>?_;obtain⟨h39,X,A⟩:=A.s0 0 [.str x28] [_,_,_,_,_,_,_,_,_,_,_,_,_];refine Bc 1 [] X H fun D t H=>?_;refine Be 4 id ?_;obtain⟨x29,X,M⟩:=bind_some M;refine Aq 1 [] 117 (.str x29) h39 H (fun D=>.of (Cy (k:=.i64) (k':=.i64) (lo:=(some (345:Int))) (hi:=(some (500:Int))) (by kernel_rfl) X)) fun D t H=>?_;obtain⟨x30,X,M⟩:=bind_some M;obtain⟨v1,P,R,rfl,E⟩:=Bd (av:=[.str x29]) X (A.cut 0);replace A:=A.Dx E;refine A5 118 R H fun D t H=>?_;refine AM 1 [(8,.str x30)] H fun D H=>AO ?_;obtain⟨o3,O,M⟩:=bind_some M;refine An (Q':=fun e N Q=>(∃x31,e=.normal∧x31=o3∧Has N 144 [(0,.str p0),(2,.ptr (some (h.size,0))),(5,.ptr (some (J.size,0)))]∧HH g Q [.obj J.size (.cells none 2 [.str x31,.str ([]:UV),Ab 0,Ai x4,Ai x6,Ai x8,Ai x10,Ai x12,.str x14,.str x15,Ai x16,Ai x17,Ai x3]),.obj h.size (.cells none 2 [.str ([]:UV),.str ([]:UV),Ab 0,Ai 0,Ai 0,Ai 0,Ai 0,Ai 0,.str ([]:UV),.str ([]:UV),Ai 0,Ai 0,Ai 0])] F)∨False) ?_ ?_
   ·replace M:=O;clear O;refine AF 7 (AS 1 [] 120 0 12 A H fun D t H=>?_);refine AG 2 [(122,.bool (x3==2))] H fun D H=>Am 3 (fun N Q=>P=Q∧Has N 144 [(0,.str p0),(2,.ptr (some (h.size,0))),(5,.ptr (some (J.size,0))),(8,.str x30),(125,.bool ((x3==2)&&(!(x30==([]:UV)))))]) ?_ ?_
    ·cases B:(x3==2:Bool)with
     |true=>
      replace H:=H.kn 122 B;exact AG 3 [(125,.bool (!(x30==([]:UV))))] H fun D H=>AV H B
     |false=>
      replace H:=H.kn 122 B;exact AG 3 [(125,.bool false)] H fun D H=>AV H B
    intro t D Q G;obtain⟨e,H⟩:=G;subst e;refine A8 id (AU 125 H M (fun B M H=>?_) fun B M H=>?_)
    ·refine BH 7 (AG 1 [(126,.str x30)] H fun D H=>?_);obtain⟨B,M⟩:=Ag M;refine Aa 127 (.str (x30++([47]:UV))) P H (fun D=>.of (FF (by kernel_rfl) B)) fun D t H=>?_;refine AS 1 [] 129 0 0 A H fun D t H=>?_;obtain⟨B,M⟩:=Ag M;refine Aa 130 (.str ((x30++([47]:UV))++x28)) P H (fun D=>.of (FF (by kernel_rfl) B)) fun D t H=>?_;obtain⟨h41,X,E⟩:=A.st 0 rfl (o:=0) (new:=[.str ((x30++([47]:UV))++x28)]) (ds:=[.str ((x30++([47]:UV))++x28),.str ([]:UV),Ab 0,Ai x4,Ai x6,Ai x8,Ai x10,Ai x12,.str x14,.str x15,Ai x16,Ai x17,Ai x3]) (zb rfl) rfl rfl;replace A:HH g h41 [.obj J.size (.cells none 2 [.str ((x30++([47]:UV))++x28),_,_,_,_,_,_,_,_,_,_,_,_]),_] F:=E;refine Bc 1 [] X H fun D t H=>?_;refine at_nil ?_;exact .inl ⟨_,rfl,Ac M,H.ls,A⟩
    exact Dp (.inl ⟨_,rfl,Ac M,H.ls,A⟩)
   clear O;clear A;intro e D h42 C;rcases C with⟨x31,rfl,rfl,H,A⟩|I
   ·show AW _ _ _ _ _ _ _;refine AF 5 ?_;obtain⟨x32,X,M⟩:=bind_some M;refine Aq 1 [] 133 (.str x32) h42 H (fun D=>.of (Cy (k:=.i64) (k':=.i64) (lo:=(some (157:Int))) (hi:=(some (257:Int))) (by kernel_rfl) X)) fun D t H=>?_;obtain⟨x33,X,M⟩:=bind_some M;obtain⟨v1,h43,R,rfl,E⟩:=Bd (av:=[.str x32]) X (A.cut 0);replace A:=A.Dx E;refine A5 134 R H fun D t H=>?_;obtain⟨h44,X,A⟩:=A.s0 1 [.str x33] [_,_,_,_,_,_,_,_,_,_,_,_,_];refine Bc 1 [] X H fun D t H=>?_;refine Be 4 id ?_;obtain⟨x34,X,M⟩:=bind_some M;refine Aq 1 [] 137 (Ab x34) h44 H (fun D=>.of (DN (by kernel_rfl) X)) fun D t H=>?_;obtain⟨h45,X,A⟩:=A.s0 2 [Ab x34] [_,_,_,_,_,_,_,_,_,_,_,_,_];refine Bc 1 [] X H fun D t H=>?_;refine A8 id (AO ?_);obtain⟨o4,O,M⟩:=bind_some M;refine An (Q':=fun e N Q=>(∃x35,e=.normal∧x35=o4∧Has N 144 [(2,.ptr (some (h.size,0))),(5,.ptr (some (J.size,0)))]∧HH g Q [.obj J.size (.cells none 2 [.str x31,.str x33,Ab x35,Ai x4,Ai x6,Ai x8,Ai x10,Ai x12,.str x14,.str x15,Ai x16,Ai x17,Ai x3]),.obj h.size (.cells none 2 [.str ([]:UV),.str ([]:UV),Ab 0,Ai 0,Ai 0,Ai 0,Ai 0,Ai 0,.str ([]:UV),.str ([]:UV),Ai 0,Ai 0,Ai 0])] F)∨False) ?_ ?_
    ·replace M:=O;clear O;refine AF 3 (AS 1 [] 140 0 2 A H fun D t H=>?_);refine AM 1 [(141,.bool (x34==0))] H fun D H=>AU 141 H M (fun B M H=>?_) fun B M H=>?_
     ·refine BH 2 ?_;obtain⟨h46,X,A⟩:=A.s0 2 [Ab 48] [_,_,_,_,_,_,_,_,_,_,_,_,_];refine Bc 1 [] X H fun D t H=>?_;refine at_nil ?_;exact .inl ⟨_,rfl,Ac M,H.ls,A⟩
     exact Dp (.inl ⟨_,rfl,Ac M,H.ls,A⟩)
    clear O;clear A;intro e D h47 C;rcases C with⟨x35,rfl,rfl,H,A⟩|I
    ·show AW _ _ _ _ _ _ _;refine AF 3 (Aa 143 _ _ H (fun D=>.of (Ay (by kernel_rfl) (A.DY 0 rfl (o:=0) (n:=13) ⟨zb rfl,rfl⟩))) fun D t H=>?_);obtain⟨h48,X,A⟩:=A.s1 0 [.str x31,.str x33,Ab x35,Ai x4,Ai x6,Ai x8,Ai x10,Ai x12,.str x14,.str x15,Ai x16,Ai x17,Ai x3] [_,_,_,_,_,_,_,_,_,_,_,_,_];refine Ca X H fun D t H=>?_;refine AM 1 [(3,Ai 0)] H fun D H=>AY ?_;obtain⟨rfl,rfl⟩:=B3 M;refine⟨.inl rfl,.tuple [.agg [.str x31,.str x33,Ab x35,Ai x4,Ai x6,Ai x8,Ai x10,Ai x12,.str x14,.str x15,Ai x16,Ai x17,Ai x3],Ai 0],Bs (.cell (rT H) (Bm (by kernel_rfl) (by kernel_rfl) (A.la 1 0 13)) (.tmp (rT H) .nil)),?_⟩;replace A:=A.d0;exact⟨rfl,A⟩
    exact I.elim
   exact I.elim
  ·obtain⟨rfl,rfl⟩:=B3 M;refine⟨.inl rfl,.tuple [.agg [.str ([]:UV),.str ([]:UV),Ab 0,Ai 0,Ai 0,Ai 0,Ai 0,Ai 0,.str ([]:UV),.str ([]:UV),Ai 0,Ai 0,Ai 0],Ai x18],Bs (.cell (rT H) (Bm (by kernel_rfl) (by kernel_rfl) (A.la 0 0 13)) (.tmp (rT H) .nil)),?_⟩;replace A:=A.d0;exact⟨rfl,A⟩
  exact I.elim
 exact I.elim
def Bj(p0:Int)(p1:Int):Option (Bool):=
 some ((((decide (p0≥(-9007199254740991)))&&(decide (p0≤9007199254740991)))&&(decide (p1≥0)))&&(decide (p1≤999999999)))
theorem He{p0 p1 q0}(M:Bj p0 p1=some q0)(A:HH g h [] F)(hc:BA (cfg.still 118) av=[Ai p0,Ai p1]:=by kernel_rfl):∃v Q,BI cfg g h 118 av v Q∧v=.bool q0∧HH g Q [] F:=by
 refine EL 19 [.tmp 4] hc ?_;clear hc;unfold Bj at M;refine bg 19 [(0,Ai p0),(1,Ai p1)] fun D H=>?_;refine AF 1 (Bk 1 [] 15 H fun D H=>AG 3 [(7,.bool (decide (p0≥(-9007199254740991))))] H fun D H=>Am 3 (fun N Q=>h=Q∧Has N 19 [(1,Ai p1),(10,.bool ((decide (p0≥(-9007199254740991)))&&(decide (p0≤9007199254740991))))]) ?_ ?_)
 ·cases B:(decide (p0≥(-9007199254740991)):Bool)with
  |true=>
   replace H:=H.kn 7 B;exact AG 3 [(10,.bool (decide (p0≤9007199254740991)))] H fun D H=>AV H B
  |false=>
   replace H:=H.kn 7 B;exact AG 3 [(10,.bool false)] H fun D H=>AV H B
 intro t D Q G;obtain⟨e,H⟩:=G;subst e;refine AG 1 [(11,.bool ((decide (p0≥(-9007199254740991)))&&(decide (p0≤9007199254740991))))] H fun D H=>Am 3 (fun N Q=>h=Q∧Has N 19 [(1,Ai p1),(14,.bool (((decide (p0≥(-9007199254740991)))&&(decide (p0≤9007199254740991)))&&(decide (p1≥0))))]) ?_ ?_
 ·cases B:((decide (p0≥(-9007199254740991)))&&(decide (p0≤9007199254740991)):Bool)with
  |true=>
   replace H:=H.kn 11 B;exact AG 3 [(14,.bool (decide (p1≥0)))] H fun D H=>AV H B
  |false=>
   replace H:=H.kn 11 B;exact AG 3 [(14,.bool false)] H fun D H=>AV H B
 intro t D Q G;obtain⟨e,H⟩:=G;subst e;refine AG 1 [(15,.bool (((decide (p0≥(-9007199254740991)))&&(decide (p0≤9007199254740991)))&&(decide (p1≥0))))] H fun D H=>Am 3 (fun N Q=>h=Q∧Has N 19 [(18,.bool ((((decide (p0≥(-9007199254740991)))&&(decide (p0≤9007199254740991)))&&(decide (p1≥0)))&&(decide (p1≤999999999))))]) ?_ ?_
 ·cases B:(((decide (p0≥(-9007199254740991)))&&(decide (p0≤9007199254740991)))&&(decide (p1≥0)):Bool)with
  |true=>
   replace H:=H.kn 15 B;exact AG 3 [(18,.bool (decide (p1≤999999999)))] H fun D H=>AV H B
  |false=>
   replace H:=H.kn 15 B;exact AG 3 [(18,.bool false)] H fun D H=>AV H B
 intro t D Q G;obtain⟨e,H⟩:=G;subst e;refine AM 1 [(4,.bool ((((decide (p0≥(-9007199254740991)))&&(decide (p0≤9007199254740991)))&&(decide (p1≥0)))&&(decide (p1≤999999999))))] H fun D H=>AY ?_;obtain rfl:=Ac M;exact⟨.inl rfl,_,rH H,rfl,A⟩
def EE(p0:List UInt8)(s:Int×Int×Int):Option ((Int×Int×Int)⊕((Int×Int×Int))):=
 match s with
 |(x4,x5,x6)=>(AX (decide (x4<(p0.length:Int))) ((JQ p0 x4).bind fun x11=>(DG x11).bind fun x12=>some x12) (some false):Option (Bool)).bind fun x10=>AX (x10&&(decide (x6<17))) ((JQ p0 x4).bind fun x13=>some (.inl (i64.wrap (x4+1),i64.wrap ((i64.wrap ((i64.wrap ((10:Int)*x5))+(i64.wrap x13))) - 48),i64.wrap (x6+1)))) (some (.inr (x4,x5,x6)))
def EF(p0:List UInt8)(s:Int×Int×Int):Option ((Int×Int×Int)⊕((Int×Int×Int))):=
 match s with
 |(x19,x20,x21)=>(AX (decide (x19<(p0.length:Int))) ((JQ p0 x19).bind fun x26=>(DG x26).bind fun x27=>some x27) (some false):Option (Bool)).bind fun x25=>AX x25 ((AX (decide (x21<9)) ((JQ p0 x19).bind fun x29=>some (i64.wrap ((i64.wrap ((i64.wrap ((10:Int)*x20))+(i64.wrap x29))) - 48))) (some x20):Option ((Int))).bind fun x28=>some (.inl (i64.wrap (x19+1),x28,i64.wrap (x21+1)))) (some (.inr (x19,x20,x21)))
def CA(s:Int×Int):Option ((Int×Int)⊕((Int))):=
 match s with
 |(x30,x31)=>AX (decide (x31<9)) (some (.inl (i64.wrap ((10:Int)*x30),i64.wrap (x31+1)))) (some (.inr x30))
def BJ(p0:List UInt8):Option (Int×Int×Int):=
 (AX (decide ((p0.length:Int)>0)) ((JQ p0 (0:Int)).bind fun x2=>some (x2==45)) (some false):Option (Bool)).bind fun x1=>(AX x1 (some (1:Int)) (some (0:Int)):Option ((Int))).bind fun x3=>(loop (EE p0) (x3,(0:Int),(0:Int))).bind fun(x7,x8,x9)=>AX ((decide (x9<1))||(decide (x9>16))) (some ((0:Int),(0:Int),(2:Int))) ((AX (decide (x7<(p0.length:Int))) ((JQ p0 x7).bind fun x18=>AX (x18 !=46) (some (.inr ((0:Int),(0:Int),(2:Int)))) ((loop (EF p0) (i64.wrap (x7+1),(0:Int),(0:Int))).bind fun(x22,x23,x24)=>AX (((decide (x24<1))||(decide (x24>40)))||(decide (x22<(p0.length:Int)))) (some (.inr ((0:Int),(0:Int),(2:Int)))) ((loop (CA) (x23,x24)).bind fun x32=>some (.inl x32)))) (some (.inl (0:Int))):Option ((Int)⊕(Int×Int×Int))).bind fun o3=>(match o3 with| .inl x14=>(AX x1 (AX (decide (x14>0)) (some (i64.wrap ((i64.wrap (0 - x8)) - 1),i64.wrap ((1000000000:Int) - x14))) (some (i64.wrap (0 - x8),x14))) (some (x8,x14)):Option ((Int×Int))).bind fun(x33,x34)=>(Bj x33 x34).bind fun x35=>AX (!x35) (some ((0:Int),(0:Int),(6:Int))) (some (x33,x34,(0:Int)))| .inr (x15,x16,x17)=>some (x15,x16,x17)))
theorem K4{p0 q0 q1 q2}(M:BJ p0=some (q0,q1,q2))(A:HH g h [] F)(hc:BA (cfg.still 116) av=[.str p0]:=by kernel_rfl):∃v Q,BI cfg g h 116 av v Q∧v=.tuple [Ai q0,Ai q1,Ai q2]∧HH g Q [] F:=by
 refine EL 119 [.tmp 2,.tmp 3,.tmp 4] hc ?_;clear hc;unfold BJ at M;refine bg 119 [(0,.str p0)] fun D H=>?_;refine AF 3 (Bk 3 [] 1 H fun D H=>Bk 1 [(5,Ai 0)] 9 H fun D H=>AG 4 [(14,.bool (decide ((p0.length:Int)>0)))] H fun D H=>?_);obtain⟨x1,O,M⟩:=bind_some M;refine Am 4 (fun N Q=>Has N 119 [(0,.str p0),(5,Ai 0),(18,.bool x1)]∧HH g Q [] F) ?_ ?_
 ·rcases As O with⟨B,M⟩|⟨B,M⟩
  ·replace H:=H.kn 14 B;obtain⟨x2,X,M⟩:=bind_some M;refine Aq 1 [] 16 (Ab x2) h H (fun D=>.of (DN (by kernel_rfl) X)) fun D t H=>?_;refine AG 2 [(18,.bool (x2==45))] H fun D H=>?_;obtain rfl:=Ac M;exact at_nil ⟨H.ls,A⟩
  replace H:=H.kn 14 B;refine AG 4 [(18,.bool false)] H fun D H=>?_;obtain rfl:=Ac M;exact at_nil ⟨H.ls,A⟩
 clear A;intro t D h1 G;obtain⟨H,A⟩:=G;refine AM 1 [(6,.bool x1)] H fun D H=>AO ?_;obtain⟨o1,O,M⟩:=bind_some M;refine An (Q':=fun e N Q=>(∃x3,e=.normal∧x3=o1∧Has N 119 [(0,.str p0),(5,Ai x3),(6,.bool x1)]∧HH g Q [] F)∨False) ?_ ?_
 ·replace M:=O;clear O;refine AF 1 (AM 1 [(19,.bool x1)] H fun D H=>AU 19 H M (fun B M H=>?_) fun B M H=>?_)
  ·refine BH 1 (Aw 1 [(0,.str p0),(5,Ai 1),(6,.bool x1)] H fun D H=>at_nil ?_);exact .inl ⟨_,rfl,Ac M,H.ls,A⟩
  exact Dp (.inl ⟨_,rfl,Ac M,H.ls,A⟩)
 clear O;clear A;intro e D h2 C;rcases C with⟨x3,rfl,rfl,H,A⟩|I
 ·show AW _ _ _ _ _ _ _;refine AF 2 (AM 2 [(7,Ai 0),(8,Ai 0)] H fun D H=>AO (Ae (id:=0) (by kernel_rfl) ?_));obtain⟨o2,O,M⟩:=bind_some M;refine An (Q':=fun e N Q=>(∃x7 x8 x9,e=.exit 0∧(x7,x8,x9)=o2∧Has N 119 [(0,.str p0),(5,Ai x7),(6,.bool x1),(7,Ai x8),(8,Ai x9)]∧HH g Q [] F)∨False) ?_ ?_
  ·refine BQ (by kernel_rfl) (fun(s:Int×Int×Int) N Q=>∃x4 x5 x6,(x4,x5,x6)=s∧Has N 119 [(0,.str p0),(5,Ai x4),(6,.bool x1),(7,Ai x5),(8,Ai x6)]∧HH g Q [] F) O ⟨_,_,_,rfl,H.ls,A⟩ ?_;clear O M H A;intro s q D T K M;obtain⟨x4,x5,x6,rfl,H,A⟩:=K;unfold EE at M;refine AO (AF 14 (AG 5 [(24,.bool (decide (x4<(p0.length:Int))))] H fun D H=>?_));obtain⟨x10,O,M⟩:=bind_some M;refine Am 5 (fun N Q=>Has N 119 [(0,.str p0),(5,Ai x4),(6,.bool x1),(7,Ai x5),(8,Ai x6),(29,.bool x10)]∧HH g Q [] F) ?_ ?_
   ·rcases As O with⟨B,M⟩|⟨B,M⟩
    ·replace H:=H.kn 24 B;obtain⟨x11,X,M⟩:=bind_some M;refine Aq 2 [] 27 (Ab x11) T H (fun D=>.of (DN (by kernel_rfl) X)) fun D t H=>?_;obtain⟨x12,X,M⟩:=bind_some M;obtain⟨v1,J,R,rfl,E⟩:=HZ (av:=[Ab x11]) X (A.cut 0);replace A:=A.Dx E;refine A5 28 R H fun D t H=>?_;refine AG 1 [(29,.bool x12)] H fun D H=>?_;obtain rfl:=Ac M;exact at_nil ⟨H.ls,A⟩
    replace H:=H.kn 24 B;refine AG 5 [(29,.bool false)] H fun D H=>?_;obtain rfl:=Ac M;exact at_nil ⟨H.ls,A⟩
   clear A;intro t D Y G;obtain⟨H,A⟩:=G;refine AG 1 [(30,.bool x10)] H fun D H=>Am 3 (fun N Q=>Y=Q∧Has N 119 [(0,.str p0),(5,Ai x4),(6,.bool x1),(7,Ai x5),(8,Ai x6),(33,.bool (x10&&(decide (x6<17))))]) ?_ ?_
   ·cases B:(x10:Bool)with
    |true=>
     replace H:=H.kn 30 B;exact AG 3 [(33,.bool (decide (x6<17)))] H fun D H=>AV H B
    |false=>
     replace H:=H.kn 30 B;exact AG 3 [(33,.bool false)] H fun D H=>AV H B
   intro t D Q G;obtain⟨e,H⟩:=G;subst e;refine A8 id (AU 33 H M (fun B M H=>?_) fun B M H=>?_)
   ·refine BY id (Ae (id:=1) (by kernel_rfl) ?_);refine AF 9 ?_;obtain⟨x13,X,M⟩:=bind_some M;refine Aq 4 [(35,Ai (i64.wrap ((10:Int)*x5)))] 38 (Ab x13) Y H (fun D=>.of (DN (by kernel_rfl) X)) fun D t H=>?_;refine Aw 4 [(0,.str p0),(5,Ai x4),(6,.bool x1),(7,Ai (i64.wrap ((i64.wrap ((i64.wrap ((10:Int)*x5))+(i64.wrap x13))) - 48))),(8,Ai x6)] H fun D H=>Be 3 id (Aw 3 [(0,.str p0),(5,Ai (i64.wrap (x4+1))),(6,.bool x1),(7,Ai (i64.wrap ((i64.wrap ((i64.wrap ((10:Int)*x5))+(i64.wrap x13))) - 48))),(8,Ai x6)] H fun D H=>Ee 3 id (Aw 3 [(0,.str p0),(5,Ai (i64.wrap (x4+1))),(6,.bool x1),(7,Ai (i64.wrap ((i64.wrap ((i64.wrap ((10:Int)*x5))+(i64.wrap x13))) - 48))),(8,Ai (i64.wrap (x6+1)))] H fun D H=>at_nil ?_));exact nx M ⟨_,_,_,rfl,H.ls,A⟩
   refine BL (i:=0) (by kernel_rfl) ?_;exact nr M fun e=>.inl ⟨_,_,_,rfl,e,H.ls,A⟩
  clear O;clear A;intro e D W C;rcases C with⟨x7,x8,x9,rfl,rfl,H,A⟩|I
  ·show AW _ _ _ _ _ _ _;refine AO (AF 6 (AG 3 [(48,.bool (decide (x9<1)))] H fun D H=>Am 3 (fun N Q=>W=Q∧Has N 119 [(0,.str p0),(5,Ai x7),(6,.bool x1),(7,Ai x8),(51,.bool ((decide (x9<1))||(decide (x9>16))))]) ?_ ?_))
   ·cases B:(decide (x9<1):Bool)with
    |true=>
     replace H:=H.kn 48 B;exact AG 3 [(51,.bool true)] H fun D H=>AV H B
    |false=>
     replace H:=H.kn 48 B;exact AG 3 [(51,.bool (decide (x9>16)))] H fun D H=>AV H B
   intro t D Q G;obtain⟨e,H⟩:=G;subst e;refine A8 id (AU 51 H M (fun B M H=>?_) fun B M H=>?_)
   ·refine AF 3 (AM 3 [(2,Ai 0),(3,Ai 0),(4,Ai 2)] H fun D H=>AY ?_);obtain⟨rfl,rfl,rfl⟩:=Gx M;exact⟨.inl rfl,_,rH H,rfl,A⟩
   refine BZ 2 id (AM 2 [(9,Ai 0),(10,Ai 0)] H fun D H=>AO ?_);obtain⟨o3,O,M⟩:=bind_some M;refine An (Q':=fun e N Q=>(∃x14,e=.normal∧.inl x14=o3∧Has N 119 [(6,.bool x1),(7,Ai x8),(9,Ai x14)]∧HH g Q [] F)∨(∃x15 x16 x17,e=.ret∧.inr (x15,x16,x17)=o3∧Has N 119 [(2,Ai x15),(3,Ai x16),(4,Ai x17)]∧HH g Q [] F)∨False) ?_ ?_
   ·replace M:=O;clear O;refine AF 4 (AM 4 [(55,.bool (decide (x7<(p0.length:Int))))] H fun D H=>AU 55 H M (fun B M H=>?_) fun B M H=>?_)
    ·refine AO (AF 4 ?_);obtain⟨x18,X,M⟩:=bind_some M;refine Aq 2 [] 58 (Ab x18) W H (fun D=>.of (DN (by kernel_rfl) X)) fun D t H=>?_;refine AM 1 [(59,.bool (x18 !=46))] H fun D H=>AU 59 H M (fun B M H=>?_) fun B M H=>?_
     ·refine AF 3 (AM 3 [(2,Ai 0),(3,Ai 0),(4,Ai 2)] H fun D H=>AY ?_);exact .inr (.inl ⟨_,_,_,rfl,Ac M,H.ls,A⟩)
     refine BZ 3 id (Aw 3 [(0,.str p0),(5,Ai (i64.wrap (x7+1))),(6,.bool x1),(7,Ai x8),(9,Ai 0),(10,Ai 0)] H fun D H=>A8 id (AO (Ae (id:=2) (by kernel_rfl) ?_)));obtain⟨o4,O,M⟩:=bind_some M;refine An (Q':=fun e N Q=>(∃x22 x23 x24,e=.exit 2∧(x22,x23,x24)=o4∧Has N 119 [(0,.str p0),(5,Ai x22),(6,.bool x1),(7,Ai x8),(9,Ai x23),(10,Ai x24)]∧HH g Q [] F)∨False) ?_ ?_
     ·refine BQ (by kernel_rfl) (fun(s:Int×Int×Int) N Q=>∃x19 x20 x21,(x19,x20,x21)=s∧Has N 119 [(0,.str p0),(5,Ai x19),(6,.bool x1),(7,Ai x8),(9,Ai x20),(10,Ai x21)]∧HH g Q [] F) O ⟨_,_,_,rfl,H.ls,A⟩ ?_;clear O M H A;intro s q D Z K M;obtain⟨x19,x20,x21,rfl,H,A⟩:=K;unfold EF at M;refine AO (AF 10 (AG 5 [(66,.bool (decide (x19<(p0.length:Int))))] H fun D H=>?_));obtain⟨x25,O,M⟩:=bind_some M;refine Am 5 (fun N Q=>Has N 119 [(0,.str p0),(5,Ai x19),(6,.bool x1),(7,Ai x8),(9,Ai x20),(10,Ai x21),(71,.bool x25)]∧HH g Q [] F) ?_ ?_
      ·rcases As O with⟨B,M⟩|⟨B,M⟩
       ·replace H:=H.kn 66 B;obtain⟨x26,X,M⟩:=bind_some M;refine Aq 2 [] 69 (Ab x26) Z H (fun D=>.of (DN (by kernel_rfl) X)) fun D t H=>?_;obtain⟨x27,X,M⟩:=bind_some M;obtain⟨v1,h9,R,rfl,E⟩:=HZ (av:=[Ab x26]) X (A.cut 0);replace A:=A.Dx E;refine A5 70 R H fun D t H=>?_;refine AG 1 [(71,.bool x27)] H fun D H=>?_;obtain rfl:=Ac M;exact at_nil ⟨H.ls,A⟩
       replace H:=H.kn 66 B;refine AG 5 [(71,.bool false)] H fun D H=>?_;obtain rfl:=Ac M;exact at_nil ⟨H.ls,A⟩
      clear A;intro t D V G;obtain⟨H,A⟩:=G;refine A8 id (AU 71 H M (fun B M H=>?_) fun B M H=>?_)
      ·refine BY id (Ae (id:=3) (by kernel_rfl) ?_);refine AO ?_;obtain⟨o5,O,M⟩:=bind_some M;refine An (Q':=fun e N Q=>(∃x28,e=.normal∧x28=o5∧Has N 119 [(0,.str p0),(5,Ai x19),(6,.bool x1),(7,Ai x8),(9,Ai x28),(10,Ai x21)]∧HH g Q [] F)∨False) ?_ ?_
       ·replace M:=O;clear O;refine AF 2 (AM 2 [(73,.bool (decide (x21<9)))] H fun D H=>AU 73 H M (fun B M H=>?_) fun B M H=>?_)
        ·refine BH 9 ?_;obtain⟨x29,X,M⟩:=bind_some M;refine Aq 4 [(75,Ai (i64.wrap ((10:Int)*x20)))] 78 (Ab x29) V H (fun D=>.of (DN (by kernel_rfl) X)) fun D t H=>?_;refine Aw 4 [(0,.str p0),(5,Ai x19),(6,.bool x1),(7,Ai x8),(9,Ai (i64.wrap ((i64.wrap ((i64.wrap ((10:Int)*x20))+(i64.wrap x29))) - 48))),(10,Ai x21)] H fun D H=>at_nil ?_;exact .inl ⟨_,rfl,Ac M,H.ls,A⟩
        exact Dp (.inl ⟨_,rfl,Ac M,H.ls,A⟩)
       clear O;clear A;intro e D h10 C;rcases C with⟨x28,rfl,rfl,H,A⟩|I
       ·show AW _ _ _ _ _ _ _;refine AF 3 (Aw 3 [(0,.str p0),(5,Ai (i64.wrap (x19+1))),(6,.bool x1),(7,Ai x8),(9,Ai x28),(10,Ai x21)] H fun D H=>Ee 3 id (Aw 3 [(0,.str p0),(5,Ai (i64.wrap (x19+1))),(6,.bool x1),(7,Ai x8),(9,Ai x28),(10,Ai (i64.wrap (x21+1)))] H fun D H=>at_nil ?_));exact nx M ⟨_,_,_,rfl,H.ls,A⟩
       exact I.elim
      refine BL (i:=2) (by kernel_rfl) ?_;exact nr M fun e=>.inl ⟨_,_,_,rfl,e,H.ls,A⟩
     clear O;clear A;intro e D U C;rcases C with⟨x22,x23,x24,rfl,rfl,H,A⟩|I
     ·show AW _ _ _ _ _ _ _;refine AO (AF 12 (AG 3 [(88,.bool (decide (x24<1)))] H fun D H=>Am 3 (fun N Q=>U=Q∧Has N 119 [(0,.str p0),(5,Ai x22),(6,.bool x1),(7,Ai x8),(9,Ai x23),(10,Ai x24),(91,.bool ((decide (x24<1))||(decide (x24>40))))]) ?_ ?_))
      ·cases B:(decide (x24<1):Bool)with
       |true=>
        replace H:=H.kn 88 B;exact AG 3 [(91,.bool true)] H fun D H=>AV H B
       |false=>
        replace H:=H.kn 88 B;exact AG 3 [(91,.bool (decide (x24>40)))] H fun D H=>AV H B
      intro t D Q G;obtain⟨e,H⟩:=G;subst e;refine AG 1 [(92,.bool ((decide (x24<1))||(decide (x24>40))))] H fun D H=>Am 5 (fun N Q=>U=Q∧Has N 119 [(6,.bool x1),(7,Ai x8),(9,Ai x23),(10,Ai x24),(97,.bool (((decide (x24<1))||(decide (x24>40)))||(decide (x22<(p0.length:Int)))))]) ?_ ?_
      ·cases B:((decide (x24<1))||(decide (x24>40)):Bool)with
       |true=>
        replace H:=H.kn 92 B;exact AG 5 [(97,.bool true)] H fun D H=>AV H B
       |false=>
        replace H:=H.kn 92 B;exact AG 5 [(97,.bool (decide (x22<(p0.length:Int))))] H fun D H=>AV H B
      intro t D Q G;obtain⟨e,H⟩:=G;subst e;refine A8 id (AU 97 H M (fun B M H=>?_) fun B M H=>?_)
      ·refine AF 3 (AM 3 [(2,Ai 0),(3,Ai 0),(4,Ai 2)] H fun D H=>AY ?_);exact .inr (.inl ⟨_,_,_,rfl,Ac M,H.ls,A⟩)
      refine BY id (Ae (id:=4) (by kernel_rfl) ?_);obtain⟨o6,O,M⟩:=bind_some M;refine An (Q':=fun e N Q=>(∃x32,e=.exit 4∧x32=o6∧Has N 119 [(6,.bool x1),(7,Ai x8),(9,Ai x32)]∧HH g Q [] F)∨False) ?_ ?_
      ·refine BQ (by kernel_rfl) (fun(s:Int×Int) N Q=>∃x30 x31,(x30,x31)=s∧Has N 119 [(6,.bool x1),(7,Ai x8),(9,Ai x30),(10,Ai x31)]∧HH g Q [] F) O ⟨_,_,rfl,H.ls,A⟩ ?_;clear O M H A;intro s q D h12 K M;obtain⟨x30,x31,rfl,H,A⟩:=K;unfold CA at M;refine AO (AF 2 (AM 2 [(99,.bool (decide (x31<9)))] H fun D H=>AU 99 H M (fun B M H=>?_) fun B M H=>?_))
       ·refine BY id (Ae (id:=5) (by kernel_rfl) ?_);refine AF 3 (Aw 3 [(6,.bool x1),(7,Ai x8),(9,Ai (i64.wrap ((10:Int)*x30))),(10,Ai x31)] H fun D H=>Ee 3 id (Aw 3 [(6,.bool x1),(7,Ai x8),(9,Ai (i64.wrap ((10:Int)*x30))),(10,Ai (i64.wrap (x31+1)))] H fun D H=>at_nil ?_));exact nx M ⟨_,_,rfl,H.ls,A⟩
       refine BL (i:=4) (by kernel_rfl) ?_;exact nr M fun e=>.inl ⟨_,rfl,e,H.ls,A⟩
      clear O;clear A;intro e D h13 C;rcases C with⟨x32,rfl,rfl,H,A⟩|I
      ·exact .inl ⟨_,rfl,Ac M,H.ls,A⟩
      exact I.elim
     exact I.elim
    exact Dp (.inl ⟨_,rfl,Ac M,H.ls,A⟩)
   clear O;clear A;intro e D h14 C;rcases C with⟨x14,rfl,rfl,H,A⟩|⟨x15,x16,x17,rfl,rfl,H,A⟩|I
   ·show AW _ _ _ _ _ _ _;refine AO ?_;obtain⟨o7,O,M⟩:=bind_some M;refine An (Q':=fun e N Q=>(∃x33 x34,e=.normal∧(x33,x34)=o7∧Has N 119 [(7,Ai x33),(9,Ai x34)]∧HH g Q [] F)∨False) ?_ ?_
    ·replace M:=O;clear O;refine AF 1 (AM 1 [(104,.bool x1)] H fun D H=>AU 104 H M (fun B M H=>?_) fun B M H=>?_)
     ·refine AF 3 (Aw 3 [(7,Ai (i64.wrap (0 - x8))),(9,Ai x14)] H fun D H=>Be 2 id (AM 2 [(108,.bool (decide (x14>0)))] H fun D H=>AU 108 H M (fun B M H=>?_) fun B M H=>?_))
      ·refine AF 3 (Aw 3 [(7,Ai (i64.wrap ((i64.wrap (0 - x8)) - 1))),(9,Ai x14)] H fun D H=>Ee 3 id (Aw 3 [(7,Ai (i64.wrap ((i64.wrap (0 - x8)) - 1))),(9,Ai (i64.wrap ((1000000000:Int) - x14)))] H fun D H=>at_nil ?_));exact .inl ⟨_,_,rfl,Ac M,H.ls,A⟩
      exact Dp (.inl ⟨_,_,rfl,Ac M,H.ls,A⟩)
     exact Dp (.inl ⟨_,_,rfl,Ac M,H.ls,A⟩)
    clear O;clear A;intro e D h15 C;rcases C with⟨x33,x34,rfl,rfl,H,A⟩|I
    ·show AW _ _ _ _ _ _ _;refine AO (AF 4 ?_);obtain⟨x35,X,M⟩:=bind_some M;obtain⟨v1,h16,R,rfl,E⟩:=He (av:=[Ai x33,Ai x34]) X (A.cut 0);replace A:=A.Dx E;refine Az 2 [] 115 R H fun D t H=>?_;refine AM 1 [(116,.bool (!x35))] H fun D H=>AU 116 H M (fun B M H=>?_) fun B M H=>?_
     ·refine AF 3 (AM 3 [(2,Ai 0),(3,Ai 0),(4,Ai 6)] H fun D H=>AY ?_);obtain⟨rfl,rfl,rfl⟩:=Gx M;exact⟨.inl rfl,_,rH H,rfl,A⟩
     refine BZ 5 id (AM 5 [(2,Ai x33),(3,Ai x34),(4,Ai 0)] H fun D H=>AY ?_);obtain⟨rfl,rfl,rfl⟩:=Gx M;exact⟨.inl rfl,_,rH H,rfl,A⟩
    exact I.elim
   ·obtain⟨rfl,rfl,rfl⟩:=Gx M;exact⟨.inl rfl,_,rH H,rfl,A⟩
   exact I.elim
  exact I.elim
 exact I.elim
def B9(p0:AA)(s:Int):Option ((Int)⊕((Unit)⊕(Bool))):=
 match s with
 |x1=>AX (decide (x1<(p0.Key.length:Int))) ((JQ p0.Key x1).bind fun x3=>AX (x3==61) (some (.inr (.inr false))) (some (.inl (i64.wrap (x1+1))))) (some (.inr (.inl ())))
def CG(p0:AA):Option (Bool):=
 (loop (B9 p0) (0:Int)).bind fun o1=>(match o1 with| .inl _=>some (!(p0.Key==([]:UV)))| .inr x2=>some x2)
theorem HW{p0 q0}(M:CG p0=some q0)(A:HH g h [] F)(hc:BA (cfg.still 72) av=[.agg [.str p0.Key,.str p0.Value]]:=by kernel_rfl):∃v Q,BI cfg g h 72 av v Q∧v=.bool q0∧HH g Q [] F:=by
 refine EL 19 [.tmp 2] hc ?_;clear hc;unfold CG at M;refine bg 19 [(0,.agg [.str p0.Key,.str p0.Value])] fun D H=>?_;refine AF 2 ?_;obtain⟨h1,e1,A⟩:=A.pu (.cells none 2 [.str p0.Key,.str p0.Value]);refine A9 1 (.ptr (some (h.size,0))) e1 H fun D t H=>?_;refine AM 1 [] H fun D H=>AO (AF 1 (AM 1 [(3,Ai 0)] H fun D H=>Ae (id:=0) (by kernel_rfl) ?_));obtain⟨o1,O,M⟩:=bind_some M;refine An (Q':=fun e N Q=>(e=.exit 0∧.inl ()=o1∧Has N 19 [(1,.ptr (some (h.size,0)))]∧HH g Q [.obj h.size (.cells none 2 [.str p0.Key,.str p0.Value])] F)∨(∃x2,e=.ret∧.inr x2=o1∧Has N 19 [(2,.bool x2)]∧HH g Q [] F)∨False) ?_ ?_
 ·refine BQ (by kernel_rfl) (fun(s:Int) N Q=>∃x1,x1=s∧Has N 19 [(1,.ptr (some (h.size,0))),(3,Ai x1)]∧HH g Q [.obj h.size (.cells none 2 [.str p0.Key,.str p0.Value])] F) O ⟨_,rfl,H.ls,A⟩ ?_;clear O M H A;intro s q D h2 K M;obtain⟨x1,rfl,H,A⟩:=K;unfold B9 at M;refine AO (AF 5 (AS 2 [(4,Ai x1)] 6 0 0 A H fun D t H=>?_));refine AM 2 [(8,.bool (decide (x1<(p0.Key.length:Int))))] H fun D H=>AU 8 H M (fun B M H=>?_) fun B M H=>?_
  ·refine BY id (AO (Ae (id:=1) (by kernel_rfl) ?_));refine AF 5 (AS 1 [] 12 0 0 A H fun D t H=>?_);obtain⟨x3,X,M⟩:=bind_some M;refine Aq 1 [] 14 (Ab x3) h2 H (fun D=>.of (DN (by kernel_rfl) X)) fun D t H=>?_;refine AM 1 [(15,.bool (x3==61))] H fun D H=>AU 15 H M (fun B M H=>?_) fun B M H=>?_
   ·refine AF 1 (AM 1 [(2,.bool false)] H fun D H=>AY ?_);replace A:=A.d0;exact nr M fun e=>Or.inr (.inl ⟨_,rfl,e,H.ls,A⟩)
   refine FC 3 id (Aw 3 [(1,.ptr (some (h.size,0))),(3,Ai (i64.wrap (x1+1)))] H fun D H=>at_nil ?_);exact nx M ⟨_,rfl,H.ls,A⟩
  refine BL (i:=0) (by kernel_rfl) ?_;exact nr M fun e=>.inl ⟨rfl,e,H.ls,A⟩
 clear O;clear A;intro e D T C;rcases C with⟨rfl,rfl,H,A⟩|⟨x2,rfl,rfl,H,A⟩|I
 ·show AW _ _ _ _ _ _ _;refine AF 4 (AS 1 [] 17 0 0 A H fun D t H=>?_);refine AM 2 [(2,.bool (!(p0.Key==([]:UV))))] H fun D H=>AY ?_;obtain rfl:=Ac M;refine⟨.inl rfl,.bool (!(p0.Key==([]:UV))),rH H,?_⟩;replace A:=A.d0;exact⟨rfl,A⟩
 ·obtain rfl:=Ac M;exact⟨.inl rfl,_,rH H,rfl,A⟩
 exact I.elim
def Fb(p0:List UInt8)(s:Int×Int):Option ((Int×Int)⊕((Int))):=
 match s with
 |(x1,x2)=>AX (decide (x2<(p0.length:Int))) (((JQ p0 x2).bind fun x5=>AX ((((x5==47)&&(decide (x2≤155)))&&(decide ((i64.wrap ((i64.wrap ((p0.length:Int) - x2)) - 1))≥1)))&&(decide ((i64.wrap ((i64.wrap ((p0.length:Int) - x2)) - 1))≤100))) (some x2) (some x1):Option ((Int))).bind fun x4=>some (.inl (x4,i64.wrap (x2+1)))) (some (.inr x1))
def ER(p0:List UInt8):Option ((List UInt8)×(List UInt8)×Bool):=
 AX (decide ((p0.length:Int)≤100)) (some (([]:UV),p0,true)) ((loop (Fb p0) ((-1:Int),(1:Int))).bind fun x3=>AX (decide (x3<0)) (some (([]:UV),([]:UV),false)) ((D6 p0 none (some x3)).bind fun x6=>(D6 p0 (some (i64.wrap (x3+1))) none).bind fun x7=>some (x6,x7,true)))
theorem Lc{p0 q0 q1 q2}(M:ER p0=some (q0,q1,q2))(A:HH g h [] F)(hc:BA (cfg.still 75) av=[.str p0]:=by kernel_rfl):∃v Q,BI cfg g h 75 av v Q∧v=.tuple [.str q0,.str q1,.bool q2]∧HH g Q [] F:=by
 refine EL 49 [.tmp 2,.tmp 3,.tmp 4] hc ?_;clear hc;unfold ER at M;refine bg 49 [(0,.str p0)] fun D H=>?_;refine AF 3 (AM 3 [] H fun D H=>AO (AF 3 (AM 3 [(10,.bool (decide ((p0.length:Int)≤100)))] H fun D H=>AU 10 H M (fun B M H=>?_) fun B M H=>?_)))
 ·refine AF 4 (AM 4 [(2,.str ([]:UV)),(3,.str p0),(4,.bool true)] H fun D H=>AY ?_);obtain⟨rfl,rfl,rfl⟩:=Gx M;exact⟨.inl rfl,_,rH H,rfl,A⟩
 refine BZ 1 id (AM 1 [(5,Ai (-1))] H fun D H=>AO (AF 1 (AM 1 [(6,Ai 1)] H fun D H=>Ae (id:=0) (by kernel_rfl) ?_)));obtain⟨o1,O,M⟩:=bind_some M;refine An (Q':=fun e N Q=>(∃x3,e=.exit 0∧x3=o1∧Has N 49 [(0,.str p0),(5,Ai x3)]∧HH g Q [] F)∨False) ?_ ?_
 ·refine BQ (by kernel_rfl) (fun(s:Int×Int) N Q=>∃x1 x2,(x1,x2)=s∧Has N 49 [(0,.str p0),(5,Ai x1),(6,Ai x2)]∧HH g Q [] F) O ⟨_,_,rfl,H.ls,A⟩ ?_;clear O M H A;intro s q D h1 K M;obtain⟨x1,x2,rfl,H,A⟩:=K;unfold Fb at M;refine AO (AF 4 (AM 4 [(15,.bool (decide (x2<(p0.length:Int))))] H fun D H=>AU 15 H M (fun B M H=>?_) fun B M H=>?_))
  ·refine BY id (AO ?_);obtain⟨o2,O,M⟩:=bind_some M;refine An (Q':=fun e N Q=>(∃x4,e=.normal∧x4=o2∧Has N 49 [(0,.str p0),(5,Ai x4),(6,Ai x2)]∧HH g Q [] F)∨False) ?_ ?_
   ·replace M:=O;clear O;refine Ae (id:=1) (by kernel_rfl) ?_;refine AF 6 (Bk 6 [(7,Ai (i64.wrap ((i64.wrap ((p0.length:Int) - x2)) - 1)))] 16 H fun D H=>?_);obtain⟨x5,X,M⟩:=bind_some M;refine Aq 2 [] 25 (Ab x5) h1 H (fun D=>.of (DN (by kernel_rfl) X)) fun D t H=>?_;refine AG 2 [(27,.bool (x5==47))] H fun D H=>Am 3 (fun N Q=>h1=Q∧Has N 49 [(0,.str p0),(5,Ai x1),(6,Ai x2),(7,Ai (i64.wrap ((i64.wrap ((p0.length:Int) - x2)) - 1))),(30,.bool ((x5==47)&&(decide (x2≤155))))]) ?_ ?_
    ·cases B:(x5==47:Bool)with
     |true=>
      replace H:=H.kn 27 B;exact AG 3 [(30,.bool (decide (x2≤155)))] H fun D H=>AV H B
     |false=>
      replace H:=H.kn 27 B;exact AG 3 [(30,.bool false)] H fun D H=>AV H B
    intro t D Q G;obtain⟨e,H⟩:=G;subst e;refine AG 1 [(31,.bool ((x5==47)&&(decide (x2≤155))))] H fun D H=>Am 3 (fun N Q=>h1=Q∧Has N 49 [(0,.str p0),(5,Ai x1),(6,Ai x2),(7,Ai (i64.wrap ((i64.wrap ((p0.length:Int) - x2)) - 1))),(34,.bool (((x5==47)&&(decide (x2≤155)))&&(decide ((i64.wrap ((i64.wrap ((p0.length:Int) - x2)) - 1))≥1))))]) ?_ ?_
    ·cases B:((x5==47)&&(decide (x2≤155)):Bool)with
     |true=>
      replace H:=H.kn 31 B;exact AG 3 [(34,.bool (decide ((i64.wrap ((i64.wrap ((p0.length:Int) - x2)) - 1))≥1)))] H fun D H=>AV H B
     |false=>
      replace H:=H.kn 31 B;exact AG 3 [(34,.bool false)] H fun D H=>AV H B
    intro t D Q G;obtain⟨e,H⟩:=G;subst e;refine AG 1 [(35,.bool (((x5==47)&&(decide (x2≤155)))&&(decide ((i64.wrap ((i64.wrap ((p0.length:Int) - x2)) - 1))≥1))))] H fun D H=>Am 3 (fun N Q=>h1=Q∧Has N 49 [(0,.str p0),(5,Ai x1),(6,Ai x2),(38,.bool ((((x5==47)&&(decide (x2≤155)))&&(decide ((i64.wrap ((i64.wrap ((p0.length:Int) - x2)) - 1))≥1)))&&(decide ((i64.wrap ((i64.wrap ((p0.length:Int) - x2)) - 1))≤100))))]) ?_ ?_
    ·cases B:(((x5==47)&&(decide (x2≤155)))&&(decide ((i64.wrap ((i64.wrap ((p0.length:Int) - x2)) - 1))≥1)):Bool)with
     |true=>
      replace H:=H.kn 35 B;exact AG 3 [(38,.bool (decide ((i64.wrap ((i64.wrap ((p0.length:Int) - x2)) - 1))≤100)))] H fun D H=>AV H B
     |false=>
      replace H:=H.kn 35 B;exact AG 3 [(38,.bool false)] H fun D H=>AV H B
    intro t D Q G;obtain⟨e,H⟩:=G;subst e;refine A8 id (AU 38 H M (fun B M H=>?_) fun B M H=>?_)
    ·refine BH 2 (Aw 2 [(0,.str p0),(5,Ai x2),(6,Ai x2)] H fun D H=>at_nil ?_);exact .inl ⟨_,rfl,Ac M,H.ls,A⟩
    exact Dp (.inl ⟨_,rfl,Ac M,H.ls,A⟩)
   clear O;clear A;intro e D h2 C;rcases C with⟨x4,rfl,rfl,H,A⟩|I
   ·show AW _ _ _ _ _ _ _;refine BH 3 (Aw 3 [(0,.str p0),(5,Ai x4),(6,Ai (i64.wrap (x2+1)))] H fun D H=>at_nil ?_);exact nx M ⟨_,_,rfl,H.ls,A⟩
   exact I.elim
  refine BL (i:=0) (by kernel_rfl) ?_;exact nr M fun e=>.inl ⟨_,rfl,e,H.ls,A⟩
 clear O;clear A;intro e D T C;rcases C with⟨x3,rfl,rfl,H,A⟩|I
 ·show AW _ _ _ _ _ _ _;refine AO (AF 2 (AM 2 [(41,.bool (decide (x3<0)))] H fun D H=>AU 41 H M (fun B M H=>?_) fun B M H=>?_))
  ·refine AF 3 (AM 3 [(2,.str ([]:UV)),(3,.str ([]:UV)),(4,.bool false)] H fun D H=>AY ?_);obtain⟨rfl,rfl,rfl⟩:=Gx M;exact⟨.inl rfl,_,rH H,rfl,A⟩
  refine BY id (AO (Gh 12 10 ?_));obtain⟨x6,X,M⟩:=bind_some M;refine Aq 2 [] 44 (.str x6) T H (fun D=>.of (Cy (k:=.i64) (k':=.i64) (lo:=none) (hi:=(some x3)) (by kernel_rfl) X)) fun D t H=>?_;obtain⟨x7,X,M⟩:=bind_some M;refine Aq 3 [] 48 (.str x7) T H (fun D=>.of (Cy (k:=.i64) (k':=.i64) (lo:=(some (i64.wrap (x3+1)))) (hi:=none) (by kernel_rfl) X)) fun D t H=>?_;refine AM 3 [(2,.str x6),(3,.str x7),(4,.bool true)] H fun D H=>AY ?_;obtain⟨rfl,rfl,rfl⟩:=Gx M;exact⟨.inl rfl,_,rH H,rfl,A⟩
 exact I.elim
structure Ed where
 A3:Int→Option ((List UInt8))
structure Gl(S:Ed):Prop where
 BS:∀{g:Gd} {h:AI} {F:List Ck} {p0:Int} {q0:List UInt8} {av:List AB} (M:S.A3 p0=some q0) (hc:BA (cfg.still 73) av=[Ai p0]) (A:HH g h [] F),∃v Q,BI cfg g h 73 av v Q∧v=.str q0∧HH g Q [] F
def Dj(S:Ed)(p0:Int):Option ((List UInt8)):=
 AX (decide (p0<10)) ((D6 ([48,49,50,51,52,53,54,55,56,57]:UV) (some p0) (some (i64.wrap (p0+1)))).bind fun x1=>some x1) ((S.A3 (i64.wrap (Int.tdiv p0 (10:Int)))).bind fun x2=>(D6 ([48,49,50,51,52,53,54,55,56,57]:UV) (some (Int.tmod p0 (10:Int))) (some (i64.wrap ((Int.tmod p0 (10:Int))+1)))).bind fun x3=>Bn (decide (x2.length+x3.length≤9223372036854775807))<|some (x2++x3))
theorem KW{S:Ed}(hS:Gl S){p0 q0}(M:Dj S p0=some q0)(hc:BA (cfg.still 73) av=[Ai p0])(A:HH g h [] F):∃v Q,BI cfg g h 73 av v Q∧v=.str q0∧HH g Q [] F:=by
 refine EL 22 [.tmp 2] hc ?_;clear hc;unfold Dj at M;refine bg 22 [(0,Ai p0)] fun D H=>?_;refine AF 1 (Bk 1 [] 1 H fun D H=>AM 1 [(3,.str ([48,49,50,51,52,53,54,55,56,57]:UV))] H fun D H=>AO (AF 2 (AM 2 [(5,.bool (decide (p0<10)))] H fun D H=>AU 5 H M (fun B M H=>?_) fun B M H=>?_)))
 ·refine AF 6 ?_;obtain⟨x1,X,M⟩:=bind_some M;refine Aq 4 [] 10 (.str x1) h H (fun D=>.of (Cy (k:=.i64) (k':=.i64) (lo:=(some p0)) (hi:=(some (i64.wrap (p0+1)))) (by kernel_rfl) X)) fun D t H=>?_;refine AM 1 [(2,.str x1)] H fun D H=>AY ?_;obtain rfl:=Ac M;exact⟨.inl rfl,_,rH H,rfl,A⟩
 refine BY id (AO (Gh 4 12 ?_));have E:=A.cut 0;obtain⟨x2,X,M⟩:=bind_some M;obtain⟨v1,h1,R,rfl,E⟩:=hS.BS (av:=[Ai (i64.wrap (Int.tdiv p0 (10:Int)))]) X (by kernel_rfl) E;replace A:=A.Dx E;refine Az 2 [] 13 R H fun D t H=>?_;obtain⟨x3,X,M⟩:=bind_some M;refine Aq 6 [] 20 (.str x3) h1 H (fun D=>.of (Cy (k:=.i64) (k':=.i64) (lo:=(some (Int.tmod p0 (10:Int)))) (hi:=(some (i64.wrap ((Int.tmod p0 (10:Int))+1)))) (by kernel_rfl) X)) fun D t H=>?_;obtain⟨B,M⟩:=Ag M;refine Aa 21 (.str (x2++x3)) h1 H (fun D=>.of (FF (by kernel_rfl) B)) fun D t H=>?_;refine AM 1 [(2,.str (x2++x3))] H fun D H=>AY ?_;obtain rfl:=Ac M;exact⟨.inl rfl,_,rH H,rfl,A⟩
def C9:Nat→Ed
 |0=>⟨fun _=>none⟩
 |n+1=>⟨Dj (C9 n)⟩
theorem GU:∀n,Gl (C9 n)
 |0=>⟨fun M=>(by cases M)⟩
 |n+1=>⟨fun M hc A=>KW (GU n) M hc A⟩
def A3:Int→Option ((List UInt8)):=(C9 YY).A3
theorem BS{p0 q0}(M:A3 p0=some q0)(A:HH g h [] F)(hc:BA (cfg.still 73) av=[Ai p0]:=by kernel_rfl):∃v Q,BI cfg g h 73 av v Q∧v=.str q0∧HH g Q [] F:=(GU YY).BS M hc A
end
end Go.Av.L
