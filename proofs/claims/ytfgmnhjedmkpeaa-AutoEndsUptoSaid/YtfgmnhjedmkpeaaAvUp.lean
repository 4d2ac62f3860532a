/-
  Several texts in one.
-/
import Derived.Test.YtfgmnhjedmkpeaaK2
import Derived.Test.YtfgmnhjedmkpeaaRows
set_option linter.unusedSimpArgs false
/-
 A part.
-/
section
namespace Go.Av.L
open Go.Av Go.Lib
set_option maxRecDepth 10000
set_option linter.unusedVariables false
set_option linter.unusedSimpArgs false
variable {g:Gd} {h:AB} {F:List Ck} {av:List AA}
noncomputable section
def Dx(p0:AL)(p1:List UInt8)(p2:Int):Option (Bool):=
 (C6 p0).bind λx1=>(Dm x1).bind λx2=>A3 ((!x2)||(decide ((p1.length:Int)>8))) ((CH).bind λx3=>some x3) ((C6 p0).bind λx4=>(FX p0 (4096:Int)).bind λ(w5,x6)=>(match w5 with|some x5=>(C5 x4).bind λx7=>A3 (!x7) (some false) (A3 (x6 !=0) ((A3 (x6==7) ((Cp x4 x4.A2).bind λx9=>some (decide (x9>2047))) (some false):Option (Bool)).bind λx8=>(A3 x8 ((CH).bind λx11=>some x11) (some false):Option (Bool)).bind λx10=>some x10) ((B5 x5 p1 p2).bind λx12=>(CP x4 p1 p2).bind λx13=>(CU x12 x13).bind λx14=>(A3 x14 ((CH).bind λx16=>some x16) (some false):Option (Bool)).bind λx15=>some x15))|none=>(C5 x4).bind λx17=>A3 (!x17) ((A3 (x6==1) ((CH).bind λx19=>some x19) (some false):Option (Bool)).bind λx18=>some x18) (A3 (x6 !=0) ((A3 (x6==7) ((Cp x4 x4.A2).bind λx21=>some (decide (x21>2047))) (some false):Option (Bool)).bind λx20=>(A3 x20 ((CH).bind λx23=>some x23) (some false):Option (Bool)).bind λx22=>some x22) (some false))))
theorem I5{p0 p1 p2 q0}(hm:Dx p0 p1 p2=some q0)(A:HH g h [] F)(hc:C1 (cfg.still 4) av=[.agg [vs AG p0.Ad,Ai p0.A2],.str p1,Ai p2]:=by kernel_rfl):∃v h',CW cfg g h 4 av v h'/\v=.bool q0/\HH g h' [] F:=by
 refine Mg 69 [.tmp 6] hc ?_;clear hc;unfold Dx at hm;refine bg 69 [(0,.agg [vs AG p0.Ad,Ai p0.A2]),(1,.str p1),(2,Ai p2)] λfr H=>?_;refine AU 2 ?_;obtain⟨h1,e1,A⟩:=A.pu (.cells none 2 [vs AG p0.Ad,Ai p0.A2]);refine DF 3 (.ptr (some (h.size,0))) e1 H λfr t H=>?_;refine Ao 1 [] H λfr H=>BC (AU 9 (Bj 10 _ _ H (λfr=>.of (Db (by kernel_rfl) (A.Gp 0 rfl (o:=0) (n:=2) ⟨zj rfl,rfl⟩))) λfr t H=>?_));obtain⟨x1,B,hm⟩:=AJ hm;obtain⟨v1,I,G,rfl,A1⟩:=G6 (av:=[.agg [vs AG p0.Ad,Ai p0.A2]]) B (A.cut 0);replace A:HH g I [.obj h.size (.cells none 2 [vs AG p0.Ad,Ai p0.A2])] F:=A.JN (n:=0) A1;refine F1 11 G H λfr t H=>?_;obtain⟨x2,B,hm⟩:=AJ hm;obtain⟨v1,h3,G,rfl,A1⟩:=Jx (av:=[.agg [vs AD x1.L,Ai x1.A2]]) B (A.cut 0);replace A:=A.SF A1;refine F1 12 G H λfr t H=>?_;refine AR 2 [(14,.bool (!x2))] H λfr H=>CE 4 (λfr' h'=>h3=h'/\Has fr' 69 [(1,.str p1),(2,Ai p2),(3,.ptr (some (h.size,0))),(18,.bool ((!x2)||(decide ((p1.length:Int)>8))))]) ?_ ?_
 ·cases D:(!x2:Bool)with
  |true=>
   replace H:=H.kn 14 D;exact AR 4 [(18,.bool true)] H λfr H=>BJ H D
  |false=>
   replace H:=H.kn 14 D;exact AR 4 [(18,.bool (decide ((p1.length:Int)>8)))] H λfr H=>BJ H D
 intro t fr h' N;obtain⟨e,H⟩:=N;subst e;refine Da id (BM 18 H hm (λD hm H=>?_) λD hm H=>?_)
 ·refine AU 2 ?_;obtain⟨x3,B,hm⟩:=AJ hm;refine Bj 19 (.bool x3) h3 H (λfr=>Steps.call (by kernel_rfl) (DY B)) λfr t H=>?_;refine Ao 1 [(6,.bool x3)] H λfr H=>Bf ?_;obtain rfl:=Bc hm;refine⟨.inl rfl,.bool x3,rH H,?_⟩;replace A:=A.d0;exact⟨rfl,A⟩
 refine JD 4 id (Bj 20 _ _ H (λfr=>.of (Db (by kernel_rfl) (A.Gp 0 rfl (o:=0) (n:=2) ⟨zj rfl,rfl⟩))) λfr t H=>?_);obtain⟨x4,B,hm⟩:=AJ hm;obtain⟨v1,M,G,rfl,A1⟩:=G6 (av:=[.agg [vs AG p0.Ad,Ai p0.A2]]) B (A.cut 0);replace A:=A.SF A1;refine F1 21 G H λfr t H=>?_;obtain⟨h5,e2,A⟩:=A.pu (.cells none 2 [.slice none 0,Ai 0]);refine DF 7 (.ptr (some (M.size,0))) e2 H λfr t H=>?_;obtain⟨h6,B,A⟩:=A.s0 0 [vs AD x4.L,Ai x4.A2] [_,_];refine Km B H λfr t H=>?_;refine Jv 7 id (Bj 23 _ _ H (λfr=>.of (Db (by kernel_rfl) (A.Gp 1 rfl (o:=0) (n:=2) ⟨zj rfl,rfl⟩))) λfr t H=>?_);obtain⟨⟨w5,x6⟩,B,hm⟩:=AJ hm;obtain⟨v1,h7,G,hc⟩:=Ns (av:=[.agg [vs AG p0.Ad,Ai p0.A2],Ai 4096]) B (A.cut 0);rcases hc with⟨x5,rfl,rfl,A1⟩|⟨rfl,rfl,A1⟩
 ·replace A:=A.SF A1;refine F1 24 G H λfr t H=>?_;refine Ao 5 [(8,.Bu [vs AF x5.l_,Ai x5.AZ]),(9,Ai x6)] H λfr H=>BC (AU 3 (Bj 27 _ _ H (λfr=>.of (Db (by kernel_rfl) (A.Gp 0 rfl (o:=0) (n:=2) ⟨zj rfl,rfl⟩))) λfr t H=>?_));obtain⟨x7,B,hm⟩:=AJ hm;obtain⟨v1,h8,G,rfl,A1⟩:=G7 (av:=[.agg [vs AD x4.L,Ai x4.A2]]) B (A.cut 0);replace A:=A.SF A1;refine F1 28 G H λfr t H=>?_;refine Ao 1 [(29,.bool (!x7))] H λfr H=>BM 29 H hm (λD hm H=>?_) λD hm H=>?_
  ·refine AU 10 (Ao 10 [(6,.bool false)] H λfr H=>Bf ?_);obtain rfl:=Bc hm;refine⟨.inl rfl,.bool false,rH H,?_⟩;replace A:=A.d0;exact⟨rfl,A⟩
  refine E5 id (BC (AU 2 (Ao 2 [(40,.bool (x6 !=0))] H λfr H=>BM 40 H hm (λD hm H=>?_) λD hm H=>?_)))
  ·refine AU 13 (AR 3 [(43,.bool (x6==7))] H λfr H=>?_);obtain⟨x8,S,hm⟩:=AJ hm;refine CE 6 (λfr' h'=>Has fr' 69 [(49,.bool x8)]/\HH g h' [.obj M.size (.cells none 2 [vs AD x4.L,Ai x4.A2]),.obj h.size (.cells none 2 [vs AG p0.Ad,Ai p0.A2])] F) ?_ ?_
   ·rcases BH S with⟨D,hm⟩|⟨D,hm⟩
    ·replace H:=H.kn 43 D;refine Bj 44 _ _ H (λfr=>.of (Db (by kernel_rfl) (A.Gp 0 rfl (o:=0) (n:=2) ⟨zj rfl,rfl⟩))) λfr t H=>?_;refine Ak 1 [] 46 0 1 A H λfr t H=>?_;obtain⟨x9,B,hm⟩:=AJ hm;obtain⟨v1,h10,G,rfl,A1⟩:=Gt (av:=[.agg [vs AD x4.L,Ai x4.A2],Ai x4.A2]) B (A.cut 0);replace A:=A.SF A1;refine F1 47 G H λfr t H=>?_;refine AR 2 [(49,.bool (decide (x9>2047)))] H λfr H=>?_;obtain rfl:=Bc hm;exact Ac ⟨H.ls,A⟩
    replace H:=H.kn 43 D;refine AR 6 [(49,.bool false)] H λfr H=>?_;obtain rfl:=Bc hm;exact Ac ⟨H.ls,A⟩
   clear A;intro t fr h9 N;obtain⟨H,A⟩:=N;refine AR 1 [(50,.bool x8)] H λfr H=>?_;obtain⟨x10,S,hm⟩:=AJ hm;refine CE 2 (λfr' h'=>Has fr' 69 [(52,.bool x10)]/\HH g h' [.obj M.size (.cells none 2 [vs AD x4.L,Ai x4.A2]),.obj h.size (.cells none 2 [vs AG p0.Ad,Ai p0.A2])] F) ?_ ?_
   ·rcases BH S with⟨D,hm⟩|⟨D,hm⟩
    ·replace H:=H.kn 50 D;obtain⟨x11,B,hm⟩:=AJ hm;refine Bj 51 (.bool x11) h9 H (λfr=>Steps.call (by kernel_rfl) (DY B)) λfr t H=>?_;refine AR 1 [(52,.bool x11)] H λfr H=>?_;obtain rfl:=Bc hm;exact Ac ⟨H.ls,A⟩
    replace H:=H.kn 50 D;refine AR 2 [(52,.bool false)] H λfr H=>?_;obtain rfl:=Bc hm;exact Ac ⟨H.ls,A⟩
   clear A;intro t fr h11 N;obtain⟨H,A⟩:=N;refine Ao 1 [(6,.bool x10)] H λfr H=>Bf ?_;obtain rfl:=Bc hm;refine⟨.inl rfl,.bool x10,rH H,?_⟩;replace A:=A.d0;exact⟨rfl,A⟩
  refine E5 id (BC (M6 9 17 [(0,[]),(1,[]),(2,[]),(3,[]),(4,[]),(5,[]),(7,[]),(6,[7]),(8,[]),(9,[]),(10,[]),(11,[]),(12,[]),(13,[]),(14,[]),(15,[]),(16,[])] ?_));refine AR 6 [(55,.bool true),(56,.Bu [vs AF x5.l_,Ai x5.AZ]),(57,.str p1),(58,Ai p2)] H λfr H=>D4 60 (.agg [vs AD x4.L,Ai x4.A2]) h8 [(7,M.size)] (g.B4) H (λfr=>.of (Db (by kernel_rfl) (A.la 0 0 2))) (λfr H=>?_);have A1:=A.Pp 0 (pr:=[M.size]) (.cons 0 rfl (by simp[Ck.ids]) .nil);obtain⟨x12,B,hm⟩:=AJ hm;obtain⟨v1,h12,G,rqw9,rfl,A1⟩:=LS (av:=[.Bu [vs AF x5.l_,Ai x5.AZ],.str p1,Ai p2]) B A1;replace A:=A.aY A1;refine D4 59 (AY rqw9 x12.length) h12 [(7,M.size)] (M.size::g.B4) H (λfr=>Steps.call (by kernel_rfl) G) (λfr H=>?_);refine AR 2 [(61,.str p1),(62,Ai p2)] H λfr H=>?_;obtain⟨x13,B,hm⟩:=AJ hm;obtain⟨v1,h13,G,rqw10,rfl,A1⟩:=J2 (av:=[.agg [vs AD x4.L,Ai x4.A2],.str p1,Ai p2]) B (A.cut 0);replace A:=A.aD A1;refine D4 63 (AY rqw10 x13.length) h13 [(7,M.size)] (g.B4) H (λfr=>Steps.call (by kernel_rfl) G) (λfr H=>?_);replace A:=A.k4 1 0 2 3;obtain⟨x14,B,hm⟩:=AJ hm;obtain⟨v1,h14,G,rfl,A1⟩:=I4 (av:=[AY rqw9 x12.length,AY rqw10 x13.length]) B (A.cut 2);replace A:=A.g22 A1;refine D4 64 (.bool x14) h14 [(7,M.size)] (g.B4) H (λfr=>Steps.call (by kernel_rfl) G) (λfr H=>?_);refine AR 2 [(66,.bool x14)] H λfr H=>?_;obtain⟨x15,S,hm⟩:=AJ hm;refine CE 2 (λfr' h'=>Has fr' 69 [(68,.bool x15)]/\HH g h' [.obj M.size (.cells none 2 [vs AD x4.L,Ai x4.A2]),.obj h.size (.cells none 2 [vs AG p0.Ad,Ai p0.A2])] F) ?_ ?_
  ·rcases BH S with⟨D,hm⟩|⟨D,hm⟩
   ·replace H:=H.kn 66 D;obtain⟨x16,B,hm⟩:=AJ hm;refine D4 67 (.bool x16) h14 [(7,M.size)] (g.B4) H (λfr=>Steps.call (by kernel_rfl) (DY B)) (λfr H=>?_);refine AR 1 [(68,.bool x16)] H λfr H=>?_;obtain rfl:=Bc hm;replace A:=A.k2 2 3;exact Ac ⟨H.ls,A⟩
   replace H:=H.kn 66 D;refine AR 2 [(68,.bool false)] H λfr H=>?_;obtain rfl:=Bc hm;replace A:=A.k2 2 3;exact Ac ⟨H.ls,A⟩
  clear A;intro t fr h15 N;obtain⟨H,A⟩:=N;refine Ao 1 [(6,.bool x15)] H λfr H=>Bf ?_;obtain rfl:=Bc hm;refine⟨.inl rfl,.bool x15,rH H,?_⟩;replace A:=A.d0;exact⟨rfl,A⟩
 replace A:=A.SF A1;refine F1 24 G H λfr t H=>?_;refine Ao 5 [(8,.ptr none),(9,Ai x6)] H λfr H=>BC (AU 3 (Bj 27 _ _ H (λfr=>.of (Db (by kernel_rfl) (A.Gp 0 rfl (o:=0) (n:=2) ⟨zj rfl,rfl⟩))) λfr t H=>?_));obtain⟨x17,B,hm⟩:=AJ hm;obtain⟨v1,h16,G,rfl,A1⟩:=G7 (av:=[.agg [vs AD x4.L,Ai x4.A2]]) B (A.cut 0);replace A:=A.SF A1;refine F1 28 G H λfr t H=>?_;refine Ao 1 [(29,.bool (!x17))] H λfr H=>BM 29 H hm (λD hm H=>?_) λD hm H=>?_
 ·refine AU 10 (AR 7 [(36,.bool (x6==1))] H λfr H=>?_);obtain⟨x18,S,hm⟩:=AJ hm;refine CE 2 (λfr' h'=>Has fr' 69 [(38,.bool x18)]/\HH g h' [.obj M.size (.cells none 2 [vs AD x4.L,Ai x4.A2]),.obj h.size (.cells none 2 [vs AG p0.Ad,Ai p0.A2])] F) ?_ ?_
  ·rcases BH S with⟨D,hm⟩|⟨D,hm⟩
   ·replace H:=H.kn 36 D;obtain⟨x19,B,hm⟩:=AJ hm;refine Bj 37 (.bool x19) h16 H (λfr=>Steps.call (by kernel_rfl) (DY B)) λfr t H=>?_;refine AR 1 [(38,.bool x19)] H λfr H=>?_;obtain rfl:=Bc hm;exact Ac ⟨H.ls,A⟩
   replace H:=H.kn 36 D;refine AR 2 [(38,.bool false)] H λfr H=>?_;obtain rfl:=Bc hm;exact Ac ⟨H.ls,A⟩
  clear A;intro t fr h17 N;obtain⟨H,A⟩:=N;refine Ao 1 [(6,.bool x18)] H λfr H=>Bf ?_;obtain rfl:=Bc hm;refine⟨.inl rfl,.bool x18,rH H,?_⟩;replace A:=A.d0;exact⟨rfl,A⟩
 refine E5 id (BC (AU 2 (Ao 2 [(40,.bool (x6 !=0))] H λfr H=>BM 40 H hm (λD hm H=>?_) λD hm H=>?_)))
 ·refine AU 13 (AR 3 [(43,.bool (x6==7))] H λfr H=>?_);obtain⟨x20,S,hm⟩:=AJ hm;refine CE 6 (λfr' h'=>Has fr' 69 [(49,.bool x20)]/\HH g h' [.obj M.size (.cells none 2 [vs AD x4.L,Ai x4.A2]),.obj h.size (.cells none 2 [vs AG p0.Ad,Ai p0.A2])] F) ?_ ?_
  ·rcases BH S with⟨D,hm⟩|⟨D,hm⟩
   ·replace H:=H.kn 43 D;refine Bj 44 _ _ H (λfr=>.of (Db (by kernel_rfl) (A.Gp 0 rfl (o:=0) (n:=2) ⟨zj rfl,rfl⟩))) λfr t H=>?_;refine Ak 1 [] 46 0 1 A H λfr t H=>?_;obtain⟨x21,B,hm⟩:=AJ hm;obtain⟨v1,h19,G,rfl,A1⟩:=Gt (av:=[.agg [vs AD x4.L,Ai x4.A2],Ai x4.A2]) B (A.cut 0);replace A:=A.SF A1;refine F1 47 G H λfr t H=>?_;refine AR 2 [(49,.bool (decide (x21>2047)))] H λfr H=>?_;obtain rfl:=Bc hm;exact Ac ⟨H.ls,A⟩
   replace H:=H.kn 43 D;refine AR 6 [(49,.bool false)] H λfr H=>?_;obtain rfl:=Bc hm;exact Ac ⟨H.ls,A⟩
  clear A;intro t fr h18 N;obtain⟨H,A⟩:=N;refine AR 1 [(50,.bool x20)] H λfr H=>?_;obtain⟨x22,S,hm⟩:=AJ hm;refine CE 2 (λfr' h'=>Has fr' 69 [(52,.bool x22)]/\HH g h' [.obj M.size (.cells none 2 [vs AD x4.L,Ai x4.A2]),.obj h.size (.cells none 2 [vs AG p0.Ad,Ai p0.A2])] F) ?_ ?_
  ·rcases BH S with⟨D,hm⟩|⟨D,hm⟩
   ·replace H:=H.kn 50 D;obtain⟨x23,B,hm⟩:=AJ hm;refine Bj 51 (.bool x23) h18 H (λfr=>Steps.call (by kernel_rfl) (DY B)) λfr t H=>?_;refine AR 1 [(52,.bool x23)] H λfr H=>?_;obtain rfl:=Bc hm;exact Ac ⟨H.ls,A⟩
   replace H:=H.kn 50 D;refine AR 2 [(52,.bool false)] H λfr H=>?_;obtain rfl:=Bc hm;exact Ac ⟨H.ls,A⟩
  clear A;intro t fr h20 N;obtain⟨H,A⟩:=N;refine Ao 1 [(6,.bool x22)] H λfr H=>Bf ?_;obtain rfl:=Bc hm;refine⟨.inl rfl,.bool x22,rH H,?_⟩;replace A:=A.d0;exact⟨rfl,A⟩
 refine E5 id (BC (M6 9 17 [(0,[]),(1,[]),(2,[]),(3,[]),(4,[]),(5,[]),(7,[]),(6,[7]),(8,[]),(9,[]),(10,[]),(11,[]),(12,[]),(13,[]),(14,[]),(15,[]),(16,[])] ?_));refine AR 7 [(55,.bool false),(56,.tuple []),(57,.tuple []),(58,.tuple []),(60,.tuple [])] H λfr H=>Uh [(1,.str p1),(2,Ai p2),(55,.bool false),(59,.tuple []),(60,.tuple [])] H (λfr=>by kernel_rfl) ?_;intro fr H;refine Ao 9 [(6,.bool false)] H λfr H=>Bf ?_;obtain rfl:=Bc hm;refine⟨.inl rfl,.bool false,rH H,?_⟩;replace A:=A.d0;exact⟨rfl,A⟩
end
end Go.Av.L
end
/-
 A part.
-/
section
namespace Go.Av
set_option linter.unusedVariables false
set_option linter.unusedSimpArgs false
theorem Qs{x:Int}(h1: -9223372036854775808<=x)(I:x<=9223372036854775807):IntKind.i64.wrap x=x:=by rw[IntKind.wrap_i64];omega
theorem aS{x:Int}(h1:0<=x)(I:x<=255):IntKind.u8.wrap x=x:=by rw[IntKind.wrap_u8];omega
theorem Gw{α β:Type}[DecidableEq β](a b:β)(x y:Option α):A3 (a==b) x y=if a=b then x else y:=by
 by_cases h:a=b<;>simp[h];have:(a==b)=false:=by simpa using h
 simp[this]
theorem Nc{α β:Type}[DecidableEq β](a b:β)(x y:Option α):A3 (a !=b) x y=if a=b then y else x:=by
 by_cases h:a=b<;>simp[h];have:(a !=b)=true:=by simpa using h
 simp[this]
theorem Mm{s:List UInt8}{i:Nat}{b:UInt8}(h:s[i]?=some b):Rc s (i:Int)=some (b.toNat:Int):=by
 unfold Rc;rw[zk (by omega),zu,h];rfl
theorem N7{σ ρ:Type}{step:σ->Option (σ⊕ρ)}{s s':σ}(h:step s=some (.inl s')):loop step s=loop step s':=by
 by_cases B:∃r,loop step s'=some r
 ·obtain⟨r,G⟩:=B;rw[G];exact KY h G
 ·cases O:loop step s with
  |none=>
   cases hl':loop step s' with
   |none=>rfl
   |some r=>exact absurd ⟨r,hl'⟩ B
  | some r=>
   obtain⟨n,hn⟩:=Kb O;cases n with
   |zero=>cases hn
   |succ n=>
    simp only[Ee,h]at hn;exact absurd ⟨r,Ka hn⟩ B
def W{α:Type}(m:Option α)(Q:α->Prop):Prop:=∃r,m=some r/\Q r
theorem W.mono{α:Type}{m:Option α}{Q Q':α->Prop}(w:W m Q)(h:∀r,Q r->Q' r):W m Q':=by obtain⟨r,e,q⟩:=w;exact⟨r,e,h r q⟩
theorem AH{α:Type}{x:α}{Q:α->Prop}(h:Q x):W (some x) Q:=⟨x,rfl,h⟩
theorem AP{α β:Type}{m:Option α}{k:α->Option β}{Q:β->Prop}(w:W m λx=>W (k x) Q):W (m.bind k) Q:=by obtain⟨r,e,q⟩:=w;rw[e];exact q
theorem Bd{α:Type}{b:Bool}{x y:Option α}{Q:α->Prop}(h1:b=true->W x Q)(I:b=false->W y Q):W (A3 b x y) Q:=by cases b;exact I rfl;exact h1 rfl
theorem Bq{α:Type}{p:Prop}[Decidable p]{x y:Option α}{Q:α->Prop}(h1:p->W x Q)(I:¬p->W y Q):W (A3 (decide p) x y) Q:=by by_cases h:p<;>simp[h,h1,I]
theorem Dc{α:Type}{b:Bool}{x:Option α}{Q:α->Prop}(h1:b=true)(I:W x Q):W (Gv b x) Q:=by rw[h1];exact I
theorem Tq{α:Type}{m:Option α}{x:α}{Q:α->Prop}(e:m=some x)(h:Q x):W m Q:=⟨x,e,h⟩
theorem W.loop{σ ρ:Type}{step:σ->Option (σ⊕ρ)}{s:σ}{Q:ρ->Prop}(inv:σ->Prop)(μ:σ->Nat)(K:inv s)
  (X:∀s,inv s->W (step s) (λr=>match r with| .inl s'=>inv s'/\μ s'<μ s| .inr r=>Q r)):W (Av.loop step s) Q:=by
 refine L1 inv μ Q (λs K=>?_) s K;obtain⟨r,e,q⟩:=X s K;cases r with
 |inl s'=>exact .inl ⟨s',e,q⟩
 |inr r=>exact .inr ⟨r,e,q⟩
theorem W.eq{α:Type}{m:Option α}{x:α}(w:W m λr=>r=x):m=some x:=by obtain⟨r,e,q⟩:=w;rw[e,q]
theorem Vo{n:Nat}{u:Int}(h:0<=u/\u<=n):Ry n none (some u)=some (0,u.toNat):=by simp only[Ry];rw[zk h]
theorem Wg{n:Nat}{l:Int}(h:0<=l/\l<=n):Ry n (some l) none=some (l.toNat,n):=by simp only[Ry];rw[zk h]
theorem drop_cons{α:Type}{l:List α}{i:Nat}(h:i<l.length):l.drop i=l[i]::l.drop (i+1):=zS h
theorem UT(b:UInt8):(0:Int)<=(b.toNat:Int)/\(b.toNat:Int)<=255:=by have:=b.toNat_lt;omega
theorem OK{α:Type}{l:List α}{k:Nat}{x:α}(h:l[k]?=some x):l.take (k+1)=l.take k++[x]:=by
 rw[List.take_add_one,h];rfl
theorem G4{k:Nat}(h:k<4611686018427387904):IntKind.i64.wrap ((k:Int)+1)=((k+1:Nat):Int):=by rw[Qs (by omega) (by omega)];omega
theorem Ij{α:Type}{l:List α}{i:Nat}{x:α}(h:l[i]?=some x):Iz l (i:Int)=some x:=by
 unfold Iz;rw[zk (by omega),zu,h]
theorem Yz{α:Type}{s:List α}{i:Nat}(h:i<=s.length):Nr s (some (i:Int)) none=some (s.drop i):=by
 unfold Nr;rw[Wg ⟨by omega,by omega⟩];simp only[ze,zu];rw[zV (by simp)]
theorem UL{α:Type}{s:List α}{i:Nat}(h:i<=s.length):Nr s none (some (i:Int))=some (s.take i):=by
 unfold Nr;rw[Vo ⟨by omega,by omega⟩];simp
theorem GR{b n:Nat}(h:n<=1099511627776)(I:n*b<=1099511627776):O0 b n=true:=zW ⟨h,I⟩
theorem W.list{α σ τ ρ:Type}{step:τ->Option (τ⊕ρ)}{l:List α}{Q:ρ->Prop}(enc:σ->Nat->τ)(P:σ->Nat->Prop)
  (hend:∀s,P s l.length->W (step (enc s l.length)) λo=>match o with| .inl _=>False| .inr r=>Q r)
  (hstep:∀s i (K:i<l.length),P s i->W (step (enc s i)) λo=>match o with| .inl t=>∃s',t=enc s' (i+1)/\P s' (i+1)| .inr r=>Q r) (s:σ) (h0:P s 0):W (Av.loop step (enc s 0)) Q:=by
 have key:∀(k i:Nat) (s:σ),i+k=l.length->P s i->W (Av.loop step (enc s i)) Q:=by
  intro k
  induction k with
  |zero=>
   intro i s K hp;obtain rfl:i=l.length:=by omega
   obtain⟨o,e,q⟩:=hend s hp;cases o with
   |inl t=>exact q.elim
   |inr r=>exact⟨r,H2 e,q⟩
  | succ k ih=>
   intro i s K hp;obtain⟨o,e,q⟩:=hstep s i (by omega) hp;cases o with
   |inl t=>
    obtain⟨s',rfl,hp'⟩:=q;rw[N7 e];exact ih (i+1) s' (by omega) hp'
   |inr r=>exact⟨r,H2 e,q⟩
 exact key l.length 0 s (by omega) h0
theorem FM{α:Type}{l:List α}{i:Nat}(h:i<l.length):Iz l (i:Int)=some l[i]:=Ij (List.getElem?_eq_getElem h)
theorem UI{l:List UInt8}{i:Nat}(h:i<l.length):Rc l (i:Int)=some (l[i].toNat:Int):=Mm (List.getElem?_eq_getElem h)
end Go.Av
end
/-
 A part.
-/
section
namespace Go.Av
open Go.Proofs.Ytfgmnhjedmkpeaa Go.RowKit Go.ChangeShapes Go.WideShapes
set_option linter.unusedVariables false
set_option linter.unusedSimpArgs false
namespace Bulk
theorem one_le{H:Type}(d:DataW H):1<=Rows.uptoBulk d:=by
 cases d with
 |lit l=>cases l<;>simp[Rows.uptoBulk]
 |_=>simp[Rows.uptoBulk]
theorem Ll{H:Type}{d:DataW H}:∀{l:List (DataW H)},d∈l->Rows.uptoBulk d<=Rows.uptoBulkAll l
 |[],h=>by cases h
 |x::r,h=>by
  simp only[Rows.uptoBulkAll];rcases zP.1 h with rfl|h
  ·omega
  ·have:=Ll h;omega
theorem length_le{H:Type}:∀l:List (DataW H),l.length<=Rows.uptoBulkAll l
 |[]=>by simp[Rows.uptoBulkAll]
 |x::r=>by have:=one_le x;have:=length_le r;simp only[Rows.uptoBulkAll,zT];omega
theorem TI{H:Type}(elems spare:List (DataW H)):elems.length+spare.length+1<=Rows.uptoBulk (.slice elems spare):=by
 have h1:=length_le elems;have I:=length_le spare;simp only[Rows.uptoBulk];omega
theorem PB{H:Type}(elems spare:List (DataW H)):Rows.uptoBulkAll elems+1<=Rows.uptoBulk (.slice elems spare):=by simp only[Rows.uptoBulk];omega
theorem NY{H:Type}{d:DataW H}{l:List (DataW H)}(h:Rows.uptoSmall H l=true)(hd:d∈l):Rows.uptoBulk d<=1048576:=zM (Ll hd) (of_decide_eq_true h)
end Bulk
structure No(P:Program){α:Type}(t:TypeId)(e:α->List AA)(ok:α->Prop):Prop where
 h:∀{H:Type} {enc:TypeId×Value->H} {W:World} {held:Bool} (fuel:Nat) (cs:List Value) (d:DataW H) (ps:List MemPlace),DataW.trod enc P W 0 (λ_=>true) held fuel t cs=some (d,ps)->Rows.uptoBulk d<=1048576->∃x,BT (mW W) (e x) cs/\ok x
section
variable {P:Program}
theorem uI{t:TypeId}{k:IntKind}(hu:P.underlying t=some (.int k)):No P t (eI k) (Hu k):=.mk λ{H enc W held} fuel cs d ps C J=>by
 cases fuel with
 |zero=>simp[DataW.trod]at C
 | succ fuel=>
  unfold DataW.trod at C;rw[hu]at C;split at C<;>first|contradiction|cases ‹(some (_:TypeDesc))=some _›
  rename_i k2 n;split at C<;>try contradiction
  rename_i T;refine⟨n,?_,?_⟩
  ·rw[T.1];exact .cons (.int _ _) (.nil _)
  ·have:=T.2;simp only[Lit.wf,zf,zq]at this;exact this
def W0(x:List UInt8):Prop:=x.length<=1048576
theorem uS{t:TypeId}(hu:P.underlying t=some .string):No P t eS W0:=.mk λ{H enc W held} fuel cs d ps C J=>by
 cases fuel with
 |zero=>simp[DataW.trod]at C
 |succ fuel=>
  unfold DataW.trod at C;rw[hu]at C;split at C<;>first|contradiction|cases ‹(some (_:TypeDesc))=some _›
  rename_i s;split at C<;>try contradiction
  rename_i T;simp only[za,zb]at C;obtain⟨rfl,_⟩:=C;simp only[Rows.uptoBulk]at J;exact⟨s.data.toList,.cons (.str _) (.nil _),by unfold W0;omega⟩
def Un{α:Type}(ok:α->Prop)(xs:List α):Prop:=xs.length<=1048576/\∀x∈xs,ok x
theorem uL{α:Type}{t el:TypeId}{e:α->List AA}{z:Nat}{ok:α->Prop}(E:Kf e z)(hu:P.underlying t=some (.slice el))(hz:P.cellsOf el=z)(V:0<z)(a:No P el e ok):No P t (eL e) (Un ok):=.mk λ{H enc W held} fuel cs d ps C J=>by
 cases fuel with
 |zero=>simp[DataW.trod]at C
 | succ fuel=>
  unfold DataW.trod at C;rw[hu]at C;split at C<;>first|contradiction|cases ‹(some (_:TypeDesc))=some _›
  ·exact⟨[],.cons (.Ic _ _) (.nil _),by simp,by simp⟩
  ·rename_i ad len cap;simp only at C;split at C<;>try contradiction
   rename_i D;obtain⟨elems,he,C⟩:=AJ C;have hlen:elems.length=len:=by simpa using mapM_some_length he
   rw[zg]at C;obtain⟨rest,_,C⟩:=C;simp only[zb]at C;obtain⟨rfl,_⟩:=C;have hbk:=Bulk.TI (elems.map (·.1)) (rest.map (·.1));have hbe:=Bulk.PB (elems.map (·.1)) (rest.map (·.1));rw[yh]at hbk;have hel:∀i,i<len->∃c x,W.cells? 0 (ad.add (i*z)) z=some c/\BT (mW W) (e x) c/\ok x:=by
    intro i K;have:=mapM_some_get he i i (by simp[K]);rw[List.getElem?_eq_getElem (by omega)]at this;obtain⟨c,hc,I⟩:=AJ this;rw[hz]at hc;obtain⟨x,B,T⟩:=a.h fuel c _ _ I (zM (Bulk.Ll (l:=elems.map (·.1)) (zN.2 ⟨_,zY (by omega),rfl⟩)) (by omega));exact⟨c,x,hc,B,T⟩
   have hxs:∀n,n<=len->∃xs:List α,xs.length=n/\∀i x,xs[i]?=some x->ok x/\∃c,W.cells? 0 (ad.add (i*z)) z=some c/\BT (mW W) (e x) c:=by
    intro n
    induction n with
    |zero=>intro _;exact⟨[],rfl,λi x h=>by simp at h⟩
    | succ n ih=>
     intro hn;obtain⟨xs,h1,I⟩:=ih (by omega);obtain⟨c,x,hc,B,T⟩:=hel n (by omega);refine⟨xs++[x],by simp[h1],λi y Y=>?_⟩;by_cases K:i<xs.length
     ·rw[List.getElem?_append_left K]at Y;exact I i y Y
     ·have hi2:i=n:=by
       have:=(List.getElem?_eq_some_iff.1 Y).1;simp at this;omega
      subst hi2;rw[List.getElem?_append_right (by omega),h1]at Y;simp at Y;subst Y;exact⟨T,c,hc,B⟩
   obtain⟨xs,O,U⟩:=hxs len (zr _);refine⟨xs,.cons ?_ (.nil _),by omega,λx B=>?_⟩
   ·by_cases h0:len=0
    ·have:xs=[]:=zi (by omega);subst this;subst h0;exact .Ic _ _
    ·obtain⟨_,c0,hc0,_⟩:=U 0 _ (List.getElem?_eq_getElem (by omega));simp only[qv,add_zero]at hc0;obtain⟨cur,et,fz,b1,b2,b3,b4⟩:=Ny hc0 V;have ea:ad=⟨ad.block,ad.off,none⟩:=by cases ad;simp_all
     have key:∀q v,(Ag e xs)[q]?=some v->∃u,cur[ad.off+q]?=some u/\VR (mW W) v u:=by
      intro q v hv;rw[UG E V]at hv;obtain⟨x,B,hv⟩:=AJ hv;obtain⟨_,c,hc,hvr⟩:=U _ x B;obtain⟨cur',et',fz',d1,d2,d3,d4⟩:=Ny hc V;rw[Rm]at d1;rw[b1]at d1;injection d1 with d1;injection d1 with d1;subst d1;obtain⟨u,R,Z⟩:=hvr.at_ hv;refine⟨u,?_,Z⟩;have hm:=d4 (q%z) (Nat.mod_lt _ V);rw[VD]at hm;have ej:q / z*z+q%z=q:=by rw[qx];exact Nat.div_add_mod _ _
      rw[yq,ej]at hm;rw[hm];exact R
     rw[ea,<-O];refine .Gi xs.length cap ad.block ad.off (Ag e xs) (λi=>(cur[ad.off+i]?).getD undef) (by omega) (λi K=>?_) (λi x B=>?_)
     ·obtain⟨u,R,_⟩:=key i _ (List.getElem?_eq_getElem K);simp only[mW,b1,R,ya]
     ·obtain⟨u,R,Z⟩:=key i x B;rw[R];exact Z
   ·obtain⟨i,K,rfl⟩:=yW B;exact(U i _ (List.getElem?_eq_getElem K)).1
structure Pa(P:Program){α:Type}(ts:List TypeId)(e:α->List AA)(ok:α->Prop):Prop where
 h:∀{H:Type} {enc:TypeId×Value->H} {W:World} {held:Bool} (fuel:Nat) (css:List (List Value)),css.length=ts.length->(∀(i:Nat) c t,css[i]?=some c->ts[i]?=some t->∃(d:DataW H) (ps:List MemPlace),DataW.trod enc P W 0 (λ_=>true) held fuel t c=some (d,ps)/\Rows.uptoBulk d<=1048576)->∃x,BT (mW W) (e x) css.flatten/\ok x
theorem TF:Pa P (α:=Unit) [] (λ_=>[]) (λ_=>True):=.mk λ{H enc W held} fuel css O _=>by
 have:css=[]:=qT.1 O;subst this;exact⟨(),.nil _,trivial⟩
theorem HD{α β:Type}{t:TypeId}{ts:List TypeId}{e:α->List AA}{e':β->List AA}{ok:α->Prop}{ok':β->Prop}(a:No P t e ok)(b:Pa P ts e' ok'):Pa P (t::ts) (λx:α×β=>e x.1++e' x.2) (λx=>ok x.1/\ok' x.2):=.mk λ{H enc W held} fuel css O hd=>by
 cases css with
 |nil=>simp at O
 |cons c css=>
  obtain⟨d,ps,C,J⟩:=hd 0 c t rfl rfl;obtain⟨x,B,k1⟩:=a.h fuel c d ps C J;obtain⟨y,Y,k2⟩:=b.h fuel css (by simpa using O) (λi c t hd' ht'=>hd (i+1) c t (by simpa using hd') (by simpa using ht'));exact⟨(x,y),by rw[y4];exact B.app Y,k1,k2⟩
theorem uR{α β:Type}{t:TypeId}{ts:List TypeId}{e:α->List AA}{ok:α->Prop}{e':β->List AA}{ok':β->Prop}(X:Pq P t ts=true)(f:α->β)(he:∀x,e' (f x)=e x)(T:∀x,ok x->ok' (f x))(a:Pa P ts e ok):No P t e' ok':=.mk λ{H enc W held} fuel cs d ps C J=>by
 unfold Pq at X;split at X
 ·rename_i fs hu;simp only[zf,z3]at X;cases fuel with
  |zero=>simp[DataW.trod]at C
  | succ fuel=>
   unfold DataW.trod at C;rw[hu]at C;split at C<;>first|contradiction|cases ‹(some (_:TypeDesc))=some _›|exact absurd rfl (‹∀fs_1:Array Field,(some (TypeDesc.struct fs):Option TypeDesc)=some (TypeDesc.struct fs_1)->False› fs)
   split at C<;>try contradiction
   rename_i cs _ _ O;simp only[zg,zb]at C;obtain⟨xs,B,rfl,_⟩:=C;have hbp:Rows.uptoBulkAll (xs.map (·.1))+1<=1048576:=by simpa only[Rows.uptoBulk]using J
   obtain⟨x,h1,I⟩:=a.h fuel (fs.toList.map λf=>(cs.drop f.offset).take (P.cellsOf f.type)) (by rw[<-X.2];simp) (λi c t hc C=>by
    rw[<-X.2]at C;rw[List.getElem?_map,zg]at hc C;obtain⟨f1,hf1,rfl⟩:=hc;obtain⟨f2,hf2,rfl⟩:=C;have:f1=f2:=zK (hf1.symm.trans hf2);subst this;have hg:=mapM_some_get B i f1 hf1;have K:i<xs.length:=by rw[mapM_some_length B];exact(List.getElem?_eq_some_iff.1 hf1).1
    rw[List.getElem?_eq_getElem K]at hg
    exact⟨_,_,hg,zM (Bulk.Ll (l:=xs.map (·.1)) (zN.2 ⟨_,zY (by omega),rfl⟩)) (by omega)⟩)
   rw[(KL (P:=P) fs.toList 0 cs X.1 O (ye _)).1,yv]at h1;exact⟨f x,by rw[he];exact h1,T x I⟩
 ·cases X
theorem uA{α β:Type}{t el:TypeId}{n:Nat}{e:α->List AA}{ok:α->Prop}{e':β->List AA}{ok':β->Prop}(hu:P.underlying t=some (.array n el))(hok:n*P.cellsOf el=P.cellsOf t)(f:α->β)(he:∀x,e' (f x)=e x)(T:∀x,ok x->ok' (f x))(a:Pa P (List.replicate n el) e ok):No P t e' ok':=.mk λ{H enc W held} fuel cs d ps C J=>by
 cases fuel with
 |zero=>simp[DataW.trod]at C
 | succ fuel=>
  unfold DataW.trod at C;rw[hu]at C;split at C<;>first|contradiction|cases ‹(some (_:TypeDesc))=some _›|exact absurd rfl (‹∀(n_1:Nat) (e_1:TypeId),(some (TypeDesc.array n el):Option TypeDesc)=some (TypeDesc.array n_1 e_1)->False› n el)
  split at C<;>try contradiction
  rename_i cs _ _ O;simp only[zg,zb]at C;obtain⟨xs,B,rfl,_⟩:=C;have hbp:Rows.uptoBulkAll (xs.map (·.1))+1<=1048576:=by simpa only[Rows.uptoBulk]using J
  have hlen:xs.length=n:=by simpa using mapM_some_length B
  obtain⟨x,h1,I⟩:=a.h fuel ((List.range n).map λi=>(cs.drop (i*P.cellsOf el)).take (P.cellsOf el)) (by simp) (λi c t hc C=>by
   rw[List.getElem?_map,zg]at hc;obtain⟨j,hj,rfl⟩:=hc;have K:i<n:=by have:=(List.getElem?_eq_some_iff.1 hj).1;simpa using this
   have ej:j=i:=by rw[List.getElem?_range K]at hj;exact(zK hj).symm
   subst ej;have et:t=el:=by rw[List.getElem?_replicate]at C;split at C<;>simp_all
   subst et;have hg:=mapM_some_get B j j (by simp[K]);rw[List.getElem?_eq_getElem (by omega)]at hg
   exact⟨_,_,hg,zM (Bulk.Ll (l:=xs.map (·.1)) (zN.2 ⟨_,zY (by omega),rfl⟩)) (by omega)⟩)
  rw[Ig (P.cellsOf el) n cs (by rw[O,hok])]at h1;exact⟨f x,by rw[he];exact h1,T x I⟩
end
end Go.Av
end
