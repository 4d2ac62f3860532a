/-
 A part.
-/
import Derived.Test.YtgkbpgefomapgaaGreatDoorKCfg
namespace Go.Av.L
open IntKind (i64 u8)
open Go.Av Go.Lib
set_option maxRecDepth 10000
set_option linter.unusedVariables false
set_option linter.unusedSimpArgs false
variable {g:Gd} {h:AS} {F:List Ck} {av:List AE}
noncomputable section
def DE(p0:List UInt8)(p1:Int):Option (Bool):=
 (Ae (decide ((i64.wrap (p1+1))<(p0.length:Int))) ((IA p0 p1).bind λx2=>some (x2==115)) (some false):Option (Bool)).bind λx1=>(Ae x1 ((IA p0 (i64.wrap (p1+1))).bind λx4=>some (x4 !=92)) (some false):Option (Bool)).bind λx3=>(Ae x3 ((IA p0 (i64.wrap (p1+1))).bind λx6=>some (x6 !=10)) (some false):Option (Bool)).bind λx5=>some x5
theorem Kl{p0 p1 q0}(M:DE p0 p1=some q0)(A:HH g h [] F)(hc:Bf (cfg.still 14) av=[.str p0,Ai p1]:=by kernel_rfl):∃v Q,Bm cfg g h 14 av v Q/\v=.bool q0/\HH g Q [] F:=by
 refine E5 30 [.tmp 4] hc ?_;clear hc;unfold DE at M;refine bg 30 [(0,.str p0),(1,Ai p1)] λD H=>?_;refine AD 1 (B4 1 [] 26 H λD H=>AI 6 [(10,.bool (decide ((i64.wrap (p1+1))<(p0.length:Int))))] H λD H=>?_);obtain⟨x1,O,M⟩:=AG M;refine BP 5 (λN Q=>Has N 30 [(0,.str p0),(1,Ai p1),(15,.bool x1)]/\HH g Q [] F) ?_ ?_
 ·rcases BS O with⟨B,M⟩|⟨B,M⟩
  ·replace H:=H.kn 10 B;obtain⟨x2,X,M⟩:=AG M;refine BD 2 [] 13 (Ab x2) h H (λD=>.of (DN (by kernel_rfl) X)) λD t H=>?_;refine AI 2 [(15,.bool (x2==115))] H λD H=>?_;obtain rfl:=Ag M;exact Aj ⟨H.ls,A⟩
  replace H:=H.kn 10 B;refine AI 5 [(15,.bool false)] H λD H=>?_;obtain rfl:=Ag M;exact Aj ⟨H.ls,A⟩
 clear A;intro t D h1 K;obtain⟨H,A⟩:=K;refine AI 1 [(16,.bool x1)] H λD H=>?_;obtain⟨x3,O,M⟩:=AG M;refine BP 6 (λN Q=>Has N 30 [(0,.str p0),(1,Ai p1),(22,.bool x3)]/\HH g Q [] F) ?_ ?_
 ·rcases BS O with⟨B,M⟩|⟨B,M⟩
  ·replace H:=H.kn 16 B;obtain⟨x4,X,M⟩:=AG M;refine BD 3 [] 20 (Ab x4) h1 H (λD=>.of (DN (by kernel_rfl) X)) λD t H=>?_;refine AI 2 [(22,.bool (x4 !=92))] H λD H=>?_;obtain rfl:=Ag M;exact Aj ⟨H.ls,A⟩
  replace H:=H.kn 16 B;refine AI 6 [(22,.bool false)] H λD H=>?_;obtain rfl:=Ag M;exact Aj ⟨H.ls,A⟩
 clear A;intro t D G K;obtain⟨H,A⟩:=K;refine AI 1 [(23,.bool x3)] H λD H=>?_;obtain⟨x5,O,M⟩:=AG M;refine BP 6 (λN Q=>Has N 30 [(29,.bool x5)]/\HH g Q [] F) ?_ ?_
 ·rcases BS O with⟨B,M⟩|⟨B,M⟩
  ·replace H:=H.kn 23 B;obtain⟨x6,X,M⟩:=AG M;refine BD 3 [] 27 (Ab x6) G H (λD=>.of (DN (by kernel_rfl) X)) λD t H=>?_;refine AI 2 [(29,.bool (x6 !=10))] H λD H=>?_;obtain rfl:=Ag M;exact Aj ⟨H.ls,A⟩
  replace H:=H.kn 23 B;refine AI 6 [(29,.bool false)] H λD H=>?_;obtain rfl:=Ag M;exact Aj ⟨H.ls,A⟩
 clear A;intro t D U K;obtain⟨H,A⟩:=K;refine AK 1 [(4,.bool x5)] H λD H=>Ak ?_;obtain rfl:=Ag M;exact⟨.inl rfl,_,rH H,rfl,A⟩
def D2(p0:List UInt8)(p2:Int)(s:(List UInt8)×Int):Option (((List UInt8)×Int)⊕((Unit)⊕((List UInt8)×Int×Bool))):=
 match s with
 |(x1,x2)=>Ae (decide (x2<(p0.length:Int))) (((IA p0 x2).bind λx11=>Ae (x11==p2) (some (.inr (x1,i64.wrap (x2+1),true))) ((IA p0 x2).bind λx12=>Ae ((x12==92)&&(decide ((i64.wrap (x2+1))<(p0.length:Int)))) (((IA p0 (i64.wrap (x2+1))).bind λx14=>Ae (x14 !=p2) (Ds (J5 1 (x1.length+([(92:UInt8)]:UV).length))<|some (x1++([(92:UInt8)]:UV))) (some x1):Option (((List UInt8)))).bind λx13=>some (.inl (x13,i64.wrap (x2+1)))) (some (.inl (x1,x2)))):Option (((List UInt8)×Int)⊕((List UInt8)×Int×Bool))).bind λo2=>(match o2 with| .inl (x6,x7)=>(IA p0 x7).bind λx15=>(Oj x15).bind λx16=>Ds (J5 1 (x6.length+([x16]:UV).length))<|some (.inl ((x6++([x16]:UV)),i64.wrap (x7+1)))| .inr (x8,x9,x10)=>some (.inr (.inr (x8,x9,x10))))) (some (.inr (.inl ())))
def CG(p0:List UInt8)(p1:Int)(p2:Int):Option ((List UInt8)×Int×Bool):=
 (loop (D2 p0 p2) (([]:UV),p1)).bind λo1=>(match o1 with| .inl _=>some (([]:UV),(p0.length:Int),false)| .inr (x3,x4,x5)=>some (x3,x4,x5))
theorem Jf{p0 p1 p2 q0 q1 q2}(M:CG p0 p1 p2=some (q0,q1,q2))(A:HH g h [] F)(hc:Bf (cfg.still 15) av=[.str p0,Ai p1,Ab p2]:=by kernel_rfl):∃v Q,Bm cfg g h 15 av v Q/\v=.tuple [.str q0,Ai q1,.bool q2]/\HH g Q [] F:=by
 refine E5 57 [.tmp 6,.tmp 7,.tmp 8] hc ?_;clear hc;unfold CG at M;refine bg 57 [(0,.str p0),(1,Ai p1),(2,Ab p2)] λD H=>?_;refine AD 3 (B4 3 [] 1 H λD H=>AK 1 [(9,.slice none 0)] H λD H=>AQ (Ad (id:=0) (by kernel_rfl) ?_));replace A:HH g h [.AP none 5 (AP eY ([]:UV))] F:=A.It 5;obtain⟨o1,O,M⟩:=AG M;refine Ap (Q':=λe N Q=>(e=.exit 0/\.inl ()=o1/\Has N 57 [(0,.str p0)]/\HH g Q [] F)\/(∃x3 x4 x5,e=.ret/\.inr (x3,x4,x5)=o1/\Has N 57 [(6,.str x3),(7,Ai x4),(8,.bool x5)]/\HH g Q [] F)\/False) ?_ ?_
 ·refine Bp (by kernel_rfl) (λ(s:(List UInt8)×Int) N Q=>∃x1 x2,(x1,x2)=s/\∃r1,Has N 57 [(0,.str p0),(1,Ai x2),(2,Ab p2),(9,AH r1 x1.length)]/\HH g Q [.AP r1 5 (AP eY x1)] F) O ⟨_,_,rfl,none,H.ls,A⟩ ?_;clear O M H A;intro s q D h1 T M;obtain⟨x1,x2,rfl,r1,H,A⟩:=T;unfold D2 at M;refine AQ (AD 4 (AK 4 [(13,.bool (decide (x2<(p0.length:Int))))] H λD H=>AU 13 H M (λB M H=>?_) λB M H=>?_))
  ·refine Bt id (AQ (Ad (id:=1) (by kernel_rfl) ?_));refine AQ ?_;obtain⟨o2,O,M⟩:=AG M;refine Ap (Q':=λe N Q=>(∃x6 x7,e=.normal/\.inl (x6,x7)=o2/\∃r2,Has N 57 [(0,.str p0),(1,Ai x7),(2,Ab p2),(9,AH r2 x6.length)]/\HH g Q [.AP r2 5 (AP eY x6)] F)\/(∃x8 x9 x10,e=.ret/\.inr (x8,x9,x10)=o2/\Has N 57 [(6,.str x8),(7,Ai x9),(8,.bool x10)]/\HH g Q [] F)\/False) ?_ ?_
   ·replace M:=O;clear O;refine Ad (id:=2) (by kernel_rfl) ?_;refine AD 6 ?_;obtain⟨x11,X,M⟩:=AG M;refine BD 2 [] 19 (Ab x11) h1 H (λD=>.of (DN (by kernel_rfl) X)) λD t H=>?_;refine AK 3 [(16,.bool (x11==p2))] H λD H=>AU 16 H M (λB M H=>?_) λB M H=>?_
    ·refine AD 7 (AI 1 [(22,AH r1 x1.length)] H λD H=>Aw 23 (.str x1) h1 H (λD=>.of (Qn (xs:=x1) A 0 rfl (by kernel_rfl))) λD t H=>?_);refine AK 5 [(6,.str x1),(7,Ai (i64.wrap (x2+1))),(8,.bool true)] H λD H=>Ak ?_;replace A:=A.d0;exact .inr (.inl ⟨_,_,_,rfl,Ag M,H.ls,A⟩)
    refine AD 12 ?_;obtain⟨x12,X,M⟩:=AG M;refine BD 2 [] 29 (Ab x12) h1 H (λD=>.of (DN (by kernel_rfl) X)) λD t H=>?_;refine AI 2 [(31,.bool (x12==92))] H λD H=>BP 6 (λN Q=>h1=Q/\Has N 57 [(0,.str p0),(1,Ai x2),(2,Ab p2),(9,AH r1 x1.length),(37,.bool ((x12==92)&&(decide ((i64.wrap (x2+1))<(p0.length:Int)))))]) ?_ ?_
    ·cases B:(x12==92:Bool)with
     |true=>
      replace H:=H.kn 31 B;exact AI 6 [(37,.bool (decide ((i64.wrap (x2+1))<(p0.length:Int))))] H λD H=>BH H B
     |false=>
      replace H:=H.kn 31 B;exact AI 6 [(37,.bool false)] H λD H=>BH H B
    intro t D Q K;obtain⟨e,H⟩:=K;subst e;refine AK 1 [(26,.bool ((x12==92)&&(decide ((i64.wrap (x2+1))<(p0.length:Int)))))] H λD H=>AU 26 H M (λB M H=>?_) λB M H=>?_
    ·refine AQ ?_;obtain⟨o3,O,M⟩:=AG M;refine Ap (Q':=λe N Q=>(∃x13,e=.normal/\x13=o3/\∃r3,Has N 57 [(0,.str p0),(1,Ai x2),(2,Ab p2),(9,AH r3 x13.length)]/\HH g Q [.AP r3 5 (AP eY x13)] F)\/False) ?_ ?_
     ·replace M:=O;clear O;refine AD 6 ?_;obtain⟨x14,X,M⟩:=AG M;refine BD 3 [] 41 (Ab x14) h1 H (λD=>.of (DN (by kernel_rfl) X)) λD t H=>?_;refine AK 2 [(43,.bool (x14 !=p2))] H λD H=>AU 43 H M (λB M H=>?_) λB M H=>?_
      ·refine BY 4 (AI 1 [(44,AH r1 x1.length)] H λD H=>?_);obtain⟨G,e1,A⟩:=A.pL 5 [Ab 92];refine Bc 45 (AH (some h1.size) (([(92:UInt8)]:UV).length)) e1 H λD t H=>?_;obtain⟨B,M⟩:=BN M;obtain⟨r4,U,X,E⟩:=HH.Iv Lr (by decide) A 1 (xs:=x1) (ys:=([(92:UInt8)]:UV)) rfl (Bz A 0 rfl (n:=([(92:UInt8)]:UV).length) (z:=1) rfl (by decide)) rfl rfl B;replace A:HH g U [.AP (some h1.size) 5 ([Ab 92]),.AP r4 5 (AP eY (x1++([(92:UInt8)]:UV)))] F:=E;replace A:=A.k1 1;refine Aw 46 _ _ H (λD=>.of (El (s:=Ca r1 x1.length) (by kernel_rfl) X)) λD t H=>?_;refine BA 1 [(0,.str p0),(1,Ai x2),(2,Ab p2),(9,AH r4 ((x1++([(92:UInt8)]:UV)).length))] H λD H=>Aj ?_;exact .inl ⟨_,rfl,Ag M,_,H.ls,A⟩
      exact Bv (.inl ⟨_,rfl,Ag M,_,H.ls,A⟩)
     clear O;clear A;intro e D Y I;rcases I with⟨x13,rfl,rfl,r3,H,A⟩|J
     ·show AW _ _ _ _ _ _ _;refine BY 3 (BA 3 [(0,.str p0),(1,Ai (i64.wrap (x2+1))),(2,Ab p2),(9,AH r3 x13.length)] H λD H=>Aj ?_);exact .inl ⟨_,_,rfl,Ag M,_,H.ls,A⟩
     exact J.elim
    exact Bv (.inl ⟨_,_,rfl,Ag M,_,H.ls,A⟩)
   clear O;clear A;intro e D P I;rcases I with⟨x6,x7,rfl,rfl,r2,H,A⟩|⟨x8,x9,x10,rfl,rfl,H,A⟩|J
   ·show AW _ _ _ _ _ _ _;refine BY 7 ?_;obtain⟨x15,X,M⟩:=AG M;refine BD 3 [(49,AH r2 x6.length)] 52 (Ab x15) P H (λD=>.of (DN (by kernel_rfl) X)) λD t H=>?_;obtain⟨x16,X,M⟩:=AG M;have X:=MN X;have kH:=M;have kA:=A;have kR:=H;subst X;have M:=kH;have A:=kA;have H:=kR;clear kH kA kR;obtain⟨S,e2,A⟩:=A.pL 5 [Ab (x16.toNat:Int)];refine Bc 53 (AH (some P.size) (([x16]:UV).length)) e2 H λD t H=>?_;obtain⟨B,M⟩:=BN M;obtain⟨r5,h7,X,E⟩:=HH.Iv Lr (by decide) A 1 (xs:=x6) (ys:=([x16]:UV)) rfl (Bz A 0 rfl (n:=([x16]:UV).length) (z:=1) rfl (by decide)) rfl rfl B;replace A:HH g h7 [.AP (some P.size) 5 ([Ab (x16.toNat:Int)]),.AP r5 5 (AP eY (x6++([x16]:UV)))] F:=E;replace A:=A.k1 1;refine Aw 54 _ _ H (λD=>.of (El (s:=Ca r2 x6.length) (by kernel_rfl) X)) λD t H=>?_;refine BA 1 [(0,.str p0),(1,Ai x7),(2,Ab p2),(9,AH r5 ((x6++([x16]:UV)).length))] H λD H=>Fu 3 id (BA 3 [(0,.str p0),(1,Ai (i64.wrap (x7+1))),(2,Ab p2),(9,AH r5 ((x6++([x16]:UV)).length))] H λD H=>Aj ?_);exact nx M ⟨_,_,rfl,_,H.ls,A⟩
   ·exact nr M λe=>Or.inr (.inl ⟨_,_,_,rfl,e,H.ls,A⟩)
   exact J.elim
  refine BM (i:=0) (by kernel_rfl) ?_;replace A:=A.d0;exact nr M λe=>.inl ⟨rfl,e,H.ls,A⟩
 clear O;clear A;intro e D W I;rcases I with⟨rfl,rfl,H,A⟩|⟨x3,x4,x5,rfl,rfl,H,A⟩|J
 ·show AW _ _ _ _ _ _ _;refine AD 5 (AK 5 [(6,.str ([]:UV)),(7,Ai (p0.length:Int)),(8,.bool false)] H λD H=>Ak ?_);obtain⟨rfl,rfl,rfl⟩:=DG M;exact⟨.inl rfl,_,rH H,rfl,A⟩
 ·obtain⟨rfl,rfl,rfl⟩:=DG M;exact⟨.inl rfl,_,rH H,rfl,A⟩
 exact J.elim
def FI(p0:List UInt8)(p1:Int):Option (Int):=
 (Km p0 p1).bind λx1=>some x1
theorem Kx{p0 p1 q0}(M:FI p0 p1=some q0)(A:HH g h [] F)(hc:Bf (cfg.still 35) av=[.str p0,Ab p1]:=by kernel_rfl):∃v Q,Bm cfg g h 35 av v Q/\v=Ai q0/\HH g Q [] F:=by
 refine E5 8 [.tmp 4] hc ?_;clear hc;unfold FI at M;refine bg 8 [(0,.str p0),(1,Ab p1)] λD H=>?_;refine AD 1 (B4 1 [] 4 H λD H=>?_);obtain⟨x1,X,M⟩:=AG M;refine BD 2 [] 7 (Ai x1) h H (λD=>Steps.call (by kernel_rfl) (YY (C:=cfg) (f:=58) (by kernel_rfl) (l:=exts) rfl (by kernel_rfl) X)) λD t H=>?_;refine AK 1 [(4,Ai x1)] H λD H=>Ak ?_;obtain rfl:=Ag M;exact⟨.inl rfl,_,rH H,rfl,A⟩
def DI(p0:List UInt8)(p1:Int):Option (Int):=
 (FI p0 p1).bind λx1=>some x1
theorem GP{p0 p1 q0}(M:DI p0 p1=some q0)(A:HH g h [] F)(hc:Bf (cfg.still 16) av=[.str p0,Ab p1]:=by kernel_rfl):∃v Q,Bm cfg g h 16 av v Q/\v=Ai q0/\HH g Q [] F:=by
 refine E5 8 [.tmp 4] hc ?_;clear hc;unfold DI at M;refine bg 8 [(0,.str p0),(1,Ab p1)] λD H=>?_;refine AD 1 (B4 1 [] 4 H λD H=>?_);obtain⟨x1,X,M⟩:=AG M;obtain⟨v1,h1,R,rfl,E⟩:=Kx (av:=[.str p0,Ab p1]) X (A.cut 0);replace A:=A.FL E;refine As 2 [] 7 R H λD t H=>?_;refine AK 1 [(4,Ai x1)] H λD H=>Ak ?_;obtain rfl:=Ag M;exact⟨.inl rfl,_,rH H,rfl,A⟩
def Cj(p0:List UInt8)(x6:Int)(s:Int×Int):Option ((Int×Int)⊕((Int)⊕(Bool))):=
 match s with
 |(x7,x8)=>Ae (decide (x8<2)) ((CG p0 x7 x6).bind λ(x11,x12,x13)=>Ae (!x13) (some (.inr (.inr false))) (some (.inl (x12,i64.wrap (x8+1))))) (some (.inr (.inl x7)))
def Dz(p0:List UInt8)(s:(List (List UInt8))×Int):Option (((List (List UInt8))×Int)⊕(((List (List UInt8))×Bool))):=
 match s with
 |(x1,x2)=>(DE p0 x2).bind λx5=>Ae (!x5) (some (.inr (([]:List (List UInt8)),false))) ((IA p0 (i64.wrap (x2+1))).bind λx6=>(loop (Cj p0 x6) (i64.wrap (x2+2),(0:Int))).bind λo2=>(match o2 with| .inl x9=>(I0 p0 (some x9) none).bind λx14=>(DI x14 (59:Int)).bind λx15=>Ae (decide (x15<0)) ((I0 p0 (some x2) none).bind λx16=>Ds (J5 16 (x1.length+([x16]:List (List UInt8)).length))<|some (.inr ((x1++([x16]:List (List UInt8))),true))) ((I0 p0 (some x2) (some (i64.wrap (x9+x15)))).bind λx17=>Ds (J5 16 (x1.length+([x17]:List (List UInt8)).length))<|some (.inl ((x1++([x17]:List (List UInt8))),i64.wrap (x9+(i64.wrap (x15+1))))))| .inr x10=>some (.inr (([]:List (List UInt8)),x10))))
def EB(p0:List UInt8):Option ((List (List UInt8))×Bool):=
 (loop (Dz p0) (([]:List (List UInt8)),(0:Int))).bind λ(x3,x4)=>some (x3,x4)
theorem L7{p0 q0 q1}(M:EB p0=some (q0,q1))(A:HH g h [] F)(hc:Bf (cfg.still 5) av=[.str p0]:=by kernel_rfl):∃v Q,Bm cfg g h 5 av v Q/\∃(rq0:Option Nat),v=.tuple [AH rq0 q0.length,.bool q1]/\HH g Q [.AP rq0 9 (AP eS q0)] F:=by
 refine E5 59 [.tmp 2,.tmp 3] hc ?_;clear hc;unfold EB at M;refine bg 59 [(0,.str p0)] λD H=>?_;refine AD 2 (B4 2 [] 1 H λD H=>B4 1 [(4,.slice none 0)] 1 H λD H=>AK 1 [(5,Ai 0)] H λD H=>Ad (id:=0) (by kernel_rfl) ?_);replace A:HH g h [.AP none 9 (AP eS ([]:List (List UInt8)))] F:=A.It 9;obtain⟨o1,O,M⟩:=AG M;refine Ap (Q':=λe N Q=>(∃x3 x4,e=.ret/\(x3,x4)=o1/\∃r2,Has N 59 [(2,AH r2 x3.length),(3,.bool x4)]/\HH g Q [.AP r2 9 (AP eS x3)] F)\/False) ?_ ?_
 ·refine Bp (by kernel_rfl) (λ(s:(List (List UInt8))×Int) N Q=>∃x1 x2,(x1,x2)=s/\∃r1,Has N 59 [(0,.str p0),(4,AH r1 x1.length),(5,Ai x2)]/\HH g Q [.AP r1 9 (AP eS x1)] F) O ⟨_,_,rfl,none,H.ls,A⟩ ?_;clear O M H A;intro s q D h1 T M;obtain⟨x1,x2,rfl,r1,H,A⟩:=T;unfold Dz at M;refine Ad (id:=1) (by kernel_rfl) ?_;refine AQ (AD 4 ?_);obtain⟨x5,X,M⟩:=AG M;obtain⟨v1,G,R,rfl,E⟩:=Kl (av:=[.str p0,Ai x2]) X (A.cut 0);replace A:=A.FL E;refine As 2 [] 12 R H λD t H=>?_;refine AK 1 [(13,.bool (!x5))] H λD H=>AU 13 H M (λB M H=>?_) λB M H=>?_
  ·refine AD 2 (AK 2 [(2,.slice none 0),(3,.bool false)] H λD H=>Ak ?_);replace A:HH g G [.AP none 9 (AP eS ([]:List (List UInt8))),_] F:=A.It 9;replace A:=A.d1;exact nr M λe=>.inl ⟨_,_,rfl,e,none,H.ls,A⟩
  refine CH 3 id (B4 3 [(6,Ai x2)] 5 H λD H=>?_);obtain⟨x6,X,M⟩:=AG M;refine BD 3 [] 18 (Ab x6) G H (λD=>.of (DN (by kernel_rfl) X)) λD t H=>?_;refine B4 1 [(8,Ab x6)] 3 H λD H=>BA 3 [(0,.str p0),(4,AH r1 x1.length),(5,Ai (i64.wrap (x2+2))),(6,Ai x2),(8,Ab x6)] H λD H=>BK id (AQ (AD 1 (AK 1 [(21,Ai 0)] H λD H=>Ad (id:=2) (by kernel_rfl) ?_)));obtain⟨o2,O,M⟩:=AG M;refine Ap (Q':=λe N Q=>(∃x9,e=.exit 2/\.inl x9=o2/\Has N 59 [(0,.str p0),(4,AH r1 x1.length),(5,Ai x9),(6,Ai x2)]/\HH g Q [.AP r1 9 (AP eS x1)] F)\/(∃x10,e=.ret/\.inr x10=o2/\Has N 59 [(2,.slice none 0),(3,.bool x10)]/\HH g Q [] F)\/False) ?_ ?_
  ·refine Bp (by kernel_rfl) (λ(s:Int×Int) N Q=>∃x7 x8,(x7,x8)=s/\Has N 59 [(0,.str p0),(4,AH r1 x1.length),(5,Ai x7),(6,Ai x2),(8,Ab x6),(21,Ai x8)]/\HH g Q [.AP r1 9 (AP eS x1)] F) O ⟨_,_,rfl,H.ls,A⟩ ?_;clear O M H A;intro s q D U T M;obtain⟨x7,x8,rfl,H,A⟩:=T;unfold Cj at M;refine AD 1 (AK 1 [(22,.bool (decide (x8<2)))] H λD H=>AQ (AU 22 H M (λB M H=>?_) λB M H=>?_))
   ·refine Bt id (AQ (Ad (id:=3) (by kernel_rfl) ?_));refine AD 10 ?_;obtain⟨⟨x11,x12,x13⟩,X,M⟩:=AG M;obtain⟨v1,Y,R,rfl,E⟩:=Jf (av:=[.str p0,Ai x7,Ab x6]) X (A.cut 0);replace A:=A.FL E;refine As 3 [] 27 R H λD t H=>?_;refine BA 6 [(0,.str p0),(4,AH r1 x1.length),(5,Ai x12),(6,Ai x2),(7,.bool x13),(8,Ab x6),(21,Ai x8)] H λD H=>B6 2 id (AK 2 [(32,.bool (!x13))] H λD H=>AU 32 H M (λB M H=>?_) λB M H=>?_)
    ·refine AD 2 (AK 2 [(2,.slice none 0),(3,.bool false)] H λD H=>Ak ?_);replace A:=A.d0;exact nr M λe=>Or.inr (.inl ⟨_,rfl,e,H.ls,A⟩)
    refine Ie 2 id (BA 2 [(0,.str p0),(4,AH r1 x1.length),(5,Ai x12),(6,Ai x2),(8,Ab x6),(21,Ai (i64.wrap (x8+1)))] H λD H=>Aj ?_);exact nx M ⟨_,_,rfl,H.ls,A⟩
   refine BM (i:=2) (by kernel_rfl) ?_;exact nr M λe=>.inl ⟨_,rfl,e,H.ls,A⟩
  clear O;clear A;intro e D P I;rcases I with⟨x9,rfl,rfl,H,A⟩|⟨x10,rfl,rfl,H,A⟩|J
  ·show AW _ _ _ _ _ _ _;refine AD 5 ?_;obtain⟨x14,X,M⟩:=AG M;refine BD 2 [] 36 (.str x14) P H (λD=>.of (Gu (k:=.i64) (k':=.i64) (lo:=(some x9)) (hi:=none) (by kernel_rfl) X)) λD t H=>?_;obtain⟨x15,X,M⟩:=AG M;obtain⟨v1,S,R,rfl,E⟩:=GP (av:=[.str x14,Ab 59]) X (A.cut 0);replace A:=A.FL E;refine Bq 37 R H λD t H=>?_;refine AK 1 [(9,Ai x15)] H λD H=>AQ (AD 2 (AK 2 [(39,.bool (decide (x15<0)))] H λD H=>AU 39 H M (λB M H=>?_) λB M H=>?_))
   ·refine AD 8 ?_;obtain⟨x16,X,M⟩:=AG M;refine BD 3 [(40,AH r1 x1.length)] 43 (.str x16) S H (λD=>.of (Gu (k:=.i64) (k':=.i64) (lo:=(some x2)) (hi:=none) (by kernel_rfl) X)) λD t H=>?_;obtain⟨h7,e1,A⟩:=A.pL 9 [.str x16];refine Bc 44 (AH (some S.size) (([x16]:List (List UInt8)).length)) e1 H λD t H=>?_;obtain⟨B,M⟩:=BN M;obtain⟨r3,W,X,E⟩:=HH.Iv encS (by decide) A 1 (xs:=x1) (ys:=([x16]:List (List UInt8))) rfl (Bz A 0 rfl (n:=([x16]:List (List UInt8)).length) (z:=1) rfl (by decide)) rfl rfl B;replace A:HH g W [.AP (some S.size) 9 ([.str x16]),.AP r3 9 (AP eS (x1++([x16]:List (List UInt8))))] F:=E;replace A:=A.k1 1;refine Aw 45 _ _ H (λD=>.of (El (s:=Ca r1 x1.length) (by kernel_rfl) X)) λD t H=>?_;refine AK 2 [(2,AH r3 ((x1++([x16]:List (List UInt8))).length)),(3,.bool true)] H λD H=>Ak ?_;exact nr M λe=>.inl ⟨_,_,rfl,e,_,H.ls,A⟩
   refine CH 10 id ?_;obtain⟨x17,X,M⟩:=AG M;refine BD 6 [(46,AH r1 x1.length)] 52 (.str x17) S H (λD=>.of (Gu (k:=.i64) (k':=.i64) (lo:=(some x2)) (hi:=(some (i64.wrap (x9+x15)))) (by kernel_rfl) X)) λD t H=>?_;obtain⟨h9,e2,A⟩:=A.pL 9 [.str x17];refine Bc 53 (AH (some S.size) (([x17]:List (List UInt8)).length)) e2 H λD t H=>?_;obtain⟨B,M⟩:=BN M;obtain⟨r4,V,X,E⟩:=HH.Iv encS (by decide) A 1 (xs:=x1) (ys:=([x17]:List (List UInt8))) rfl (Bz A 0 rfl (n:=([x17]:List (List UInt8)).length) (z:=1) rfl (by decide)) rfl rfl B;replace A:HH g V [.AP (some S.size) 9 ([.str x17]),.AP r4 9 (AP eS (x1++([x17]:List (List UInt8))))] F:=E;replace A:=A.k1 1;refine Aw 54 _ _ H (λD=>.of (El (s:=Ca r1 x1.length) (by kernel_rfl) X)) λD t H=>?_;refine BA 1 [(0,.str p0),(4,AH r4 ((x1++([x17]:List (List UInt8))).length)),(5,Ai x9),(9,Ai x15)] H λD H=>Fu 5 id (BA 5 [(0,.str p0),(4,AH r4 ((x1++([x17]:List (List UInt8))).length)),(5,Ai (i64.wrap (x9+(i64.wrap (x15+1)))))] H λD H=>Aj ?_);exact nx M ⟨_,_,rfl,_,H.ls,A⟩
  ·replace A:HH g P [.AP none 9 (AP eS ([]:List (List UInt8)))] F:=A.It 9;exact nr M λe=>.inl ⟨_,_,rfl,e,none,H.ls,A⟩
  exact J.elim
 clear O;clear A;intro e D h11 I;rcases I with⟨x3,x4,rfl,rfl,r2,H,A⟩|J
 ·obtain⟨rfl,rfl⟩:=C1 M;exact⟨.inl rfl,_,rH H,_,rfl,A⟩
 exact J.elim
def Ec(x1:List UInt8)(s:Int×Int):Option ((Int×Int)⊕((Int))):=
 match s with
 |(x6,x7)=>Ae (decide (x7<(x1.length:Int))) ((FT x1 x7).bind λx9=>Ae (decide ((u8.wrap ((x9.toNat:Int) - 48))>9)) (none) (some (.inl (i64.wrap ((i64.wrap (x6*10))+(i64.wrap (u8.wrap ((x9.toNat:Int) - 48)))),i64.wrap (x7+1))))) (some (.inr x6))
def Hm(p0:List UInt8):Option (Int):=
 Ae ((decide ((0:Int)<(p0.length:Int)))&&(decide ((p0.length:Int)<19))) (((IA p0 (0:Int)).bind λx2=>(Ae (x2==45) (some true) ((IA p0 (0:Int)).bind λx4=>some (x4==43)):Option (Bool)).bind λx3=>Ae x3 ((I0 p0 (some (1:Int)) none).bind λx5=>Ae (decide ((x5.length:Int)<1)) (none) (some x5)) (some p0):Option (((List UInt8)))).bind λx1=>Ds (decide (x1.length<=1099511627776))<|(loop (Ec x1) ((0:Int),(0:Int))).bind λx8=>((IA p0 (0:Int)).bind λx11=>Ae (x11==45) (some (i64.wrap (0 - x8))) (some x8):Option ((Int))).bind λx10=>some x10) (none)
theorem N3{p0 q0}(M:Hm p0=some q0)(A:HH g h [] F)(hc:Bf (cfg.still 59) av=[.str p0]:=by kernel_rfl):∃v Q,Bm cfg g h 59 av v Q/\v=.tuple [Ai q0,.nilIface]/\HH g Q [] F:=by
 refine E5 77 [.tmp 2,.tmp 3] hc ?_;clear hc;unfold Hm at M;refine bg 77 [(0,.str p0)] λD H=>?_;refine AD 2 (B4 2 [] 3 H λD H=>AK 3 [(4,Ai (p0.length:Int))] H λD H=>AQ (AD 18 (AI 13 [(21,.bool false),(22,.bool true),(25,.bool (decide ((0:Int)<(p0.length:Int))))] H λD H=>BP 3 (λN Q=>h=Q/\Has N 77 [(0,.str p0),(21,.bool false),(22,.bool true),(28,.bool ((decide ((0:Int)<(p0.length:Int)))&&(decide ((p0.length:Int)<19))))]) ?_ ?_)))
 ·cases B:(decide ((0:Int)<(p0.length:Int)):Bool)with
  |true=>
   replace H:=H.kn 25 B;exact AI 3 [(28,.bool (decide ((p0.length:Int)<19)))] H λD H=>BH H B
  |false=>
   replace H:=H.kn 25 B;exact AI 3 [(28,.bool false)] H λD H=>BH H B
 intro t D Q K;obtain⟨e,H⟩:=K;subst e;refine AK 2 [(30,.bool ((decide ((0:Int)<(p0.length:Int)))&&(decide ((p0.length:Int)<19))))] H λD H=>AU 30 H M (λB M H=>?_) λB M H=>?_
 ·refine AD 2 (AK 2 [(5,.str p0)] H λD H=>AQ ?_);obtain⟨o1,O,M⟩:=AG M;refine Ap (Q':=λe N Q=>(∃x1,e=.normal/\x1=o1/\Has N 77 [(0,.str x1),(5,.str p0)]/\HH g Q [] F)\/False) ?_ ?_
  ·replace M:=O;clear O;refine AD 8 ?_;obtain⟨x2,X,M⟩:=AG M;refine BD 1 [] 33 (Ab x2) h H (λD=>.of (DN (by kernel_rfl) X)) λD t H=>?_;refine AI 2 [(35,.bool (x2==45))] H λD H=>?_;obtain⟨x3,O,M⟩:=AG M;refine BP 4 (λN Q=>Has N 77 [(0,.str p0),(5,.str p0),(39,.bool x3)]/\HH g Q [] F) ?_ ?_
   ·rcases BS O with⟨B,M⟩|⟨B,M⟩
    ·replace H:=H.kn 35 B;refine AI 4 [(39,.bool true)] H λD H=>?_;obtain rfl:=Ag M;exact Aj ⟨H.ls,A⟩
    replace H:=H.kn 35 B;obtain⟨x4,X,M⟩:=AG M;refine BD 1 [] 37 (Ab x4) h H (λD=>.of (DN (by kernel_rfl) X)) λD t H=>?_;refine AI 2 [(39,.bool (x4==43))] H λD H=>?_;obtain rfl:=Ag M;exact Aj ⟨H.ls,A⟩
   clear A;intro t D h1 K;obtain⟨H,A⟩:=K;refine BK id (AU 39 H M (λB M H=>?_) λB M H=>?_)
   ·refine AD 3 ?_;obtain⟨x5,X,M⟩:=AG M;refine BD 1 [] 41 (.str x5) h1 H (λD=>.of (Gu (k:=.i64) (k':=.i64) (lo:=(some (1:Int))) (hi:=none) (by kernel_rfl) X)) λD t H=>?_;refine BA 1 [(0,.str x5),(5,.str p0)] H λD H=>B6 3 id (AK 3 [(44,.bool (decide ((x5.length:Int)<1)))] H λD H=>AU 44 H M (λB M H=>?_) λB M H=>?_)
    ·refine AD 3 ?_;cases M
    exact Bv (.inl ⟨_,rfl,Ag M,H.ls,A⟩)
   exact Bv (.inl ⟨_,rfl,Ag M,H.ls,A⟩)
  clear O;clear A;intro e D G I;rcases I with⟨x1,rfl,rfl,H,A⟩|J
  ·show AW _ _ _ _ _ _ _;refine AD 1 (AK 1 [(6,Ai 0)] H λD H=>AQ (AD 4 (AI 1 [(46,.str x1)] H λD H=>?_)));obtain⟨B,M⟩:=BN M;obtain⟨U,e1⟩:∃x,x=G.push (.cells (some 5) 2 (x1.map λb=>Ab b.toNat)):=⟨_,rfl⟩;replace A:=(A.Wz _ _).to e1;rw[ZT]at A;refine Aw 47 (AH (some G.size) x1.length) U H (λD=>.of (aZ (by kernel_rfl) B (congrArg some e1.symm))) λD t H=>?_;refine AK 2 [(48,Ai (x1.length:Int)),(49,Ai 0)] H λD H=>Ad (id:=0) (by kernel_rfl) ?_;obtain⟨o2,O,M⟩:=AG M;refine Ap (Q':=λe N Q=>(∃x8,e=.exit 0/\x8=o2/\Has N 77 [(5,.str p0),(6,Ai x8)]/\HH g Q [] F)\/False) ?_ ?_
   ·refine Bp (by kernel_rfl) (λ(s:Int×Int) N Q=>∃x6 x7,(x6,x7)=s/\Has N 77 [(5,.str p0),(6,Ai x6),(47,AH (some G.size) x1.length),(48,Ai (x1.length:Int)),(49,Ai x7)]/\HH g Q [.AP (some G.size) 5 (AP eY x1)] F) O ⟨_,_,rfl,H.ls,A⟩ ?_;clear O M H A;intro s q D Y T M;obtain⟨x6,x7,rfl,H,A⟩:=T;unfold Ec at M;refine AD 1 (AK 1 [(50,.bool (decide (x7<(x1.length:Int))))] H λD H=>AQ (AU 50 H M (λB M H=>?_) λB M H=>?_))
    ·refine Bt id (AQ (Ad (id:=1) (by kernel_rfl) ?_));refine AD 3 ?_;obtain⟨x9,X,M⟩:=AG M;obtain⟨i1,er1,_,X,hq1⟩:=HH.Lc Lr (by decide) A 0 (xs:=x1) rfl X;refine Aw 51 (.ptr (some (i1,x7.toNat*1))) Y H (λD=>.of (ED (s:=Ca (some G.size) x1.length) (by kernel_rfl) X)) λD t H=>?_;refine Aw 52 _ _ H (λD=>.of (Dj (by kernel_rfl) (FM Lr (HH.row A 0 rfl er1) hq1 (o:=0) rfl))) λD t H=>?_;refine B4 1 [(8,Ab (x9.toNat:Int))] 3 H λD H=>BA 3 [(5,.str p0),(6,Ai x6),(8,Ab (u8.wrap ((x9.toNat:Int) - 48))),(47,AH (some G.size) x1.length),(48,Ai (x1.length:Int)),(49,Ai x7)] H λD H=>BK id (AQ (AD 2 (AK 2 [(56,.bool (decide ((u8.wrap ((x9.toNat:Int) - 48))>9)))] H λD H=>AU 56 H M (λB M H=>?_) λB M H=>?_)))
     ·refine AD 3 ?_;cases M
     refine Ie 6 id (BA 6 [(5,.str p0),(6,Ai (i64.wrap ((i64.wrap (x6*10))+(i64.wrap (u8.wrap ((x9.toNat:Int) - 48)))))),(47,AH (some G.size) x1.length),(48,Ai (x1.length:Int)),(49,Ai x7)] H λD H=>Fu 2 id (BA 2 [(5,.str p0),(6,Ai (i64.wrap ((i64.wrap (x6*10))+(i64.wrap (u8.wrap ((x9.toNat:Int) - 48)))))),(47,AH (some G.size) x1.length),(48,Ai (x1.length:Int)),(49,Ai (i64.wrap (x7+1)))] H λD H=>Aj ?_));exact nx M ⟨_,_,rfl,H.ls,A⟩
    refine BM (i:=0) (by kernel_rfl) ?_;replace A:=A.d0;exact nr M λe=>.inl ⟨_,rfl,e,H.ls,A⟩
   clear O;clear A;intro e D P I;rcases I with⟨x8,rfl,rfl,H,A⟩|J
   ·show AW _ _ _ _ _ _ _;refine AQ ?_;obtain⟨o3,O,M⟩:=AG M;refine Ap (Q':=λe N Q=>(∃x10,e=.normal/\x10=o3/\Has N 77 [(6,Ai x10)]/\HH g Q [] F)\/False) ?_ ?_
    ·replace M:=O;clear O;refine AD 3 ?_;obtain⟨x11,X,M⟩:=AG M;refine BD 1 [] 65 (Ab x11) P H (λD=>.of (DN (by kernel_rfl) X)) λD t H=>?_;refine AK 1 [(66,.bool (x11==45))] H λD H=>AU 66 H M (λB M H=>?_) λB M H=>?_
     ·refine BY 3 (BA 3 [(6,Ai (i64.wrap (0 - x8)))] H λD H=>Aj ?_);exact .inl ⟨_,rfl,Ag M,H.ls,A⟩
     exact Bv (.inl ⟨_,rfl,Ag M,H.ls,A⟩)
    clear O;clear A;intro e D S I;rcases I with⟨x10,rfl,rfl,H,A⟩|J
    ·show AW _ _ _ _ _ _ _;refine AD 3 (AK 3 [(2,Ai x10),(3,.nilIface)] H λD H=>Ak ?_);obtain rfl:=Ag M;exact⟨.inl rfl,_,rH H,rfl,A⟩
    exact J.elim
   exact J.elim
  exact J.elim
 refine CH 7 id ?_;cases M
def Hc(p0:List UInt8):Option (Int):=
 (Hm p0).bind λx1=>some x1
theorem Py{p0 q0}(M:Hc p0=some q0)(A:HH g h [] F)(hc:Bf (cfg.still 36) av=[.str p0]:=by kernel_rfl):∃v Q,Bm cfg g h 36 av v Q/\v=.tuple [Ai q0,.nilIface]/\HH g Q [] F:=by
 refine E5 18 [.tmp 2,.tmp 3] hc ?_;clear hc;unfold Hc at M;refine bg 18 [(0,.str p0)] λD H=>?_;refine AD 2 (B4 2 [] 7 H λD H=>?_);obtain⟨x1,X,M⟩:=AG M;obtain⟨v1,h1,R,rfl,E⟩:=N3 (av:=[.str p0]) X (A.cut 0);replace A:=A.FL E;refine As 1 [] 8 R H λD t H=>?_;refine AK 5 [(4,Ai x1),(5,.nilIface)] H λD H=>AQ (AD 2 (AK 2 [(12,.bool false)] H λD H=>OQ (x:=.tmp 12) (by kernel_rfl) H (λD=>by kernel_rfl) ?_));refine CH 3 id (AK 3 [(2,Ai x1),(3,.nilIface)] H λD H=>Ak ?_);obtain rfl:=Ag M;exact⟨.inl rfl,_,rH H,rfl,A⟩
def DU(p1:List UInt8)(s:Int):Option ((Int)⊕((Int))):=
 match s with
 |x42=>(Ae (decide (x42<(p1.length:Int))) ((IA p1 x42).bind λx45=>some (decide (x45>=48))) (some false):Option (Bool)).bind λx44=>(Ae x44 ((IA p1 x42).bind λx47=>some (decide (x47<=57))) (some false):Option (Bool)).bind λx46=>Ae x46 (some (.inl (i64.wrap (x42+1)))) (some (.inr x42))
def DW(p1:List UInt8)(s:(List (Int×Bool))×Bool×Bool×Bool×Int×Bool×Bool×Bool×Int):Option (((List (Int×Bool))×Bool×Bool×Bool×Int×Bool×Bool×Bool×Int)⊕(((List (Int×Bool))×Bool×Bool×Bool×Int×Bool×Bool×Bool)⊕((List (Int×Bool))×Bool×Bool×Bool×Int×Bool×Bool×Bool×Int))):=
 match s with
 |(x1,x2,x3,x4,x5,x6,x7,x8,x9)=>Ae (decide (x9<(p1.length:Int))) ((IA p1 x9).bind λx27=>(Ae (x27==103) (some (.inl (true,x3,x4,x5,x6,x7,x8,i64.wrap (x9+1),IW .u8 x27 (32:Int)))) (Ae (x27==105) (some (.inl (x2,true,x4,x5,x6,x7,x8,i64.wrap (x9+1),IW .u8 x27 (32:Int)))) (Ae (x27==120) (some (.inl (x2,x3,true,x5,x6,x7,x8,i64.wrap (x9+1),IW .u8 x27 (32:Int)))) ((Ae (x27==114) (some true) (some (x27==82)):Option ((Bool))).bind λx38=>Ae x38 (some (.inl (x2,x3,x4,x5,x27==114,x7,x8,i64.wrap (x9+1),IW .u8 x27 (32:Int)))) ((Ae (x27==115) (some true) (some (x27==83)):Option ((Bool))).bind λx39=>Ae x39 (some (.inl (x2,x3,x4,x5,x6,x27==115,x8,i64.wrap (x9+1),IW .u8 x27 (32:Int)))) ((Ae (x27==104) (some true) (some (x27==72)):Option ((Bool))).bind λx40=>Ae x40 (some (.inl (x2,x3,x4,x5,x6,x7,x27==104,i64.wrap (x9+1),IW .u8 x27 (32:Int)))) ((Ae (x27==49) (some true) (Ae (x27==50) (some true) (Ae (x27==51) (some true) (Ae (x27==52) (some true) (Ae (x27==53) (some true) (Ae (x27==54) (some true) (Ae (x27==55) (some true) (Ae (x27==56) (some true) (some (x27==57))))))))):Option ((Bool))).bind λx41=>Ae x41 ((loop (DU p1) (i64.wrap (x9+1))).bind λx43=>Ae (decide ((i64.wrap (x43 - x9))>4)) (some (.inr x9)) ((I0 p1 (some x9) (some x43)).bind λx48=>(Hc x48).bind λx49=>some (.inl (x2,x3,x4,x49,x6,x7,x8,x43,(49:Int))))) (some (.inr x9)))))))):Option ((Bool×Bool×Bool×Int×Bool×Bool×Bool×Int×Int)⊕(Int))).bind λo2=>(match o2 with| .inl (x28,x29,x30,x31,x32,x33,x34,x35,x36)=>Ae ((Cy x1 x36).getD false) (some (.inr (.inr (x1,x28,x29,x30,x31,x32,x33,x34,x9)))) (some (.inl ((CZ x1 x36 true),x28,x29,x30,x31,x32,x33,x34,x35)))| .inr x37=>some (.inr (.inr (x1,x2,x3,x4,x5,x6,x7,x8,x37))))) (some (.inr (.inl (x1,x2,x3,x4,x5,x6,x7,x8))))
def GQ(p0:A9)(p1:List UInt8)(p2:Int):Option (Int×A9):=
 (loop (DW p1) (([]:List (Int×Bool)),p0.Global,p0.Fold,p0.FV,p0.Number,p0.Names,p0.NH,p0.Ou,p2)).bind λo1=>(match o1 with| .inl (x10,x11,x12,x13,x14,x15,x16,x17)=>some ((-1:Int),(⟨p0.Re,p0.Cg,x11,x12,x13,x14,x15,x16,x17⟩:A9))| .inr (x18,x19,x20,x21,x22,x23,x24,x25,x26)=>some (x26,(⟨p0.Re,p0.Cg,x19,x20,x21,x22,x23,x24,x25⟩:A9)))
theorem MK{p0 p1 p2 bp0 q0 u0}(M:GQ p0 p1 p2=some (q0,u0))(A:HH g h [.obj bp0 (.cells none 2 (Aq p0))] F)(hc:Bf (cfg.still 17) av=[.ptr (some (bp0,0)),.str p1,Ai p2]:=by kernel_rfl):∃v Q,Bm cfg g h 17 av v Q/\v=Ai q0/\HH g Q [.obj bp0 (.cells none 2 (Aq u0))] F:=by
 refine E5 115 [.tmp 6] hc ?_;clear hc;unfold GQ at M;refine bg 115 [(0,.ptr (some (bp0,0))),(1,.str p1),(2,Ai p2)] λD H=>?_;refine AD 1 (B4 1 [] 2 H λD H=>?_);obtain⟨h1,e1⟩:∃x,x=h.push (.map 2 []):=⟨_,rfl⟩;replace A:HH g h1 [.obj h.size (.map 2 (CJ (λk:Int=>Ab k) (λv:Bool=>.bool v) ([]:List (Int×Bool)))),_] F:=(A.push _).to e1;refine Bc 11 (.map (some h.size)) e1 H λD t H=>?_;refine AK 1 [(7,.map (some h.size))] H λD H=>AQ (Ad (id:=0) (by kernel_rfl) ?_);obtain⟨o1,O,M⟩:=AG M;refine Ap (Q':=λe N Q=>(∃x10 x11 x12 x13 x14 x15 x16 x17,e=.exit 0/\.inl (x10,x11,x12,x13,x14,x15,x16,x17)=o1/\Has N 115 []/\HH g Q [.obj h.size (.map 2 (CJ (λk:Int=>Ab k) (λv:Bool=>.bool v) x10)),.obj bp0 (.cells none 2 [.str p0.Re,.str p0.Cg,.bool x11,.bool x12,.bool x13,Ai x14,.bool x15,.bool x16,.bool x17])] F)\/(∃x18 x19 x20 x21 x22 x23 x24 x25 x26,e=.ret/\.inr (x18,x19,x20,x21,x22,x23,x24,x25,x26)=o1/\Has N 115 [(6,Ai x26)]/\HH g Q [.obj h.size (.map 2 (CJ (λk:Int=>Ab k) (λv:Bool=>.bool v) x18)),.obj bp0 (.cells none 2 [.str p0.Re,.str p0.Cg,.bool x19,.bool x20,.bool x21,Ai x22,.bool x23,.bool x24,.bool x25])] F)\/False) ?_ ?_
 ·refine Bp (by kernel_rfl) (λ(s:(List (Int×Bool))×Bool×Bool×Bool×Int×Bool×Bool×Bool×Int) N Q=>∃x1 x2 x3 x4 x5 x6 x7 x8 x9,(x1,x2,x3,x4,x5,x6,x7,x8,x9)=s/\Has N 115 [(0,.ptr (some (bp0,0))),(1,.str p1),(2,Ai x9),(7,.map (some h.size))]/\HH g Q [.obj h.size (.map 2 (CJ (λk:Int=>Ab k) (λv:Bool=>.bool v) x1)),.obj bp0 (.cells none 2 [.str p0.Re,.str p0.Cg,.bool x2,.bool x3,.bool x4,Ai x5,.bool x6,.bool x7,.bool x8])] F) O ⟨_,_,_,_,_,_,_,_,_,rfl,H.ls,A⟩ ?_;clear O M H A;intro s q D G T M;obtain⟨x1,x2,x3,x4,x5,x6,x7,x8,x9,rfl,H,A⟩:=T;unfold DW at M;refine AQ (AD 4 (AK 4 [(15,.bool (decide (x9<(p1.length:Int))))] H λD H=>AU 15 H M (λB M H=>?_) λB M H=>?_))
  ·refine Bt id (Ad (id:=1) (by kernel_rfl) ?_);refine AD 2 (B4 2 [(8,Ai x9)] 4 H λD H=>?_);obtain⟨x27,X,M⟩:=AG M;refine BD 2 [] 19 (Ab x27) G H (λD=>.of (DN (by kernel_rfl) X)) λD t H=>?_;refine B4 1 [(9,Ab x27)] 3 H λD H=>BA 3 [(0,.ptr (some (bp0,0))),(1,.str p1),(2,Ai (i64.wrap (x9+1))),(7,.map (some h.size)),(8,Ai x9),(9,Ab x27)] H λD H=>B6 3 id (AK 3 [(10,Ab (IW .u8 x27 (32:Int)))] H λD H=>AQ ?_);obtain⟨o2,O,M⟩:=AG M;refine Ap (Q':=λe N Q=>(∃x28 x29 x30 x31 x32 x33 x34 x35 x36,e=.normal/\.inl (x28,x29,x30,x31,x32,x33,x34,x35,x36)=o2/\Has N 115 [(0,.ptr (some (bp0,0))),(1,.str p1),(2,Ai x35),(7,.map (some h.size)),(8,Ai x9),(10,Ab x36)]/\HH g Q [.obj h.size (.map 2 (CJ (λk:Int=>Ab k) (λv:Bool=>.bool v) x1)),.obj bp0 (.cells none 2 [.str p0.Re,.str p0.Cg,.bool x28,.bool x29,.bool x30,Ai x31,.bool x32,.bool x33,.bool x34])] F)\/(∃x37,e=.ret/\.inr x37=o2/\Has N 115 [(6,Ai x37)]/\HH g Q [.obj h.size (.map 2 (CJ (λk:Int=>Ab k) (λv:Bool=>.bool v) x1)),.obj bp0 (.cells none 2 [.str p0.Re,.str p0.Cg,.bool x2,.bool x3,.bool x4,Ai x5,.bool x6,.bool x7,.bool x8])] F)\/False) ?_ ?_
   ·replace M:=O;clear O;refine AD 1 (AK 1 [(24,Ab x27)] H λD H=>Ad (id:=2) (by kernel_rfl) ?_);refine AD 2 (AK 2 [(26,.bool (x27==103))] H λD H=>AU 26 H M (λB M H=>?_) λB M H=>?_)
    ·refine BY 4 ?_;obtain⟨U,X,A⟩:=A.s1 2 [.bool true] [_,_,_,_,_,_,_,_,_];refine Ct 3 [] X H λD t H=>?_;refine Aj ?_;exact .inl ⟨_,_,_,_,_,_,_,_,_,rfl,Ag M,H.ls,A⟩
    refine AD 2 (AK 2 [(31,.bool (x27==105))] H λD H=>AU 31 H M (λB M H=>?_) λB M H=>?_)
    ·refine BY 4 ?_;obtain⟨Y,X,A⟩:=A.s1 3 [.bool true] [_,_,_,_,_,_,_,_,_];refine Ct 3 [] X H λD t H=>?_;refine Aj ?_;exact .inl ⟨_,_,_,_,_,_,_,_,_,rfl,Ag M,H.ls,A⟩
    refine AD 2 (AK 2 [(36,.bool (x27==120))] H λD H=>AU 36 H M (λB M H=>?_) λB M H=>?_)
    ·refine BY 4 ?_;obtain⟨P,X,A⟩:=A.s1 4 [.bool true] [_,_,_,_,_,_,_,_,_];refine Ct 3 [] X H λD t H=>?_;refine Aj ?_;exact .inl ⟨_,_,_,_,_,_,_,_,_,rfl,Ag M,H.ls,A⟩
    refine AQ ?_;obtain⟨o3,O,M⟩:=AG M;refine Ap (Q':=λe N Q=>(∃x38,e=.normal/\x38=o3/\Has N 115 [(0,.ptr (some (bp0,0))),(1,.str p1),(2,Ai (i64.wrap (x9+1))),(7,.map (some h.size)),(8,Ai x9),(9,Ab x27),(10,Ab (IW .u8 x27 (32:Int))),(24,Ab x27),(41,.bool x38)]/\HH g Q [.obj h.size (.map 2 (CJ (λk:Int=>Ab k) (λv:Bool=>.bool v) x1)),.obj bp0 (.cells none 2 [.str p0.Re,.str p0.Cg,.bool x2,.bool x3,.bool x4,Ai x5,.bool x6,.bool x7,.bool x8])] F)\/False) ?_ ?_
    ·replace M:=O;clear O;refine AD 2 (AK 2 [(41,.bool (x27==114))] H λD H=>AU 41 H M (λB M H=>?_) λB M H=>?_)
     ·exact Bv (.inl ⟨_,rfl,Ag M,H.ls,A⟩)
     refine BY 2 (BA 2 [(0,.ptr (some (bp0,0))),(1,.str p1),(2,Ai (i64.wrap (x9+1))),(7,.map (some h.size)),(8,Ai x9),(9,Ab x27),(10,Ab (IW .u8 x27 (32:Int))),(24,Ab x27),(41,.bool (x27==82))] H λD H=>Aj ?_);exact .inl ⟨_,rfl,Ag M,H.ls,A⟩
    clear O;clear A;intro e D S I;rcases I with⟨x38,rfl,rfl,H,A⟩|J
    ·show AW _ _ _ _ _ _ _;refine AU 41 H M (λB M H=>?_) λB M H=>?_
     ·refine BY 6 ?_;obtain⟨h7,X,A⟩:=A.s1 6 [.bool (x27==114)] [_,_,_,_,_,_,_,_,_];refine Ct 5 [] X H λD t H=>?_;refine Aj ?_;exact .inl ⟨_,_,_,_,_,_,_,_,_,rfl,Ag M,H.ls,A⟩
     refine AQ ?_;obtain⟨o4,O,M⟩:=AG M;refine Ap (Q':=λe N Q=>(∃x39,e=.normal/\x39=o4/\Has N 115 [(0,.ptr (some (bp0,0))),(1,.str p1),(2,Ai (i64.wrap (x9+1))),(7,.map (some h.size)),(8,Ai x9),(9,Ab x27),(10,Ab (IW .u8 x27 (32:Int))),(24,Ab x27),(49,.bool x39)]/\HH g Q [.obj h.size (.map 2 (CJ (λk:Int=>Ab k) (λv:Bool=>.bool v) x1)),.obj bp0 (.cells none 2 [.str p0.Re,.str p0.Cg,.bool x2,.bool x3,.bool x4,Ai x5,.bool x6,.bool x7,.bool x8])] F)\/False) ?_ ?_
     ·replace M:=O;clear O;refine AD 2 (AK 2 [(49,.bool (x27==115))] H λD H=>AU 49 H M (λB M H=>?_) λB M H=>?_)
      ·exact Bv (.inl ⟨_,rfl,Ag M,H.ls,A⟩)
      refine BY 2 (BA 2 [(0,.ptr (some (bp0,0))),(1,.str p1),(2,Ai (i64.wrap (x9+1))),(7,.map (some h.size)),(8,Ai x9),(9,Ab x27),(10,Ab (IW .u8 x27 (32:Int))),(24,Ab x27),(49,.bool (x27==83))] H λD H=>Aj ?_);exact .inl ⟨_,rfl,Ag M,H.ls,A⟩
     clear O;clear A;intro e D W I;rcases I with⟨x39,rfl,rfl,H,A⟩|J
     ·show AW _ _ _ _ _ _ _;refine AU 49 H M (λB M H=>?_) λB M H=>?_
      ·refine BY 6 ?_;obtain⟨h9,X,A⟩:=A.s1 7 [.bool (x27==115)] [_,_,_,_,_,_,_,_,_];refine Ct 5 [] X H λD t H=>?_;refine Aj ?_;exact .inl ⟨_,_,_,_,_,_,_,_,_,rfl,Ag M,H.ls,A⟩
      refine AQ ?_;obtain⟨o5,O,M⟩:=AG M;refine Ap (Q':=λe N Q=>(∃x40,e=.normal/\x40=o5/\Has N 115 [(0,.ptr (some (bp0,0))),(1,.str p1),(2,Ai (i64.wrap (x9+1))),(7,.map (some h.size)),(8,Ai x9),(9,Ab x27),(10,Ab (IW .u8 x27 (32:Int))),(24,Ab x27),(57,.bool x40)]/\HH g Q [.obj h.size (.map 2 (CJ (λk:Int=>Ab k) (λv:Bool=>.bool v) x1)),.obj bp0 (.cells none 2 [.str p0.Re,.str p0.Cg,.bool x2,.bool x3,.bool x4,Ai x5,.bool x6,.bool x7,.bool x8])] F)\/False) ?_ ?_
      ·replace M:=O;clear O;refine AD 2 (AK 2 [(57,.bool (x27==104))] H λD H=>AU 57 H M (λB M H=>?_) λB M H=>?_)
       ·exact Bv (.inl ⟨_,rfl,Ag M,H.ls,A⟩)
       refine BY 2 (BA 2 [(0,.ptr (some (bp0,0))),(1,.str p1),(2,Ai (i64.wrap (x9+1))),(7,.map (some h.size)),(8,Ai x9),(9,Ab x27),(10,Ab (IW .u8 x27 (32:Int))),(24,Ab x27),(57,.bool (x27==72))] H λD H=>Aj ?_);exact .inl ⟨_,rfl,Ag M,H.ls,A⟩
      clear O;clear A;intro e D V I;rcases I with⟨x40,rfl,rfl,H,A⟩|J
      ·show AW _ _ _ _ _ _ _;refine AU 57 H M (λB M H=>?_) λB M H=>?_
       ·refine BY 6 ?_;obtain⟨h11,X,A⟩:=A.s1 8 [.bool (x27==104)] [_,_,_,_,_,_,_,_,_];refine Ct 5 [] X H λD t H=>?_;refine Aj ?_;exact .inl ⟨_,_,_,_,_,_,_,_,_,rfl,Ag M,H.ls,A⟩
       refine AQ ?_;obtain⟨o6,O,M⟩:=AG M;refine Ap (Q':=λe N Q=>(∃x41,e=.normal/\x41=o6/\Has N 115 [(0,.ptr (some (bp0,0))),(1,.str p1),(2,Ai (i64.wrap (x9+1))),(7,.map (some h.size)),(8,Ai x9),(65,.bool x41)]/\HH g Q [.obj h.size (.map 2 (CJ (λk:Int=>Ab k) (λv:Bool=>.bool v) x1)),.obj bp0 (.cells none 2 [.str p0.Re,.str p0.Cg,.bool x2,.bool x3,.bool x4,Ai x5,.bool x6,.bool x7,.bool x8])] F)\/False) ?_ ?_
       ·replace M:=O;clear O;refine AD 2 (AK 2 [(65,.bool (x27==49))] H λD H=>AU 65 H M (λB M H=>?_) λB M H=>?_)
        ·exact Bv (.inl ⟨_,rfl,Ag M,H.ls,A⟩)
        refine AD 2 (BA 2 [(0,.ptr (some (bp0,0))),(1,.str p1),(2,Ai (i64.wrap (x9+1))),(7,.map (some h.size)),(8,Ai x9),(24,Ab x27),(65,.bool (x27==50))] H λD H=>BK id (AU 65 H M (λB M H=>?_) λB M H=>?_))
        ·exact Bv (.inl ⟨_,rfl,Ag M,H.ls,A⟩)
        refine AD 2 (BA 2 [(0,.ptr (some (bp0,0))),(1,.str p1),(2,Ai (i64.wrap (x9+1))),(7,.map (some h.size)),(8,Ai x9),(24,Ab x27),(65,.bool (x27==51))] H λD H=>BK id (AU 65 H M (λB M H=>?_) λB M H=>?_))
        ·exact Bv (.inl ⟨_,rfl,Ag M,H.ls,A⟩)
        refine AD 2 (BA 2 [(0,.ptr (some (bp0,0))),(1,.str p1),(2,Ai (i64.wrap (x9+1))),(7,.map (some h.size)),(8,Ai x9),(24,Ab x27),(65,.bool (x27==52))] H λD H=>BK id (AU 65 H M (λB M H=>?_) λB M H=>?_))
        ·exact Bv (.inl ⟨_,rfl,Ag M,H.ls,A⟩)
        refine AD 2 (BA 2 [(0,.ptr (some (bp0,0))),(1,.str p1),(2,Ai (i64.wrap (x9+1))),(7,.map (some h.size)),(8,Ai x9),(24,Ab x27),(65,.bool (x27==53))] H λD H=>BK id (AU 65 H M (λB M H=>?_) λB M H=>?_))
        ·exact Bv (.inl ⟨_,rfl,Ag M,H.ls,A⟩)
        refine AD 2 (BA 2 [(0,.ptr (some (bp0,0))),(1,.str p1),(2,Ai (i64.wrap (x9+1))),(7,.map (some h.size)),(8,Ai x9),(24,Ab x27),(65,.bool (x27==54))] H λD H=>BK id (AU 65 H M (λB M H=>?_) λB M H=>?_))
        ·exact Bv (.inl ⟨_,rfl,Ag M,H.ls,A⟩)
        refine AD 2 (BA 2 [(0,.ptr (some (bp0,0))),(1,.str p1),(2,Ai (i64.wrap (x9+1))),(7,.map (some h.size)),(8,Ai x9),(24,Ab x27),(65,.bool (x27==55))] H λD H=>BK id (AU 65 H M (λB M H=>?_) λB M H=>?_))
        ·exact Bv (.inl ⟨_,rfl,Ag M,H.ls,A⟩)
        refine AD 2 (BA 2 [(0,.ptr (some (bp0,0))),(1,.str p1),(2,Ai (i64.wrap (x9+1))),(7,.map (some h.size)),(8,Ai x9),(24,Ab x27),(65,.bool (x27==56))] H λD H=>BK id (AU 65 H M (λB M H=>?_) λB M H=>?_))
        ·exact Bv (.inl ⟨_,rfl,Ag M,H.ls,A⟩)
        refine BY 2 (BA 2 [(0,.ptr (some (bp0,0))),(1,.str p1),(2,Ai (i64.wrap (x9+1))),(7,.map (some h.size)),(8,Ai x9),(65,.bool (x27==57))] H λD H=>Aj ?_);exact .inl ⟨_,rfl,Ag M,H.ls,A⟩
       clear O;clear A;intro e D h12 I;rcases I with⟨x41,rfl,rfl,H,A⟩|J
       ·show AW _ _ _ _ _ _ _;refine AU 65 H M (λB M H=>?_) λB M H=>?_
        ·refine AQ (Ad (id:=3) (by kernel_rfl) ?_);obtain⟨o7,O,M⟩:=AG M;refine Ap (Q':=λe N Q=>(∃x43,e=.exit 3/\x43=o7/\Has N 115 [(0,.ptr (some (bp0,0))),(1,.str p1),(2,Ai x43),(7,.map (some h.size)),(8,Ai x9)]/\HH g Q [.obj h.size (.map 2 (CJ (λk:Int=>Ab k) (λv:Bool=>.bool v) x1)),.obj bp0 (.cells none 2 [.str p0.Re,.str p0.Cg,.bool x2,.bool x3,.bool x4,Ai x5,.bool x6,.bool x7,.bool x8])] F)\/False) ?_ ?_
         ·refine Bp (by kernel_rfl) (λ(s:Int) N Q=>∃x42,x42=s/\Has N 115 [(0,.ptr (some (bp0,0))),(1,.str p1),(2,Ai x42),(7,.map (some h.size)),(8,Ai x9)]/\HH g Q [.obj h.size (.map 2 (CJ (λk:Int=>Ab k) (λv:Bool=>.bool v) x1)),.obj bp0 (.cells none 2 [.str p0.Re,.str p0.Cg,.bool x2,.bool x3,.bool x4,Ai x5,.bool x6,.bool x7,.bool x8])] F) O ⟨_,rfl,H.ls,A⟩ ?_;clear O M H A;intro s q D h13 T M;obtain⟨x42,rfl,H,A⟩:=T;unfold DU at M;refine AQ (AD 16 (AI 5 [(79,.bool (decide (x42<(p1.length:Int))))] H λD H=>?_));obtain⟨x44,O,M⟩:=AG M;refine BP 5 (λN Q=>Has N 115 [(0,.ptr (some (bp0,0))),(1,.str p1),(2,Ai x42),(7,.map (some h.size)),(8,Ai x9),(84,.bool x44)]/\HH g Q [.obj h.size (.map 2 (CJ (λk:Int=>Ab k) (λv:Bool=>.bool v) x1)),.obj bp0 (.cells none 2 [.str p0.Re,.str p0.Cg,.bool x2,.bool x3,.bool x4,Ai x5,.bool x6,.bool x7,.bool x8])] F) ?_ ?_
          ·rcases BS O with⟨B,M⟩|⟨B,M⟩
           ·replace H:=H.kn 79 B;obtain⟨x45,X,M⟩:=AG M;refine BD 2 [] 82 (Ab x45) h13 H (λD=>.of (DN (by kernel_rfl) X)) λD t H=>?_;refine AI 2 [(84,.bool (decide (x45>=48)))] H λD H=>?_;obtain rfl:=Ag M;exact Aj ⟨H.ls,A⟩
           replace H:=H.kn 79 B;refine AI 5 [(84,.bool false)] H λD H=>?_;obtain rfl:=Ag M;exact Aj ⟨H.ls,A⟩
          clear A;intro t D h14 K;obtain⟨H,A⟩:=K;refine AI 1 [(85,.bool x44)] H λD H=>?_;obtain⟨x46,O,M⟩:=AG M;refine BP 5 (λN Q=>Has N 115 [(0,.ptr (some (bp0,0))),(1,.str p1),(2,Ai x42),(7,.map (some h.size)),(8,Ai x9),(90,.bool x46)]/\HH g Q [.obj h.size (.map 2 (CJ (λk:Int=>Ab k) (λv:Bool=>.bool v) x1)),.obj bp0 (.cells none 2 [.str p0.Re,.str p0.Cg,.bool x2,.bool x3,.bool x4,Ai x5,.bool x6,.bool x7,.bool x8])] F) ?_ ?_
          ·rcases BS O with⟨B,M⟩|⟨B,M⟩
           ·replace H:=H.kn 85 B;obtain⟨x47,X,M⟩:=AG M;refine BD 2 [] 88 (Ab x47) h14 H (λD=>.of (DN (by kernel_rfl) X)) λD t H=>?_;refine AI 2 [(90,.bool (decide (x47<=57)))] H λD H=>?_;obtain rfl:=Ag M;exact Aj ⟨H.ls,A⟩
           replace H:=H.kn 85 B;refine AI 5 [(90,.bool false)] H λD H=>?_;obtain rfl:=Ag M;exact Aj ⟨H.ls,A⟩
          clear A;intro t D h15 K;obtain⟨H,A⟩:=K;refine BK id (AU 90 H M (λB M H=>?_) λB M H=>?_)
          ·refine Bt id (Ad (id:=4) (by kernel_rfl) ?_);refine BY 3 (BA 3 [(0,.ptr (some (bp0,0))),(1,.str p1),(2,Ai (i64.wrap (x42+1))),(7,.map (some h.size)),(8,Ai x9)] H λD H=>Aj ?_);exact nx M ⟨_,rfl,H.ls,A⟩
          refine BM (i:=3) (by kernel_rfl) ?_;exact nr M λe=>.inl ⟨_,rfl,e,H.ls,A⟩
         clear O;clear A;intro e D h16 I;rcases I with⟨x43,rfl,rfl,H,A⟩|J
         ·show AW _ _ _ _ _ _ _;refine AQ (AD 4 (AK 4 [(96,.bool (decide ((i64.wrap (x43 - x9))>4)))] H λD H=>AU 96 H M (λB M H=>?_) λB M H=>?_))
          ·refine AD 2 (AK 2 [(6,Ai x9)] H λD H=>Ak ?_);exact .inr (.inl ⟨_,rfl,Ag M,H.ls,A⟩)
          refine CH 12 id ?_;obtain⟨x48,X,M⟩:=AG M;refine BD 4 [(99,.ptr (some (bp0,0)))] 103 (.str x48) h16 H (λD=>.of (Gu (k:=.i64) (k':=.i64) (lo:=(some x9)) (hi:=(some x43)) (by kernel_rfl) X)) λD t H=>?_;obtain⟨x49,X,M⟩:=AG M;obtain⟨v1,h17,R,rfl,E⟩:=Py (av:=[.str x48]) X (A.cut 0);replace A:=A.FL E;refine Bq 104 R H λD t H=>?_;obtain⟨h18,X,A⟩:=A.s1 5 [Ai x49] [_,_,_,_,_,_,_,_,_];refine Ct 5 [] X H λD t H=>?_;refine Fu 1 id (AI 1 [(10,Ab 49)] H λD H=>Aj ?_);exact .inl ⟨_,_,_,_,_,_,_,_,_,rfl,Ag M,H.ls,A⟩
         exact J.elim
        refine AD 2 (AK 2 [(6,Ai x9)] H λD H=>Ak ?_);exact .inr (.inl ⟨_,rfl,Ag M,H.ls,A⟩)
       exact J.elim
      exact J.elim
     exact J.elim
    exact J.elim
   clear O;clear A;intro e D h19 I;rcases I with⟨x28,x29,x30,x31,x32,x33,x34,x35,x36,rfl,rfl,H,A⟩|⟨x37,rfl,rfl,H,A⟩|J
   ·show AW _ _ _ _ _ _ _;refine AQ (AD 3 (BD 2 [] 111 (.bool ((Cy x1 x36).getD false)) h19 H (λD=>.of (Vj (by kernel_rfl) (HH.Xz (kt:=5) (et:=4) (ek:=λk:Int=>Ab k) (ev:=λv:Bool=>.bool v) (UF (by kernel_rfl)) A 0 rfl (t:=93) (by kernel_rfl) (z:=false) (by kernel_rfl) x36))) λD t H=>?_));refine BK id (AU 111 H M (λB M H=>?_) λB M H=>?_)
    ·refine AD 2 (AK 2 [(6,Ai x9)] H λD H=>Ak ?_);exact nr M λe=>Or.inr (.inl ⟨_,_,_,_,_,_,_,_,_,rfl,e,H.ls,A⟩)
    refine Ie 3 id (AI 2 [(113,.map (some h.size)),(114,Ab x36)] H λD H=>?_);obtain⟨Z,X,E⟩:=HH.TE (kt:=5) (et:=4) (ek:=λk:Int=>Ab k) (ev:=λv:Bool=>.bool v) (UF (by kernel_rfl)) A 0 rfl (t:=93) (by kernel_rfl) x36 true;replace A:HH g Z [.obj h.size (.map 2 (CJ (λk:Int=>Ab k) (λv:Bool=>.bool v) (CZ x1 x36 true))),_] F:=E;refine La (.tuple []) Z H (λD=>.of (RX (by kernel_rfl) X)) λD t H=>?_;refine Aj ?_;exact nx M ⟨_,_,_,_,_,_,_,_,_,rfl,H.ls,A⟩
   ·exact nr M λe=>Or.inr (.inl ⟨_,_,_,_,_,_,_,_,_,rfl,e,H.ls,A⟩)
   exact J.elim
  refine BM (i:=0) (by kernel_rfl) ?_;exact nr M λe=>.inl ⟨_,_,_,_,_,_,_,_,rfl,e,H.ls,A⟩
 clear O;clear A;intro e D h21 I;rcases I with⟨x10,x11,x12,x13,x14,x15,x16,x17,rfl,rfl,H,A⟩|⟨x18,x19,x20,x21,x22,x23,x24,x25,x26,rfl,rfl,H,A⟩|J
 ·show AW _ _ _ _ _ _ _;refine AD 1 (AK 1 [(6,Ai (-1))] H λD H=>Ak ?_);obtain⟨rfl,rfl⟩:=C1 M;refine⟨.inl rfl,Ai (-1),rH H,?_⟩;replace A:=A.k1 1;exact⟨rfl,A⟩
 ·obtain⟨rfl,rfl⟩:=C1 M;refine⟨.inl rfl,Ai x26,rH H,?_⟩;replace A:=A.k1 1;exact⟨rfl,A⟩
 exact J.elim
def Eg(p0:List UInt8):Option (A9×Int×Int):=
 (DE p0 (0:Int)).bind λx1=>Ae (!x1) (some ((⟨([]:UV),([]:UV),false,false,false,(0:Int),false,false,false⟩:A9),(0:Int),(11:Int))) ((IA p0 (1:Int)).bind λx2=>(CG p0 (2:Int) x2).bind λ(x3,x4,x5)=>Ae (!x5) (some ((⟨([]:UV),([]:UV),false,false,false,(0:Int),false,false,false⟩:A9),x4,(11:Int))) ((IA p0 (1:Int)).bind λx6=>(CG p0 x4 x6).bind λ(x7,x8,x9)=>Ae (!x9) (some ((⟨([]:UV),([]:UV),false,false,false,(0:Int),false,false,false⟩:A9),x8,(11:Int))) ((GQ (⟨x3,x7,false,false,false,(1:Int),true,true,true⟩:A9) p0 x8).bind λ(x10,x11)=>Ae (decide (x10>=0)) (some ((⟨([]:UV),([]:UV),false,false,false,(0:Int),false,false,false⟩:A9),x10,(11:Int))) (some (x11,(0:Int),(0:Int))))))
theorem LH{p0 q0 q1 q2}(M:Eg p0=some (q0,q1,q2))(A:HH g h [] F)(hc:Bf (cfg.still 6) av=[.str p0]:=by kernel_rfl):∃v Q,Bm cfg g h 6 av v Q/\v=.tuple [.agg (Aq q0),Ai q1,Ai q2]/\HH g Q [] F:=by
 refine E5 48 [.cell 2 27,.tmp 3,.tmp 4] hc ?_;clear hc;unfold Eg at M;refine bg 48 [(0,.str p0)] λD H=>?_;refine AD 3 ?_;obtain⟨h1,e1,A⟩:=A.pu (.cells none 2 IB);refine Bc 2 (.ptr (some (h.size,0))) e1 H λD t H=>?_;refine AK 2 [] H λD H=>AQ (AD 3 ?_);obtain⟨x1,X,M⟩:=AG M;obtain⟨v1,G,R,rfl,E⟩:=Kl (av:=[.str p0,Ai 0]) X (A.cut 0);replace A:HH g G [.obj h.size (.cells none 2 [.str ([]:UV),.str ([]:UV),.bool false,.bool false,.bool false,Ai (0:Int),.bool false,.bool false,.bool false])] F:=A.Fq (n:=0) E;refine As 1 [] 12 R H λD t H=>?_;refine AK 1 [(13,.bool (!x1))] H λD H=>AU 13 H M (λB M H=>?_) λB M H=>?_
 ·refine AD 4 ?_;obtain⟨U,X,A⟩:=A.s0 0 IB [_,_,_,_,_,_,_,_,_];refine Ft 1 [] X H λD t H=>?_;refine AK 2 [(3,Ai 0),(4,Ai 11)] H λD H=>Ak ?_;obtain⟨rfl,rfl,rfl⟩:=DG M;refine⟨.inl rfl,.tuple [.agg [.str ([]:UV),.str ([]:UV),.bool false,.bool false,.bool false,Ai 0,.bool false,.bool false,.bool false],Ai 0,Ai 11],Bl (.cell (rT H) (Bk (by kernel_rfl) (by kernel_rfl) (A.la 0 0 9)) (.tmp (rT H) (.tmp (rT H) .nil))),?_⟩;replace A:=A.d0;exact⟨rfl,A⟩
 refine CH 3 id ?_;obtain⟨Y,e2,A⟩:=A.pu (.cells none 2 IB);refine HT 1 [(15,.agg [.str ([]:UV),.str ([]:UV),.bool false,.bool false,.bool false,Ai (1:Int),.bool true,.bool true,.bool true])] 5 (.ptr (some (G.size,0))) e2 H λD t H=>?_;obtain⟨P,X,A⟩:=A.s0 0 [.str ([]:UV),.str ([]:UV),.bool false,.bool false,.bool false,Ai 1,.bool true,.bool true,.bool true] [_,_,_,_,_,_,_,_,_];refine Cu X H λD t H=>?_;refine B6 2 id (AK 2 [(6,Ai 2)] H λD H=>AQ (AD 5 (AI 2 [(16,.ptr (some (G.size,0))),(17,.ptr (some (G.size,1)))] H λD H=>?_)));obtain⟨S,e3⟩:∃x,x=P.push (.cells (some 54) 2 [.ptr (some (G.size,0)),.ptr (some (G.size,1))]):=⟨_,rfl⟩;replace A:HH g S [.obj P.size (.cells (some 54) 2 [.ptr (some (G.size,0)),.ptr (some (G.size,1))]),_,_] F:=(A.push _).to e3;refine Bc 18 (.slice (some (P.size,0)) 2) e3 H λD t H=>?_;refine AK 2 [(19,Ai 2),(20,Ai 0)] H λD H=>Ad (id:=0) (by kernel_rfl) ?_;refine PO (by kernel_rfl) ?_;refine AD 1 (AK 1 [(21,.bool true)] H λD H=>AQ (OZ (x:=.tmp 21) (by kernel_rfl) H (λD=>by kernel_rfl) ?_));refine Bt id (AQ (Ad (id:=1) (by kernel_rfl) ?_));refine AD 3 (Aa 1 [] 23 0 0 A H λD t H=>?_);refine B4 1 [(9,.ptr (some (G.size,0)))] 14 H λD H=>?_;obtain⟨x2,X,M⟩:=AG M;refine BD 4 [(25,.ptr (some (G.size,0))),(26,.str p0),(27,Ai (2:Int))] 29 (Ab x2) S H (λD=>.of (DN (by kernel_rfl) X)) λD t H=>?_;obtain⟨⟨x3,x4,x5⟩,X,M⟩:=AG M;obtain⟨v1,h7,R,rfl,E⟩:=Jf (av:=[.str p0,Ai 2,Ab x2]) X (A.cut 0);replace A:=A.FL E;refine Bq 30 R H λD t H=>?_
 obtain⟨W,X,A⟩:=A.s1 0 [.str x3] [_,_,_,_,_,_,_,_,_];refine Ct 5 [(32,Ai x4),(33,.bool x5)] X H λD t H=>?_;refine BA 2 [(0,.str p0),(2,.ptr (some (h.size,0))),(5,.ptr (some (G.size,0))),(6,Ai x4),(7,.bool x5),(18,.slice (some (P.size,0)) 2),(19,Ai 2),(20,Ai 0)] H λD H=>B6 2 id (AK 2 [(36,.bool (!x5))] H λD H=>AU 36 H M (λB M H=>?_) λB M H=>?_)
 ·refine AD 5 ?_;obtain⟨h9,X,A⟩:=A.s2 0 IB [_,_,_,_,_,_,_,_,_];refine Ft 2 [(38,Ai x4)] X H λD t H=>?_;refine AK 2 [(3,Ai x4),(4,Ai 11)] H λD H=>Ak ?_;obtain⟨rfl,rfl,rfl⟩:=DG M;refine⟨.inl rfl,.tuple [.agg IB,Ai x4,Ai 11],Bl (.cell (rT H) (Bk (by kernel_rfl) (by kernel_rfl) (A.la 2 0 9)) (.tmp (rT H) (.tmp (rT H) .nil))),?_⟩;replace A:=A.d0;exact⟨rfl,A⟩
 refine Ie 2 id (BA 2 [(0,.str p0),(2,.ptr (some (h.size,0))),(5,.ptr (some (G.size,0))),(6,Ai x4),(18,.slice (some (P.size,0)) 2),(19,Ai 2),(20,Ai 1)] H λD H=>BK id (PO (by kernel_rfl) ?_));refine AD 1 (AK 1 [(21,.bool true)] H λD H=>AQ (OZ (x:=.tmp 21) (by kernel_rfl) H (λD=>by kernel_rfl) ?_));refine Bt id (AQ (Ad (id:=1) (by kernel_rfl) ?_));refine AD 3 (Aa 1 [] 23 0 1 A H λD t H=>?_);refine B4 1 [(9,.ptr (some (G.size,1)))] 14 H λD H=>?_;obtain⟨x6,X,M⟩:=AG M;refine BD 4 [(25,.ptr (some (G.size,1))),(26,.str p0),(27,Ai x4)] 29 (Ab x6) W H (λD=>.of (DN (by kernel_rfl) X)) λD t H=>?_;obtain⟨⟨x7,x8,x9⟩,X,M⟩:=AG M;obtain⟨v1,V,R,rfl,E⟩:=Jf (av:=[.str p0,Ai x4,Ab x6]) X (A.cut 0);replace A:=A.FL E;refine Bq 30 R H λD t H=>?_;obtain⟨h11,X,A⟩:=A.s1 1 [.str x7] [_,_,_,_,_,_,_,_,_];refine Ct 5 [(32,Ai x8),(33,.bool x9)] X H λD t H=>?_;refine BA 2 [(0,.str p0),(2,.ptr (some (h.size,0))),(5,.ptr (some (G.size,0))),(6,Ai x8),(7,.bool x9),(18,.slice (some (P.size,0)) 2),(19,Ai 2),(20,Ai 1)] H λD H=>B6 2 id (AK 2 [(36,.bool (!x9))] H λD H=>AU 36 H M (λB M H=>?_) λB M H=>?_)
 ·refine AD 5 ?_;obtain⟨h12,X,A⟩:=A.s2 0 IB [_,_,_,_,_,_,_,_,_];refine Ft 2 [(38,Ai x8)] X H λD t H=>?_;refine AK 2 [(3,Ai x8),(4,Ai 11)] H λD H=>Ak ?_;obtain⟨rfl,rfl,rfl⟩:=DG M;refine⟨.inl rfl,.tuple [.agg IB,Ai x8,Ai 11],Bl (.cell (rT H) (Bk (by kernel_rfl) (by kernel_rfl) (A.la 2 0 9)) (.tmp (rT H) (.tmp (rT H) .nil))),?_⟩;replace A:=A.d0;exact⟨rfl,A⟩
 refine Ie 2 id (BA 2 [(0,.str p0),(2,.ptr (some (h.size,0))),(5,.ptr (some (G.size,0))),(6,Ai x8),(18,.slice (some (P.size,0)) 2),(19,Ai 2),(20,Ai 2)] H λD H=>BK id (PO (by kernel_rfl) ?_));refine AD 1 (AK 1 [(21,.bool false)] H λD H=>AQ (OQ (x:=.tmp 21) (by kernel_rfl) H (λD=>by kernel_rfl) ?_));refine BM (i:=0) (by kernel_rfl) ?_;show AW _ _ _ _ _ _ _;refine AQ (AD 4 ?_);replace A:=A.k3 1 0 2;obtain⟨⟨x10,x11⟩,X,M⟩:=AG M;obtain⟨v1,h13,R,rfl,E⟩:=MK (av:=[.ptr (some (G.size,0)),.str p0,Ai x8]) X (A.cut 1);replace A:=A.g11 E;refine As 2 [] 42 R H λD t H=>?_;refine B4 1 [(10,Ai x10)] 2 H λD H=>AK 2 [(44,.bool (decide (x10>=0)))] H λD H=>AU 44 H M (λB M H=>?_) λB M H=>?_
 ·refine AD 5 ?_;obtain⟨h14,X,A⟩:=A.s2 0 IB [_,_,_,_,_,_,_,_,_];refine Ft 2 [(46,Ai x10)] X H λD t H=>?_;refine AK 2 [(3,Ai x10),(4,Ai 11)] H λD H=>Ak ?_;obtain⟨rfl,rfl,rfl⟩:=DG M;refine⟨.inl rfl,.tuple [.agg IB,Ai x10,Ai 11],Bl (.cell (rT H) (Bk (by kernel_rfl) (by kernel_rfl) (A.la 2 0 9)) (.tmp (rT H) (.tmp (rT H) .nil))),?_⟩;replace A:=A.d0;exact⟨rfl,A⟩
 refine CH 4 id (Aw 47 _ _ H (λD=>.of (B0 (by kernel_rfl) (A.G7 0 rfl (o:=0) (n:=9) ⟨zb rfl,rfl⟩))) λD t H=>?_);obtain⟨h15,X,A⟩:=A.s2 0 (Aq x11) [_,_,_,_,_,_,_,_,_];refine Cu X H λD t H=>?_;refine AK 2 [(3,Ai 0),(4,Ai 0)] H λD H=>Ak ?_;obtain⟨rfl,rfl,rfl⟩:=DG M;refine⟨.inl rfl,.tuple [.agg (Aq x11),Ai 0,Ai 0],Bl (.cell (rT H) (Bk (by kernel_rfl) (by kernel_rfl) (A.la 2 0 9)) (.tmp (rT H) (.tmp (rT H) .nil))),?_⟩;replace A:=A.d0;exact⟨rfl,A⟩
def DP(p0:AL):Option (Bool):=
 some (decide (p0.BU<0))
theorem EE{p0 bp0 rp0_3 q0}(M:DP p0=some q0)(A:HH g h [.obj bp0 (.cells none 2 (An p0 (AH rp0_3 p0.t_.AN.length))),.AP rp0_3 113 (AP AA p0.t_.AN)] F)(hc:Bf (cfg.still 38) av=[.ptr (some (bp0,0))]:=by kernel_rfl):∃v Q,Bm cfg g h 38 av v Q/\v=.bool q0/\HH g Q [.obj bp0 (.cells none 2 (An p0 (AH rp0_3 p0.t_.AN.length))),.AP rp0_3 113 (AP AA p0.t_.AN)] F:=by
 refine E5 8 [.tmp 2] hc ?_;clear hc;unfold DP at M;refine bg 8 [(0,.ptr (some (bp0,0)))] λD H=>?_;refine AD 1 (B4 1 [] 6 H λD H=>Aa 3 [] 6 0 7 A H λD t H=>?_);refine AK 2 [(2,.bool (decide (p0.BU<0)))] H λD H=>Ak ?_;obtain rfl:=Ag M;exact⟨.inl rfl,_,rH H,rfl,A⟩
def FB(p0:List UInt8)(p1:List UInt8):Option (Bool):=
 (Ae (decide ((p0.length:Int)>=(p1.length:Int))) ((I0 p0 none (some (p1.length:Int))).bind λx2=>some (x2==p1)) (some false):Option (Bool)).bind λx1=>some x1
theorem K0{p0 p1 q0}(M:FB p0 p1=some q0)(A:HH g h [] F)(hc:Bf (cfg.still 121) av=[.str p0,.str p1]:=by kernel_rfl):∃v Q,Bm cfg g h 121 av v Q/\v=.bool q0/\HH g Q [] F:=by
 refine E5 18 [.tmp 4] hc ?_;clear hc;unfold FB at M;refine bg 18 [(0,.str p0),(1,.str p1)] λD H=>?_;refine AD 1 (B4 1 [] 14 H λD H=>AI 6 [(10,.bool (decide ((p0.length:Int)>=(p1.length:Int))))] H λD H=>?_);obtain⟨x1,O,M⟩:=AG M;refine BP 7 (λN Q=>Has N 18 [(17,.bool x1)]/\HH g Q [] F) ?_ ?_
 ·rcases BS O with⟨B,M⟩|⟨B,M⟩
  ·replace H:=H.kn 10 B;obtain⟨x2,X,M⟩:=AG M;refine BD 3 [] 14 (.str x2) h H (λD=>.of (Gu (k:=.i64) (k':=.i64) (lo:=none) (hi:=(some (p1.length:Int))) (by kernel_rfl) X)) λD t H=>?_;refine AI 3 [(17,.bool (x2==p1))] H λD H=>?_;obtain rfl:=Ag M;exact Aj ⟨H.ls,A⟩
  replace H:=H.kn 10 B;refine AI 7 [(17,.bool false)] H λD H=>?_;obtain rfl:=Ag M;exact Aj ⟨H.ls,A⟩
 clear A;intro t D h1 K;obtain⟨H,A⟩:=K;refine AK 1 [(4,.bool x1)] H λD H=>Ak ?_;obtain rfl:=Ag M;exact⟨.inl rfl,_,rH H,rfl,A⟩
def CK(p0:List UInt8)(p1:List UInt8):Option (Bool):=
 (FB p0 p1).bind λx1=>some x1
theorem DC{p0 p1 q0}(M:CK p0 p1=some q0)(A:HH g h [] F)(hc:Bf (cfg.still 105) av=[.str p0,.str p1]:=by kernel_rfl):∃v Q,Bm cfg g h 105 av v Q/\v=.bool q0/\HH g Q [] F:=by
 refine E5 8 [.tmp 4] hc ?_;clear hc;unfold CK at M;refine bg 8 [(0,.str p0),(1,.str p1)] λD H=>?_;refine AD 1 (B4 1 [] 4 H λD H=>?_);obtain⟨x1,X,M⟩:=AG M;obtain⟨v1,h1,R,rfl,E⟩:=K0 (av:=[.str p0,.str p1]) X (A.cut 0);replace A:=A.FL E;refine As 2 [] 7 R H λD t H=>?_;refine AK 1 [(4,.bool x1)] H λD H=>Ak ?_;obtain rfl:=Ag M;exact⟨.inl rfl,_,rH H,rfl,A⟩
def C9(p0:AL)(p1:List UInt8):Option (Bool):=
 (Ae (!p0.Al) (Ds (decide (([92]:UV).length+p1.length<=9223372036854775807))<|some (([92]:UV)++p1)) (some p1):Option (((List UInt8)))).bind λx1=>(I0 p0.s_ (some p0.at_) none).bind λx2=>(CK x2 x1).bind λx3=>some x3
theorem F9{p0 p1 bp0 rp0_3 q0}(M:C9 p0 p1=some q0)(A:HH g h [.obj bp0 (.cells none 2 (An p0 (AH rp0_3 p0.t_.AN.length))),.AP rp0_3 113 (AP AA p0.t_.AN)] F)(hc:Bf (cfg.still 90) av=[.ptr (some (bp0,0)),.str p1]:=by kernel_rfl):∃v Q,Bm cfg g h 90 av v Q/\v=.bool q0/\HH g Q [.obj bp0 (.cells none 2 (An p0 (AH rp0_3 p0.t_.AN.length))),.AP rp0_3 113 (AP AA p0.t_.AN)] F:=by
 refine E5 23 [.tmp 4] hc ?_;clear hc;unfold C9 at M;refine bg 23 [(0,.ptr (some (bp0,0))),(1,.str p1)] λD H=>?_;refine AD 1 (AK 1 [] H λD H=>AQ ?_);obtain⟨o1,O,M⟩:=AG M;refine Ap (Q':=λe N Q=>(∃x1,e=.normal/\x1=o1/\Has N 23 [(0,.ptr (some (bp0,0))),(1,.str x1)]/\HH g Q [.obj bp0 (.cells none 2 (An p0 (AH rp0_3 p0.t_.AN.length))),.AP rp0_3 113 (AP AA p0.t_.AN)] F)\/False) ?_ ?_
 ·replace M:=O;clear O;refine AD 5 (Aa 3 [] 8 0 2 A H λD t H=>?_);refine AK 1 [(9,.bool (!p0.Al))] H λD H=>AU 9 H M (λB M H=>?_) λB M H=>?_
  ·refine BY 3 (AI 1 [(10,.str p1)] H λD H=>?_);obtain⟨B,M⟩:=BN M;refine Aw 11 (.str (([92]:UV)++p1)) h H (λD=>.of (OU (by kernel_rfl) B)) λD t H=>?_;refine BA 1 [(0,.ptr (some (bp0,0))),(1,.str (([92]:UV)++p1))] H λD H=>Aj ?_;exact .inl ⟨_,rfl,Ag M,H.ls,A⟩
  exact Bv (.inl ⟨_,rfl,Ag M,H.ls,A⟩)
 clear O;clear A;intro e D h1 I;rcases I with⟨x1,rfl,rfl,H,A⟩|J
 ·show AW _ _ _ _ _ _ _;refine AQ (Ek 3 12 ?_);refine Aa 3 [] 15 0 0 A H λD t H=>?_;refine Aa 3 [] 19 0 1 A H λD t H=>?_;obtain⟨x2,X,M⟩:=AG M;refine Aw 20 (.str x2) h1 H (λD=>.of (Gu (k:=.i64) (k':=.i64) (lo:=(some p0.at_)) (hi:=none) (by kernel_rfl) X)) λD t H=>?_;obtain⟨x3,X,M⟩:=AG M;obtain⟨v1,G,R,rfl,E⟩:=DC (av:=[.str x2,.str x1]) X (A.cut 0);replace A:=A.FL E;refine As 1 [] 22 R H λD t H=>?_;refine AK 1 [(4,.bool x3)] H λD H=>Ak ?_;obtain rfl:=Ag M;exact⟨.inl rfl,_,rH H,rfl,A⟩
 exact J.elim
def DH(p0:Int)(p1:Int):Option (Bool):=
 some ((decide (p0>=0))&&(decide (p0<p1)))
theorem HS{p0 p1 bp1 q0}(M:DH p0 p1=some q0)(A:HH g h [.obj bp1 (.cells none 2 [Ai p1])] F)(hc:Bf (cfg.still 92) av=[Ai p0,.ptr (some (bp1,0))]:=by kernel_rfl):∃v Q,Bm cfg g h 92 av v Q/\v=.bool q0/\HH g Q [.obj bp1 (.cells none 2 [Ai p1])] F:=by
 refine E5 11 [.tmp 3] hc ?_;clear hc;unfold DH at M;refine bg 11 [(0,Ai p0),(1,.ptr (some (bp1,0)))] λD H=>?_;refine AD 1 (B4 1 [] 8 H λD H=>AI 3 [(6,.bool (decide (p0>=0)))] H λD H=>BP 4 (λN Q=>h=Q/\Has N 11 [(10,.bool ((decide (p0>=0))&&(decide (p0<p1))))]) ?_ ?_)
 ·cases B:(decide (p0>=0):Bool)with
  |true=>
   replace H:=H.kn 6 B;refine Aa 1 [(7,Ai p0)] 8 0 0 A H λD t H=>?_;exact AI 2 [(10,.bool (decide (p0<p1)))] H λD H=>BH H B
  |false=>
   replace H:=H.kn 6 B;exact AI 4 [(10,.bool false)] H λD H=>BH H B
 intro t D Q K;obtain⟨e,H⟩:=K;subst e;refine AK 1 [(3,.bool ((decide (p0>=0))&&(decide (p0<p1))))] H λD H=>Ak ?_;obtain rfl:=Ag M;exact⟨.inl rfl,_,rH H,rfl,A⟩
def JI(p0:A9):Option (Bool):=
 some p0.Names
theorem QR{p0 q0}(M:JI p0=some q0)(A:HH g h [] F)(hc:Bf (cfg.still 30) av=[.agg (Aq p0)]:=by kernel_rfl):∃v Q,Bm cfg g h 30 av v Q/\v=.bool q0/\HH g Q [] F:=by
 refine E5 5 [.tmp 2] hc ?_;clear hc;unfold JI at M;refine bg 5 [(0,.agg (Aq p0))] λD H=>?_;refine AD 2 ?_;obtain⟨h1,e1,A⟩:=A.pu (.cells none 2 (Aq p0));refine Bc 1 (.ptr (some (h.size,0))) e1 H λD t H=>?_;refine B4 1 [] 3 H λD H=>Aa 1 [] 4 0 6 A H λD t H=>?_;refine AK 1 [(2,.bool p0.Names)] H λD H=>Ak ?_;obtain rfl:=Ag M;refine⟨.inl rfl,.bool p0.Names,rH H,?_⟩;replace A:=A.d0;exact⟨rfl,A⟩
end
end Go.Av.L
