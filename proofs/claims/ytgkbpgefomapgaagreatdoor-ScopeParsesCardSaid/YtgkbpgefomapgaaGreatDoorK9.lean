/-
 A part.
-/
import Derived.Test.YtgkbpgefomapgaaGreatDoorK8
namespace Go.Av.L
open IntKind (i64)
open Go.Av Go.Lib
set_option maxRecDepth 10000
set_option linter.unusedVariables false
set_option linter.unusedSimpArgs false
variable {g:Gd} {h:AS} {F:List Ck} {av:List AE}
noncomputable section
structure Bh where
 C6:Bs->(List Bool)->Int->Int->Int->Option ((List (AZ×(List Bool)))×(List Bool))
 Bn:Bs->Int->Int->Int->Option ((List Bool)×(List (AZ×(List Bool))))
structure E0(S:Bh):Prop where
 Fe:∀{g:Gd} {h:AS} {F:List Ck} {p0:Bs} {p1:List Bool} {p2:Int} {p3:Int} {p4:Int} {bp0:Nat} {bp0_3:Nat} {rp1:Option Nat} {u1:List (AZ×(List Bool))} {u2:List Bool} {av:List AE} (M:S.C6 p0 p1 p2 p3 p4=some (u1,u2)) (hc:Bf (cfg.still 97) av=[.ptr (some (bp0,0)),AH rp1 p1.length,Ai p2,Ai p3,Ai p4]) (A:HH g h [.obj bp0 (.cells none 2 [vs AA p0.t_.AN,Ai p0.t_.BI,.str p0.s_,.map (some bp0_3)]),.obj bp0_3 (.map 2 (CJ (λk:AZ=>.agg (BB k)) (λv:List Bool=>vs eB v) p0.IM)),.AP rp1 4 (AP eB p1)] F),∃v Q,Bm cfg g h 97 av v Q/\∃(hl'2:u2.length=p1.length),v=.tuple []/\HH g Q [.obj bp0 (.cells none 2 [vs AA p0.t_.AN,Ai p0.t_.BI,.str p0.s_,.map (some bp0_3)]),.obj bp0_3 (.map 2 (CJ (λk:AZ=>.agg (BB k)) (λv:List Bool=>vs eB v) u1)),.AP rp1 4 (AP eB u2)] F
 B2:∀{g:Gd} {h:AS} {F:List Ck} {p0:Bs} {p1:Int} {p2:Int} {p3:Int} {bp0:Nat} {bp0_3:Nat} {q0:List Bool} {u1:List (AZ×(List Bool))} {av:List AE} (M:S.Bn p0 p1 p2 p3=some (q0,u1)) (hc:Bf (cfg.still 75) av=[.ptr (some (bp0,0)),Ai p1,Ai p2,Ai p3]) (A:HH g h [.obj bp0 (.cells none 2 [vs AA p0.t_.AN,Ai p0.t_.BI,.str p0.s_,.map (some bp0_3)]),.obj bp0_3 (.map 2 (CJ (λk:AZ=>.agg (BB k)) (λv:List Bool=>vs eB v) p0.IM))] F),∃v Q,Bm cfg g h 75 av v Q/\v=vs eB q0/\HH g Q [.obj bp0 (.cells none 2 [vs AA p0.t_.AN,Ai p0.t_.BI,.str p0.s_,.map (some bp0_3)]),.obj bp0_3 (.map 2 (CJ (λk:AZ=>.agg (BB k)) (λv:List Bool=>vs eB v) u1))] F
def Dw(S:Bh)(p0:Bs)(p2:Int)(p3:Int)(p4:Int)(x1:AM)(x4:List Bool)(s:(List (AZ×(List Bool)))×(List Bool)×Int):Option (((List (AZ×(List Bool)))×(List Bool)×Int)⊕(((List (AZ×(List Bool)))×(List Bool)))):=
 match s with
 |(x6,x7,x8)=>Ae (decide (x8<(x4.length:Int))) (((FT x4 x8).bind λx13=>Ae (x13&&((decide (x8>p4))||(decide (p3<x1.Min)))) ((Gn x1 p3).bind λx14=>(S.Bn (⟨p0.t_,p0.s_,x6⟩:Bs) p2 x14 x8).bind λ(x15,x16)=>(DQ x7 x15).bind λx17=>some (x16,x17)) (some (x6,x7)):Option (((List (AZ×(List Bool)))×(List Bool)))).bind λ(x11,x12)=>some (.inl (x11,x12,i64.wrap (x8+1)))) (some (.inr (x6,x7)))
def Da(S:Bh)(p0:Bs)(p1:List Bool)(p2:Int)(p3:Int)(p4:Int):Option ((List (AZ×(List Bool)))×(List Bool)):=
 (FT p0.t_.AN p2).bind λx1=>(Ae (decide (p3>=x1.Min)) ((FT p1 p4).bind λx3=>some (p1.set p4.toNat true)) (some p1):Option (((List Bool)))).bind λx2=>Ae (p3==x1.Max) (some (p0.IM,x2)) ((S.Bn p0 x1.A (0:Int) p4).bind λ(x4,x5)=>(loop (Dw S p0 p2 p3 p4 x1 x4) (x5,x2,(0:Int))).bind λ(x9,x10)=>some (x9,x10))
theorem Ji{S:Bh}(hS:E0 S){p0 p1 p2 p3 p4 bp0 bp0_3 rp1 u1 u2}(M:Da S p0 p1 p2 p3 p4=some (u1,u2))(hc:Bf (cfg.still 97) av=[.ptr (some (bp0,0)),AH rp1 p1.length,Ai p2,Ai p3,Ai p4])(A:HH g h [.obj bp0 (.cells none 2 [vs AA p0.t_.AN,Ai p0.t_.BI,.str p0.s_,.map (some bp0_3)]),.obj bp0_3 (.map 2 (CJ (λk:AZ=>.agg (BB k)) (λv:List Bool=>vs eB v) p0.IM)),.AP rp1 4 (AP eB p1)] F):∃v Q,Bm cfg g h 97 av v Q/\∃(hl'2:u2.length=p1.length),v=.tuple []/\HH g Q [.obj bp0 (.cells none 2 [vs AA p0.t_.AN,Ai p0.t_.BI,.str p0.s_,.map (some bp0_3)]),.obj bp0_3 (.map 2 (CJ (λk:AZ=>.agg (BB k)) (λv:List Bool=>vs eB v) u1)),.AP rp1 4 (AP eB u2)] F:=by
 refine E5 65 [] hc ?_;clear hc;unfold Da at M;refine bg 65 [(0,.ptr (some (bp0,0))),(1,AH rp1 p1.length),(2,Ai p2),(3,Ai p3),(4,Ai p4)] λD H=>?_;refine AD 10 (Aa 4 [] 17 0 0 A H λD t H=>?_);obtain⟨x1,X,M⟩:=AG M;refine BD 1 [] 19 (.BL (AA x1)) h H (λD=>.of (Ge (e:=AA) (x:=x1) CB (by decide) (by kernel_rfl) X)) λD t H=>?_;refine Aw 20 (.agg (AA x1)) h H (λD=>.of (FA (by kernel_rfl))) λD t H=>?_;obtain⟨h1,e1,A⟩:=A.pu (.cells none 2 Wg);refine Bc 10 (.ptr (some (h.size,0))) e1 H λD t H=>?_;obtain⟨G,X,A⟩:=A.s0 0 (AA x1) [_,_,_,_,_,_,_,_,_,_];refine Cu X H λD t H=>?_;refine BK id (AQ ?_);obtain⟨o1,O,M⟩:=AG M;refine Ap (Q':=λe N Q=>(∃x2,e=.normal/\x2=o1/\∃(Z:x2.length=p1.length),Has N 65 [(0,.ptr (some (bp0,0))),(1,AH rp1 x2.length),(2,Ai p2),(3,Ai p3),(4,Ai p4),(10,.ptr (some (h.size,0)))]/\HH g Q [.obj h.size (.cells none 2 (AA x1)),.obj bp0 (.cells none 2 [vs AA p0.t_.AN,Ai p0.t_.BI,.str p0.s_,.map (some bp0_3)]),.obj bp0_3 (.map 2 (CJ (λk:AZ=>.agg (BB k)) (λv:List Bool=>vs eB v) p0.IM)),.AP rp1 4 (AP eB x2)] F)\/False) ?_ ?_
 ·replace M:=O;clear O;refine AD 4 (Aa 2 [(21,Ai p3)] 23 0 3 A H λD t H=>?_);refine AK 1 [(24,.bool (decide (p3>=x1.Min)))] H λD H=>AU 24 H M (λC M H=>?_) λC M H=>?_
  ·refine BY 4 ?_;obtain⟨x3,X,M⟩:=AG M;obtain⟨i1,er1,_,X,W⟩:=HH.Lc Ej (by decide) A 3 (xs:=p1) rfl X;refine BD 2 [] 27 (.ptr (some (i1,p4.toNat*1))) G H (λD=>.of (ED (s:=Ca rp1 p1.length) (by kernel_rfl) X)) λD t H=>?_;obtain⟨J,X,E⟩:=HH.Th Ej A 3 rfl er1 W (y:=true) (o:=0) (new:=[.bool true]) rfl rfl (zb rfl);have hl2:(p1.set p4.toNat true).length=p1.length:=zr;have el:AH rp1 p1.length=AH rp1 (p1.set p4.toNat true).length:=congrArg _ zr.symm
   try rw[el]at H
   try rw[el]at E
   replace A:HH g J [_,_,_,.AP rp1 4 (AP eB (p1.set p4.toNat true))] F:=E;refine I4 X H λD t H=>?_;refine Aj ?_;exact .inl ⟨_,rfl,Ag M,hl2,H.ls,A⟩
  exact Bv (.inl ⟨_,rfl,Ag M,rfl,H.ls,A⟩)
 clear O;clear A;intro e D h4 K;rcases K with⟨x2,rfl,rfl,Z,H,A⟩|P
 ·show AW _ _ _ _ _ _ _;refine AQ (AD 4 (Aa 2 [(28,Ai p3)] 30 0 4 A H λD t H=>?_));refine AK 1 [(31,.bool (p3==x1.Max))] H λD H=>AU 31 H M (λC M H=>?_) λC M H=>?_
  ·refine Ak ?_;obtain⟨rfl,rfl⟩:=C1 M;refine⟨.inl rfl,.tuple [],rH H,?_⟩;replace A:=A.k3 1 2 3;exact⟨Z,rfl,A⟩
  refine CH 7 id (Aa 2 [(32,.ptr (some (bp0,0)))] 34 0 1 A H λD t H=>?_);replace A:=A.k4 1 2 0 3;have E:=A.cut 2;obtain⟨⟨x4,x5⟩,X,M⟩:=AG M;obtain⟨v1,V,R,rfl,E⟩:=hS.B2 (av:=[.ptr (some (bp0,0)),Ai x1.A,Ai 0,Ai p4]) X (by kernel_rfl) E;replace A:=A.g22 E;refine As 1 [] 36 R H λD t H=>?_;refine AK 2 [(37,Ai (x4.length:Int)),(38,Ai 0)] H λD H=>Ad (id:=0) (by kernel_rfl) ?_;obtain⟨o2,O,M⟩:=AG M;refine Ap (Q':=λe N Q=>(∃x9 x10,e=.exit 0/\(x9,x10)=o2/\∃(hl4:x10.length=p1.length),Has N 65 []/\HH g Q [.obj bp0 (.cells none 2 [vs AA p0.t_.AN,Ai p0.t_.BI,.str p0.s_,.map (some bp0_3)]),.obj bp0_3 (.map 2 (CJ (λk:AZ=>.agg (BB k)) (λv:List Bool=>vs eB v) x9)),.obj h.size (.cells none 2 (AA x1)),.AP rp1 4 (AP eB x10)] F)\/False) ?_ ?_
  ·refine Bp (by kernel_rfl) (λ(s:(List (AZ×(List Bool)))×(List Bool)×Int) N Q=>∃x6 x7 x8,(x6,x7,x8)=s/\∃(U:x7.length=p1.length),Has N 65 [(0,.ptr (some (bp0,0))),(1,AH rp1 x7.length),(2,Ai p2),(3,Ai p3),(4,Ai p4),(10,.ptr (some (h.size,0))),(36,vs eB x4),(37,Ai (x4.length:Int)),(38,Ai x8)]/\HH g Q [.obj bp0 (.cells none 2 [vs AA p0.t_.AN,Ai p0.t_.BI,.str p0.s_,.map (some bp0_3)]),.obj bp0_3 (.map 2 (CJ (λk:AZ=>.agg (BB k)) (λv:List Bool=>vs eB v) x6)),.obj h.size (.cells none 2 (AA x1)),.AP rp1 4 (AP eB x7)] F) O ⟨_,_,_,rfl,Z,H.ls,A⟩ ?_;clear O M H A;intro s q D h6 hI M;obtain⟨x6,x7,x8,rfl,U,H,A⟩:=hI;unfold Dw at M;refine AD 1 (AK 1 [(39,.bool (decide (x8<(x4.length:Int))))] H λD H=>AQ (AU 39 H M (λC M H=>?_) λC M H=>?_))
   ·refine Bt id (AQ ?_);obtain⟨o3,O,M⟩:=AG M;refine Ap (Q':=λe N Q=>(∃x11 x12,e=.normal/\(x11,x12)=o3/\∃(hl5:x12.length=p1.length),Has N 65 [(0,.ptr (some (bp0,0))),(1,AH rp1 x12.length),(2,Ai p2),(3,Ai p3),(4,Ai p4),(10,.ptr (some (h.size,0))),(36,vs eB x4),(37,Ai (x4.length:Int)),(38,Ai x8)]/\HH g Q [.obj bp0 (.cells none 2 [vs AA p0.t_.AN,Ai p0.t_.BI,.str p0.s_,.map (some bp0_3)]),.obj bp0_3 (.map 2 (CJ (λk:AZ=>.agg (BB k)) (λv:List Bool=>vs eB v) x11)),.obj h.size (.cells none 2 (AA x1)),.AP rp1 4 (AP eB x12)] F)\/False) ?_ ?_
    ·replace M:=O;clear O;refine Ad (id:=1) (by kernel_rfl) ?_;refine AD 5 ?_;obtain⟨x13,X,M⟩:=AG M;refine BD 1 [(40,Ai x8)] 41 (.BL [.bool x13]) h6 H (λD=>.of (Ge (e:=eB) (x:=x13) Ej (by decide) (by kernel_rfl) X)) λD t H=>?_;refine Aw 42 (.bool x13) h6 H (λD=>.of (FA (by kernel_rfl))) λD t H=>?_;refine B4 2 [(11,Ai x8),(12,.bool x13)] 12 H λD H=>AI 2 [(44,.bool x13)] H λD H=>BP 10 (λN Q=>h6=Q/\Has N 65 [(0,.ptr (some (bp0,0))),(1,AH rp1 x7.length),(2,Ai p2),(3,Ai p3),(4,Ai p4),(10,.ptr (some (h.size,0))),(11,Ai x8),(36,vs eB x4),(37,Ai (x4.length:Int)),(38,Ai x8),(54,.bool (x13&&((decide (x8>p4))||(decide (p3<x1.Min)))))]) ?_ ?_
     ·cases C:(x13:Bool)with
      | true=>
       replace H:=H.kn 44 C;refine AI 4 [(48,.bool (decide (x8>p4)))] H λD H=>BP 5 (λN Q=>h6=Q/\Has N 65 [(0,.ptr (some (bp0,0))),(1,AH rp1 x7.length),(2,Ai p2),(3,Ai p3),(4,Ai p4),(10,.ptr (some (h.size,0))),(11,Ai x8),(36,vs eB x4),(37,Ai (x4.length:Int)),(38,Ai x8),(44,.bool true),(53,.bool ((decide (x8>p4))||(decide (p3<x1.Min))))]) ?_ ?_
       ·cases C:(decide (x8>p4):Bool)with
        |true=>
         replace H:=H.kn 48 C;exact AI 5 [(53,.bool true)] H λD H=>BH H C
        |false=>
         replace H:=H.kn 48 C;refine Aa 2 [(49,Ai p3)] 51 2 3 A H λD t H=>?_;exact AI 2 [(53,.bool (decide (p3<x1.Min)))] H λD H=>BH H C
       intro t D Q I;obtain⟨e,H⟩:=I;subst e;exact AI 1 [(54,.bool ((decide (x8>p4))||(decide (p3<x1.Min))))] H λD H=>BH H C
      |false=>
       replace H:=H.kn 44 C;exact AI 10 [(54,.bool false)] H λD H=>BH H C
     intro t D Q I;obtain⟨e,H⟩:=I;subst e;refine BK id (AU 54 H M (λC M H=>?_) λC M H=>?_)
     ·refine BY 9 (BD 3 [(55,AH rp1 x7.length),(56,.ptr (some (bp0,0))),(57,Ai p2)] 58 _ _ H (λD=>.of (B0 (by kernel_rfl) (A.G7 2 rfl (o:=0) (n:=10) ⟨zb rfl,rfl⟩))) λD t H=>?_);obtain⟨x14,X,M⟩:=AG M;obtain⟨v1,h7,R,rfl,E⟩:=MC (av:=[.agg (AA x1),Ai p3]) X (A.cut 0);replace A:=A.FL E;refine As 1 [] 60 R H λD t H=>?_;have E:=A.cut 2;obtain⟨⟨x15,x16⟩,X,M⟩:=AG M;obtain⟨v1,h8,R,rfl,E⟩:=hS.B2 (av:=[.ptr (some (bp0,0)),Ai p2,Ai x14,Ai x8]) X (by kernel_rfl) E;replace A:=A.g22 E;refine As 1 [] 62 R H λD t H=>?_;replace A:=A.k4 3 0 1 2;obtain⟨x17,X,M⟩:=AG M;obtain⟨v1,h9,R,Y,rfl,E⟩:=F3 (av:=[AH rp1 x7.length,vs eB x15]) X (A.cut 1);have hl7:x17.length=p1.length:=Y.trans U;have el:AH rp1 x7.length=AH rp1 x17.length:=congrArg _ Y.symm
      try rw[el]at H
      try rw[el]at R
      try rw[el]at E
      replace A:=A.g11 E;refine Jj R H λD t H=>?_;refine Aj ?_;replace A:=A.k4 1 2 3 0;exact .inl ⟨_,_,rfl,Ag M,hl7,H.ls,A⟩
     exact Bv (.inl ⟨_,_,rfl,Ag M,U,H.ls,A⟩)
    clear O;clear A;intro e D h10 K;rcases K with⟨x11,x12,rfl,rfl,hl5,H,A⟩|P
    ·show AW _ _ _ _ _ _ _;refine BY 2 (BA 2 [(0,.ptr (some (bp0,0))),(1,AH rp1 x12.length),(2,Ai p2),(3,Ai p3),(4,Ai p4),(10,.ptr (some (h.size,0))),(36,vs eB x4),(37,Ai (x4.length:Int)),(38,Ai (i64.wrap (x8+1)))] H λD H=>Aj ?_);exact nx M ⟨_,_,_,rfl,hl5,H.ls,A⟩
    exact P.elim
   refine BM (i:=0) (by kernel_rfl) ?_;exact nr M λe=>.inl ⟨_,_,rfl,e,U,H.ls,A⟩
  clear O;clear A;intro e D h11 K;rcases K with⟨x9,x10,rfl,rfl,hl4,H,A⟩|P
  ·obtain⟨rfl,rfl⟩:=C1 M;refine⟨.inr rfl,.tuple [],rH H,?_⟩;replace A:=A.k3 0 1 3;exact⟨hl4,rfl,A⟩
  exact P.elim
 exact P.elim
def Fk(S:Bh)(p0:Bs)(x4:AM)(x21:List Bool)(s:(List (AZ×(List Bool)))×(List Bool)×Int):Option (((List (AZ×(List Bool)))×(List Bool)×Int)⊕(((List (AZ×(List Bool)))×(List Bool)))):=
 match s with
 |(x23,x24,x25)=>Ae (decide (x25<(x21.length:Int))) (((FT x21 x25).bind λx30=>Ae x30 ((S.Bn (⟨p0.t_,p0.s_,x23⟩:Bs) x4.B (0:Int) x25).bind λ(x31,x32)=>(DQ x24 x31).bind λx33=>some (x32,x33)) (some (x23,x24)):Option (((List (AZ×(List Bool)))×(List Bool)))).bind λ(x28,x29)=>some (.inl (x28,x29,i64.wrap (x25+1)))) (some (.inr (x23,x24)))
def FU(S:Bh)(p0:Bs)(p1:Int)(p2:Int)(p3:Int):Option ((List Bool)×(List (AZ×(List Bool)))):=
 aH (Cy p0.IM (⟨p1,p2,p3⟩:AZ)) (λx1=>some (x1,p0.IM)) (Ds (YD 1 (i64.wrap ((p0.s_.length:Int)+1)))<|((FT p0.t_.AN p1).bind λx4=>Ae (x4.Kind==0) ((FT (List.replicate (i64.wrap ((p0.s_.length:Int)+1)).toNat false) p3).bind λx5=>some (((List.replicate (i64.wrap ((p0.s_.length:Int)+1)).toNat false).set p3.toNat true),p0.IM)) (Ae (x4.Kind==1) ((Ae (decide (p3<(p0.s_.length:Int))) ((IA p0.s_ p3).bind λx7=>(Di x4.Set x7).bind λx8=>some x8) (some false):Option (Bool)).bind λx6=>Ae x6 ((FT (List.replicate (i64.wrap ((p0.s_.length:Int)+1)).toNat false) (i64.wrap (p3+1))).bind λx9=>some (((List.replicate (i64.wrap ((p0.s_.length:Int)+1)).toNat false).set (i64.wrap (p3+1)).toNat true),p0.IM)) (some ((List.replicate (i64.wrap ((p0.s_.length:Int)+1)).toNat false),p0.IM))) (Ae (x4.Kind==6) ((FT (List.replicate (i64.wrap ((p0.s_.length:Int)+1)).toNat false) p3).bind λx10=>some (((List.replicate (i64.wrap ((p0.s_.length:Int)+1)).toNat false).set p3.toNat (p3==0)),p0.IM)) (Ae (x4.Kind==7) ((FT (List.replicate (i64.wrap ((p0.s_.length:Int)+1)).toNat false) p3).bind λx11=>some (((List.replicate (i64.wrap ((p0.s_.length:Int)+1)).toNat false).set p3.toNat (p3==(p0.s_.length:Int))),p0.IM)) (Ae (x4.Kind==3) ((S.Bn p0 x4.A (0:Int) p3).bind λ(x12,x13)=>(DQ (List.replicate (i64.wrap ((p0.s_.length:Int)+1)).toNat false) x12).bind λx14=>(S.Bn (⟨p0.t_,p0.s_,x13⟩:Bs) x4.B (0:Int) p3).bind λ(x15,x16)=>(DQ x14 x15).bind λx17=>some (x17,x16)) (Ae (x4.Kind==5) ((S.Bn p0 x4.A (0:Int) p3).bind λ(x18,x19)=>(DQ (List.replicate (i64.wrap ((p0.s_.length:Int)+1)).toNat false) x18).bind λx20=>some (x20,x19)) (Ae (x4.Kind==2) ((S.Bn p0 x4.A (0:Int) p3).bind λ(x21,x22)=>(loop (Fk S p0 x4 x21) (x22,(List.replicate (i64.wrap ((p0.s_.length:Int)+1)).toNat false),(0:Int))).bind λ(x26,x27)=>some (x27,x26)) (Ae (x4.Kind==4) ((S.C6 p0 (List.replicate (i64.wrap ((p0.s_.length:Int)+1)).toNat false) p1 p2 p3).bind λ(x34,x35)=>some (x35,x34)) (some ((List.replicate (i64.wrap ((p0.s_.length:Int)+1)).toNat false),p0.IM))))))))):Option (((List Bool)×(List (AZ×(List Bool)))))).bind λ(x2,x3)=>Ds (decide (0<x2.length))<|some (x2,(CZ x3 (⟨p1,p2,p3⟩:AZ) x2)))
theorem MI{S:Bh}(hS:E0 S){p0 p1 p2 p3 bp0 bp0_3 q0 u1}(M:FU S p0 p1 p2 p3=some (q0,u1))(hc:Bf (cfg.still 75) av=[.ptr (some (bp0,0)),Ai p1,Ai p2,Ai p3])(A:HH g h [.obj bp0 (.cells none 2 [vs AA p0.t_.AN,Ai p0.t_.BI,.str p0.s_,.map (some bp0_3)]),.obj bp0_3 (.map 2 (CJ (λk:AZ=>.agg (BB k)) (λv:List Bool=>vs eB v) p0.IM))] F):∃v Q,Bm cfg g h 75 av v Q/\v=vs eB q0/\HH g Q [.obj bp0 (.cells none 2 [vs AA p0.t_.AN,Ai p0.t_.BI,.str p0.s_,.map (some bp0_3)]),.obj bp0_3 (.map 2 (CJ (λk:AZ=>.agg (BB k)) (λv:List Bool=>vs eB v) u1))] F:=by
 refine aD 158 [.tmp 8] hc ?_;clear hc;unfold FU at M;refine bg 158 [(0,.ptr (some (bp0,0))),(1,Ai p1),(2,Ai p2),(3,Ai p3)] λD H=>?_;refine AD 1 (B4 1 [] 6 H λD H=>?_);obtain⟨h1,e1,A⟩:=A.pu (.cells none 2 [Ai 0,Ai 0,Ai 0]);refine HT 4 [(19,.agg [Ai p1,Ai p2,Ai p3])] 9 (.ptr (some (h.size,0))) e1 H λD t H=>?_;obtain⟨G,X,A⟩:=A.s0 0 [Ai p1,Ai p2,Ai p3] [_,_,_];refine Cu X H λD t H=>?_;refine BK id (AQ (AQ (Ek 2 11 ?_)));refine Aa 3 [] 24 1 3 A H λD t H=>?_;refine Aw 25 _ _ H (λD=>.of (B0 (by kernel_rfl) (A.G7 0 rfl (o:=0) (n:=3) ⟨zb rfl,rfl⟩))) λD t H=>?_;rcases V5 M with⟨x1,W,M⟩|⟨W,M⟩
 ·refine Aw 26 (.tuple [vs eB x1,.bool true]) G H (λD=>.of (VV (by kernel_rfl) (HH.ZR (kt:=199) (et:=107) (ek:=λk:AZ=>.agg (BB k)) (ev:=λv:List Bool=>vs eB v) IZ A 2 rfl (t:=170) (by kernel_rfl) (zv:=.slice none 0) (by kernel_rfl) (k:=(⟨p1,p2,p3⟩:AZ)) (v:=x1) W))) λD t H=>?_;refine B4 5 [(10,vs eB x1),(11,.bool true)] 1 H λD H=>AK 1 [(29,.bool true)] H λD H=>OZ (x:=.tmp 29) (by kernel_rfl) H (λD=>by kernel_rfl) ?_;refine AD 2 (AK 2 [(8,vs eB x1)] H λD H=>Ak ?_);obtain⟨rfl,rfl⟩:=C1 M;refine⟨.inl rfl,vs eB x1,rH H,?_⟩;refine⟨vs eB x1,G,by first|rfl|(simp only[Na,No,NZ,NV,NW,NY,Nl,Ns,Nk,Nu,Ny,Hb,Hf,Ha,HZ,Hi,HY,Hd,zf]<;>rfl),?_⟩;replace A:=A.k2 1 2;exact⟨rfl,A⟩
 refine Aw 26 (.tuple [.slice none 0,.bool false]) G H (λD=>.of (VV (by kernel_rfl) (HH.ZO (kt:=199) (et:=107) (ek:=λk:AZ=>.agg (BB k)) (ev:=λv:List Bool=>vs eB v) IZ A 2 rfl (t:=170) (by kernel_rfl) (zv:=.slice none 0) (by kernel_rfl) (k:=(⟨p1,p2,p3⟩:AZ)) W))) λD t H=>?_;refine B4 5 [(10,.slice none 0),(11,.bool false)] 1 H λD H=>AK 1 [(29,.bool false)] H λD H=>OQ (x:=.tmp 29) (by kernel_rfl) H (λD=>by kernel_rfl) ?_;refine CH 8 id (Aa 3 [] 34 1 2 A H λD t H=>?_);obtain⟨C,M⟩:=BN M;obtain⟨J,e2,A⟩:=A.pL 4 (AP eB (List.replicate (i64.wrap ((p0.s_.length:Int)+1)).toNat false));refine BD 2 [] 37 (AH (some G.size) (List.replicate (i64.wrap ((p0.s_.length:Int)+1)).toNat false).length) J H (λD=>.of (TM (e:=eB) Ej (x:=false) (by kernel_rfl) C (congrArg some e2.symm))) λD t H=>?_;refine AK 1 [(12,AH (some G.size) ((List.replicate (i64.wrap ((p0.s_.length:Int)+1)).toNat false).length))] H λD H=>AQ ?_;obtain⟨o1,O,M⟩:=AG M;refine Ap (Q':=λe N Q=>(∃x2 x3,e=.normal/\(x2,x3)=o1/\∃(Z:x2.length=(List.replicate (i64.wrap ((p0.s_.length:Int)+1)).toNat false).length),Has N 158 [(0,.ptr (some (bp0,0))),(9,.ptr (some (h.size,0))),(12,AH (some G.size) x2.length)]/\HH g Q [.AP (some G.size) 4 (AP eB x2),.obj h.size (.cells none 2 [Ai p1,Ai p2,Ai p3]),.obj bp0 (.cells none 2 [vs AA p0.t_.AN,Ai p0.t_.BI,.str p0.s_,.map (some bp0_3)]),.obj bp0_3 (.map 2 (CJ (λk:AZ=>.agg (BB k)) (λv:List Bool=>vs eB v) x3))] F)\/False) ?_ ?_
 ·replace M:=O;clear O;refine AD 10 (Aa 4 [] 42 2 0 A H λD t H=>?_);obtain⟨x4,X,M⟩:=AG M;refine BD 1 [] 44 (.BL (AA x4)) J H (λD=>.of (Ge (e:=AA) (x:=x4) CB (by decide) (by kernel_rfl) X)) λD t H=>?_;refine Aw 45 (.agg (AA x4)) J H (λD=>.of (FA (by kernel_rfl))) λD t H=>?_;obtain⟨h4,e3,A⟩:=A.pu (.cells none 2 Wg);refine Bc 13 (.ptr (some (J.size,0))) e3 H λD t H=>?_;obtain⟨V,X,E⟩:=A.st 0 rfl (o:=0) (new:=(AA x4)) (ds:=(AA x4)) (zb rfl) rfl rfl;replace A:HH g V [.obj J.size (.cells none 2 (AA x4)),.AP (some G.size) 4 (AP eB (List.replicate (i64.wrap ((p0.s_.length:Int)+1)).toNat false)),_,_,_] F:=E;refine Cu X H λD t H=>?_;refine B6 2 id (Aa 1 [] 47 0 0 A H λD t H=>?_);refine BK id (Ad (id:=0) (by kernel_rfl) ?_);refine AD 2 (AK 2 [(48,.bool (x4.Kind==0))] H λD H=>AU 48 H M (λC M H=>?_) λC M H=>?_)
  ·refine BY 4 ?_;obtain⟨x5,X,M⟩:=AG M;obtain⟨i1,er1,_,X,hq2⟩:=HH.Lc Ej (by decide) A 1 (xs:=(List.replicate (i64.wrap ((p0.s_.length:Int)+1)).toNat false)) rfl X;refine BD 2 [] 52 (.ptr (some (i1,p3.toNat*1))) V H (λD=>.of (ED (s:=Ca (some G.size) ((List.replicate (i64.wrap ((p0.s_.length:Int)+1)).toNat false).length)) (by kernel_rfl) X)) λD t H=>?_;obtain⟨h6,X,E⟩:=HH.Th Ej A 1 rfl er1 hq2 (y:=true) (o:=0) (new:=[.bool true]) rfl rfl (zb rfl);have hl2:((List.replicate (i64.wrap ((p0.s_.length:Int)+1)).toNat false).set p3.toNat true).length=(List.replicate (i64.wrap ((p0.s_.length:Int)+1)).toNat false).length:=zr;have el:AH (some G.size) (List.replicate (i64.wrap ((p0.s_.length:Int)+1)).toNat false).length=AH (some G.size) ((List.replicate (i64.wrap ((p0.s_.length:Int)+1)).toNat false).set p3.toNat true).length:=congrArg _ zr.symm
   try rw[el]at H
   try rw[el]at E
   replace A:HH g h6 [_,.AP (some G.size) 4 (AP eB ((List.replicate (i64.wrap ((p0.s_.length:Int)+1)).toNat false).set p3.toNat true)),_,_,_] F:=E;refine I4 X H λD t H=>?_;refine Aj ?_;replace A:=A.k4 1 2 3 4;exact .inl ⟨_,_,rfl,Ag M,hl2,H.ls,A⟩
  refine AD 2 (AK 2 [(53,.bool (x4.Kind==1))] H λD H=>AU 53 H M (λC M H=>?_) λC M H=>?_)
  ·refine AQ (Ek 11 18 ?_);refine Aa 4 [(55,Ai p3)] 59 3 2 A H λD t H=>?_;refine AI 3 [(62,.bool (decide (p3<(p0.s_.length:Int))))] H λD H=>?_;obtain⟨x6,O,M⟩:=AG M;refine BP 10 (λN Q=>Has N 158 [(0,.ptr (some (bp0,0))),(3,Ai p3),(9,.ptr (some (h.size,0))),(12,AH (some G.size) ((List.replicate (i64.wrap ((p0.s_.length:Int)+1)).toNat false).length)),(72,.bool x6)]/\HH g Q [.obj J.size (.cells none 2 (AA x4)),.AP (some G.size) 4 (AP eB (List.replicate (i64.wrap ((p0.s_.length:Int)+1)).toNat false)),.obj h.size (.cells none 2 [Ai p1,Ai p2,Ai p3]),.obj bp0 (.cells none 2 [vs AA p0.t_.AN,Ai p0.t_.BI,.str p0.s_,.map (some bp0_3)]),.obj bp0_3 (.map 2 (CJ (λk:AZ=>.agg (BB k)) (λv:List Bool=>vs eB v) p0.IM))] F) ?_ ?_
   ·rcases BS O with⟨C,M⟩|⟨C,M⟩
    ·replace H:=H.kn 62 C;refine BD 1 [] 64 _ _ H (λD=>.of (B0 (by kernel_rfl) (A.G7 0 rfl (o:=6) (n:=4) ⟨zb rfl,rfl⟩))) λD t H=>?_;refine Aa 3 [] 68 3 2 A H λD t H=>?_;obtain⟨x7,X,M⟩:=AG M;refine BD 1 [] 70 (Ab x7) V H (λD=>.of (DN (by kernel_rfl) X)) λD t H=>?_;obtain⟨x8,X,M⟩:=AG M;obtain⟨v1,h8,R,rfl,E⟩:=Hq (av:=[.agg (AR x4.Set),Ab x7]) X (A.cut 0);replace A:=A.FL E;refine Bq 71 R H λD t H=>?_;refine AI 1 [(72,.bool x8)] H λD H=>?_;obtain rfl:=Ag M;exact Aj ⟨H.ls,A⟩
    replace H:=H.kn 62 C;refine AI 10 [(72,.bool false)] H λD H=>?_;obtain rfl:=Ag M;exact Aj ⟨H.ls,A⟩
   clear A;intro t D h7 I;obtain⟨H,A⟩:=I;refine BK id (AU 72 H M (λC M H=>?_) λC M H=>?_)
   ·refine BY 5 ?_;obtain⟨x9,X,M⟩:=AG M;obtain⟨i2,er2,_,X,hq3⟩:=HH.Lc Ej (by decide) A 1 (xs:=(List.replicate (i64.wrap ((p0.s_.length:Int)+1)).toNat false)) rfl X;refine BD 3 [] 76 (.ptr (some (i2,(i64.wrap (p3+1)).toNat*1))) h7 H (λD=>.of (ED (s:=Ca (some G.size) ((List.replicate (i64.wrap ((p0.s_.length:Int)+1)).toNat false).length)) (by kernel_rfl) X)) λD t H=>?_;obtain⟨h9,X,E⟩:=HH.Th Ej A 1 rfl er2 hq3 (y:=true) (o:=0) (new:=[.bool true]) rfl rfl (zb rfl);have U:((List.replicate (i64.wrap ((p0.s_.length:Int)+1)).toNat false).set (i64.wrap (p3+1)).toNat true).length=(List.replicate (i64.wrap ((p0.s_.length:Int)+1)).toNat false).length:=zr;have el:AH (some G.size) (List.replicate (i64.wrap ((p0.s_.length:Int)+1)).toNat false).length=AH (some G.size) ((List.replicate (i64.wrap ((p0.s_.length:Int)+1)).toNat false).set (i64.wrap (p3+1)).toNat true).length:=congrArg _ zr.symm
    try rw[el]at H
    try rw[el]at E
    replace A:HH g h9 [_,.AP (some G.size) 4 (AP eB ((List.replicate (i64.wrap ((p0.s_.length:Int)+1)).toNat false).set (i64.wrap (p3+1)).toNat true)),_,_,_] F:=E;refine I4 X H λD t H=>?_;refine Aj ?_;replace A:=A.k4 1 2 3 4;exact .inl ⟨_,_,rfl,Ag M,U,H.ls,A⟩
   refine Bv ?_;replace A:=A.k4 1 2 3 4;exact .inl ⟨_,_,rfl,Ag M,rfl,H.ls,A⟩
  refine AD 2 (AK 2 [(77,.bool (x4.Kind==6))] H λD H=>AU 77 H M (λC M H=>?_) λC M H=>?_)
  ·refine BY 6 ?_;obtain⟨x10,X,M⟩:=AG M;obtain⟨i3,er3,_,X,hq4⟩:=HH.Lc Ej (by decide) A 1 (xs:=(List.replicate (i64.wrap ((p0.s_.length:Int)+1)).toNat false)) rfl X;refine BD 4 [(82,.bool (p3==0))] 83 (.ptr (some (i3,p3.toNat*1))) V H (λD=>.of (ED (s:=Ca (some G.size) ((List.replicate (i64.wrap ((p0.s_.length:Int)+1)).toNat false).length)) (by kernel_rfl) X)) λD t H=>?_;obtain⟨h10,X,E⟩:=HH.Th Ej A 1 rfl er3 hq4 (y:=p3==0) (o:=0) (new:=[.bool (p3==0)]) rfl rfl (zb rfl);have hl4:((List.replicate (i64.wrap ((p0.s_.length:Int)+1)).toNat false).set p3.toNat (p3==0)).length=(List.replicate (i64.wrap ((p0.s_.length:Int)+1)).toNat false).length:=zr;have el:AH (some G.size) (List.replicate (i64.wrap ((p0.s_.length:Int)+1)).toNat false).length=AH (some G.size) ((List.replicate (i64.wrap ((p0.s_.length:Int)+1)).toNat false).set p3.toNat (p3==0)).length:=congrArg _ zr.symm
   try rw[el]at H
   try rw[el]at E
   replace A:HH g h10 [_,.AP (some G.size) 4 (AP eB ((List.replicate (i64.wrap ((p0.s_.length:Int)+1)).toNat false).set p3.toNat (p3==0))),_,_,_] F:=E;refine I4 X H λD t H=>?_;refine Aj ?_;replace A:=A.k4 1 2 3 4;exact .inl ⟨_,_,rfl,Ag M,hl4,H.ls,A⟩
  refine AD 2 (AK 2 [(84,.bool (x4.Kind==7))] H λD H=>AU 84 H M (λC M H=>?_) λC M H=>?_)
  ·refine BY 11 (Aa 6 [(86,AH (some G.size) ((List.replicate (i64.wrap ((p0.s_.length:Int)+1)).toNat false).length)),(87,Ai p3),(88,Ai p3)] 92 3 2 A H λD t H=>?_);obtain⟨x11,X,M⟩:=AG M;obtain⟨i4,er4,_,X,hq5⟩:=HH.Lc Ej (by decide) A 1 (xs:=(List.replicate (i64.wrap ((p0.s_.length:Int)+1)).toNat false)) rfl X;refine BD 2 [(94,.bool (p3==(p0.s_.length:Int)))] 95 (.ptr (some (i4,p3.toNat*1))) V H (λD=>.of (ED (s:=Ca (some G.size) ((List.replicate (i64.wrap ((p0.s_.length:Int)+1)).toNat false).length)) (by kernel_rfl) X)) λD t H=>?_;obtain⟨h11,X,E⟩:=HH.Th Ej A 1 rfl er4 hq5 (y:=p3==(p0.s_.length:Int)) (o:=0) (new:=[.bool (p3==(p0.s_.length:Int))]) rfl rfl (zb rfl);have hl5:((List.replicate (i64.wrap ((p0.s_.length:Int)+1)).toNat false).set p3.toNat (p3==(p0.s_.length:Int))).length=(List.replicate (i64.wrap ((p0.s_.length:Int)+1)).toNat false).length:=zr;have el:AH (some G.size) (List.replicate (i64.wrap ((p0.s_.length:Int)+1)).toNat false).length=AH (some G.size) ((List.replicate (i64.wrap ((p0.s_.length:Int)+1)).toNat false).set p3.toNat (p3==(p0.s_.length:Int))).length:=congrArg _ zr.symm
   try rw[el]at H
   try rw[el]at E
   replace A:HH g h11 [_,.AP (some G.size) 4 (AP eB ((List.replicate (i64.wrap ((p0.s_.length:Int)+1)).toNat false).set p3.toNat (p3==(p0.s_.length:Int)))),_,_,_] F:=E;refine I4 X H λD t H=>?_;refine Aj ?_;replace A:=A.k4 1 2 3 4;exact .inl ⟨_,_,rfl,Ag M,hl5,H.ls,A⟩
  refine AD 2 (AK 2 [(96,.bool (x4.Kind==3))] H λD H=>AU 96 H M (λC M H=>?_) λC M H=>?_)
  ·refine AD 7 (Aa 3 [(98,AH (some G.size) ((List.replicate (i64.wrap ((p0.s_.length:Int)+1)).toNat false).length)),(99,.ptr (some (bp0,0)))] 101 0 1 A H λD t H=>?_);replace A:=A.k5 3 4 0 1 2;have E:=A.cut 2;obtain⟨⟨x12,x13⟩,X,M⟩:=AG M;obtain⟨v1,h12,R,rfl,E⟩:=hS.B2 (av:=[.ptr (some (bp0,0)),Ai x4.A,Ai 0,Ai p3]) X (by kernel_rfl) E;replace A:=A.g22 E;refine As 1 [] 103 R H λD t H=>?_;replace A:=A.k5 3 0 1 2 4;obtain⟨x14,X,M⟩:=AG M;obtain⟨v1,h13,R,Y,rfl,E⟩:=F3 (av:=[AH (some G.size) ((List.replicate (i64.wrap ((p0.s_.length:Int)+1)).toNat false).length),vs eB x12]) X (A.cut 1);have hl7:x14.length=(List.replicate (i64.wrap ((p0.s_.length:Int)+1)).toNat false).length:=Y;have el:AH (some G.size) (List.replicate (i64.wrap ((p0.s_.length:Int)+1)).toNat false).length=AH (some G.size) x14.length:=congrArg _ Y.symm
   try rw[el]at H
   try rw[el]at R
   try rw[el]at E
   replace A:=A.g11 E;refine Jj R H λD t H=>?_;refine Fu 7 id (Aa 3 [(105,AH (some G.size) x14.length),(106,.ptr (some (bp0,0)))] 108 3 2 A H λD t H=>?_);replace A:=A.k5 1 2 0 3 4;have E:=A.cut 2;obtain⟨⟨x15,x16⟩,X,M⟩:=AG M;obtain⟨v1,h14,R,rfl,E⟩:=hS.B2 (av:=[.ptr (some (bp0,0)),Ai x4.B,Ai 0,Ai p3]) X (by kernel_rfl) E;replace A:=A.g22 E;refine As 1 [] 110 R H λD t H=>?_;replace A:=A.k5 2 0 1 3 4;obtain⟨x17,X,M⟩:=AG M;obtain⟨v1,h15,R,hl8,rfl,E⟩:=F3 (av:=[AH (some G.size) x14.length,vs eB x15]) X (A.cut 1);have hl9:x17.length=(List.replicate (i64.wrap ((p0.s_.length:Int)+1)).toNat false).length:=hl8.trans hl7;have el:AH (some G.size) x14.length=AH (some G.size) x17.length:=congrArg _ hl8.symm
   try rw[el]at H
   try rw[el]at R
   try rw[el]at E
   replace A:=A.g11 E;refine Jj R H λD t H=>?_;refine Aj ?_;replace A:=A.k4 0 4 1 2;exact .inl ⟨_,_,rfl,Ag M,hl9,H.ls,A⟩
  refine AD 2 (AK 2 [(112,.bool (x4.Kind==5))] H λD H=>AU 112 H M (λC M H=>?_) λC M H=>?_)
  ·refine BY 7 (Aa 3 [(114,AH (some G.size) ((List.replicate (i64.wrap ((p0.s_.length:Int)+1)).toNat false).length)),(115,.ptr (some (bp0,0)))] 117 0 1 A H λD t H=>?_);replace A:=A.k5 3 4 0 1 2;have E:=A.cut 2;obtain⟨⟨x18,x19⟩,X,M⟩:=AG M;obtain⟨v1,h16,R,rfl,E⟩:=hS.B2 (av:=[.ptr (some (bp0,0)),Ai x4.A,Ai 0,Ai p3]) X (by kernel_rfl) E;replace A:=A.g22 E;refine As 1 [] 119 R H λD t H=>?_;replace A:=A.k5 3 0 1 2 4;obtain⟨x20,X,M⟩:=AG M;obtain⟨v1,h17,R,hl10,rfl,E⟩:=F3 (av:=[AH (some G.size) ((List.replicate (i64.wrap ((p0.s_.length:Int)+1)).toNat false).length),vs eB x18]) X (A.cut 1);have hl11:x20.length=(List.replicate (i64.wrap ((p0.s_.length:Int)+1)).toNat false).length:=hl10;have el:AH (some G.size) (List.replicate (i64.wrap ((p0.s_.length:Int)+1)).toNat false).length=AH (some G.size) x20.length:=congrArg _ hl10.symm
   try rw[el]at H
   try rw[el]at R
   try rw[el]at E
   replace A:=A.g11 E;refine Jj R H λD t H=>?_;refine Aj ?_;replace A:=A.k4 0 4 1 2;exact .inl ⟨_,_,rfl,Ag M,hl11,H.ls,A⟩
  refine AD 2 (AK 2 [(121,.bool (x4.Kind==2))] H λD H=>AU 121 H M (λC M H=>?_) λC M H=>?_)
  ·refine AD 7 (Aa 2 [(123,.ptr (some (bp0,0)))] 125 0 1 A H λD t H=>?_);replace A:=A.k5 3 4 0 1 2;have E:=A.cut 2;obtain⟨⟨x21,x22⟩,X,M⟩:=AG M;obtain⟨v1,h18,R,rfl,E⟩:=hS.B2 (av:=[.ptr (some (bp0,0)),Ai x4.A,Ai 0,Ai p3]) X (by kernel_rfl) E;replace A:=A.g22 E;refine As 1 [] 127 R H λD t H=>?_;refine AK 2 [(128,Ai (x21.length:Int)),(129,Ai 0)] H λD H=>Ad (id:=1) (by kernel_rfl) ?_;obtain⟨o2,O,M⟩:=AG M;refine Ap (Q':=λe N Q=>(∃x26 x27,e=.exit 1/\(x26,x27)=o2/\∃(hl13:x27.length=(List.replicate (i64.wrap ((p0.s_.length:Int)+1)).toNat false).length),Has N 158 [(0,.ptr (some (bp0,0))),(9,.ptr (some (h.size,0))),(12,AH (some G.size) x27.length)]/\HH g Q [.obj bp0 (.cells none 2 [vs AA p0.t_.AN,Ai p0.t_.BI,.str p0.s_,.map (some bp0_3)]),.obj bp0_3 (.map 2 (CJ (λk:AZ=>.agg (BB k)) (λv:List Bool=>vs eB v) x26)),.obj J.size (.cells none 2 (AA x4)),.AP (some G.size) 4 (AP eB x27),.obj h.size (.cells none 2 [Ai p1,Ai p2,Ai p3])] F)\/False) ?_ ?_
   ·refine Bp (by kernel_rfl) (λ(s:(List (AZ×(List Bool)))×(List Bool)×Int) N Q=>∃x23 x24 x25,(x23,x24,x25)=s/\∃(T:x24.length=(List.replicate (i64.wrap ((p0.s_.length:Int)+1)).toNat false).length),Has N 158 [(0,.ptr (some (bp0,0))),(9,.ptr (some (h.size,0))),(12,AH (some G.size) x24.length),(13,.ptr (some (J.size,0))),(127,vs eB x21),(128,Ai (x21.length:Int)),(129,Ai x25)]/\HH g Q [.obj bp0 (.cells none 2 [vs AA p0.t_.AN,Ai p0.t_.BI,.str p0.s_,.map (some bp0_3)]),.obj bp0_3 (.map 2 (CJ (λk:AZ=>.agg (BB k)) (λv:List Bool=>vs eB v) x23)),.obj J.size (.cells none 2 (AA x4)),.AP (some G.size) 4 (AP eB x24),.obj h.size (.cells none 2 [Ai p1,Ai p2,Ai p3])] F) O ⟨_,_,_,rfl,rfl,H.ls,A⟩ ?_;clear O M H A;intro s q D h19 hI M;obtain⟨x23,x24,x25,rfl,T,H,A⟩:=hI;unfold Fk at M;refine AD 1 (AK 1 [(130,.bool (decide (x25<(x21.length:Int))))] H λD H=>AQ (AU 130 H M (λC M H=>?_) λC M H=>?_))
    ·refine Bt id (AQ ?_);obtain⟨o3,O,M⟩:=AG M;refine Ap (Q':=λe N Q=>(∃x28 x29,e=.normal/\(x28,x29)=o3/\∃(hl14:x29.length=(List.replicate (i64.wrap ((p0.s_.length:Int)+1)).toNat false).length),Has N 158 [(0,.ptr (some (bp0,0))),(9,.ptr (some (h.size,0))),(12,AH (some G.size) x29.length),(13,.ptr (some (J.size,0))),(127,vs eB x21),(128,Ai (x21.length:Int)),(129,Ai x25)]/\HH g Q [.obj bp0 (.cells none 2 [vs AA p0.t_.AN,Ai p0.t_.BI,.str p0.s_,.map (some bp0_3)]),.obj bp0_3 (.map 2 (CJ (λk:AZ=>.agg (BB k)) (λv:List Bool=>vs eB v) x28)),.obj J.size (.cells none 2 (AA x4)),.AP (some G.size) 4 (AP eB x29),.obj h.size (.cells none 2 [Ai p1,Ai p2,Ai p3])] F)\/False) ?_ ?_
     ·replace M:=O;clear O;refine Ad (id:=2) (by kernel_rfl) ?_;refine AD 5 ?_;obtain⟨x30,X,M⟩:=AG M;refine BD 1 [(131,Ai x25)] 132 (.BL [.bool x30]) h19 H (λD=>.of (Ge (e:=eB) (x:=x30) Ej (by decide) (by kernel_rfl) X)) λD t H=>?_;refine Aw 133 (.bool x30) h19 H (λD=>.of (FA (by kernel_rfl))) λD t H=>?_;refine B4 2 [(14,Ai x25),(15,.bool x30)] 1 H λD H=>AK 1 [(134,.bool x30)] H λD H=>AU 134 H M (λC M H=>?_) λC M H=>?_
      ·refine BY 7 (Aa 3 [(135,AH (some G.size) x24.length),(136,.ptr (some (bp0,0)))] 138 2 2 A H λD t H=>?_);have E:=A.cut 2;obtain⟨⟨x31,x32⟩,X,M⟩:=AG M;obtain⟨v1,h20,R,rfl,E⟩:=hS.B2 (av:=[.ptr (some (bp0,0)),Ai x4.B,Ai 0,Ai x25]) X (by kernel_rfl) E;replace A:=A.g22 E;refine As 1 [] 140 R H λD t H=>?_;replace A:=A.k5 3 0 1 2 4;obtain⟨x33,X,M⟩:=AG M;obtain⟨v1,h21,R,hl15,rfl,E⟩:=F3 (av:=[AH (some G.size) x24.length,vs eB x31]) X (A.cut 1);have hl16:x33.length=(List.replicate (i64.wrap ((p0.s_.length:Int)+1)).toNat false).length:=hl15.trans T;have el:AH (some G.size) x24.length=AH (some G.size) x33.length:=congrArg _ hl15.symm
       try rw[el]at H
       try rw[el]at R
       try rw[el]at E
       replace A:=A.g11 E;refine Jj R H λD t H=>?_;refine Aj ?_;replace A:=A.k5 1 2 3 0 4;exact .inl ⟨_,_,rfl,Ag M,hl16,H.ls,A⟩
      exact Bv (.inl ⟨_,_,rfl,Ag M,T,H.ls,A⟩)
     clear O;clear A;intro e D h22 K;rcases K with⟨x28,x29,rfl,rfl,hl14,H,A⟩|P
     ·show AW _ _ _ _ _ _ _;refine BY 2 (BA 2 [(0,.ptr (some (bp0,0))),(9,.ptr (some (h.size,0))),(12,AH (some G.size) x29.length),(13,.ptr (some (J.size,0))),(127,vs eB x21),(128,Ai (x21.length:Int)),(129,Ai (i64.wrap (x25+1)))] H λD H=>Aj ?_);exact nx M ⟨_,_,_,rfl,hl14,H.ls,A⟩
     exact P.elim
    refine BM (i:=1) (by kernel_rfl) ?_;exact nr M λe=>.inl ⟨_,_,rfl,e,T,H.ls,A⟩
   clear O;clear A;intro e D h23 K;rcases K with⟨x26,x27,rfl,rfl,hl13,H,A⟩|P
   ·replace A:=A.k4 3 4 0 1;exact .inl ⟨_,_,rfl,Ag M,hl13,H.ls,A⟩
   exact P.elim
  refine AD 2 (AK 2 [(143,.bool (x4.Kind==4))] H λD H=>AU 143 H M (λC M H=>?_) λC M H=>?_)
  ·refine BY 6 ?_;replace A:=A.k5 3 4 1 0 2;have E:=A.cut 3;obtain⟨⟨x34,x35⟩,X,M⟩:=AG M;obtain⟨v1,h24,R,hl17,rfl,E⟩:=hS.Fe (av:=[.ptr (some (bp0,0)),AH (some G.size) ((List.replicate (i64.wrap ((p0.s_.length:Int)+1)).toNat false).length),Ai p1,Ai p2,Ai p3]) X (by kernel_rfl) E;have hl18:x35.length=(List.replicate (i64.wrap ((p0.s_.length:Int)+1)).toNat false).length:=hl17;have el:AH (some G.size) (List.replicate (i64.wrap ((p0.s_.length:Int)+1)).toNat false).length=AH (some G.size) x35.length:=congrArg _ hl17.symm
   try rw[el]at H
   try rw[el]at R
   try rw[el]at E
   replace A:=A.UI E;refine Ld 5 [] R H λD t H=>?_;refine Aj ?_;replace A:=A.k4 2 4 0 1;exact .inl ⟨_,_,rfl,Ag M,hl18,H.ls,A⟩
  refine Bv ?_;replace A:=A.k4 1 2 3 4;exact .inl ⟨_,_,rfl,Ag M,rfl,H.ls,A⟩
 clear O;clear A;intro e D h25 K;rcases K with⟨x2,x3,rfl,rfl,Z,H,A⟩|P
 ·show AW _ _ _ _ _ _ _;refine AQ (Ek 31 7 ?_);refine Aa 3 [] 154 2 3 A H λD t H=>?_;refine Aw 155 _ _ H (λD=>.of (B0 (by kernel_rfl) (A.G7 1 rfl (o:=0) (n:=3) ⟨zb rfl,rfl⟩))) λD t H=>?_;refine AI 1 [(156,AH (some G.size) x2.length)] H λD H=>?_;obtain⟨C,M⟩:=BN M;obtain⟨h26,X,E,hz1⟩:=HH.bC (kt:=199) (et:=107) (ek:=λk:AZ=>.agg (BB k)) (ev:=λv:List Bool=>vs eB v) IZ A 2 rfl (t:=170) (by kernel_rfl) (⟨p1,p2,p3⟩:AZ) x2 (q:=x2.length) (z:=1) (Ej.Ij _) (by decide) (Nat.ne_of_gt (of_decide_eq_true C)) rfl;replace A:HH g h26 [_,_,.obj bp0_3 (.map 2 (CJ (λk:AZ=>.agg (BB k)) (λv:List Bool=>vs eB v) (CZ x3 (⟨p1,p2,p3⟩:AZ) x2)))] F:=E;refine La (.tuple []) h26 H (λD=>.of (RX (by kernel_rfl) X)) λD t H=>?_;refine B6 2 id (AK 2 [(8,AH (some G.size) x2.length)] H λD H=>Ak ?_);obtain⟨rfl,rfl⟩:=C1 M;refine⟨.inl rfl,AH (some G.size) x2.length,rH H,?_⟩;refine⟨vs eB x2,h26,by first|rfl|(simp only[Na,No,NZ,NV,NW,NY,Nl,Ns,Nk,Nu,Ny,Hb,Hf,Ha,HZ,Hi,HY,Hd,zf,hz1]<;>rfl),?_⟩;replace A:=A.k2 1 2;exact⟨rfl,A⟩
 exact P.elim
def CY:Nat->Bh
 |0=>⟨λ_ _ _ _ _=>none,λ_ _ _ _=>none⟩
 |n+1=>⟨Da (CY n),FU (CY n)⟩
theorem Dp:∀n,E0 (CY n)
 |0=>⟨λM=>(by cases M),λM=>(by cases M)⟩
 |n+1=>⟨λM hc A=>Ji (Dp n) M hc A,λM hc A=>MI (Dp n) M hc A⟩
def C6:Bs->(List Bool)->Int->Int->Int->Option ((List (AZ×(List Bool)))×(List Bool)):=(CY KK).C6
theorem Fe{p0 p1 p2 p3 p4 bp0 bp0_3 rp1 u1 u2}(M:C6 p0 p1 p2 p3 p4=some (u1,u2))(A:HH g h [.obj bp0 (.cells none 2 [vs AA p0.t_.AN,Ai p0.t_.BI,.str p0.s_,.map (some bp0_3)]),.obj bp0_3 (.map 2 (CJ (λk:AZ=>.agg (BB k)) (λv:List Bool=>vs eB v) p0.IM)),.AP rp1 4 (AP eB p1)] F)(hc:Bf (cfg.still 97) av=[.ptr (some (bp0,0)),AH rp1 p1.length,Ai p2,Ai p3,Ai p4]:=by kernel_rfl):∃v Q,Bm cfg g h 97 av v Q/\∃(hl'2:u2.length=p1.length),v=.tuple []/\HH g Q [.obj bp0 (.cells none 2 [vs AA p0.t_.AN,Ai p0.t_.BI,.str p0.s_,.map (some bp0_3)]),.obj bp0_3 (.map 2 (CJ (λk:AZ=>.agg (BB k)) (λv:List Bool=>vs eB v) u1)),.AP rp1 4 (AP eB u2)] F:=(Dp KK).Fe M hc A
def Bn:Bs->Int->Int->Int->Option ((List Bool)×(List (AZ×(List Bool)))):=(CY KK).Bn
theorem B2{p0 p1 p2 p3 bp0 bp0_3 q0 u1}(M:Bn p0 p1 p2 p3=some (q0,u1))(A:HH g h [.obj bp0 (.cells none 2 [vs AA p0.t_.AN,Ai p0.t_.BI,.str p0.s_,.map (some bp0_3)]),.obj bp0_3 (.map 2 (CJ (λk:AZ=>.agg (BB k)) (λv:List Bool=>vs eB v) p0.IM))] F)(hc:Bf (cfg.still 75) av=[.ptr (some (bp0,0)),Ai p1,Ai p2,Ai p3]:=by kernel_rfl):∃v Q,Bm cfg g h 75 av v Q/\v=vs eB q0/\HH g Q [.obj bp0 (.cells none 2 [vs AA p0.t_.AN,Ai p0.t_.BI,.str p0.s_,.map (some bp0_3)]),.obj bp0_3 (.map 2 (CJ (λk:AZ=>.agg (BB k)) (λv:List Bool=>vs eB v) u1))] F:=(Dp KK).B2 M hc A
def HN(p0:Bs)(p2:Int)(p3:Int)(p4:Ac)(p5:Int)(x1:List Bool)(s:(List (AZ×(List Bool)))×Int):Option (((List (AZ×(List Bool)))×Int)⊕(((List (AZ×(List Bool))))⊕((List (AZ×(List Bool)))×Int))):=
 match s with
 |(x3,x4)=>Ae (decide (x4>p5)) ((FT x1 x4).bind λx8=>(Ae x8 ((Bn (⟨p0.t_,p0.s_,x3⟩:Bs) p2 p3 x4).bind λ(x11,x12)=>(FT x11 p4.JL).bind λx13=>some (x12,x13)) (some (x3,false)):Option ((List (AZ×(List Bool)))×Bool)).bind λ(x9,x10)=>Ae x10 (some (.inr (.inr (x9,x4)))) (some (.inl (x9,i64.wrap (x4 - 1))))) (some (.inr (.inl x3)))
def Eu(p0:Bs)(p1:Int)(p2:Int)(p3:Int)(p4:Ac)(p5:Int):Option (Int×(List (AZ×(List Bool)))):=
 (Bn p0 p1 (0:Int) p4.from_).bind λ(x1,x2)=>(loop (HN p0 p2 p3 p4 p5 x1) (x2,p4.JL)).bind λo1=>(match o1 with| .inl x5=>some (p5,x5)| .inr (x6,x7)=>some (x7,x6))
theorem Jo{p0 p1 p2 p3 p4 p5 bp0 bp0_3 q0 u1}(M:Eu p0 p1 p2 p3 p4 p5=some (q0,u1))(A:HH g h [.obj bp0 (.cells none 2 [vs AA p0.t_.AN,Ai p0.t_.BI,.str p0.s_,.map (some bp0_3)]),.obj bp0_3 (.map 2 (CJ (λk:AZ=>.agg (BB k)) (λv:List Bool=>vs eB v) p0.IM))] F)(hc:Bf (cfg.still 98) av=[.ptr (some (bp0,0)),Ai p1,Ai p2,Ai p3,.agg (Bj p4),Ai p5]:=by kernel_rfl):∃v Q,Bm cfg g h 98 av v Q/\v=Ai q0/\HH g Q [.obj bp0 (.cells none 2 [vs AA p0.t_.AN,Ai p0.t_.BI,.str p0.s_,.map (some bp0_3)]),.obj bp0_3 (.map 2 (CJ (λk:AZ=>.agg (BB k)) (λv:List Bool=>vs eB v) u1))] F:=by
 refine E5 44 [.tmp 12] hc ?_;clear hc;unfold Eu at M;refine bg 44 [(0,.ptr (some (bp0,0))),(1,Ai p1),(2,Ai p2),(3,Ai p3),(4,.agg (Bj p4)),(5,Ai p5)] λD H=>?_;refine AD 2 ?_;obtain⟨h1,e1,A⟩:=A.pu (.cells none 2 (Bj p4));refine Bc 10 (.ptr (some (h.size,0))) e1 H λD t H=>?_;refine B4 1 [] 6 H λD H=>Aa 3 [(15,.ptr (some (bp0,0))),(16,Ai p1)] 18 0 2 A H λD t H=>?_;replace A:HH g h1 [_,_,.obj h.size (.cells none 2 (Bj p4))] F:=((A.front 2 rfl).front 2 rfl);obtain⟨⟨x1,x2⟩,X,M⟩:=AG M;obtain⟨v1,G,R,rfl,E⟩:=B2 (av:=[.ptr (some (bp0,0)),Ai p1,Ai 0,Ai p4.from_]) X (A.cut 2);replace A:=A.g22 E;refine Bq 19 R H λD t H=>?_;refine AK 1 [(13,vs eB x1)] H λD H=>AQ (AD 3 (Aa 1 [] 21 2 3 A H λD t H=>?_));refine AK 1 [(14,Ai p4.JL)] H λD H=>Ad (id:=0) (by kernel_rfl) ?_;obtain⟨o1,O,M⟩:=AG M;refine Ap (Q':=λe N Q=>(∃x5,e=.exit 0/\.inl x5=o1/\Has N 44 [(5,Ai p5)]/\HH g Q [.obj bp0 (.cells none 2 [vs AA p0.t_.AN,Ai p0.t_.BI,.str p0.s_,.map (some bp0_3)]),.obj bp0_3 (.map 2 (CJ (λk:AZ=>.agg (BB k)) (λv:List Bool=>vs eB v) x5)),.obj h.size (.cells none 2 (Bj p4))] F)\/(∃x6 x7,e=.ret/\.inr (x6,x7)=o1/\Has N 44 [(12,Ai x7)]/\HH g Q [.obj bp0 (.cells none 2 [vs AA p0.t_.AN,Ai p0.t_.BI,.str p0.s_,.map (some bp0_3)]),.obj bp0_3 (.map 2 (CJ (λk:AZ=>.agg (BB k)) (λv:List Bool=>vs eB v) x6)),.obj h.size (.cells none 2 (Bj p4))] F)\/False) ?_ ?_
 ·refine Bp (by kernel_rfl) (λ(s:(List (AZ×(List Bool)))×Int) N Q=>∃x3 x4,(x3,x4)=s/\Has N 44 [(0,.ptr (some (bp0,0))),(2,Ai p2),(3,Ai p3),(5,Ai p5),(10,.ptr (some (h.size,0))),(13,vs eB x1),(14,Ai x4)]/\HH g Q [.obj bp0 (.cells none 2 [vs AA p0.t_.AN,Ai p0.t_.BI,.str p0.s_,.map (some bp0_3)]),.obj bp0_3 (.map 2 (CJ (λk:AZ=>.agg (BB k)) (λv:List Bool=>vs eB v) x3)),.obj h.size (.cells none 2 (Bj p4))] F) O ⟨_,_,rfl,H.ls,A⟩ ?_;clear O M H A;intro s q D J hI M;obtain⟨x3,x4,rfl,H,A⟩:=hI;unfold HN at M;refine AQ (AD 3 (AK 3 [(24,.bool (decide (x4>p5)))] H λD H=>AU 24 H M (λC M H=>?_) λC M H=>?_))
  ·refine Bt id (AQ (Ad (id:=1) (by kernel_rfl) ?_));refine AQ (G0 5 15 [(0,[]),(1,[]),(2,[]),(3,[]),(4,[]),(5,[]),(6,[]),(7,[]),(8,[]),(10,[]),(11,[]),(9,[11]),(12,[]),(13,[]),(14,[])] ?_);refine AI 2 [(27,vs eB x1),(28,Ai x4)] H λD H=>?_;obtain⟨x8,X,M⟩:=AG M;refine Ba 29 (.BL [.bool x8]) J [] (g.Bb) H (λD=>.of (Ge (e:=eB) (x:=x8) Ej (by decide) (by kernel_rfl) X)) (λD H=>?_);refine Ba 30 (.bool x8) J [] (g.Bb) H (λD=>.of (FA (by kernel_rfl))) (λD H=>?_);refine AI 1 [(31,.bool x8)] H λD H=>?_;obtain⟨⟨x9,x10⟩,O,M⟩:=AG M;refine BP 10 (λN Q=>Has N 44 [(0,.ptr (some (bp0,0))),(2,Ai p2),(3,Ai p3),(5,Ai p5),(10,.ptr (some (h.size,0))),(13,vs eB x1),(14,Ai x4),(41,.bool x10)]/\HH g Q [.obj bp0 (.cells none 2 [vs AA p0.t_.AN,Ai p0.t_.BI,.str p0.s_,.map (some bp0_3)]),.obj bp0_3 (.map 2 (CJ (λk:AZ=>.agg (BB k)) (λv:List Bool=>vs eB v) x9)),.obj h.size (.cells none 2 (Bj p4))] F) ?_ ?_
   ·rcases BS O with⟨C,M⟩|⟨C,M⟩
    ·replace H:=H.kn 31 C;refine AI 5 [(32,.ptr (some (bp0,0))),(33,Ai p2),(34,Ai p3),(35,Ai x4),(37,.ptr (some (h.size,3)))] H λD H=>Ba 38 (Ai p4.JL) J [(11,h.size)] (g.Bb) H (λD=>.of (Dj (by kernel_rfl) (A.l1 2 3))) (λD H=>?_);have E:=A.Gc 2 (pr:=[h.size]) (.cons 0 rfl (by simp[Ck.ids]) .nil);obtain⟨⟨x11,x12⟩,X,M⟩:=AG M;obtain⟨v1,V,R,rfl,E⟩:=B2 (av:=[.ptr (some (bp0,0)),Ai p2,Ai p3,Ai x4]) X E;replace A:=A.cB E;refine Ba 36 (vs eB x11) V [(11,h.size)] (h.size::g.Bb) H (λD=>Steps.call (by kernel_rfl) R) (λD H=>?_);obtain⟨x13,X,M⟩:=AG M;refine Ba 39 (.BL [.bool x13]) V [(11,h.size)] (g.Bb) H (λD=>.of (Ge (e:=eB) (x:=x13) Ej (by decide) (by kernel_rfl) X)) (λD H=>?_);refine Ba 40 (.bool x13) V [(11,h.size)] (g.Bb) H (λD=>.of (FA (by kernel_rfl))) (λD H=>?_);refine AI 1 [(41,.bool x13)] H λD H=>?_;obtain⟨rfl,rfl⟩:=C1 M;exact Aj ⟨H.ls,A⟩
    replace H:=H.kn 31 C;refine AI 6 [(32,.tuple []),(33,.tuple []),(34,.tuple []),(35,.tuple []),(38,.tuple [])] H λD H=>Vc [(0,.ptr (some (bp0,0))),(2,Ai p2),(3,Ai p3),(5,Ai p5),(10,.ptr (some (h.size,0))),(13,vs eB x1),(14,Ai x4),(31,.bool false),(36,.tuple []),(38,.tuple [])] H (λD=>by kernel_rfl) ?_;intro D H;refine AI 3 [(41,.bool false)] H λD H=>?_;obtain⟨rfl,rfl⟩:=C1 M;exact Aj ⟨H.ls,A⟩
   clear A;intro t D h4 I;obtain⟨H,A⟩:=I;refine BK id (AU 41 H M (λC M H=>?_) λC M H=>?_)
   ·refine AD 2 (AK 2 [(12,Ai x4)] H λD H=>Ak ?_);exact nr M λe=>Or.inr (.inl ⟨_,_,rfl,e,H.ls,A⟩)
   refine Ie 3 id (BA 3 [(0,.ptr (some (bp0,0))),(2,Ai p2),(3,Ai p3),(5,Ai p5),(10,.ptr (some (h.size,0))),(13,vs eB x1),(14,Ai (i64.wrap (x4 - 1)))] H λD H=>Aj ?_);exact nx M ⟨_,_,rfl,H.ls,A⟩
  refine BM (i:=0) (by kernel_rfl) ?_;exact nr M λe=>.inl ⟨_,rfl,e,H.ls,A⟩
 clear O;clear A;intro e D h6 K;rcases K with⟨x5,rfl,rfl,H,A⟩|⟨x6,x7,rfl,rfl,H,A⟩|P
 ·show AW _ _ _ _ _ _ _;refine AD 2 (AK 2 [(12,Ai p5)] H λD H=>Ak ?_);obtain⟨rfl,rfl⟩:=C1 M;refine⟨.inl rfl,Ai p5,rH H,?_⟩;replace A:=A.d2;exact⟨rfl,A⟩
 ·obtain⟨rfl,rfl⟩:=C1 M;refine⟨.inl rfl,Ai x7,rH H,?_⟩;replace A:=A.d2;exact⟨rfl,A⟩
 exact P.elim
def Gs(p0:Int)(p1:Int):Option (Int):=
 Ae ((((p1==2)||(p1==5))&&((decide (p0>=97))&&(decide (p0<=122))))||(((p1==3)||(p1==6))&&((decide (p0>=65))&&(decide (p0<=90))))) ((HL p0).bind λx1=>some x1) (some p0)
theorem Pt{p0 p1 q0}(M:Gs p0 p1=some q0)(A:HH g h [] F)(hc:Bf (cfg.still 100) av=[Ab p0,Ai p1]:=by kernel_rfl):∃v Q,Bm cfg g h 100 av v Q/\v=Ab q0/\HH g Q [] F:=by
 refine E5 42 [.tmp 4] hc ?_;clear hc;unfold Gs at M;refine bg 42 [(0,Ab p0),(1,Ai p1)] λD H=>?_;refine AD 1 (B4 1 [] 14 H λD H=>AI 3 [(9,.bool (decide (p0>=97)))] H λD H=>BP 3 (λN Q=>h=Q/\Has N 42 [(0,Ab p0),(1,Ai p1),(12,.bool ((decide (p0>=97))&&(decide (p0<=122))))]) ?_ ?_)
 ·cases C:(decide (p0>=97):Bool)with
  |true=>
   replace H:=H.kn 9 C;exact AI 3 [(12,.bool (decide (p0<=122)))] H λD H=>BH H C
  |false=>
   replace H:=H.kn 9 C;exact AI 3 [(12,.bool false)] H λD H=>BH H C
 intro t D Q I;obtain⟨e,H⟩:=I;subst e;refine AI 3 [(15,.bool (decide (p0>=65)))] H λD H=>BP 3 (λN Q=>h=Q/\Has N 42 [(0,Ab p0),(1,Ai p1),(12,.bool ((decide (p0>=97))&&(decide (p0<=122)))),(18,.bool ((decide (p0>=65))&&(decide (p0<=90))))]) ?_ ?_
 ·cases C:(decide (p0>=65):Bool)with
  |true=>
   replace H:=H.kn 15 C;exact AI 3 [(18,.bool (decide (p0<=90)))] H λD H=>BH H C
  |false=>
   replace H:=H.kn 15 C;exact AI 3 [(18,.bool false)] H λD H=>BH H C
 intro t D Q I;obtain⟨e,H⟩:=I;subst e;refine AK 2 [(5,.bool ((decide (p0>=97))&&(decide (p0<=122)))),(6,.bool ((decide (p0>=65))&&(decide (p0<=90))))] H λD H=>AQ (AD 20 (AI 3 [(21,.bool (p1==2))] H λD H=>BP 3 (λN Q=>h=Q/\Has N 42 [(0,Ab p0),(1,Ai p1),(5,.bool ((decide (p0>=97))&&(decide (p0<=122)))),(6,.bool ((decide (p0>=65))&&(decide (p0<=90)))),(24,.bool ((p1==2)||(p1==5)))]) ?_ ?_))
 ·cases C:(p1==2:Bool)with
  |true=>
   replace H:=H.kn 21 C;exact AI 3 [(24,.bool true)] H λD H=>BH H C
  |false=>
   replace H:=H.kn 21 C;exact AI 3 [(24,.bool (p1==5))] H λD H=>BH H C
 intro t D Q I;obtain⟨e,H⟩:=I;subst e;refine AI 1 [(25,.bool ((p1==2)||(p1==5)))] H λD H=>BP 2 (λN Q=>h=Q/\Has N 42 [(0,Ab p0),(1,Ai p1),(6,.bool ((decide (p0>=65))&&(decide (p0<=90)))),(27,.bool (((p1==2)||(p1==5))&&((decide (p0>=97))&&(decide (p0<=122)))))]) ?_ ?_
 ·cases C:((p1==2)||(p1==5):Bool)with
  |true=>
   replace H:=H.kn 25 C;exact AI 2 [(27,.bool ((decide (p0>=97))&&(decide (p0<=122))))] H λD H=>BH H C
  |false=>
   replace H:=H.kn 25 C;exact AI 2 [(27,.bool false)] H λD H=>BH H C
 intro t D Q I;obtain⟨e,H⟩:=I;subst e;refine AI 1 [(28,.bool (((p1==2)||(p1==5))&&((decide (p0>=97))&&(decide (p0<=122)))))] H λD H=>BP 10 (λN Q=>h=Q/\Has N 42 [(0,Ab p0),(38,.bool ((((p1==2)||(p1==5))&&((decide (p0>=97))&&(decide (p0<=122))))||(((p1==3)||(p1==6))&&((decide (p0>=65))&&(decide (p0<=90))))))]) ?_ ?_
 ·cases C:(((p1==2)||(p1==5))&&((decide (p0>=97))&&(decide (p0<=122))):Bool)with
  |true=>
   replace H:=H.kn 28 C;exact AI 10 [(38,.bool true)] H λD H=>BH H C
  | false=>
   replace H:=H.kn 28 C;refine AI 3 [(31,.bool (p1==3))] H λD H=>BP 3 (λN Q=>h=Q/\Has N 42 [(0,Ab p0),(6,.bool ((decide (p0>=65))&&(decide (p0<=90)))),(28,.bool false),(34,.bool ((p1==3)||(p1==6)))]) ?_ ?_
   ·cases C:(p1==3:Bool)with
    |true=>
     replace H:=H.kn 31 C;exact AI 3 [(34,.bool true)] H λD H=>BH H C
    |false=>
     replace H:=H.kn 31 C;exact AI 3 [(34,.bool (p1==6))] H λD H=>BH H C
   intro t D Q I;obtain⟨e,H⟩:=I;subst e;refine AI 1 [(35,.bool ((p1==3)||(p1==6)))] H λD H=>BP 2 (λN Q=>h=Q/\Has N 42 [(0,Ab p0),(28,.bool false),(37,.bool (((p1==3)||(p1==6))&&((decide (p0>=65))&&(decide (p0<=90)))))]) ?_ ?_
   ·cases C:((p1==3)||(p1==6):Bool)with
    |true=>
     replace H:=H.kn 35 C;exact AI 2 [(37,.bool ((decide (p0>=65))&&(decide (p0<=90))))] H λD H=>BH H C
    |false=>
     replace H:=H.kn 35 C;exact AI 2 [(37,.bool false)] H λD H=>BH H C
   intro t D Q I;obtain⟨e,H⟩:=I;subst e;exact AI 1 [(38,.bool (((p1==3)||(p1==6))&&((decide (p0>=65))&&(decide (p0<=90)))))] H λD H=>BH H C
 intro t D Q I;obtain⟨e,H⟩:=I;subst e;refine BK id (AU 38 H M (λC M H=>?_) λC M H=>?_)
 ·refine AD 3 ?_;obtain⟨x1,X,M⟩:=AG M;obtain⟨v1,h1,R,rfl,E⟩:=QB (av:=[Ab p0]) X (A.cut 0);replace A:=A.FL E;refine As 1 [] 40 R H λD t H=>?_;refine AK 1 [(4,Ab x1)] H λD H=>Ak ?_;obtain rfl:=Ag M;exact⟨.inl rfl,_,rH H,rfl,A⟩
 refine CH 2 id (AK 2 [(4,Ab p0)] H λD H=>Ak ?_);obtain rfl:=Ag M;exact⟨.inl rfl,_,rH H,rfl,A⟩
def EY(p0:Fy)(p1:List UInt8)(s:Int×(List UInt8)×Int):Option ((Int×(List UInt8)×Int)⊕((Int×(List UInt8)))):=
 match s with
 |(x1,x2,x3)=>Ae (decide (x3<(p1.length:Int))) ((Ae (x1 !=0) (some ((0:Int),x1)) (some (x1,p0.RF)):Option ((Int×Int))).bind λ(x6,x7)=>(IA p1 x3).bind λx8=>(Gs x8 x7).bind λx9=>(Oj x9).bind λx10=>Ds (J5 1 (x2.length+([x10]:UV).length))<|some (.inl (x6,(x2++([x10]:UV)),i64.wrap (x3+1)))) (some (.inr (x1,x2)))
def DX(p0:Fy)(p1:List UInt8):Option (Fy×(List UInt8)):=
 (loop (EY p0 p1) (p0.CA,p0.Zi,(0:Int))).bind λ(x4,x5)=>some ((⟨x5,p0.RF,x4⟩:Fy),x5)
theorem H6{p0 p1 bp0 rp0_0 u0 u1}(M:DX p0 p1=some (u0,u1))(A:HH g h [.obj bp0 (.cells none 2 (LS p0 (AH rp0_0 p0.Zi.length))),.AP rp0_0 5 (AP eY p0.Zi)] F)(hc:Bf (cfg.still 78) av=[.ptr (some (bp0,0)),.str p1]:=by kernel_rfl):∃v Q,Bm cfg g h 78 av v Q/\∃(r'1:Option Nat),v=.tuple []/\HH g Q [.obj bp0 (.cells none 2 (LS u0 (AH r'1 u1.length))),.AP r'1 5 (AP eY u1)] F:=by
 refine E5 42 [] hc ?_;clear hc;unfold DX at M;refine bg 42 [(0,.ptr (some (bp0,0))),(1,.str p1)] λD H=>?_;refine AD 3 (AK 3 [(7,Ai (p1.length:Int)),(8,Ai 0)] H λD H=>Ad (id:=0) (by kernel_rfl) ?_);obtain⟨o1,O,M⟩:=AG M;refine Ap (Q':=λe N Q=>(∃x4 x5,e=.exit 0/\(x4,x5)=o1/\∃r2,Has N 42 []/\HH g Q [.obj bp0 (.cells none 2 [AH r2 x5.length,Ai p0.RF,Ai x4]),.AP r2 5 (AP eY x5)] F)\/False) ?_ ?_
 ·refine Bp (by kernel_rfl) (λ(s:Int×(List UInt8)×Int) N Q=>∃x1 x2 x3,(x1,x2,x3)=s/\∃r1,Has N 42 [(0,.ptr (some (bp0,0))),(1,.str p1),(7,Ai (p1.length:Int)),(8,Ai x3)]/\HH g Q [.obj bp0 (.cells none 2 [AH r1 x2.length,Ai p0.RF,Ai x1]),.AP r1 5 (AP eY x2)] F) O ⟨_,_,_,rfl,rp0_0,H.ls,A⟩ ?_;clear O M H A;intro s q D h1 hI M;obtain⟨x1,x2,x3,rfl,r1,H,A⟩:=hI;unfold EY at M;refine AD 1 (AK 1 [(9,.bool (decide (x3<(p1.length:Int))))] H λD H=>AQ (AU 9 H M (λC M H=>?_) λC M H=>?_))
  ·refine Bt id (AQ (Ad (id:=1) (by kernel_rfl) ?_));refine AD 2 (B4 2 [(4,Ai x3)] 5 H λD H=>Aa 3 [] 14 0 1 A H λD t H=>?_);refine AK 1 [(5,Ai p0.RF)] H λD H=>AQ ?_;obtain⟨o2,O,M⟩:=AG M;refine Ap (Q':=λe N Q=>(∃x6 x7,e=.normal/\(x6,x7)=o2/\Has N 42 [(0,.ptr (some (bp0,0))),(1,.str p1),(4,Ai x3),(5,Ai x7),(7,Ai (p1.length:Int)),(8,Ai x3)]/\HH g Q [.obj bp0 (.cells none 2 [AH r1 x2.length,Ai p0.RF,Ai x6]),.AP r1 5 (AP eY x2)] F)\/False) ?_ ?_
   ·replace M:=O;clear O;refine AD 5 (Aa 3 [] 18 0 2 A H λD t H=>?_);refine AK 1 [(19,.bool (x1 !=0))] H λD H=>AU 19 H M (λC M H=>?_) λC M H=>?_
    ·refine BY 9 (Aa 4 [(20,.ptr (some (bp0,0)))] 24 0 2 A H λD t H=>?_);refine BA 3 [(0,.ptr (some (bp0,0))),(1,.str p1),(4,Ai x3),(5,Ai x1),(7,Ai (p1.length:Int)),(8,Ai x3),(26,.ptr (some (bp0,2)))] H λD H=>?_;obtain⟨G,X,A⟩:=A.s0 2 [Ai 0] [_,_,_];refine I4 X H λD t H=>?_;refine Aj ?_;exact .inl ⟨_,_,rfl,Ag M,H.ls,A⟩
    exact Bv (.inl ⟨_,_,rfl,Ag M,H.ls,A⟩)
   clear O;clear A;intro e D J K;rcases K with⟨x6,x7,rfl,rfl,H,A⟩|P
   ·show AW _ _ _ _ _ _ _;refine G0 6 15 [(0,[]),(1,[]),(2,[]),(3,[]),(4,[]),(5,[]),(6,[]),(7,[]),(8,[]),(9,[4]),(10,[]),(11,[]),(12,[]),(13,[]),(14,[])] ?_;refine AI 4 [(27,.ptr (some (bp0,0))),(30,.ptr (some (bp0,0)))] H λD H=>Ba 31 (AH r1 x2.length) J [(4,bp0)] (g.Bb) H (λD=>.of (Dj (by kernel_rfl) (A.l1 0 0))) (λD H=>?_);refine AI 2 [(32,.str p1),(33,Ai x3)] H λD H=>?_;obtain⟨x8,X,M⟩:=AG M;refine Ba 34 (Ab x8) J [(4,bp0)] (g.Bb) H (λD=>.of (DN (by kernel_rfl) X)) (λD H=>?_);refine AI 1 [(35,Ai x7)] H λD H=>?_;have E:=A.Gc 0 (pr:=[bp0]) (.cons 0 rfl (by simp[Ck.ids]) .nil);obtain⟨x9,X,M⟩:=AG M;obtain⟨v1,h4,R,rfl,E⟩:=Pt (av:=[Ab x8,Ai x7]) X E;replace A:=A.Wi E;refine Ba 36 (Ab x9) h4 [(4,bp0)] (bp0::g.Bb) H (λD=>Steps.call (by kernel_rfl) R) (λD H=>?_);obtain⟨x10,X,M⟩:=AG M;have X:=MN X;have kH:=M;have kA:=A;have kR:=H;subst X;have M:=kH;have A:=kA;have H:=kR;clear kH kA kR;obtain⟨V,e1,A⟩:=A.pL 5 [Ab (x10.toNat:Int)];refine Ba 37 (AH (some h4.size) (([x10]:UV).length)) V [(10,h4.size),(4,bp0)] (g.Bb) H (λD=>.of (Qr (by kernel_rfl) (congrArg some e1.symm))) (λD H=>?_);obtain⟨C,M⟩:=BN M;obtain⟨r3,h6,X,E⟩:=HH.Iv Lr (by decide) A 2 (xs:=x2) (ys:=([x10]:UV)) rfl (Bz A 0 rfl (n:=([x10]:UV).length) (z:=1) rfl (by decide)) rfl rfl C;replace A:HH g h6 [.AP (some h4.size) 5 ([Ab (x10.toNat:Int)]),_,.AP r3 5 (AP eY (x2++([x10]:UV)))] F:=E;replace A:=A.k2 1 2;refine Ba 38 (AH r3 ((x2++([x10]:UV)).length)) h6 [(10,h4.size),(4,bp0)] (g.Bb) H (λD=>.of (El (s:=Ca r1 x2.length) (by kernel_rfl) X)) (λD H=>?_)
    refine AI 2 [(40,.ptr (some (bp0,0)))] H λD H=>?_;obtain⟨h7,X,E⟩:=A.st 0 rfl (o:=0) (new:=[AH r3 ((x2++([x10]:UV)).length)]) (ds:=[AH r3 ((x2++([x10]:UV)).length),Ai p0.RF,Ai x6]) (zb rfl) rfl rfl;replace A:HH g h7 [.obj bp0 (.cells none 2 [AH r3 ((x2++([x10]:UV)).length),_,_]),_] F:=E;refine H5 (.tuple []) h7 [(10,h4.size),(4,bp0)] (g.Bb) H (λD=>.of (O9 (by kernel_rfl) rfl X)) (λD H=>?_);refine Fu 2 id (BA 2 [(0,.ptr (some (bp0,0))),(1,.str p1),(7,Ai (p1.length:Int)),(8,Ai (i64.wrap (x3+1)))] H λD H=>Aj ?_);exact nx M ⟨_,_,_,rfl,_,H.ls,A⟩
   exact P.elim
  refine BM (i:=0) (by kernel_rfl) ?_;exact nr M λe=>.inl ⟨_,_,rfl,e,_,H.ls,A⟩
 clear O;clear A;intro e D h8 K;rcases K with⟨x4,x5,rfl,rfl,r2,H,A⟩|P
 ·obtain⟨rfl,rfl⟩:=C1 M;refine⟨.inr rfl,.tuple [],rH H,?_⟩;exact⟨r2,rfl,A⟩
 exact P.elim
def H7(p0:List UInt8)(p1:Ao):Option ((List UInt8)):=
 Ae ((((!p1.Is)||(decide (p1.Lv<0)))||(decide (p1.To<p1.Lv)))||(decide (p1.To>(p0.length:Int)))) (some ([]:UV)) ((I0 p0 (some p1.Lv) (some p1.To)).bind λx1=>some x1)
theorem QA{p0 p1 q0}(M:H7 p0 p1=some q0)(A:HH g h [] F)(hc:Bf (cfg.still 79) av=[.str p0,.agg (BQ p1)]:=by kernel_rfl):∃v Q,Bm cfg g h 79 av v Q/\v=.str q0/\HH g Q [] F:=by
 refine E5 33 [.tmp 4] hc ?_;clear hc;unfold H7 at M;refine bg 33 [(0,.str p0),(1,.agg (BQ p1))] λD H=>?_;refine AD 2 ?_;obtain⟨h1,e1,A⟩:=A.pu (.cells none 2 (BQ p1));refine Bc 3 (.ptr (some (h.size,0))) e1 H λD t H=>?_;refine AK 1 [] H λD H=>AQ (AD 22 (Aa 1 [] 6 0 2 A H λD t H=>?_));refine AI 2 [(8,.bool (!p1.Is))] H λD H=>BP 4 (λN Q=>h1=Q/\Has N 33 [(0,.str p0),(3,.ptr (some (h.size,0))),(12,.bool ((!p1.Is)||(decide (p1.Lv<0))))]) ?_ ?_
 ·cases C:(!p1.Is:Bool)with
  |true=>
   replace H:=H.kn 8 C;exact AI 4 [(12,.bool true)] H λD H=>BH H C
  |false=>
   replace H:=H.kn 8 C;refine Aa 1 [] 10 0 0 A H λD t H=>?_;exact AI 2 [(12,.bool (decide (p1.Lv<0)))] H λD H=>BH H C
 intro t D Q I;obtain⟨e,H⟩:=I;subst e;refine AI 1 [(13,.bool ((!p1.Is)||(decide (p1.Lv<0))))] H λD H=>BP 6 (λN Q=>h1=Q/\Has N 33 [(0,.str p0),(3,.ptr (some (h.size,0))),(19,.bool (((!p1.Is)||(decide (p1.Lv<0)))||(decide (p1.To<p1.Lv))))]) ?_ ?_
 ·cases C:((!p1.Is)||(decide (p1.Lv<0)):Bool)with
  |true=>
   replace H:=H.kn 13 C;exact AI 6 [(19,.bool true)] H λD H=>BH H C
  |false=>
   replace H:=H.kn 13 C;refine Aa 1 [] 15 0 1 A H λD t H=>?_;refine Aa 1 [] 17 0 0 A H λD t H=>?_;exact AI 2 [(19,.bool (decide (p1.To<p1.Lv)))] H λD H=>BH H C
 intro t D Q I;obtain⟨e,H⟩:=I;subst e;refine AI 1 [(20,.bool (((!p1.Is)||(decide (p1.Lv<0)))||(decide (p1.To<p1.Lv))))] H λD H=>BP 6 (λN Q=>h1=Q/\Has N 33 [(0,.str p0),(3,.ptr (some (h.size,0))),(26,.bool ((((!p1.Is)||(decide (p1.Lv<0)))||(decide (p1.To<p1.Lv)))||(decide (p1.To>(p0.length:Int)))))]) ?_ ?_
 ·cases C:(((!p1.Is)||(decide (p1.Lv<0)))||(decide (p1.To<p1.Lv)):Bool)with
  |true=>
   replace H:=H.kn 20 C;exact AI 6 [(26,.bool true)] H λD H=>BH H C
  |false=>
   replace H:=H.kn 20 C;refine Aa 1 [] 22 0 1 A H λD t H=>?_;exact AI 4 [(26,.bool (decide (p1.To>(p0.length:Int))))] H λD H=>BH H C
 intro t D Q I;obtain⟨e,H⟩:=I;subst e;refine BK id (AU 26 H M (λC M H=>?_) λC M H=>?_)
 ·refine AD 1 (AK 1 [(4,.str ([]:UV))] H λD H=>Ak ?_);obtain rfl:=Ag M;refine⟨.inl rfl,.str ([]:UV),rH H,?_⟩;replace A:=A.d0;exact⟨rfl,A⟩
 refine CH 7 id (Aa 2 [(27,.str p0)] 29 0 0 A H λD t H=>?_);refine Aa 1 [] 31 0 1 A H λD t H=>?_;obtain⟨x1,X,M⟩:=AG M;refine Aw 32 (.str x1) h1 H (λD=>.of (Gu (k:=.i64) (k':=.i64) (lo:=(some p1.Lv)) (hi:=(some p1.To)) (by kernel_rfl) X)) λD t H=>?_;refine AK 1 [(4,.str x1)] H λD H=>Ak ?_;obtain rfl:=Ag M;refine⟨.inl rfl,.str x1,rH H,?_⟩;replace A:=A.d0;exact⟨rfl,A⟩
def De(p0:Int)(p1:List UInt8)(s:Int):Option ((Int)⊕((Unit)⊕(Bool))):=
 match s with
 |x1=>Ae (decide (x1<(p1.length:Int))) ((IA p1 x1).bind λx3=>Ae (x3==p0) (some (.inr (.inr true))) (some (.inl (i64.wrap (x1+1))))) (some (.inr (.inl ())))
def FC(p0:Int)(p1:List UInt8):Option (Bool):=
 (loop (De p0 p1) (0:Int)).bind λo1=>(match o1 with| .inl _=>some false| .inr x2=>some x2)
theorem NX{p0 p1 q0}(M:FC p0 p1=some q0)(A:HH g h [] F)(hc:Bf (cfg.still 56) av=[Ab p0,.str p1]:=by kernel_rfl):∃v Q,Bm cfg g h 56 av v Q/\v=.bool q0/\HH g Q [] F:=by
 refine E5 17 [.tmp 4] hc ?_;clear hc;unfold FC at M;refine bg 17 [(0,Ab p0),(1,.str p1)] λD H=>?_;refine AD 1 (AK 1 [] H λD H=>AQ (AD 1 (AK 1 [(5,Ai 0)] H λD H=>Ad (id:=0) (by kernel_rfl) ?_)));obtain⟨o1,O,M⟩:=AG M;refine Ap (Q':=λe N Q=>(e=.exit 0/\.inl ()=o1/\Has N 17 []/\HH g Q [] F)\/(∃x2,e=.ret/\.inr x2=o1/\Has N 17 [(4,.bool x2)]/\HH g Q [] F)\/False) ?_ ?_
 ·refine Bp (by kernel_rfl) (λ(s:Int) N Q=>∃x1,x1=s/\Has N 17 [(0,Ab p0),(1,.str p1),(5,Ai x1)]/\HH g Q [] F) O ⟨_,rfl,H.ls,A⟩ ?_;clear O M H A;intro s q D h1 hI M;obtain⟨x1,rfl,H,A⟩:=hI;unfold De at M;refine AQ (AD 4 (AK 4 [(9,.bool (decide (x1<(p1.length:Int))))] H λD H=>AU 9 H M (λC M H=>?_) λC M H=>?_))
  ·refine Bt id (AQ (Ad (id:=1) (by kernel_rfl) ?_));refine AD 5 ?_;obtain⟨x3,X,M⟩:=AG M;refine BD 2 [] 14 (Ab x3) h1 H (λD=>.of (DN (by kernel_rfl) X)) λD t H=>?_;refine AK 2 [(16,.bool (x3==p0))] H λD H=>AU 16 H M (λC M H=>?_) λC M H=>?_
   ·refine AD 1 (AK 1 [(4,.bool true)] H λD H=>Ak ?_);exact nr M λe=>Or.inr (.inl ⟨_,rfl,e,H.ls,A⟩)
   refine Ie 3 id (BA 3 [(0,Ab p0),(1,.str p1),(5,Ai (i64.wrap (x1+1)))] H λD H=>Aj ?_);exact nx M ⟨_,rfl,H.ls,A⟩
  refine BM (i:=0) (by kernel_rfl) ?_;exact nr M λe=>.inl ⟨rfl,e,H.ls,A⟩
 clear O;clear A;intro e D G K;rcases K with⟨rfl,rfl,H,A⟩|⟨x2,rfl,rfl,H,A⟩|P
 ·show AW _ _ _ _ _ _ _;refine AD 1 (AK 1 [(4,.bool false)] H λD H=>Ak ?_);obtain rfl:=Ag M;exact⟨.inl rfl,_,rH H,rfl,A⟩
 ·obtain rfl:=Ag M;exact⟨.inl rfl,_,rH H,rfl,A⟩
 exact P.elim
end
end Go.Av.L
