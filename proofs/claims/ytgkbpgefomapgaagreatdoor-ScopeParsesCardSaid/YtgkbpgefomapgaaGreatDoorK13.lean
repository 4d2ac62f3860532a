/-
 A part.
-/
import Derived.Test.YtgkbpgefomapgaaGreatDoorK12
namespace Go.Av.L
open Go.Av Go.Lib
set_option maxRecDepth 10000
set_option linter.unusedVariables false
set_option linter.unusedSimpArgs false
variable {g:Gd} {h:AS} {F:List Ck} {av:List AE}
noncomputable section
def D1(p0:List (List UInt8))(s:(List UInt8)×Int×(List UInt8)×Bool×Int):Option (((List UInt8)×Int×(List UInt8)×Bool×Int)⊕(((List UInt8)×Int×(List UInt8)×Bool)⊕(Bool))):=
 match s with
 |(x2,x3,x4,x5,x6)=>Ae (decide (x6<(p0.length:Int))) (((FT p0 x6).bind λx17=>(Ae ((decide ((x17.length:Int)>60))||(decide ((x17.length:Int)<2))) (some true) ((IA x17 (1:Int)).bind λx19=>some (x19==59)):Option (Bool)).bind λx18=>Ae x18 ((CN).bind λx20=>some (.inr x20)) ((EB x17).bind λ(x21,x22)=>Ae ((!x22)||((x21.length:Int) !=1)) ((CN).bind λx23=>some (.inr x23)) ((Ae (decide (x6>0)) (Ds (decide (x2.length+([59]:UV).length<=9223372036854775807))<|some (x2++([59]:UV))) (some x2):Option (((List UInt8)))).bind λx24=>Ds (decide (x24.length+x17.length<=9223372036854775807))<|(Eg x17).bind λ(x25,x26,x27)=>(Ae (x27==0) ((Ex x25 (4096:Int)).bind λ(w10,x32,x33)=>(match w10 with|some x31=>some (.inl (x33,x31))|none=>some (.inr x33))) (some (.inr x27)):Option ((Int×Ax)⊕(Int))).bind λo4=>(match o4 with| .inl (x28,x29)=>Ae (x28 !=0) (Ae (decide (x3<0)) (some (.inl (x24++x17,x6,x4,x5))) (some (.inl (x24++x17,x3,x4,x5)))) ((Ae (((decide (x3<0))&&x25.Names)&&(decide ((x4.length:Int)<=4096))) ((DD x29 x4).bind λx35=>some x35) (some x4):Option (((List UInt8)))).bind λx34=>some (.inl (x24++x17,x3,x34,x5&&(decide ((x34.length:Int)<=4096)))))| .inr x30=>Ae (x30 !=0) (Ae (decide (x3<0)) (some (.inl (x24++x17,x6,x4,x5))) (some (.inl (x24++x17,x3,x4,x5)))) ((Ae (((decide (x3<0))&&x25.Names)&&(decide ((x4.length:Int)<=4096))) (none) (some x4):Option (((List UInt8)))).bind λx36=>some (.inl (x24++x17,x3,x36,x5&&(decide ((x36.length:Int)<=4096)))))))):Option (((List UInt8)×Int×(List UInt8)×Bool)⊕(Bool))).bind λo2=>(match o2 with| .inl (x12,x13,x14,x15)=>some (.inl (x12,x13,x14,x15,IntKind.i64.wrap (x6+1)))| .inr x16=>some (.inr (.inr x16)))) (some (.inr (.inl (x2,x3,x4,x5))))
def EU(p0:List (List UInt8))(p1:List UInt8):Option (Bool):=
 Ae ((decide ((p0.length:Int)>4))||(decide ((p1.length:Int)>60))) ((CN).bind λx1=>some x1) ((loop (D1 p0) (([]:UV),(-1:Int),p1,true,(0:Int))).bind λo1=>(match o1 with| .inl (x7,x8,x9,x10)=>(Fs x7 (4096:Int) (4096:Int)).bind λ(w15,x38,x39)=>(match w15 with|some x37w14=>Ae ((p0.length:Int)==0) (some false) (Ae (decide (x8>=0)) (some false) ((Ae ((x39 !=0)||false) (some true) ((Em x37w14).bind λx41=>some (x41 !=(p0.length:Int))):Option (Bool)).bind λx40=>Ae x40 (some false) ((DR x37w14 p1).bind λ(x42,x43)=>Ae (!x10) ((Ae ((x43==7)&&(x42==([]:UV))) ((CN).bind λx45=>some x45) (some false):Option (Bool)).bind λx44=>some x44) ((Ae ((x43==0)&&(x42==x9)) ((CN).bind λx47=>some x47) (some false):Option (Bool)).bind λx46=>some x46))))|none=>Ae ((p0.length:Int)==0) ((Ae ((x38==0)&&(x39==11)) ((CN).bind λx49=>some x49) (some false):Option (Bool)).bind λx48=>some x48) (Ae (decide (x8>=0)) ((Ae (x39 !=0) ((Ae (x38==x8) (some true) ((Cx p0).bind λx52=>(Ae (decide (x52>=0)) ((Cx p0).bind λx54=>some (x38==x54)) (some false):Option (Bool)).bind λx53=>some x53):Option (Bool)).bind λx51=>some x51) (some false):Option (Bool)).bind λx50=>(Ae x50 ((CN).bind λx56=>some x56) (some false):Option (Bool)).bind λx55=>some x55) (Ae ((x39 !=0)||true) (some false) (none))))| .inr x11=>some x11))
theorem Jr{p0 p1 q0}(M:EU p0 p1=some q0)(A:HH g h [] F)(hc:Bf (cfg.still 3) av=[vs eS p0,.str p1]:=by kernel_rfl):∃v Q,Bm cfg g h 3 av v Q/\v=.bool q0/\HH g Q [] F:=by
 refine E5 202 [.tmp 4] hc ?_;clear hc;unfold EU at M;refine bg 202 [(0,vs eS p0),(1,.str p1)] λD H=>?_;refine AD 1 (AK 1 [] H λD H=>AQ (AD 8 (AI 4 [(25,.bool (decide ((p0.length:Int)>4)))] H λD H=>BP 4 (λN Q=>h=Q/\Has N 202 [(0,vs eS p0),(1,.str p1),(29,.bool ((decide ((p0.length:Int)>4))||(decide ((p1.length:Int)>60))))]) ?_ ?_)))
 ·cases B:(decide ((p0.length:Int)>4):Bool)with
  |true=>
   replace H:=H.kn 25 B;exact AI 4 [(29,.bool true)] H λD H=>BH H B
  |false=>
   replace H:=H.kn 25 B;exact AI 4 [(29,.bool (decide ((p1.length:Int)>60)))] H λD H=>BH H B
 intro t D Q C;obtain⟨e,H⟩:=C;subst e;refine BK id (AU 29 H M (λB M H=>?_) λB M H=>?_)
 ·refine AD 2 ?_;obtain⟨x1,X,M⟩:=AG M;obtain⟨v1,h1,R,rfl,E⟩:=DJ (av:=[]) X (A.cut 0);replace A:=A.FL E;refine Bq 30 R H λD t H=>?_;refine AK 1 [(4,.bool x1)] H λD H=>Ak ?_;obtain rfl:=Ag M;exact⟨.inl rfl,_,rH H,rfl,A⟩
 refine CH 1 id (B4 1 [(5,.str ([]:UV))] 1 H λD H=>B4 1 [(6,Ai (-1))] 2 H λD H=>B4 2 [(7,.str p1)] 1 H λD H=>AK 1 [(8,.bool true)] H λD H=>AQ (AD 3 (AK 3 [(32,vs eS p0),(33,Ai (p0.length:Int)),(34,Ai 0)] H λD H=>Ad (id:=0) (by kernel_rfl) ?_)));obtain⟨o1,O,M⟩:=AG M;refine Ap (Q':=λe N Q=>(∃x7 x8 x9 x10,e=.exit 0/\.inl (x7,x8,x9,x10)=o1/\Has N 202 [(0,vs eS p0),(1,.str p1),(5,.str x7),(6,Ai x8),(7,.str x9),(8,.bool x10)]/\HH g Q [] F)\/(∃x11,e=.ret/\.inr x11=o1/\Has N 202 [(4,.bool x11)]/\HH g Q [] F)\/False) ?_ ?_
 ·refine Bp (by kernel_rfl) (λ(s:(List UInt8)×Int×(List UInt8)×Bool×Int) N Q=>∃x2 x3 x4 x5 x6,(x2,x3,x4,x5,x6)=s/\Has N 202 [(0,vs eS p0),(1,.str p1),(5,.str x2),(6,Ai x3),(7,.str x4),(8,.bool x5),(32,vs eS p0),(33,Ai (p0.length:Int)),(34,Ai x6)]/\HH g Q [] F) O ⟨_,_,_,_,_,rfl,H.ls,A⟩ ?_;clear O M H A;intro s q D T hI M;obtain⟨x2,x3,x4,x5,x6,rfl,H,A⟩:=hI;unfold D1 at M;refine AD 1 (AK 1 [(35,.bool (decide (x6<(p0.length:Int))))] H λD H=>AQ (AU 35 H M (λB M H=>?_) λB M H=>?_))
  ·refine Bt id (AQ ?_);obtain⟨o2,O,M⟩:=AG M;refine Ap (Q':=λe N Q=>(∃x12 x13 x14 x15,e=.normal/\.inl (x12,x13,x14,x15)=o2/\Has N 202 [(0,vs eS p0),(1,.str p1),(5,.str x12),(6,Ai x13),(7,.str x14),(8,.bool x15),(32,vs eS p0),(33,Ai (p0.length:Int)),(34,Ai x6)]/\HH g Q [] F)\/(∃x16,e=.ret/\.inr x16=o2/\Has N 202 [(4,.bool x16)]/\HH g Q [] F)\/False) ?_ ?_
   ·replace M:=O;clear O;refine Ad (id:=1) (by kernel_rfl) ?_;refine AD 5 ?_;obtain⟨x17,X,M⟩:=AG M;refine BD 1 [(36,Ai x6)] 37 (.BL [.str x17]) T H (λD=>.of (Ge (e:=eS) (x:=x17) encS (by decide) (by kernel_rfl) X)) λD t H=>?_;refine Aw 38 (.str x17) T H (λD=>.of (FA (by kernel_rfl))) λD t H=>?_;refine AK 2 [(9,Ai x6),(10,.str x17)] H λD H=>AQ (AD 13 (AI 4 [(42,.bool (decide ((x17.length:Int)>60)))] H λD H=>BP 4 (λN Q=>T=Q/\Has N 202 [(0,vs eS p0),(1,.str p1),(5,.str x2),(6,Ai x3),(7,.str x4),(8,.bool x5),(9,Ai x6),(10,.str x17),(32,vs eS p0),(33,Ai (p0.length:Int)),(34,Ai x6),(46,.bool ((decide ((x17.length:Int)>60))||(decide ((x17.length:Int)<2))))]) ?_ ?_))
    ·cases B:(decide ((x17.length:Int)>60):Bool)with
     |true=>
      replace H:=H.kn 42 B;exact AI 4 [(46,.bool true)] H λD H=>BH H B
     |false=>
      replace H:=H.kn 42 B;exact AI 4 [(46,.bool (decide ((x17.length:Int)<2)))] H λD H=>BH H B
    intro t D Q C;obtain⟨e,H⟩:=C;subst e;refine AI 1 [(47,.bool ((decide ((x17.length:Int)>60))||(decide ((x17.length:Int)<2))))] H λD H=>?_;obtain⟨x18,O,M⟩:=AG M;refine BP 4 (λN Q=>Has N 202 [(0,vs eS p0),(1,.str p1),(5,.str x2),(6,Ai x3),(7,.str x4),(8,.bool x5),(9,Ai x6),(10,.str x17),(32,vs eS p0),(33,Ai (p0.length:Int)),(34,Ai x6),(51,.bool x18)]/\HH g Q [] F) ?_ ?_
    ·rcases BS O with⟨B,M⟩|⟨B,M⟩
     ·replace H:=H.kn 47 B;refine AI 4 [(51,.bool true)] H λD H=>?_;obtain rfl:=Ag M;exact Aj ⟨H.ls,A⟩
     replace H:=H.kn 47 B;obtain⟨x19,X,M⟩:=AG M;refine BD 1 [] 49 (Ab x19) T H (λD=>.of (DN (by kernel_rfl) X)) λD t H=>?_;refine AI 2 [(51,.bool (x19==59))] H λD H=>?_;obtain rfl:=Ag M;exact Aj ⟨H.ls,A⟩
    clear A;intro t D h3 C;obtain⟨H,A⟩:=C;refine BK id (AU 51 H M (λB M H=>?_) λB M H=>?_)
    ·refine AD 2 ?_;obtain⟨x20,X,M⟩:=AG M;obtain⟨v1,h4,R,rfl,E⟩:=DJ (av:=[]) X (A.cut 0);replace A:=A.FL E;refine Bq 52 R H λD t H=>?_;refine AK 1 [(4,.bool x20)] H λD H=>Ak ?_;exact .inr (.inl ⟨_,rfl,Ag M,H.ls,A⟩)
    refine Bt id (AQ (AD 7 ?_));obtain⟨⟨x21,x22⟩,X,M⟩:=AG M;obtain⟨v1,U,R,rqw3,rfl,E⟩:=L7 (av:=[.str x17]) X (A.cut 0);replace A:=A.Y3 E;refine As 1 [] 55 R H λD t H=>?_;refine B4 5 [(11,AH rqw3 x21.length),(12,.bool x22)] 7 H λD H=>AI 3 [(60,.bool (!x22))] H λD H=>BP 4 (λN Q=>U=Q/\Has N 202 [(0,vs eS p0),(1,.str p1),(5,.str x2),(6,Ai x3),(7,.str x4),(8,.bool x5),(9,Ai x6),(10,.str x17),(32,vs eS p0),(33,Ai (p0.length:Int)),(34,Ai x6),(64,.bool ((!x22)||((x21.length:Int) !=1)))]) ?_ ?_
    ·cases B:(!x22:Bool)with
     |true=>
      replace H:=H.kn 60 B;exact AI 4 [(64,.bool true)] H λD H=>BH H B
     |false=>
      replace H:=H.kn 60 B;exact AI 4 [(64,.bool ((x21.length:Int) !=1))] H λD H=>BH H B
    intro t D Q C;obtain⟨e,H⟩:=C;subst e;refine BK id (AU 64 H M (λB M H=>?_) λB M H=>?_)
    ·refine AD 2 ?_;obtain⟨x23,X,M⟩:=AG M;obtain⟨v1,h6,R,rfl,E⟩:=DJ (av:=[]) X (A.cut 0);replace A:=A.FL E;refine Bq 65 R H λD t H=>?_;refine AK 1 [(4,.bool x23)] H λD H=>Ak ?_;replace A:=A.d0;exact .inr (.inl ⟨_,rfl,Ag M,H.ls,A⟩)
    refine Bt id (AQ ?_);obtain⟨o3,O,M⟩:=AG M;refine Ap (Q':=λe N Q=>(∃x24,e=.normal/\x24=o3/\Has N 202 [(0,vs eS p0),(1,.str p1),(5,.str x24),(6,Ai x3),(7,.str x4),(8,.bool x5),(9,Ai x6),(10,.str x17),(32,vs eS p0),(33,Ai (p0.length:Int)),(34,Ai x6)]/\HH g Q [] F)\/False) ?_ ?_
    ·replace M:=O;clear O;refine AD 2 (AK 2 [(67,.bool (decide (x6>0)))] H λD H=>AU 67 H M (λB M H=>?_) λB M H=>?_)
     ·refine BY 3 (AI 1 [(68,.str x2)] H λD H=>?_);obtain⟨B,M⟩:=BN M;refine Aw 69 (.str (x2++([59]:UV))) U H (λD=>.of (OU (by kernel_rfl) B)) λD t H=>?_;refine BA 1 [(0,vs eS p0),(1,.str p1),(5,.str (x2++([59]:UV))),(6,Ai x3),(7,.str x4),(8,.bool x5),(9,Ai x6),(10,.str x17),(32,vs eS p0),(33,Ai (p0.length:Int)),(34,Ai x6)] H λD H=>Aj ?_;replace A:=A.d0;exact .inl ⟨_,rfl,Ag M,H.ls,A⟩
     refine Bv ?_;replace A:=A.d0;exact .inl ⟨_,rfl,Ag M,H.ls,A⟩
    clear O;clear A;intro e D h7 G;rcases G with⟨x24,rfl,rfl,H,A⟩|I
    ·show AW _ _ _ _ _ _ _;refine AD 4 (AI 2 [(70,.str x24),(71,.str x17)] H λD H=>?_);obtain⟨B,M⟩:=BN M;refine Aw 72 (.str (x24++x17)) h7 H (λD=>.of (OU (by kernel_rfl) B)) λD t H=>?_;refine BA 1 [(0,vs eS p0),(1,.str p1),(5,.str (x24++x17)),(6,Ai x3),(7,.str x4),(8,.bool x5),(9,Ai x6),(10,.str x17),(32,vs eS p0),(33,Ai (p0.length:Int)),(34,Ai x6)] H λD H=>B6 10 id ?_;obtain⟨⟨x25,x26,x27⟩,X,M⟩:=AG M;obtain⟨v1,J,R,rfl,E⟩:=LH (av:=[.str x17]) X (A.cut 0);replace A:=A.FL E;refine As 1 [] 75 R H λD t H=>?_;obtain⟨h9,e1,A⟩:=A.pu (.cells none 2 IB);refine HT 4 [(76,.agg (Aq x25)),(77,Ai x26),(78,Ai x27)] 13 (.ptr (some (J.size,0))) e1 H λD t H=>?_;obtain⟨h10,X,A⟩:=A.s0 0 [.str x25.Re,.str x25.Cg,.bool x25.Global,.bool x25.Fold,.bool x25.FV,Ai x25.Number,.bool x25.Names,.bool x25.NH,.bool x25.Ou] [_,_,_,_,_,_,_,_,_];refine Cu X H λD t H=>?_;refine B4 2 [(15,Ai x27)] 1 H λD H=>AK 1 [(16,.ptr none)] H λD H=>AQ ?_;obtain⟨o4,O,M⟩:=AG M;refine Ap (Q':=λe N Q=>(∃x28 x29,e=.normal/\.inl (x28,x29)=o4/\Has N 202 [(0,vs eS p0),(1,.str p1),(5,.str (x24++x17)),(6,Ai x3),(7,.str x4),(8,.bool x5),(9,Ai x6),(13,.ptr (some (J.size,0))),(15,Ai x28),(16,.BL (AV x29)),(32,vs eS p0),(33,Ai (p0.length:Int)),(34,Ai x6)]/\HH g Q [.obj J.size (.cells none 2 (Aq x25))] F)\/(∃x30,e=.normal/\.inr x30=o4/\Has N 202 [(0,vs eS p0),(1,.str p1),(5,.str (x24++x17)),(6,Ai x3),(7,.str x4),(8,.bool x5),(9,Ai x6),(13,.ptr (some (J.size,0))),(15,Ai x30),(16,.ptr none),(32,vs eS p0),(33,Ai (p0.length:Int)),(34,Ai x6)]/\HH g Q [.obj J.size (.cells none 2 (Aq x25))] F)\/False) ?_ ?_
     ·replace M:=O;clear O;refine AD 2 (AK 2 [(80,.bool (x27==0))] H λD H=>AU 80 H M (λB M H=>?_) λB M H=>?_)
      ·refine BY 8 (Aw 82 _ _ H (λD=>.of (B0 (by kernel_rfl) (A.G7 0 rfl (o:=0) (n:=9) ⟨zb rfl,rfl⟩))) λD t H=>?_);obtain⟨⟨w10,x32,x33⟩,X,M⟩:=AG M;obtain⟨v1,h11,R,hc⟩:=MV (av:=[.agg (Aq x25),Ai 4096]) X (A.cut 0);rcases hc with⟨x31,rfl,rfl,E⟩|⟨rfl,rfl,E⟩
       ·replace A:=A.FL E;refine Bq 83 R H λD t H=>?_;refine BA 6 [(0,vs eS p0),(1,.str p1),(5,.str (x24++x17)),(6,Ai x3),(7,.str x4),(8,.bool x5),(9,Ai x6),(13,.ptr (some (J.size,0))),(15,Ai x33),(16,.BL (AV x31)),(32,vs eS p0),(33,Ai (p0.length:Int)),(34,Ai x6)] H λD H=>Aj ?_;exact .inl ⟨_,_,rfl,Ag M,H.ls,A⟩
       replace A:=A.FL E;refine Bq 83 R H λD t H=>?_;refine BA 6 [(0,vs eS p0),(1,.str p1),(5,.str (x24++x17)),(6,Ai x3),(7,.str x4),(8,.bool x5),(9,Ai x6),(13,.ptr (some (J.size,0))),(15,Ai x33),(16,.ptr none),(32,vs eS p0),(33,Ai (p0.length:Int)),(34,Ai x6)] H λD H=>Aj ?_;exact .inr (.inl ⟨_,rfl,Ag M,H.ls,A⟩)
      exact Bv (.inr (.inl ⟨_,rfl,Ag M,H.ls,A⟩))
     clear O;clear A;intro e D K G;rcases G with⟨x28,x29,rfl,rfl,H,A⟩|⟨x30,rfl,rfl,H,A⟩|I
     ·show AW _ _ _ _ _ _ _;refine AQ (AD 2 (AK 2 [(88,.bool (x28 !=0))] H λD H=>AU 88 H M (λB M H=>?_) λB M H=>?_))
      ·refine AQ (AD 2 (AK 2 [(90,.bool (decide (x3<0)))] H λD H=>AU 90 H M (λB M H=>?_) λB M H=>?_))
       ·refine BY 2 (BA 2 [(0,vs eS p0),(1,.str p1),(5,.str (x24++x17)),(6,Ai x6),(7,.str x4),(8,.bool x5),(32,vs eS p0),(33,Ai (p0.length:Int)),(34,Ai x6)] H λD H=>BK id (BM (i:=1) (by kernel_rfl) ?_));replace A:=A.d0;exact .inl ⟨_,_,_,_,rfl,Ag M,H.ls,A⟩
       refine Bt id (BM (i:=1) (by kernel_rfl) ?_);replace A:=A.d0;exact .inl ⟨_,_,_,_,rfl,Ag M,H.ls,A⟩
      refine Bt id (AQ ?_);obtain⟨o5,O,M⟩:=AG M;refine Ap (Q':=λe N Q=>(∃x34,e=.normal/\x34=o5/\Has N 202 [(0,vs eS p0),(1,.str p1),(5,.str (x24++x17)),(6,Ai x3),(7,.str x34),(8,.bool x5),(32,vs eS p0),(33,Ai (p0.length:Int)),(34,Ai x6)]/\HH g Q [.obj J.size (.cells none 2 (Aq x25))] F)\/False) ?_ ?_
      ·replace M:=O;clear O;refine AD 11 (AI 3 [(94,.bool (decide (x3<0)))] H λD H=>BP 3 (λN Q=>K=Q/\Has N 202 [(0,vs eS p0),(1,.str p1),(5,.str (x24++x17)),(6,Ai x3),(7,.str x4),(8,.bool x5),(16,.BL (AV x29)),(32,vs eS p0),(33,Ai (p0.length:Int)),(34,Ai x6),(97,.bool ((decide (x3<0))&&x25.Names))]) ?_ ?_)
       ·cases B:(decide (x3<0):Bool)with
        |true=>
         replace H:=H.kn 94 B;refine Aa 1 [] 96 0 6 A H λD t H=>?_;exact AI 1 [(97,.bool x25.Names)] H λD H=>BH H B
        |false=>
         replace H:=H.kn 94 B;exact AI 3 [(97,.bool false)] H λD H=>BH H B
       intro t D Q C;obtain⟨e,H⟩:=C;subst e;refine AI 1 [(98,.bool ((decide (x3<0))&&x25.Names))] H λD H=>BP 4 (λN Q=>K=Q/\Has N 202 [(0,vs eS p0),(1,.str p1),(5,.str (x24++x17)),(6,Ai x3),(7,.str x4),(8,.bool x5),(16,.BL (AV x29)),(32,vs eS p0),(33,Ai (p0.length:Int)),(34,Ai x6),(102,.bool (((decide (x3<0))&&x25.Names)&&(decide ((x4.length:Int)<=4096))))]) ?_ ?_
       ·cases B:((decide (x3<0))&&x25.Names:Bool)with
        |true=>
         replace H:=H.kn 98 B;exact AI 4 [(102,.bool (decide ((x4.length:Int)<=4096)))] H λD H=>BH H B
        |false=>
         replace H:=H.kn 98 B;exact AI 4 [(102,.bool false)] H λD H=>BH H B
       intro t D Q C;obtain⟨e,H⟩:=C;subst e;refine BK id (AU 102 H M (λB M H=>?_) λB M H=>?_)
       ·refine BY 4 ?_;obtain⟨x35,X,M⟩:=AG M;obtain⟨v1,h13,R,rfl,E⟩:=HO (av:=[.BL (AV x29),.str x4]) X (A.cut 0);replace A:=A.FL E;refine As 2 [] 105 R H λD t H=>?_;refine BA 1 [(0,vs eS p0),(1,.str p1),(5,.str (x24++x17)),(6,Ai x3),(7,.str x35),(8,.bool x5),(32,vs eS p0),(33,Ai (p0.length:Int)),(34,Ai x6)] H λD H=>Aj ?_;exact .inl ⟨_,rfl,Ag M,H.ls,A⟩
       exact Bv (.inl ⟨_,rfl,Ag M,H.ls,A⟩)
      clear O;clear A;intro e D h14 G;rcases G with⟨x34,rfl,rfl,H,A⟩|I
      ·show AW _ _ _ _ _ _ _;refine BY 7 (AI 2 [(107,.bool x5)] H λD H=>BP 4 (λN Q=>h14=Q/\Has N 202 [(0,vs eS p0),(1,.str p1),(5,.str (x24++x17)),(6,Ai x3),(7,.str x34),(32,vs eS p0),(33,Ai (p0.length:Int)),(34,Ai x6),(111,.bool (x5&&(decide ((x34.length:Int)<=4096))))]) ?_ ?_)
       ·cases B:(x5:Bool)with
        |true=>
         replace H:=H.kn 107 B;exact AI 4 [(111,.bool (decide ((x34.length:Int)<=4096)))] H λD H=>BH H B
        |false=>
         replace H:=H.kn 107 B;exact AI 4 [(111,.bool false)] H λD H=>BH H B
       intro t D Q C;obtain⟨e,H⟩:=C;subst e;refine AI 1 [(8,.bool (x5&&(decide ((x34.length:Int)<=4096))))] H λD H=>Aj ?_;replace A:=A.d0;exact .inl ⟨_,_,_,_,rfl,Ag M,H.ls,A⟩
      exact I.elim
     ·show AW _ _ _ _ _ _ _;refine AQ (AD 2 (AK 2 [(88,.bool (x30 !=0))] H λD H=>AU 88 H M (λB M H=>?_) λB M H=>?_))
      ·refine AQ (AD 2 (AK 2 [(90,.bool (decide (x3<0)))] H λD H=>AU 90 H M (λB M H=>?_) λB M H=>?_))
       ·refine BY 2 (BA 2 [(0,vs eS p0),(1,.str p1),(5,.str (x24++x17)),(6,Ai x6),(7,.str x4),(8,.bool x5),(32,vs eS p0),(33,Ai (p0.length:Int)),(34,Ai x6)] H λD H=>BK id (BM (i:=1) (by kernel_rfl) ?_));replace A:=A.d0;exact .inl ⟨_,_,_,_,rfl,Ag M,H.ls,A⟩
       refine Bt id (BM (i:=1) (by kernel_rfl) ?_);replace A:=A.d0;exact .inl ⟨_,_,_,_,rfl,Ag M,H.ls,A⟩
      refine Bt id (AQ ?_);obtain⟨o6,O,M⟩:=AG M;refine Ap (Q':=λe N Q=>(∃x36,e=.normal/\x36=o6/\Has N 202 [(0,vs eS p0),(1,.str p1),(5,.str (x24++x17)),(6,Ai x3),(7,.str x36),(8,.bool x5),(32,vs eS p0),(33,Ai (p0.length:Int)),(34,Ai x6)]/\HH g Q [.obj J.size (.cells none 2 (Aq x25))] F)\/False) ?_ ?_
      ·replace M:=O;clear O;refine AD 11 (AI 3 [(94,.bool (decide (x3<0)))] H λD H=>BP 3 (λN Q=>K=Q/\Has N 202 [(0,vs eS p0),(1,.str p1),(5,.str (x24++x17)),(6,Ai x3),(7,.str x4),(8,.bool x5),(16,.ptr none),(32,vs eS p0),(33,Ai (p0.length:Int)),(34,Ai x6),(97,.bool ((decide (x3<0))&&x25.Names))]) ?_ ?_)
       ·cases B:(decide (x3<0):Bool)with
        |true=>
         replace H:=H.kn 94 B;refine Aa 1 [] 96 0 6 A H λD t H=>?_;exact AI 1 [(97,.bool x25.Names)] H λD H=>BH H B
        |false=>
         replace H:=H.kn 94 B;exact AI 3 [(97,.bool false)] H λD H=>BH H B
       intro t D Q C;obtain⟨e,H⟩:=C;subst e;refine AI 1 [(98,.bool ((decide (x3<0))&&x25.Names))] H λD H=>BP 4 (λN Q=>K=Q/\Has N 202 [(0,vs eS p0),(1,.str p1),(5,.str (x24++x17)),(6,Ai x3),(7,.str x4),(8,.bool x5),(16,.ptr none),(32,vs eS p0),(33,Ai (p0.length:Int)),(34,Ai x6),(102,.bool (((decide (x3<0))&&x25.Names)&&(decide ((x4.length:Int)<=4096))))]) ?_ ?_
       ·cases B:((decide (x3<0))&&x25.Names:Bool)with
        |true=>
         replace H:=H.kn 98 B;exact AI 4 [(102,.bool (decide ((x4.length:Int)<=4096)))] H λD H=>BH H B
        |false=>
         replace H:=H.kn 98 B;exact AI 4 [(102,.bool false)] H λD H=>BH H B
       intro t D Q C;obtain⟨e,H⟩:=C;subst e;refine BK id (AU 102 H M (λB M H=>?_) λB M H=>?_)
       ·refine BY 4 ?_;cases M
       exact Bv (.inl ⟨_,rfl,Ag M,H.ls,A⟩)
      clear O;clear A;intro e D h15 G;rcases G with⟨x36,rfl,rfl,H,A⟩|I
      ·show AW _ _ _ _ _ _ _;refine BY 7 (AI 2 [(107,.bool x5)] H λD H=>BP 4 (λN Q=>h15=Q/\Has N 202 [(0,vs eS p0),(1,.str p1),(5,.str (x24++x17)),(6,Ai x3),(7,.str x36),(32,vs eS p0),(33,Ai (p0.length:Int)),(34,Ai x6),(111,.bool (x5&&(decide ((x36.length:Int)<=4096))))]) ?_ ?_)
       ·cases B:(x5:Bool)with
        |true=>
         replace H:=H.kn 107 B;exact AI 4 [(111,.bool (decide ((x36.length:Int)<=4096)))] H λD H=>BH H B
        |false=>
         replace H:=H.kn 107 B;exact AI 4 [(111,.bool false)] H λD H=>BH H B
       intro t D Q C;obtain⟨e,H⟩:=C;subst e;refine AI 1 [(8,.bool (x5&&(decide ((x36.length:Int)<=4096))))] H λD H=>Aj ?_;replace A:=A.d0;exact .inl ⟨_,_,_,_,rfl,Ag M,H.ls,A⟩
      exact I.elim
     exact I.elim
    exact I.elim
   clear O;clear A;intro e D h16 G;rcases G with⟨x12,x13,x14,x15,rfl,rfl,H,A⟩|⟨x16,rfl,rfl,H,A⟩|I
   ·show AW _ _ _ _ _ _ _;refine BY 2 (BA 2 [(0,vs eS p0),(1,.str p1),(5,.str x12),(6,Ai x13),(7,.str x14),(8,.bool x15),(32,vs eS p0),(33,Ai (p0.length:Int)),(34,Ai (IntKind.i64.wrap (x6+1)))] H λD H=>Aj ?_);exact nx M ⟨_,_,_,_,_,rfl,H.ls,A⟩
   ·exact nr M λe=>Or.inr (.inl ⟨_,rfl,e,H.ls,A⟩)
   exact I.elim
  refine BM (i:=0) (by kernel_rfl) ?_;exact nr M λe=>.inl ⟨_,_,_,_,rfl,e,H.ls,A⟩
 clear O;clear A;intro e D h17 G;rcases G with⟨x7,x8,x9,x10,rfl,rfl,H,A⟩|⟨x11,rfl,rfl,H,A⟩|I
 ·show AW _ _ _ _ _ _ _;refine AD 9 ?_;obtain⟨⟨w15,x38,x39⟩,X,M⟩:=AG M;obtain⟨v1,P,R,hc⟩:=Mm (av:=[.str x7,Ai 4096,Ai 4096]) X (A.cut 0);rcases hc with⟨x37w14,bx37w14,rx37w14_0,rfl,rfl,E⟩|⟨rfl,rfl,E⟩
  ·replace A:=A.cF E;refine As 1 [] 115 R H λD t H=>?_;refine AK 7 [(17,.ptr (some (bx37w14,0))),(18,Ai x38),(19,Ai x39)] H λD H=>AQ (AD 3 (AK 3 [(121,.bool ((p0.length:Int)==0))] H λD H=>AU 121 H M (λB M H=>?_) λB M H=>?_))
   ·refine AD 14 (AK 14 [(4,.bool false)] H λD H=>Ak ?_);obtain rfl:=Ag M;refine⟨.inl rfl,.bool false,rH H,?_⟩;replace A:=A.d0;exact⟨rfl,A⟩
   refine Bt id (AQ (AD 2 (AK 2 [(136,.bool (decide (x8>=0)))] H λD H=>AU 136 H M (λB M H=>?_) λB M H=>?_)))
   ·refine AD 26 (AK 26 [(4,.bool false)] H λD H=>Ak ?_);obtain rfl:=Ag M;refine⟨.inl rfl,.bool false,rH H,?_⟩;replace A:=A.d0;exact⟨rfl,A⟩
   refine Bt id (AQ (AD 13 (AI 3 [(164,.bool (x39 !=0))] H λD H=>BP 3 (λN Q=>P=Q/\Has N 202 [(0,vs eS p0),(1,.str p1),(7,.str x9),(8,.bool x10),(17,.ptr (some (bx37w14,0))),(167,.bool ((x39 !=0)||false))]) ?_ ?_)))
   ·cases B:(x39 !=0:Bool)with
    |true=>
     replace H:=H.kn 164 B;exact AI 3 [(167,.bool true)] H λD H=>BH H B
    |false=>
     replace H:=H.kn 164 B;exact AI 3 [(167,.bool false)] H λD H=>BH H B
   intro t D Q C;obtain⟨e,H⟩:=C;subst e;refine AI 1 [(168,.bool ((x39 !=0)||false))] H λD H=>?_;obtain⟨x40,O,M⟩:=AG M;refine BP 6 (λN Q=>Has N 202 [(1,.str p1),(7,.str x9),(8,.bool x10),(17,.ptr (some (bx37w14,0))),(174,.bool x40)]/\HH g Q [.obj bx37w14 (.cells none 2 [AH rx37w14_0 x37w14.l_.length,Ai x37w14.EG]),.AP rx37w14_0 31 (AP (eP AV) x37w14.l_)] F) ?_ ?_
   ·rcases BS O with⟨B,M⟩|⟨B,M⟩
    ·replace H:=H.kn 168 B;refine AI 6 [(174,.bool true)] H λD H=>?_;obtain rfl:=Ag M;exact Aj ⟨H.ls,A⟩
    replace H:=H.kn 168 B;obtain⟨x41,X,M⟩:=AG M;obtain⟨v1,h20,R,rfl,E⟩:=Iz (av:=[.ptr (some (bx37w14,0))]) X (A.cut 2);replace A:=A.g22 E;refine As 1 [] 170 R H λD t H=>?_;refine AI 4 [(174,.bool (x41 !=(p0.length:Int)))] H λD H=>?_;obtain rfl:=Ag M;exact Aj ⟨H.ls,A⟩
   clear A;intro t D h19 C;obtain⟨H,A⟩:=C;refine BK id (AU 174 H M (λB M H=>?_) λB M H=>?_)
   ·refine AD 1 (AK 1 [(4,.bool false)] H λD H=>Ak ?_);obtain rfl:=Ag M;refine⟨.inl rfl,.bool false,rH H,?_⟩;replace A:=A.d0;exact⟨rfl,A⟩
   refine CH 8 id ?_;obtain⟨⟨x42,x43⟩,X,M⟩:=AG M;obtain⟨v1,S,R,rfl,E⟩:=Hz (av:=[.ptr (some (bx37w14,0)),.str p1]) X (A.cut 2);replace A:=A.g22 E;refine As 2 [] 178 R H λD t H=>?_;refine AK 5 [(20,.str x42),(21,Ai x43)] H λD H=>AQ (AD 2 (AK 2 [(182,.bool (!x10))] H λD H=>AU 182 H M (λB M H=>?_) λB M H=>?_))
   ·refine AD 10 (AI 3 [(185,.bool (x43==7))] H λD H=>BP 3 (λN Q=>S=Q/\Has N 202 [(188,.bool ((x43==7)&&(x42==([]:UV))))]) ?_ ?_)
    ·cases B:(x43==7:Bool)with
     |true=>
      replace H:=H.kn 185 B;exact AI 3 [(188,.bool (x42==([]:UV)))] H λD H=>BH H B
     |false=>
      replace H:=H.kn 185 B;exact AI 3 [(188,.bool false)] H λD H=>BH H B
    intro t D Q C;obtain⟨e,H⟩:=C;subst e;refine AI 1 [(189,.bool ((x43==7)&&(x42==([]:UV))))] H λD H=>?_;obtain⟨x44,O,M⟩:=AG M;refine BP 2 (λN Q=>Has N 202 [(191,.bool x44)]/\HH g Q [.obj bx37w14 (.cells none 2 [AH rx37w14_0 x37w14.l_.length,Ai x37w14.EG]),.AP rx37w14_0 31 (AP (eP AV) x37w14.l_)] F) ?_ ?_
    ·rcases BS O with⟨B,M⟩|⟨B,M⟩
     ·replace H:=H.kn 189 B;obtain⟨x45,X,M⟩:=AG M;obtain⟨v1,h23,R,rfl,E⟩:=DJ (av:=[]) X (A.cut 0);replace A:=A.FL E;refine Bq 190 R H λD t H=>?_;refine AI 1 [(191,.bool x45)] H λD H=>?_;obtain rfl:=Ag M;exact Aj ⟨H.ls,A⟩
     replace H:=H.kn 189 B;refine AI 2 [(191,.bool false)] H λD H=>?_;obtain rfl:=Ag M;exact Aj ⟨H.ls,A⟩
    clear A;intro t D h22 C;obtain⟨H,A⟩:=C;refine AK 1 [(4,.bool x44)] H λD H=>Ak ?_;obtain rfl:=Ag M;refine⟨.inl rfl,.bool x44,rH H,?_⟩;replace A:=A.d0;exact⟨rfl,A⟩
   refine CH 11 id (AI 3 [(194,.bool (x43==0))] H λD H=>BP 4 (λN Q=>S=Q/\Has N 202 [(198,.bool ((x43==0)&&(x42==x9)))]) ?_ ?_)
   ·cases B:(x43==0:Bool)with
    |true=>
     replace H:=H.kn 194 B;exact AI 4 [(198,.bool (x42==x9))] H λD H=>BH H B
    |false=>
     replace H:=H.kn 194 B;exact AI 4 [(198,.bool false)] H λD H=>BH H B
   intro t D Q C;obtain⟨e,H⟩:=C;subst e;refine AI 1 [(199,.bool ((x43==0)&&(x42==x9)))] H λD H=>?_;obtain⟨x46,O,M⟩:=AG M;refine BP 2 (λN Q=>Has N 202 [(201,.bool x46)]/\HH g Q [.obj bx37w14 (.cells none 2 [AH rx37w14_0 x37w14.l_.length,Ai x37w14.EG]),.AP rx37w14_0 31 (AP (eP AV) x37w14.l_)] F) ?_ ?_
   ·rcases BS O with⟨B,M⟩|⟨B,M⟩
    ·replace H:=H.kn 199 B;obtain⟨x47,X,M⟩:=AG M;obtain⟨v1,h25,R,rfl,E⟩:=DJ (av:=[]) X (A.cut 0);replace A:=A.FL E;refine Bq 200 R H λD t H=>?_;refine AI 1 [(201,.bool x47)] H λD H=>?_;obtain rfl:=Ag M;exact Aj ⟨H.ls,A⟩
    replace H:=H.kn 199 B;refine AI 2 [(201,.bool false)] H λD H=>?_;obtain rfl:=Ag M;exact Aj ⟨H.ls,A⟩
   clear A;intro t D h24 C;obtain⟨H,A⟩:=C;refine AK 1 [(4,.bool x46)] H λD H=>Ak ?_;obtain rfl:=Ag M;refine⟨.inl rfl,.bool x46,rH H,?_⟩;replace A:=A.d0;exact⟨rfl,A⟩
  replace A:=A.FL E;refine As 1 [] 115 R H λD t H=>?_;refine AK 7 [(17,.ptr none),(18,Ai x38),(19,Ai x39)] H λD H=>AQ (AD 3 (AK 3 [(121,.bool ((p0.length:Int)==0))] H λD H=>AU 121 H M (λB M H=>?_) λB M H=>?_))
  ·refine AD 14 (AI 7 [(128,.bool (x38==0))] H λD H=>BP 3 (λN Q=>P=Q/\Has N 202 [(131,.bool ((x38==0)&&(x39==11)))]) ?_ ?_)
   ·cases B:(x38==0:Bool)with
    |true=>
     replace H:=H.kn 128 B;exact AI 3 [(131,.bool (x39==11))] H λD H=>BH H B
    |false=>
     replace H:=H.kn 128 B;exact AI 3 [(131,.bool false)] H λD H=>BH H B
   intro t D Q C;obtain⟨e,H⟩:=C;subst e;refine AI 1 [(132,.bool ((x38==0)&&(x39==11)))] H λD H=>?_;obtain⟨x48,O,M⟩:=AG M;refine BP 2 (λN Q=>Has N 202 [(134,.bool x48)]/\HH g Q [] F) ?_ ?_
   ·rcases BS O with⟨B,M⟩|⟨B,M⟩
    ·replace H:=H.kn 132 B;obtain⟨x49,X,M⟩:=AG M;obtain⟨v1,h27,R,rfl,E⟩:=DJ (av:=[]) X (A.cut 0);replace A:=A.FL E;refine Bq 133 R H λD t H=>?_;refine AI 1 [(134,.bool x49)] H λD H=>?_;obtain rfl:=Ag M;exact Aj ⟨H.ls,A⟩
    replace H:=H.kn 132 B;refine AI 2 [(134,.bool false)] H λD H=>?_;obtain rfl:=Ag M;exact Aj ⟨H.ls,A⟩
   clear A;intro t D h26 C;obtain⟨H,A⟩:=C;refine AK 1 [(4,.bool x48)] H λD H=>Ak ?_;obtain rfl:=Ag M;exact⟨.inl rfl,_,rH H,rfl,A⟩
  refine Bt id (AQ (AD 2 (AK 2 [(136,.bool (decide (x8>=0)))] H λD H=>AU 136 H M (λB M H=>?_) λB M H=>?_)))
  ·refine AD 26 (AI 7 [(143,.bool (x39 !=0))] H λD H=>?_);obtain⟨x50,O,M⟩:=AG M;refine BP 15 (λN Q=>Has N 202 [(158,.bool x50)]/\HH g Q [] F) ?_ ?_
   ·rcases BS O with⟨B,M⟩|⟨B,M⟩
    ·replace H:=H.kn 143 B;refine AI 4 [(147,.bool (x38==x8))] H λD H=>?_;obtain⟨x51,O,M⟩:=AG M;refine BP 10 (λN Q=>Has N 202 [(143,.bool true),(157,.bool x51)]/\HH g Q [] F) ?_ ?_
     ·rcases BS O with⟨B,M⟩|⟨B,M⟩
      ·replace H:=H.kn 147 B;refine AI 10 [(157,.bool true)] H λD H=>?_;obtain rfl:=Ag M;exact Aj ⟨H.ls,A⟩
      replace H:=H.kn 147 B;obtain⟨x52,X,M⟩:=AG M;obtain⟨v1,h30,R,rfl,E⟩:=IY (av:=[vs eS p0]) X (A.cut 0);replace A:=A.FL E;refine As 1 [] 149 R H λD t H=>?_;refine AI 2 [(151,.bool (decide (x52>=0)))] H λD H=>?_;obtain⟨x53,O,M⟩:=AG M;refine BP 5 (λN Q=>Has N 202 [(143,.bool true),(147,.bool false),(156,.bool x53)]/\HH g Q [] F) ?_ ?_
      ·rcases BS O with⟨B,M⟩|⟨B,M⟩
       ·replace H:=H.kn 151 B;obtain⟨x54,X,M⟩:=AG M;obtain⟨v1,h32,R,rfl,E⟩:=IY (av:=[vs eS p0]) X (A.cut 0);replace A:=A.FL E;refine As 2 [(152,Ai x38)] 154 R H λD t H=>?_;refine AI 2 [(156,.bool (x38==x54))] H λD H=>?_;obtain rfl:=Ag M;exact Aj ⟨H.ls,A⟩
       replace H:=H.kn 151 B;refine AI 5 [(156,.bool false)] H λD H=>?_;obtain rfl:=Ag M;exact Aj ⟨H.ls,A⟩
      clear A;intro t D h31 C;obtain⟨H,A⟩:=C;refine AI 1 [(157,.bool x53)] H λD H=>?_;obtain rfl:=Ag M;exact Aj ⟨H.ls,A⟩
     clear A;intro t D h29 C;obtain⟨H,A⟩:=C;refine AI 1 [(158,.bool x51)] H λD H=>?_;obtain rfl:=Ag M;exact Aj ⟨H.ls,A⟩
    replace H:=H.kn 143 B;refine AI 15 [(158,.bool false)] H λD H=>?_;obtain rfl:=Ag M;exact Aj ⟨H.ls,A⟩
   clear A;intro t D h28 C;obtain⟨H,A⟩:=C;refine AI 1 [(159,.bool x50)] H λD H=>?_;obtain⟨x55,O,M⟩:=AG M;refine BP 2 (λN Q=>Has N 202 [(161,.bool x55)]/\HH g Q [] F) ?_ ?_
   ·rcases BS O with⟨B,M⟩|⟨B,M⟩
    ·replace H:=H.kn 159 B;obtain⟨x56,X,M⟩:=AG M;obtain⟨v1,h34,R,rfl,E⟩:=DJ (av:=[]) X (A.cut 0);replace A:=A.FL E;refine Bq 160 R H λD t H=>?_;refine AI 1 [(161,.bool x56)] H λD H=>?_;obtain rfl:=Ag M;exact Aj ⟨H.ls,A⟩
    replace H:=H.kn 159 B;refine AI 2 [(161,.bool false)] H λD H=>?_;obtain rfl:=Ag M;exact Aj ⟨H.ls,A⟩
   clear A;intro t D h33 C;obtain⟨H,A⟩:=C;refine AK 1 [(4,.bool x55)] H λD H=>Ak ?_;obtain rfl:=Ag M;exact⟨.inl rfl,_,rH H,rfl,A⟩
  refine Bt id (AQ (AD 13 (AI 3 [(164,.bool (x39 !=0))] H λD H=>BP 3 (λN Q=>P=Q/\Has N 202 [(0,vs eS p0),(1,.str p1),(7,.str x9),(8,.bool x10),(17,.ptr none),(167,.bool ((x39 !=0)||true))]) ?_ ?_)))
  ·cases B:(x39 !=0:Bool)with
   |true=>
    replace H:=H.kn 164 B;exact AI 3 [(167,.bool true)] H λD H=>BH H B
   |false=>
    replace H:=H.kn 164 B;exact AI 3 [(167,.bool true)] H λD H=>BH H B
  intro t D Q C;obtain⟨e,H⟩:=C;subst e;refine AI 1 [(168,.bool ((x39 !=0)||true))] H λD H=>?_;rcases BS M with⟨B,M⟩|⟨B,M⟩
  ·replace H:=H.kn 168 B;refine AK 6 [(174,.bool true)] H λD H=>OZ (x:=.tmp 174) (by kernel_rfl) H (λD=>by kernel_rfl) ?_;refine AD 1 (AK 1 [(4,.bool false)] H λD H=>Ak ?_);obtain rfl:=Ag M;exact⟨.inl rfl,_,rH H,rfl,A⟩
  replace H:=H.kn 168 B;cases M
 ·obtain rfl:=Ag M;exact⟨.inl rfl,_,rH H,rfl,A⟩
 exact I.elim
end
end Go.Av.L
