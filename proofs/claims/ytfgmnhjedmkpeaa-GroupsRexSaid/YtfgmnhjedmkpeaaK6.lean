/-
 A part.
-/
import Derived.Test.YtfgmnhjedmkpeaaKCfg
set_option linter.unusedSimpArgs false
namespace Go.Av.L
open IntKind (i64)
open Go.Av Go.Lib
set_option maxRecDepth 10000
set_option linter.unusedVariables false
set_option linter.unusedSimpArgs false
variable {g:Gd} {h:AE} {F:List Ck} {av:List AD}
noncomputable section
def FM(p0:AJ)(p1:Int):Option (Bool):=
 Aj ((decide (p0.Kind<0))||(decide (p0.Kind>7))) (some false) (Aj ((((((decide (p0.Kind>=2))&&(decide (p0.Kind<=5)))&&((decide (p0.A<0))||(decide (p0.A>=p1))))||((!((decide (p0.Kind>=2))&&(decide (p0.Kind<=5))))&&(p0.A !=0)))||(((p0.Kind==2)||(p0.Kind==3))&&((decide (p0.B<0))||(decide (p0.B>=p1)))))||((!((p0.Kind==2)||(p0.Kind==3)))&&(p0.B !=0))) (some false) (Aj ((p0.Kind !=1)&&(!(p0.S==([]:Ym)))) (some false) ((Aj (p0.Kind==4) (Aj (((((decide (p0.Min<0))||(decide (p0.Min>255)))||(decide (p0.Max<(-1))))||(decide (p0.Max>255)))||((decide (p0.Max>=0))&&(decide (p0.Max<p0.Min)))) (some (.inr false)) (some (.inl ()))) (Aj ((p0.Min !=0)||(p0.Max !=0)) (some (.inr false)) (some (.inl ()))):Option ((Unit)⊕(Bool))).bind λo1=>(match o1 with| .inl _=>Aj (p0.Kind==5) (some ((decide (p0.BO>=1))&&(decide (p0.BO<=1024)))) (some (p0.BO==0))| .inr x1=>some x1))))
theorem Mh{p0 p1 q0}(M:FM p0 p1=some q0)(A:HH g h [] F)(hc:CB (cfg.still 24) av=[.agg (AA p0),Ai p1]:=by kernel_rfl):∃v Q,Bw cfg g h 24 av v Q/\v=.bool q0/\HH g Q [] F:=by
 refine Hs 138 [.tmp 4] hc ?_;clear hc;unfold FM at M;refine bg 138 [(0,.agg (AA p0)),(1,Ai p1)] λD H=>?_;refine AM 2 ?_;obtain⟨h1,e1,A⟩:=A.pu (.cells none 2 (AA p0));refine Bq 2 (.ptr (some (h.size,0))) e1 H λD t H=>?_;refine AZ 1 [] H λD H=>Ag (AM 8 (AV 1 [] 8 0 0 A H λD t H=>?_));refine AO 2 [(10,.bool (decide (p0.Kind<0)))] H λD H=>Ba 4 (λN Q=>h1=Q/\Has N 138 [(1,Ai p1),(2,.ptr (some (h.size,0))),(14,.bool ((decide (p0.Kind<0))||(decide (p0.Kind>7))))]) ?_ ?_
 ·cases G:(decide (p0.Kind<0):Bool)with
  |true=>
   replace H:=H.kn 10 G;exact AO 4 [(14,.bool true)] H λD H=>BC H G
  |false=>
   replace H:=H.kn 10 G;refine AV 1 [] 12 0 0 A H λD t H=>?_;exact AO 2 [(14,.bool (decide (p0.Kind>7)))] H λD H=>BC H G
 intro t D Q I;obtain⟨e,H⟩:=I;subst e;refine BX id (Al 14 H M (λG M H=>?_) λG M H=>?_)
 ·refine AM 1 (AZ 1 [(4,.bool false)] H λD H=>Ax ?_);obtain rfl:=Aw M;refine⟨.inl rfl,.bool false,rH H,?_⟩;replace A:=A.d0;exact⟨rfl,A⟩
 refine D3 9 id (AV 1 [] 16 0 0 A H λD t H=>?_);refine AO 2 [(18,.bool (decide (p0.Kind>=2)))] H λD H=>Ba 4 (λN Q=>h1=Q/\Has N 138 [(1,Ai p1),(2,.ptr (some (h.size,0))),(22,.bool ((decide (p0.Kind>=2))&&(decide (p0.Kind<=5))))]) ?_ ?_
 ·cases G:(decide (p0.Kind>=2):Bool)with
  |true=>
   replace H:=H.kn 18 G;refine AV 1 [] 20 0 0 A H λD t H=>?_;exact AO 2 [(22,.bool (decide (p0.Kind<=5)))] H λD H=>BC H G
  |false=>
   replace H:=H.kn 18 G;exact AO 4 [(22,.bool false)] H λD H=>BC H G
 intro t D Q I;obtain⟨e,H⟩:=I;subst e;refine Eo 1 [(5,.bool ((decide (p0.Kind>=2))&&(decide (p0.Kind<=5))))] 9 H λD H=>AV 1 [] 24 0 0 A H λD t H=>?_;refine AO 2 [(26,.bool (p0.Kind==2))] H λD H=>Ba 4 (λN Q=>h1=Q/\Has N 138 [(1,Ai p1),(2,.ptr (some (h.size,0))),(5,.bool ((decide (p0.Kind>=2))&&(decide (p0.Kind<=5)))),(30,.bool ((p0.Kind==2)||(p0.Kind==3)))]) ?_ ?_
 ·cases G:(p0.Kind==2:Bool)with
  |true=>
   replace H:=H.kn 26 G;exact AO 4 [(30,.bool true)] H λD H=>BC H G
  |false=>
   replace H:=H.kn 26 G;refine AV 1 [] 28 0 0 A H λD t H=>?_;exact AO 2 [(30,.bool (p0.Kind==3))] H λD H=>BC H G
 intro t D Q I;obtain⟨e,H⟩:=I;subst e;refine AZ 1 [(6,.bool ((p0.Kind==2)||(p0.Kind==3)))] H λD H=>Ag (AM 44 (AO 2 [(32,.bool ((decide (p0.Kind>=2))&&(decide (p0.Kind<=5))))] H λD H=>Ba 10 (λN Q=>h1=Q/\Has N 138 [(1,Ai p1),(2,.ptr (some (h.size,0))),(5,.bool ((decide (p0.Kind>=2))&&(decide (p0.Kind<=5)))),(6,.bool ((p0.Kind==2)||(p0.Kind==3))),(42,.bool (((decide (p0.Kind>=2))&&(decide (p0.Kind<=5)))&&((decide (p0.A<0))||(decide (p0.A>=p1)))))]) ?_ ?_))
 ·cases G:((decide (p0.Kind>=2))&&(decide (p0.Kind<=5)):Bool)with
  | true=>
   replace H:=H.kn 32 G;refine AV 1 [] 34 0 1 A H λD t H=>?_;refine AO 2 [(36,.bool (decide (p0.A<0)))] H λD H=>Ba 5 (λN Q=>h1=Q/\Has N 138 [(1,Ai p1),(2,.ptr (some (h.size,0))),(5,.bool ((decide (p0.Kind>=2))&&(decide (p0.Kind<=5)))),(6,.bool ((p0.Kind==2)||(p0.Kind==3))),(32,.bool true),(41,.bool ((decide (p0.A<0))||(decide (p0.A>=p1))))]) ?_ ?_
   ·cases G:(decide (p0.A<0):Bool)with
    |true=>
     replace H:=H.kn 36 G;exact AO 5 [(41,.bool true)] H λD H=>BC H G
    |false=>
     replace H:=H.kn 36 G;refine AV 1 [] 38 0 1 A H λD t H=>?_;exact AO 3 [(41,.bool (decide (p0.A>=p1)))] H λD H=>BC H G
   intro t D Q I;obtain⟨e,H⟩:=I;subst e;exact AO 1 [(42,.bool ((decide (p0.A<0))||(decide (p0.A>=p1))))] H λD H=>BC H G
  |false=>
   replace H:=H.kn 32 G;exact AO 10 [(42,.bool false)] H λD H=>BC H G
 intro t D Q I;obtain⟨e,H⟩:=I;subst e;refine AO 1 [(43,.bool (((decide (p0.Kind>=2))&&(decide (p0.Kind<=5)))&&((decide (p0.A<0))||(decide (p0.A>=p1)))))] H λD H=>Ba 8 (λN Q=>h1=Q/\Has N 138 [(1,Ai p1),(2,.ptr (some (h.size,0))),(6,.bool ((p0.Kind==2)||(p0.Kind==3))),(51,.bool ((((decide (p0.Kind>=2))&&(decide (p0.Kind<=5)))&&((decide (p0.A<0))||(decide (p0.A>=p1))))||((!((decide (p0.Kind>=2))&&(decide (p0.Kind<=5))))&&(p0.A !=0))))]) ?_ ?_
 ·cases G:(((decide (p0.Kind>=2))&&(decide (p0.Kind<=5)))&&((decide (p0.A<0))||(decide (p0.A>=p1))):Bool)with
  |true=>
   replace H:=H.kn 43 G;exact AO 8 [(51,.bool true)] H λD H=>BC H G
  | false=>
   replace H:=H.kn 43 G;refine AO 3 [(46,.bool (!((decide (p0.Kind>=2))&&(decide (p0.Kind<=5)))))] H λD H=>Ba 4 (λN Q=>h1=Q/\Has N 138 [(1,Ai p1),(2,.ptr (some (h.size,0))),(6,.bool ((p0.Kind==2)||(p0.Kind==3))),(43,.bool false),(50,.bool ((!((decide (p0.Kind>=2))&&(decide (p0.Kind<=5))))&&(p0.A !=0)))]) ?_ ?_
   ·cases G:(!((decide (p0.Kind>=2))&&(decide (p0.Kind<=5))):Bool)with
    |true=>
     replace H:=H.kn 46 G;refine AV 1 [] 48 0 1 A H λD t H=>?_;exact AO 2 [(50,.bool (p0.A !=0))] H λD H=>BC H G
    |false=>
     replace H:=H.kn 46 G;exact AO 4 [(50,.bool false)] H λD H=>BC H G
   intro t D Q I;obtain⟨e,H⟩:=I;subst e;exact AO 1 [(51,.bool ((!((decide (p0.Kind>=2))&&(decide (p0.Kind<=5))))&&(p0.A !=0)))] H λD H=>BC H G
 intro t D Q I;obtain⟨e,H⟩:=I;subst e;refine AO 1 [(52,.bool ((((decide (p0.Kind>=2))&&(decide (p0.Kind<=5)))&&((decide (p0.A<0))||(decide (p0.A>=p1))))||((!((decide (p0.Kind>=2))&&(decide (p0.Kind<=5))))&&(p0.A !=0))))] H λD H=>Ba 13 (λN Q=>h1=Q/\Has N 138 [(2,.ptr (some (h.size,0))),(6,.bool ((p0.Kind==2)||(p0.Kind==3))),(65,.bool (((((decide (p0.Kind>=2))&&(decide (p0.Kind<=5)))&&((decide (p0.A<0))||(decide (p0.A>=p1))))||((!((decide (p0.Kind>=2))&&(decide (p0.Kind<=5))))&&(p0.A !=0)))||(((p0.Kind==2)||(p0.Kind==3))&&((decide (p0.B<0))||(decide (p0.B>=p1))))))]) ?_ ?_
 ·cases G:((((decide (p0.Kind>=2))&&(decide (p0.Kind<=5)))&&((decide (p0.A<0))||(decide (p0.A>=p1))))||((!((decide (p0.Kind>=2))&&(decide (p0.Kind<=5))))&&(p0.A !=0)):Bool)with
  |true=>
   replace H:=H.kn 52 G;exact AO 13 [(65,.bool true)] H λD H=>BC H G
  | false=>
   replace H:=H.kn 52 G;refine AO 2 [(54,.bool ((p0.Kind==2)||(p0.Kind==3)))] H λD H=>Ba 10 (λN Q=>h1=Q/\Has N 138 [(2,.ptr (some (h.size,0))),(6,.bool ((p0.Kind==2)||(p0.Kind==3))),(52,.bool false),(64,.bool (((p0.Kind==2)||(p0.Kind==3))&&((decide (p0.B<0))||(decide (p0.B>=p1)))))]) ?_ ?_
   ·cases G:((p0.Kind==2)||(p0.Kind==3):Bool)with
    | true=>
     replace H:=H.kn 54 G;refine AV 1 [] 56 0 2 A H λD t H=>?_;refine AO 2 [(58,.bool (decide (p0.B<0)))] H λD H=>Ba 5 (λN Q=>h1=Q/\Has N 138 [(2,.ptr (some (h.size,0))),(6,.bool ((p0.Kind==2)||(p0.Kind==3))),(52,.bool false),(54,.bool true),(63,.bool ((decide (p0.B<0))||(decide (p0.B>=p1))))]) ?_ ?_
     ·cases G:(decide (p0.B<0):Bool)with
      |true=>
       replace H:=H.kn 58 G;exact AO 5 [(63,.bool true)] H λD H=>BC H G
      |false=>
       replace H:=H.kn 58 G;refine AV 1 [] 60 0 2 A H λD t H=>?_;exact AO 3 [(63,.bool (decide (p0.B>=p1)))] H λD H=>BC H G
     intro t D Q I;obtain⟨e,H⟩:=I;subst e;exact AO 1 [(64,.bool ((decide (p0.B<0))||(decide (p0.B>=p1))))] H λD H=>BC H G
    |false=>
     replace H:=H.kn 54 G;exact AO 10 [(64,.bool false)] H λD H=>BC H G
   intro t D Q I;obtain⟨e,H⟩:=I;subst e;exact AO 1 [(65,.bool (((p0.Kind==2)||(p0.Kind==3))&&((decide (p0.B<0))||(decide (p0.B>=p1)))))] H λD H=>BC H G
 intro t D Q I;obtain⟨e,H⟩:=I;subst e;refine AO 1 [(66,.bool (((((decide (p0.Kind>=2))&&(decide (p0.Kind<=5)))&&((decide (p0.A<0))||(decide (p0.A>=p1))))||((!((decide (p0.Kind>=2))&&(decide (p0.Kind<=5))))&&(p0.A !=0)))||(((p0.Kind==2)||(p0.Kind==3))&&((decide (p0.B<0))||(decide (p0.B>=p1))))))] H λD H=>Ba 8 (λN Q=>h1=Q/\Has N 138 [(2,.ptr (some (h.size,0))),(74,.bool ((((((decide (p0.Kind>=2))&&(decide (p0.Kind<=5)))&&((decide (p0.A<0))||(decide (p0.A>=p1))))||((!((decide (p0.Kind>=2))&&(decide (p0.Kind<=5))))&&(p0.A !=0)))||(((p0.Kind==2)||(p0.Kind==3))&&((decide (p0.B<0))||(decide (p0.B>=p1)))))||((!((p0.Kind==2)||(p0.Kind==3)))&&(p0.B !=0))))]) ?_ ?_
 ·cases G:(((((decide (p0.Kind>=2))&&(decide (p0.Kind<=5)))&&((decide (p0.A<0))||(decide (p0.A>=p1))))||((!((decide (p0.Kind>=2))&&(decide (p0.Kind<=5))))&&(p0.A !=0)))||(((p0.Kind==2)||(p0.Kind==3))&&((decide (p0.B<0))||(decide (p0.B>=p1)))):Bool)with
  |true=>
   replace H:=H.kn 66 G;exact AO 8 [(74,.bool true)] H λD H=>BC H G
  | false=>
   replace H:=H.kn 66 G;refine AO 3 [(69,.bool (!((p0.Kind==2)||(p0.Kind==3))))] H λD H=>Ba 4 (λN Q=>h1=Q/\Has N 138 [(2,.ptr (some (h.size,0))),(66,.bool false),(73,.bool ((!((p0.Kind==2)||(p0.Kind==3)))&&(p0.B !=0)))]) ?_ ?_
   ·cases G:(!((p0.Kind==2)||(p0.Kind==3)):Bool)with
    |true=>
     replace H:=H.kn 69 G;refine AV 1 [] 71 0 2 A H λD t H=>?_;exact AO 2 [(73,.bool (p0.B !=0))] H λD H=>BC H G
    |false=>
     replace H:=H.kn 69 G;exact AO 4 [(73,.bool false)] H λD H=>BC H G
   intro t D Q I;obtain⟨e,H⟩:=I;subst e;exact AO 1 [(74,.bool ((!((p0.Kind==2)||(p0.Kind==3)))&&(p0.B !=0)))] H λD H=>BC H G
 intro t D Q I;obtain⟨e,H⟩:=I;subst e;refine BX id (Al 74 H M (λG M H=>?_) λG M H=>?_)
 ·refine AM 1 (AZ 1 [(4,.bool false)] H λD H=>Ax ?_);obtain rfl:=Aw M;refine⟨.inl rfl,.bool false,rH H,?_⟩;replace A:=A.d0;exact⟨rfl,A⟩
 refine DD id (Ag (AM 8 (AV 1 [] 76 0 0 A H λD t H=>?_)));refine AO 2 [(78,.bool (p0.Kind !=1))] H λD H=>Ba 4 (λN Q=>h1=Q/\Has N 138 [(2,.ptr (some (h.size,0))),(82,.bool ((p0.Kind !=1)&&(!(p0.S==([]:Ym)))))]) ?_ ?_
 ·cases G:(p0.Kind !=1:Bool)with
  |true=>
   replace H:=H.kn 78 G;refine AV 1 [] 80 0 6 A H λD t H=>?_;exact AO 2 [(82,.bool (!(p0.S==([]:Ym))))] H λD H=>BC H G
  |false=>
   replace H:=H.kn 78 G;exact AO 4 [(82,.bool false)] H λD H=>BC H G
 intro t D Q I;obtain⟨e,H⟩:=I;subst e;refine BX id (Al 82 H M (λG M H=>?_) λG M H=>?_)
 ·refine AM 1 (AZ 1 [(4,.bool false)] H λD H=>Ax ?_);obtain rfl:=Aw M;refine⟨.inl rfl,.bool false,rH H,?_⟩;replace A:=A.d0;exact⟨rfl,A⟩
 refine DD id (Ag ?_);obtain⟨o1,O,M⟩:=AI M;refine BB (Q':=λe N Q=>(e=.normal/\.inl ()=o1/\Has N 138 [(2,.ptr (some (h.size,0)))]/\HH g Q [.obj h.size (.cells none 2 (AA p0))] F)\/(∃x1,e=.ret/\.inr x1=o1/\Has N 138 [(4,.bool x1)]/\HH g Q [.obj h.size (.cells none 2 (AA p0))] F)\/False) ?_ ?_
 ·replace M:=O;clear O;refine AM 3 (AV 1 [] 84 0 0 A H λD t H=>?_);refine AZ 1 [(85,.bool (p0.Kind==4))] H λD H=>Al 85 H M (λG M H=>?_) λG M H=>?_
  ·refine AM 30 (AV 1 [] 87 0 3 A H λD t H=>?_);refine AO 2 [(89,.bool (decide (p0.Min<0)))] H λD H=>Ba 4 (λN Q=>h1=Q/\Has N 138 [(2,.ptr (some (h.size,0))),(93,.bool ((decide (p0.Min<0))||(decide (p0.Min>255))))]) ?_ ?_
   ·cases G:(decide (p0.Min<0):Bool)with
    |true=>
     replace H:=H.kn 89 G;exact AO 4 [(93,.bool true)] H λD H=>BC H G
    |false=>
     replace H:=H.kn 89 G;refine AV 1 [] 91 0 3 A H λD t H=>?_;exact AO 2 [(93,.bool (decide (p0.Min>255)))] H λD H=>BC H G
   intro t D Q I;obtain⟨e,H⟩:=I;subst e;refine AO 1 [(94,.bool ((decide (p0.Min<0))||(decide (p0.Min>255))))] H λD H=>Ba 4 (λN Q=>h1=Q/\Has N 138 [(2,.ptr (some (h.size,0))),(98,.bool (((decide (p0.Min<0))||(decide (p0.Min>255)))||(decide (p0.Max<(-1)))))]) ?_ ?_
   ·cases G:((decide (p0.Min<0))||(decide (p0.Min>255)):Bool)with
    |true=>
     replace H:=H.kn 94 G;exact AO 4 [(98,.bool true)] H λD H=>BC H G
    |false=>
     replace H:=H.kn 94 G;refine AV 1 [] 96 0 4 A H λD t H=>?_;exact AO 2 [(98,.bool (decide (p0.Max<(-1))))] H λD H=>BC H G
   intro t D Q I;obtain⟨e,H⟩:=I;subst e;refine AO 1 [(99,.bool (((decide (p0.Min<0))||(decide (p0.Min>255)))||(decide (p0.Max<(-1)))))] H λD H=>Ba 4 (λN Q=>h1=Q/\Has N 138 [(2,.ptr (some (h.size,0))),(103,.bool ((((decide (p0.Min<0))||(decide (p0.Min>255)))||(decide (p0.Max<(-1))))||(decide (p0.Max>255))))]) ?_ ?_
   ·cases G:(((decide (p0.Min<0))||(decide (p0.Min>255)))||(decide (p0.Max<(-1))):Bool)with
    |true=>
     replace H:=H.kn 99 G;exact AO 4 [(103,.bool true)] H λD H=>BC H G
    |false=>
     replace H:=H.kn 99 G;refine AV 1 [] 101 0 4 A H λD t H=>?_;exact AO 2 [(103,.bool (decide (p0.Max>255)))] H λD H=>BC H G
   intro t D Q I;obtain⟨e,H⟩:=I;subst e;refine AO 1 [(104,.bool ((((decide (p0.Min<0))||(decide (p0.Min>255)))||(decide (p0.Max<(-1))))||(decide (p0.Max>255))))] H λD H=>Ba 11 (λN Q=>h1=Q/\Has N 138 [(2,.ptr (some (h.size,0))),(115,.bool (((((decide (p0.Min<0))||(decide (p0.Min>255)))||(decide (p0.Max<(-1))))||(decide (p0.Max>255)))||((decide (p0.Max>=0))&&(decide (p0.Max<p0.Min)))))]) ?_ ?_
   ·cases G:((((decide (p0.Min<0))||(decide (p0.Min>255)))||(decide (p0.Max<(-1))))||(decide (p0.Max>255)):Bool)with
    |true=>
     replace H:=H.kn 104 G;exact AO 11 [(115,.bool true)] H λD H=>BC H G
    | false=>
     replace H:=H.kn 104 G;refine AV 1 [] 106 0 4 A H λD t H=>?_;refine AO 2 [(108,.bool (decide (p0.Max>=0)))] H λD H=>Ba 6 (λN Q=>h1=Q/\Has N 138 [(2,.ptr (some (h.size,0))),(104,.bool false),(114,.bool ((decide (p0.Max>=0))&&(decide (p0.Max<p0.Min))))]) ?_ ?_
     ·cases G:(decide (p0.Max>=0):Bool)with
      |true=>
       replace H:=H.kn 108 G;refine AV 1 [] 110 0 4 A H λD t H=>?_;refine AV 1 [] 112 0 3 A H λD t H=>?_;exact AO 2 [(114,.bool (decide (p0.Max<p0.Min)))] H λD H=>BC H G
      |false=>
       replace H:=H.kn 108 G;exact AO 6 [(114,.bool false)] H λD H=>BC H G
     intro t D Q I;obtain⟨e,H⟩:=I;subst e;exact AO 1 [(115,.bool ((decide (p0.Max>=0))&&(decide (p0.Max<p0.Min))))] H λD H=>BC H G
   intro t D Q I;obtain⟨e,H⟩:=I;subst e;refine BX id (Al 115 H M (λG M H=>?_) λG M H=>?_)
   ·refine AM 1 (AZ 1 [(4,.bool false)] H λD H=>Ax ?_);exact .inr (.inl ⟨_,rfl,Aw M,H.ls,A⟩)
   exact DI (.inl ⟨rfl,Aw M,H.ls,A⟩)
  refine AM 8 (AV 1 [] 117 0 3 A H λD t H=>?_);refine AO 2 [(119,.bool (p0.Min !=0))] H λD H=>Ba 4 (λN Q=>h1=Q/\Has N 138 [(2,.ptr (some (h.size,0))),(123,.bool ((p0.Min !=0)||(p0.Max !=0)))]) ?_ ?_
  ·cases G:(p0.Min !=0:Bool)with
   |true=>
    replace H:=H.kn 119 G;exact AO 4 [(123,.bool true)] H λD H=>BC H G
   |false=>
    replace H:=H.kn 119 G;refine AV 1 [] 121 0 4 A H λD t H=>?_;exact AO 2 [(123,.bool (p0.Max !=0))] H λD H=>BC H G
  intro t D Q I;obtain⟨e,H⟩:=I;subst e;refine BX id (Al 123 H M (λG M H=>?_) λG M H=>?_)
  ·refine AM 1 (AZ 1 [(4,.bool false)] H λD H=>Ax ?_);exact .inr (.inl ⟨_,rfl,Aw M,H.ls,A⟩)
  exact DI (.inl ⟨rfl,Aw M,H.ls,A⟩)
 clear O;clear A;intro e D J K;rcases K with⟨rfl,rfl,H,A⟩|⟨x1,rfl,rfl,H,A⟩|P
 ·show AW _ _ _ _ _ _ _;refine Ag (AM 3 (AV 1 [] 125 0 0 A H λD t H=>?_));refine AZ 1 [(126,.bool (p0.Kind==5))] H λD H=>Al 126 H M (λG M H=>?_) λG M H=>?_
  ·refine AM 9 (AV 1 [] 128 0 5 A H λD t H=>?_);refine AO 2 [(130,.bool (decide (p0.BO>=1)))] H λD H=>Ba 4 (λN Q=>J=Q/\Has N 138 [(134,.bool ((decide (p0.BO>=1))&&(decide (p0.BO<=1024))))]) ?_ ?_
   ·cases G:(decide (p0.BO>=1):Bool)with
    |true=>
     replace H:=H.kn 130 G;refine AV 1 [] 132 0 5 A H λD t H=>?_;exact AO 2 [(134,.bool (decide (p0.BO<=1024)))] H λD H=>BC H G
    |false=>
     replace H:=H.kn 130 G;exact AO 4 [(134,.bool false)] H λD H=>BC H G
   intro t D Q I;obtain⟨e,H⟩:=I;subst e;refine AZ 1 [(4,.bool ((decide (p0.BO>=1))&&(decide (p0.BO<=1024))))] H λD H=>Ax ?_;obtain rfl:=Aw M;refine⟨.inl rfl,.bool ((decide (p0.BO>=1))&&(decide (p0.BO<=1024))),rH H,?_⟩;replace A:=A.d0;exact⟨rfl,A⟩
  refine D3 4 id (AV 1 [] 136 0 5 A H λD t H=>?_);refine AZ 2 [(4,.bool (p0.BO==0))] H λD H=>Ax ?_;obtain rfl:=Aw M;refine⟨.inl rfl,.bool (p0.BO==0),rH H,?_⟩;replace A:=A.d0;exact⟨rfl,A⟩
 ·obtain rfl:=Aw M;refine⟨.inl rfl,.bool x1,rH H,?_⟩;replace A:=A.d0;exact⟨rfl,A⟩
 exact P.elim
def GC(p0:Aq)(s:Int):Option ((Int)⊕((Unit)⊕(Bool))):=
 match s with
 |x1=>Aj (decide (x1<(p0.L.length:Int))) ((Fy p0.L x1).bind λx3=>(FM x3 x1).bind λx4=>Aj (!x4) (some (.inr (.inr false))) (some (.inl (i64.wrap (x1+1))))) (some (.inr (.inl ())))
def Du(p0:Aq):Option (Bool):=
 Aj (((decide ((p0.L.length:Int)>1024))||(decide (p0.Ac<0)))||(decide (p0.Ac>=(p0.L.length:Int)))) (some false) ((loop (GC p0) (0:Int)).bind λo1=>(match o1 with| .inl _=>some true| .inr x2=>some x2))
theorem Lv{p0 q0}(M:Du p0=some q0)(A:HH g h [] F)(hc:CB (cfg.still 7) av=[.agg [vs AA p0.L,Ai p0.Ac]]:=by kernel_rfl):∃v Q,Bw cfg g h 7 av v Q/\v=.bool q0/\HH g Q [] F:=by
 refine Hs 36 [.tmp 2] hc ?_;clear hc;unfold Du at M;refine bg 36 [(0,.agg [vs AA p0.L,Ai p0.Ac])] λD H=>?_;refine AM 2 ?_;obtain⟨h1,e1,A⟩:=A.pu (.cells none 2 [vs AA p0.L,Ai p0.Ac]);refine Bq 1 (.ptr (some (h.size,0))) e1 H λD t H=>?_;refine AZ 1 [] H λD H=>Ag (AM 17 (AV 1 [] 5 0 0 A H λD t H=>?_));refine AO 3 [(8,.bool (decide ((p0.L.length:Int)>1024)))] H λD H=>Ba 4 (λN Q=>h1=Q/\Has N 36 [(1,.ptr (some (h.size,0))),(12,.bool ((decide ((p0.L.length:Int)>1024))||(decide (p0.Ac<0))))]) ?_ ?_
 ·cases G:(decide ((p0.L.length:Int)>1024):Bool)with
  |true=>
   replace H:=H.kn 8 G;exact AO 4 [(12,.bool true)] H λD H=>BC H G
  |false=>
   replace H:=H.kn 8 G;refine AV 1 [] 10 0 1 A H λD t H=>?_;exact AO 2 [(12,.bool (decide (p0.Ac<0)))] H λD H=>BC H G
 intro t D Q I;obtain⟨e,H⟩:=I;subst e;refine AO 1 [(13,.bool ((decide ((p0.L.length:Int)>1024))||(decide (p0.Ac<0))))] H λD H=>Ba 7 (λN Q=>h1=Q/\Has N 36 [(1,.ptr (some (h.size,0))),(20,.bool (((decide ((p0.L.length:Int)>1024))||(decide (p0.Ac<0)))||(decide (p0.Ac>=(p0.L.length:Int)))))]) ?_ ?_
 ·cases G:((decide ((p0.L.length:Int)>1024))||(decide (p0.Ac<0)):Bool)with
  |true=>
   replace H:=H.kn 13 G;exact AO 7 [(20,.bool true)] H λD H=>BC H G
  |false=>
   replace H:=H.kn 13 G;refine AV 1 [] 15 0 1 A H λD t H=>?_;refine AV 1 [] 17 0 0 A H λD t H=>?_;exact AO 3 [(20,.bool (decide (p0.Ac>=(p0.L.length:Int))))] H λD H=>BC H G
 intro t D Q I;obtain⟨e,H⟩:=I;subst e;refine BX id (Al 20 H M (λG M H=>?_) λG M H=>?_)
 ·refine AM 1 (AZ 1 [(2,.bool false)] H λD H=>Ax ?_);obtain rfl:=Aw M;refine⟨.inl rfl,.bool false,rH H,?_⟩;replace A:=A.d0;exact⟨rfl,A⟩
 refine DD id (Ag (AM 1 (AZ 1 [(3,Ai 0)] H λD H=>Am (id:=0) (by kernel_rfl) ?_)));obtain⟨o1,O,M⟩:=AI M;refine BB (Q':=λe N Q=>(e=.exit 0/\.inl ()=o1/\Has N 36 []/\HH g Q [.obj h.size (.cells none 2 [vs AA p0.L,Ai p0.Ac])] F)\/(∃x2,e=.ret/\.inr x2=o1/\Has N 36 [(2,.bool x2)]/\HH g Q [.obj h.size (.cells none 2 [vs AA p0.L,Ai p0.Ac])] F)\/False) ?_ ?_
 ·refine CR (by kernel_rfl) (λ(s:Int) N Q=>∃x1,x1=s/\Has N 36 [(1,.ptr (some (h.size,0))),(3,Ai x1)]/\HH g Q [.obj h.size (.cells none 2 [vs AA p0.L,Ai p0.Ac])] F) O ⟨_,rfl,H.ls,A⟩ ?_;clear O M H A;intro s q D J Y M;obtain⟨x1,rfl,H,A⟩:=Y;unfold GC at M;refine Ag (AM 5 (AV 2 [(21,Ai x1)] 23 0 0 A H λD t H=>?_));refine AZ 2 [(25,.bool (decide (x1<(p0.L.length:Int))))] H λD H=>Al 25 H M (λG M H=>?_) λG M H=>?_
  ·refine DD id (Ag (Am (id:=1) (by kernel_rfl) ?_));refine AM 8 (AV 1 [] 29 0 0 A H λD t H=>?_);obtain⟨x3,X,M⟩:=AI M;refine Bk 1 [] 31 (.Ee (AA x3)) J H (λD=>.of (G1 (e:=AA) (x:=x3) BN (by decide) (by kernel_rfl) X)) λD t H=>?_;refine Az 32 (.agg (AA x3)) J H (λD=>.of (Jk (by kernel_rfl))) λD t H=>?_;obtain⟨x4,X,M⟩:=AI M;obtain⟨v1,T,R,rfl,E⟩:=Mh (av:=[.agg (AA x3),Ai x1]) X (A.cut 0);replace A:=A.II E;refine BK 1 [] 34 R H λD t H=>?_;refine AZ 1 [(35,.bool (!x4))] H λD H=>Al 35 H M (λG M H=>?_) λG M H=>?_
   ·refine AM 1 (AZ 1 [(2,.bool false)] H λD H=>Ax ?_);exact nr M λe=>Or.inr (.inl ⟨_,rfl,e,H.ls,A⟩)
   refine Mu 3 id (B6 3 [(1,.ptr (some (h.size,0))),(3,Ai (i64.wrap (x1+1)))] H λD H=>AY ?_);exact nx M ⟨_,rfl,H.ls,A⟩
  refine Bx (i:=0) (by kernel_rfl) ?_;exact nr M λe=>.inl ⟨rfl,e,H.ls,A⟩
 clear O;clear A;intro e D W K;rcases K with⟨rfl,rfl,H,A⟩|⟨x2,rfl,rfl,H,A⟩|P
 ·show AW _ _ _ _ _ _ _;refine AM 1 (AZ 1 [(2,.bool true)] H λD H=>Ax ?_);obtain rfl:=Aw M;refine⟨.inl rfl,.bool true,rH H,?_⟩;replace A:=A.d0;exact⟨rfl,A⟩
 ·obtain rfl:=Aw M;refine⟨.inl rfl,.bool x2,rH H,?_⟩;replace A:=A.d0;exact⟨rfl,A⟩
 exact P.elim
def FA(p1:List UInt8)(x1:List Bool)(s:(List Int)×Int):Option (((List Int)×Int)⊕(((List Int)))):=
 match s with
 |(x2,x3)=>Aj (decide (x3<=(p1.length:Int))) (((Fy x1 x3).bind λx6=>Aj x6 (F6 (Pb 8 (x2.length+([x3]:List Int).length))<|some (x2++([x3]:List Int))) (some x2):Option (((List Int)))).bind λx5=>some (.inl (x5,i64.wrap (x3+1)))) (some (.inr x2))
def E0(p0:Aq)(p1:List UInt8)(p2:Int):Option ((List Int)):=
 Aj ((decide (p2<0))||(decide (p2>(p1.length:Int)))) (some ([]:List Int)) ((HP (Af AA p0.L) p0.L.length p0.Ac p0.Ac p1 p2).bind λx1=>(loop (FA p1 x1) (([]:List Int),(0:Int))).bind λx4=>some x4)
theorem MF{p0 p1 p2 q0}(M:E0 p0 p1 p2=some q0)(A:HH g h [] F)(hc:CB (cfg.still 20) av=[.agg [vs AA p0.L,Ai p0.Ac],.str p1,Ai p2]:=by kernel_rfl):∃v Q,Bw cfg g h 20 av v Q/\∃(rq0:Option Nat),v=AR rq0 q0.length/\HH g Q [.Af rq0 3 (Af (eI .i64) q0)] F:=by
 refine Hs 41 [.tmp 6] hc ?_;clear hc;unfold E0 at M;refine bg 41 [(0,.agg [vs AA p0.L,Ai p0.Ac]),(1,.str p1),(2,Ai p2)] λD H=>?_;refine AM 2 ?_;obtain⟨h1,e1,A⟩:=A.pu (.cells none 2 [vs AA p0.L,Ai p0.Ac]);refine Bq 3 (.ptr (some (h.size,0))) e1 H λD t H=>?_;refine Eo 1 [] 2 H λD H=>?_;obtain⟨J,e2,A⟩:=A.pL 3 [];refine Bq 10 (AR (some h1.size) (([]:List Int).length)) e2 H λD t H=>?_;refine AZ 1 [(7,AR (some h1.size) (([]:List Int).length))] H λD H=>Ag (AM 8 (AO 3 [(13,.bool (decide (p2<0)))] H λD H=>Ba 5 (λN Q=>J=Q/\Has N 41 [(1,.str p1),(2,Ai p2),(3,.ptr (some (h.size,0))),(7,AR (some h1.size) (([]:List Int).length)),(18,.bool ((decide (p2<0))||(decide (p2>(p1.length:Int)))))]) ?_ ?_))
 ·cases G:(decide (p2<0):Bool)with
  |true=>
   replace H:=H.kn 13 G;exact AO 5 [(18,.bool true)] H λD H=>BC H G
  |false=>
   replace H:=H.kn 13 G;exact AO 5 [(18,.bool (decide (p2>(p1.length:Int))))] H λD H=>BC H G
 intro t D Q I;obtain⟨e,H⟩:=I;subst e;refine BX id (Al 18 H M (λG M H=>?_) λG M H=>?_)
 ·refine AM 2 (AZ 2 [(6,AR (some h1.size) (([]:List Int).length))] H λD H=>Ax ?_);obtain rfl:=Aw M;refine⟨.inl rfl,AR (some h1.size) (([]:List Int).length),rH H,?_⟩;replace A:HH g J [.Af (some h1.size) 3 (Af (eI .i64) ([]:List Int)),.obj h.size (.cells none 2 [vs AA p0.L,Ai p0.Ac])] F:=A;replace A:=A.d1;exact⟨some h1.size,rfl,A⟩
 refine D3 7 id (Az 20 _ _ H (λD=>.of (Bb (by kernel_rfl) (A.Eb 1 rfl (o:=0) (n:=2) ⟨zb rfl,rfl⟩))) λD t H=>?_);refine AV 1 [] 22 1 1 A H λD t H=>?_;obtain⟨x1,X,M⟩:=AI M;refine Bk 2 [] 25 (vs eB x1) J H (λD=>Steps.call (by kernel_rfl) (K0 (C:=cfg) (f:=38) (e:=AA) (xs:=p0.L) (by kernel_rfl) (l:=exts) rfl (by kernel_rfl) rfl (OA BN _ p0.L) X)) λD t H=>?_;refine AZ 1 [(8,vs eB x1)] H λD H=>Ag (AM 1 (AZ 1 [(9,Ai 0)] H λD H=>Am (id:=0) (by kernel_rfl) ?_));replace A:HH g J [.Af (some h1.size) 3 (Af (eI .i64) ([]:List Int)),.obj h.size (.cells none 2 [vs AA p0.L,Ai p0.Ac])] F:=A;obtain⟨o1,O,M⟩:=AI M;refine BB (Q':=λe N Q=>(∃x4,e=.exit 0/\x4=o1/\∃r2,Has N 41 [(7,AR r2 x4.length)]/\HH g Q [.Af r2 3 (Af (eI .i64) x4),.obj h.size (.cells none 2 [vs AA p0.L,Ai p0.Ac])] F)\/False) ?_ ?_
 ·refine CR (by kernel_rfl) (λ(s:(List Int)×Int) N Q=>∃x2 x3,(x2,x3)=s/\∃r1,Has N 41 [(1,.str p1),(7,AR r1 x2.length),(8,vs eB x1),(9,Ai x3)]/\HH g Q [.Af r1 3 (Af (eI .i64) x2),.obj h.size (.cells none 2 [vs AA p0.L,Ai p0.Ac])] F) O ⟨_,_,rfl,some h1.size,H.ls,A⟩ ?_;clear O M H A;intro s q D T Y M;obtain⟨x2,x3,rfl,r1,H,A⟩:=Y;unfold FA at M;refine Ag (AM 4 (AZ 4 [(29,.bool (decide (x3<=(p1.length:Int))))] H λD H=>Al 29 H M (λG M H=>?_) λG M H=>?_))
  ·refine DD id (Ag ?_);obtain⟨o2,O,M⟩:=AI M;refine BB (Q':=λe N Q=>(∃x5,e=.normal/\x5=o2/\∃r3,Has N 41 [(1,.str p1),(7,AR r3 x5.length),(8,vs eB x1),(9,Ai x3)]/\HH g Q [.Af r3 3 (Af (eI .i64) x5),.obj h.size (.cells none 2 [vs AA p0.L,Ai p0.Ac])] F)\/False) ?_ ?_
   ·replace M:=O;clear O;refine Am (id:=1) (by kernel_rfl) ?_;refine AM 4 ?_;obtain⟨x6,X,M⟩:=AI M;refine Bk 2 [] 34 (.Ee [.bool x6]) T H (λD=>.of (G1 (e:=eB) (x:=x6) F5 (by decide) (by kernel_rfl) X)) λD t H=>?_;refine Az 35 (.bool x6) T H (λD=>.of (Jk (by kernel_rfl))) λD t H=>?_;refine BX id (Al 35 H M (λG M H=>?_) λG M H=>?_)
    ·refine Cb 5 (AO 2 [(36,AR r1 x2.length),(37,Ai x3)] H λD H=>?_);obtain⟨W,e3,A⟩:=A.pL 3 [Ai x3];refine Bq 38 (AR (some T.size) (([x3]:List Int).length)) e3 H λD t H=>?_;obtain⟨G,M⟩:=B0 M;obtain⟨r4,Z,X,E⟩:=HH.OJ (encI .i64) (by decide) A 1 (xs:=x2) (ys:=([x3]:List Int)) rfl (Dm A 0 rfl (n:=([x3]:List Int).length) (z:=1) rfl (by decide)) rfl rfl G;replace A:HH g Z [.Af (some T.size) 3 ([Ai x3]),.Af r4 3 (Af (eI .i64) (x2++([x3]:List Int))),_] F:=E;replace A:=A.k2 1 2;refine Az 39 _ _ H (λD=>.of (JF (s:=DM r1 x2.length) (by kernel_rfl) X)) λD t H=>?_;refine B6 1 [(1,.str p1),(7,AR r4 ((x2++([x3]:List Int)).length)),(8,vs eB x1),(9,Ai x3)] H λD H=>AY ?_;exact .inl ⟨_,rfl,Aw M,_,H.ls,A⟩
    exact DI (.inl ⟨_,rfl,Aw M,_,H.ls,A⟩)
   clear O;clear A;intro e D h6 K;rcases K with⟨x5,rfl,rfl,r3,H,A⟩|P
   ·show AW _ _ _ _ _ _ _;refine Cb 3 (B6 3 [(1,.str p1),(7,AR r3 x5.length),(8,vs eB x1),(9,Ai (i64.wrap (x3+1)))] H λD H=>AY ?_);exact nx M ⟨_,_,rfl,_,H.ls,A⟩
   exact P.elim
  refine Bx (i:=0) (by kernel_rfl) ?_;exact nr M λe=>.inl ⟨_,rfl,e,_,H.ls,A⟩
 clear O;clear A;intro e D V K;rcases K with⟨x4,rfl,rfl,r2,H,A⟩|P
 ·show AW _ _ _ _ _ _ _;refine AM 2 (AZ 2 [(6,AR r2 x4.length)] H λD H=>Ax ?_);obtain rfl:=Aw M;refine⟨.inl rfl,AR r2 x4.length,rH H,?_⟩;replace A:=A.d1;exact⟨r2,rfl,A⟩
 exact P.elim
def GZ(p0:Aq)(p1:List UInt8)(s:Int):Option ((Int)⊕((Unit)⊕(Int×Int×Bool))):=
 match s with
 |x1=>Aj (decide (x1<=(p1.length:Int))) ((E0 p0 p1 x1).bind λx5=>Aj (decide ((x5.length:Int)>0)) ((Fy x5 (i64.wrap ((x5.length:Int) - 1))).bind λx6=>some (.inr (.inr (x1,x6,true)))) (some (.inl (i64.wrap (x1+1))))) (some (.inr (.inl ())))
def E4(p0:Aq)(p1:List UInt8)(p2:Int):Option (Ej):=
 (loop (GZ p0 p1) (mx p2 (0:Int))).bind λo1=>(match o1 with| .inl _=>some (⟨(0:Int),(0:Int),false⟩:Ej)| .inr (x2,x3,x4)=>some (⟨x2,x3,x4⟩:Ej))
theorem L4{p0 p1 p2 q0}(M:E4 p0 p1 p2=some q0)(A:HH g h [] F)(hc:CB (cfg.still 10) av=[.agg [vs AA p0.L,Ai p0.Ac],.str p1,Ai p2]:=by kernel_rfl):∃v Q,Bw cfg g h 10 av v Q/\v=.agg (B8 q0)/\HH g Q [] F:=by
 refine Hs 33 [.cell 6 35] hc ?_;clear hc;unfold E4 at M;refine bg 33 [(0,.agg [vs AA p0.L,Ai p0.Ac]),(1,.str p1),(2,Ai p2)] λD H=>?_;refine AM 2 ?_;obtain⟨h1,e1,A⟩:=A.pu (.cells none 2 [vs AA p0.L,Ai p0.Ac]);refine Bq 3 (.ptr (some (h.size,0))) e1 H λD t H=>?_;obtain⟨J,e2,A⟩:=A.pu (.cells none 2 [Ai 0,Ai 0,.bool false]);refine Bq 6 (.ptr (some (h1.size,0))) e2 H λD t H=>?_;refine BX id (Ag (AM 3 (AZ 3 [(7,Ai (mx p2 (0:Int)))] H λD H=>Am (id:=0) (by kernel_rfl) ?_)));obtain⟨o1,O,M⟩:=AI M;refine BB (Q':=λe N Q=>(e=.exit 0/\.inl ()=o1/\Has N 33 [(6,.ptr (some (h1.size,0)))]/\HH g Q [.obj h1.size (.cells none 2 [Ai 0,Ai 0,.bool false]),.obj h.size (.cells none 2 [vs AA p0.L,Ai p0.Ac])] F)\/(∃x2 x3 x4,e=.ret/\.inr (x2,x3,x4)=o1/\Has N 33 [(6,.ptr (some (h1.size,0)))]/\HH g Q [.obj h1.size (.cells none 2 [Ai x2,Ai x3,.bool x4]),.obj h.size (.cells none 2 [vs AA p0.L,Ai p0.Ac])] F)\/False) ?_ ?_
 ·refine CR (by kernel_rfl) (λ(s:Int) N Q=>∃x1,x1=s/\Has N 33 [(1,.str p1),(3,.ptr (some (h.size,0))),(6,.ptr (some (h1.size,0))),(7,Ai x1)]/\HH g Q [.obj h1.size (.cells none 2 [Ai 0,Ai 0,.bool false]),.obj h.size (.cells none 2 [vs AA p0.L,Ai p0.Ac])] F) O ⟨_,rfl,H.ls,A⟩ ?_;clear O M H A;intro s q D T Y M;obtain⟨x1,rfl,H,A⟩:=Y;unfold GZ at M;refine Ag (AM 4 (AZ 4 [(14,.bool (decide (x1<=(p1.length:Int))))] H λD H=>Al 14 H M (λG M H=>?_) λG M H=>?_))
  ·refine DD id (Ag (Am (id:=1) (by kernel_rfl) ?_));refine AM 5 (Az 17 _ _ H (λD=>.of (Bb (by kernel_rfl) (A.Eb 1 rfl (o:=0) (n:=2) ⟨zb rfl,rfl⟩))) λD t H=>?_);obtain⟨x5,X,M⟩:=AI M;obtain⟨v1,W,R,rqw1,rfl,E⟩:=MF (av:=[.agg [vs AA p0.L,Ai p0.Ac],.str p1,Ai x1]) X (A.cut 0);replace A:=A.Xp E;refine BK 2 [] 20 R H λD t H=>?_;refine Eo 1 [(8,AR rqw1 x5.length)] 3 H λD H=>AZ 3 [(23,.bool (decide ((x5.length:Int)>0)))] H λD H=>Al 23 H M (λG M H=>?_) λG M H=>?_
   ·refine AM 9 ?_;obtain⟨x6,X,M⟩:=AI M;obtain⟨i1,er1,_,X,hq1⟩:=HH.OU (encI .i64) (by decide) A 0 (xs:=x5) rfl X;refine Bk 5 [(24,Ai x1)] 29 (.ptr (some (i1,(i64.wrap ((x5.length:Int) - 1)).toNat*1))) W H (λD=>.of (Ct (s:=DM rqw1 x5.length) (by kernel_rfl) X)) λD t H=>?_;refine Az 30 _ _ H (λD=>.of (Cx (by kernel_rfl) (KT (encI .i64) (HH.row A 0 rfl er1) hq1 (o:=0) rfl))) λD t H=>?_;obtain⟨Z,X,A⟩:=A.s1 0 [Ai x1,Ai x6,.bool true] [_,_,_];refine JI 1 [] X H λD t H=>?_;refine BX id (Ax ?_);replace A:=A.k2 1 2;exact nr M λe=>Or.inr (.inl ⟨_,_,_,rfl,e,H.ls,A⟩)
   refine Mu 3 id (B6 3 [(1,.str p1),(3,.ptr (some (h.size,0))),(6,.ptr (some (h1.size,0))),(7,Ai (i64.wrap (x1+1)))] H λD H=>AY ?_);replace A:=A.k2 1 2;exact nx M ⟨_,rfl,H.ls,A⟩
  refine Bx (i:=0) (by kernel_rfl) ?_;exact nr M λe=>.inl ⟨rfl,e,H.ls,A⟩
 clear O;clear A;intro e D h6 K;rcases K with⟨rfl,rfl,H,A⟩|⟨x2,x3,x4,rfl,rfl,H,A⟩|P
 ·show AW _ _ _ _ _ _ _;refine AM 2 ?_;obtain⟨V,X,A⟩:=A.s0 0 [Ai 0,Ai 0,.bool false] [_,_,_];refine JI 1 [] X H λD t H=>?_;refine BX id (Ax ?_);obtain rfl:=Aw M;refine⟨.inl rfl,.agg [Ai 0,Ai 0,.bool false],IE (.cell (rT H) (CE (by kernel_rfl) (by kernel_rfl) (A.la 0 0 3)) .nil),?_⟩;replace A:=A.d0;exact⟨rfl,A⟩
 ·obtain rfl:=Aw M;refine⟨.inl rfl,.agg [Ai x2,Ai x3,.bool x4],IE (.cell (rT H) (CE (by kernel_rfl) (by kernel_rfl) (A.la 0 0 3)) .nil),?_⟩;replace A:=A.d0;exact⟨rfl,A⟩
 exact P.elim
structure FE where
 CT:Aq->Int->Option (Int)
structure Hn(S:FE):Prop where
 D6:∀{g:Gd} {h:AE} {F:List Ck} {p0:Aq} {p1:Int} {q0:Int} {av:List AD} (M:S.CT p0 p1=some q0) (hc:CB (cfg.still 31) av=[.agg [vs AA p0.L,Ai p0.Ac],Ai p1]) (A:HH g h [] F),∃v Q,Bw cfg g h 31 av v Q/\v=Ai q0/\HH g Q [] F
def EU(S:FE)(p0:Aq)(p1:Int):Option (Int):=
 (Fy p0.L p1).bind λx1=>(Aj ((decide (x1.Kind>=2))&&(decide (x1.Kind<=5))) ((S.CT p0 x1.A).bind λx3=>some (mx x1.BO x3)) (some x1.BO):Option ((Int))).bind λx2=>(Aj ((x1.Kind==2)||(x1.Kind==3)) ((S.CT p0 x1.B).bind λx5=>some (mx x2 x5)) (some x2):Option ((Int))).bind λx4=>some x4
theorem LC{S:FE}(hS:Hn S){p0 p1 q0}(M:EU S p0 p1=some q0)(hc:CB (cfg.still 31) av=[.agg [vs AA p0.L,Ai p0.Ac],Ai p1])(A:HH g h [] F):∃v Q,Bw cfg g h 31 av v Q/\v=Ai q0/\HH g Q [] F:=by
 refine Hs 43 [.tmp 4] hc ?_;clear hc;unfold EU at M;refine bg 43 [(0,.agg [vs AA p0.L,Ai p0.Ac]),(1,Ai p1)] λD H=>?_;refine AM 2 ?_;obtain⟨h1,e1,A⟩:=A.pu (.cells none 2 [vs AA p0.L,Ai p0.Ac]);refine Bq 2 (.ptr (some (h.size,0))) e1 H λD t H=>?_;refine Eo 1 [] 7 H λD H=>AV 1 [] 8 0 0 A H λD t H=>?_;obtain⟨x1,X,M⟩:=AI M;refine Bk 1 [] 10 (.Ee (AA x1)) h1 H (λD=>.of (G1 (e:=AA) (x:=x1) BN (by decide) (by kernel_rfl) X)) λD t H=>?_;refine Az 11 (.agg (AA x1)) h1 H (λD=>.of (Jk (by kernel_rfl))) λD t H=>?_;obtain⟨J,e2,A⟩:=A.pu (.cells none 2 X5);refine Bq 5 (.ptr (some (h1.size,0))) e2 H λD t H=>?_;obtain⟨T,X,E⟩:=A.st 0 rfl (o:=0) (new:=(AA x1)) (ds:=(AA x1)) (zb rfl) rfl rfl;replace A:HH g T [.obj h1.size (.cells none 2 (AA x1)),.obj h.size (.cells none 2 [vs AA p0.L,Ai p0.Ac])] F:=E;refine DL X H λD t H=>?_;refine Ce 3 id (AV 1 [] 13 0 5 A H λD t H=>?_);refine AZ 1 [(6,Ai x1.BO)] H λD H=>Ag ?_;obtain⟨o1,O,M⟩:=AI M;refine BB (Q':=λe N Q=>(∃x2,e=.normal/\x2=o1/\Has N 43 [(2,.ptr (some (h.size,0))),(5,.ptr (some (h1.size,0))),(6,Ai x2)]/\HH g Q [.obj h1.size (.cells none 2 (AA x1)),.obj h.size (.cells none 2 [vs AA p0.L,Ai p0.Ac])] F)\/False) ?_ ?_
 ·replace M:=O;clear O;refine AM 8 (AV 1 [] 15 0 0 A H λD t H=>?_);refine AO 2 [(17,.bool (decide (x1.Kind>=2)))] H λD H=>Ba 4 (λN Q=>T=Q/\Has N 43 [(2,.ptr (some (h.size,0))),(5,.ptr (some (h1.size,0))),(6,Ai x1.BO),(21,.bool ((decide (x1.Kind>=2))&&(decide (x1.Kind<=5))))]) ?_ ?_
  ·cases G:(decide (x1.Kind>=2):Bool)with
   |true=>
    replace H:=H.kn 17 G;refine AV 1 [] 19 0 0 A H λD t H=>?_;exact AO 2 [(21,.bool (decide (x1.Kind<=5)))] H λD H=>BC H G
   |false=>
    replace H:=H.kn 17 G;exact AO 4 [(21,.bool false)] H λD H=>BC H G
  intro t D Q I;obtain⟨e,H⟩:=I;subst e;refine BX id (Al 21 H M (λG M H=>?_) λG M H=>?_)
  ·refine Cb 7 (Bk 1 [(22,Ai x1.BO)] 23 _ _ H (λD=>.of (Bb (by kernel_rfl) (A.Eb 1 rfl (o:=0) (n:=2) ⟨zb rfl,rfl⟩))) λD t H=>?_);refine AV 1 [] 25 0 1 A H λD t H=>?_;have E:=A.cut 0;obtain⟨x3,X,M⟩:=AI M;obtain⟨v1,W,R,rfl,E⟩:=hS.D6 (av:=[.agg [vs AA p0.L,Ai p0.Ac],Ai x1.A]) X (by kernel_rfl) E;replace A:=A.II E;refine CA 26 R H λD t H=>?_;refine B6 2 [(2,.ptr (some (h.size,0))),(5,.ptr (some (h1.size,0))),(6,Ai (mx x1.BO x3))] H λD H=>AY ?_;exact .inl ⟨_,rfl,Aw M,H.ls,A⟩
  exact DI (.inl ⟨_,rfl,Aw M,H.ls,A⟩)
 clear O;clear A;intro e D Z K;rcases K with⟨x2,rfl,rfl,H,A⟩|P
 ·show AW _ _ _ _ _ _ _;refine Ag ?_;obtain⟨o2,O,M⟩:=AI M;refine BB (Q':=λe N Q=>(∃x4,e=.normal/\x4=o2/\Has N 43 [(6,Ai x4)]/\HH g Q [.obj h1.size (.cells none 2 (AA x1)),.obj h.size (.cells none 2 [vs AA p0.L,Ai p0.Ac])] F)\/False) ?_ ?_
  ·replace M:=O;clear O;refine AM 8 (AV 1 [] 29 0 0 A H λD t H=>?_);refine AO 2 [(31,.bool (x1.Kind==2))] H λD H=>Ba 4 (λN Q=>Z=Q/\Has N 43 [(2,.ptr (some (h.size,0))),(5,.ptr (some (h1.size,0))),(6,Ai x2),(35,.bool ((x1.Kind==2)||(x1.Kind==3)))]) ?_ ?_
   ·cases G:(x1.Kind==2:Bool)with
    |true=>
     replace H:=H.kn 31 G;exact AO 4 [(35,.bool true)] H λD H=>BC H G
    |false=>
     replace H:=H.kn 31 G;refine AV 1 [] 33 0 0 A H λD t H=>?_;exact AO 2 [(35,.bool (x1.Kind==3))] H λD H=>BC H G
   intro t D Q I;obtain⟨e,H⟩:=I;subst e;refine BX id (Al 35 H M (λG M H=>?_) λG M H=>?_)
   ·refine Cb 7 (Bk 1 [(36,Ai x2)] 37 _ _ H (λD=>.of (Bb (by kernel_rfl) (A.Eb 1 rfl (o:=0) (n:=2) ⟨zb rfl,rfl⟩))) λD t H=>?_);refine AV 1 [] 39 0 2 A H λD t H=>?_;have E:=A.cut 0;obtain⟨x5,X,M⟩:=AI M;obtain⟨v1,h6,R,rfl,E⟩:=hS.D6 (av:=[.agg [vs AA p0.L,Ai p0.Ac],Ai x1.B]) X (by kernel_rfl) E;replace A:=A.II E;refine CA 40 R H λD t H=>?_;refine B6 2 [(6,Ai (mx x2 x5))] H λD H=>AY ?_;exact .inl ⟨_,rfl,Aw M,H.ls,A⟩
   exact DI (.inl ⟨_,rfl,Aw M,H.ls,A⟩)
  clear O;clear A;intro e D V K;rcases K with⟨x4,rfl,rfl,H,A⟩|P
  ·show AW _ _ _ _ _ _ _;refine AM 2 (AZ 2 [(4,Ai x4)] H λD H=>Ax ?_);obtain rfl:=Aw M;refine⟨.inl rfl,Ai x4,rH H,?_⟩;replace A:=A.d0;exact⟨rfl,A⟩
  exact P.elim
 exact P.elim
def Dq:Nat->FE
 |0=>⟨λ_ _=>none⟩
 |n+1=>⟨EU (Dq n)⟩
theorem He:∀n,Hn (Dq n)
 |0=>⟨λM=>(by cases M)⟩
 |n+1=>⟨λM hc A=>LC (He n) M hc A⟩
def CT:Aq->Int->Option (Int):=(Dq Gp).CT
theorem D6{p0 p1 q0}(M:CT p0 p1=some q0)(A:HH g h [] F)(hc:CB (cfg.still 31) av=[.agg [vs AA p0.L,Ai p0.Ac],Ai p1]:=by kernel_rfl):∃v Q,Bw cfg g h 31 av v Q/\v=Ai q0/\HH g Q [] F:=(He Gp).D6 M hc A
def EJ(p0:Aq)(p1:AJ)(p2:Int)(p3:List UInt8)(p4:Int):Option ((List Bool)):=
 (Aj (decide (p1.Max>=0)) (some (mx (i64.wrap (p1.Max - p2)) (0:Int))) (some p1.Max):Option ((Int))).bind λx1=>F6 (Pb 64 (([]:List AJ).length+p0.L.length))<|F6 (Pb 64 ((([]:List AJ)++p0.L).length+([(⟨p1.Kind,p1.A,p1.B,mx (i64.wrap (p1.Min - p2)) (0:Int),x1,p1.BO,p1.S⟩:AJ)]:List AJ).length))<|(HP (Af AA ((([]:List AJ)++p0.L)++([(⟨p1.Kind,p1.A,p1.B,mx (i64.wrap (p1.Min - p2)) (0:Int),x1,p1.BO,p1.S⟩:AJ)]:List AJ))) ((([]:List AJ)++p0.L)++([(⟨p1.Kind,p1.A,p1.B,mx (i64.wrap (p1.Min - p2)) (0:Int),x1,p1.BO,p1.S⟩:AJ)]:List AJ)).length (0:Int) (i64.wrap ((((([]:List AJ)++p0.L)++([(⟨p1.Kind,p1.A,p1.B,mx (i64.wrap (p1.Min - p2)) (0:Int),x1,p1.BO,p1.S⟩:AJ)]:List AJ)).length:Int) - 1)) p3 p4).bind λx2=>some x2
theorem MU{p0 p1 p2 p3 p4 q0}(M:EJ p0 p1 p2 p3 p4=some q0)(A:HH g h [] F)(hc:CB (cfg.still 62) av=[.agg [vs AA p0.L,Ai p0.Ac],.agg (AA p1),Ai p2,.str p3,Ai p4]:=by kernel_rfl):∃v Q,Bw cfg g h 62 av v Q/\v=vs eB q0/\HH g Q [] F:=by
 refine Hs 50 [.tmp 10] hc ?_;clear hc;unfold EJ at M;refine bg 50 [(0,.agg [vs AA p0.L,Ai p0.Ac]),(1,.agg (AA p1)),(2,Ai p2),(3,.str p3),(4,Ai p4)] λD H=>?_;refine AM 3 ?_;obtain⟨h1,e1,A⟩:=A.pu (.cells none 2 [vs AA p0.L,Ai p0.Ac]);refine Bq 5 (.ptr (some (h.size,0))) e1 H λD t H=>?_;obtain⟨J,e2,A⟩:=A.pu (.cells none 2 (AA p1));refine Bq 6 (.ptr (some (h1.size,0))) e2 H λD t H=>?_;refine Eo 1 [] 3 H λD H=>Az 13 _ _ H (λD=>.of (Bb (by kernel_rfl) (A.Eb 0 rfl (o:=0) (n:=7) ⟨zb rfl,rfl⟩))) λD t H=>?_;obtain⟨T,e3,A⟩:=A.pu (.cells none 2 X5);refine Bq 11 (.ptr (some (J.size,0))) e3 H λD t H=>?_;obtain⟨W,X,E⟩:=A.st 0 rfl (o:=0) (new:=(AA p1)) (ds:=(AA p1)) (zb rfl) rfl rfl;replace A:HH g W [.obj J.size (.cells none 2 (AA p1)),.obj h1.size (.cells none 2 (AA p1)),.obj h.size (.cells none 2 [vs AA p0.L,Ai p0.Ac])] F:=E;refine DL X H λD t H=>?_;refine Ce 7 id (AV 1 [] 15 1 3 A H λD t H=>?_);obtain⟨Z,X,A⟩:=A.s0 3 [Ai (mx (i64.wrap (p1.Min - p2)) (0:Int))] [_,_,_,_,_,_,_];refine FO 4 [] X H λD t H=>?_;refine BX id (Ag ?_);obtain⟨o1,O,M⟩:=AI M;refine BB (Q':=λe N Q=>(∃x1,e=.normal/\x1=o1/\Has N 50 [(3,.str p3),(4,Ai p4),(5,.ptr (some (h.size,0))),(11,.ptr (some (J.size,0)))]/\HH g Q [.obj J.size (.cells none 2 (GA p1 (Ai (mx (i64.wrap (p1.Min - p2)) (0:Int))) (Ai x1))),.obj h1.size (.cells none 2 (AA p1)),.obj h.size (.cells none 2 [vs AA p0.L,Ai p0.Ac])] F)\/False) ?_ ?_
 ·replace M:=O;clear O;refine AM 3 (AV 1 [] 21 1 4 A H λD t H=>?_);refine AZ 1 [(22,.bool (decide (p1.Max>=0)))] H λD H=>Al 22 H M (λG M H=>?_) λG M H=>?_
  ·refine Cb 7 (AV 1 [] 24 1 4 A H λD t H=>?_);obtain⟨h6,X,A⟩:=A.s0 4 [Ai (mx (i64.wrap (p1.Max - p2)) (0:Int))] [_,_,_,_,_,_,_];refine FO 4 [] X H λD t H=>?_;refine AY ?_;exact .inl ⟨_,rfl,Aw M,H.ls,A⟩
  exact DI (.inl ⟨_,rfl,Aw M,H.ls,A⟩)
 clear O;clear A;intro e D V K;rcases K with⟨x1,rfl,rfl,H,A⟩|P
 ·show AW _ _ _ _ _ _ _;refine AM 3 ?_;obtain⟨h8,e4,A⟩:=A.pu (.cells none 2 [.slice none 0,Ai 0]);refine Mq 1 [(29,.agg [.slice none 0,Ai (0:Int)])] 12 (.ptr (some (V.size,0))) e4 H λD t H=>?_;obtain⟨h9,X,A⟩:=A.s0 0 [.slice none 0,Ai 0] [_,_];refine DL X H λD t H=>?_;refine Ce 7 id (AV 1 [] 31 0 0 A H λD t H=>?_);refine AV 1 [] 33 3 0 A H λD t H=>?_;replace A:HH g h9 [.Af none 63 (Af AA ([]:List AJ)),_,_,_,_] F:=A.RE 63;obtain⟨G,M⟩:=B0 M;obtain⟨r1,h10,X,E⟩:=HH.OJ BN (by decide) A 0 (xs:=([]:List AJ)) (ys:=p0.L) rfl (OA BN _ p0.L) (BN.CB _) rfl G;replace A:HH g h10 [.Af r1 63 (Af AA (([]:List AJ)++p0.L)),_,_,_,_] F:=E;refine Az 34 _ _ H (λD=>.of (JF (s:=DM none (([]:List AJ).length)) (by kernel_rfl) X)) λD t H=>?_;obtain⟨U,X,E⟩:=A.st 1 rfl (o:=0) (new:=[AR r1 ((([]:List AJ)++p0.L).length)]) (ds:=[AR r1 ((([]:List AJ)++p0.L).length),Ai 0]) (zb rfl) rfl rfl;replace A:HH g U [_,.obj V.size (.cells none 2 [AR r1 ((([]:List AJ)++p0.L).length),Ai 0]),_,_,_] F:=E;refine FO 1 [] X H λD t H=>?_;refine Ce 7 id (AV 1 [] 37 1 0 A H λD t H=>?_);refine Az 38 _ _ H (λD=>.of (Bb (by kernel_rfl) (A.Eb 2 rfl (o:=0) (n:=7) ⟨zb rfl,rfl⟩))) λD t H=>?_;obtain⟨h12,e5,A⟩:=A.pL 63 (GA p1 (Ai (mx (i64.wrap (p1.Min - p2)) (0:Int))) (Ai x1));refine Bq 39 (AR (some U.size) (([(⟨p1.Kind,p1.A,p1.B,mx (i64.wrap (p1.Min - p2)) (0:Int),x1,p1.BO,p1.S⟩:AJ)]:List AJ).length)) e5 H λD t H=>?_;obtain⟨G,M⟩:=B0 M;obtain⟨r2,h13,X,E⟩:=HH.OJ BN (by decide) A 1 (xs:=(([]:List AJ)++p0.L)) (ys:=([(⟨p1.Kind,p1.A,p1.B,mx (i64.wrap (p1.Min - p2)) (0:Int),x1,p1.BO,p1.S⟩:AJ)]:List AJ)) rfl (Dm A 0 rfl (n:=([(⟨p1.Kind,p1.A,p1.B,mx (i64.wrap (p1.Min - p2)) (0:Int),x1,p1.BO,p1.S⟩:AJ)]:List AJ).length) (z:=7) rfl (by decide)) rfl rfl G
  replace A:HH g h13 [.Af (some U.size) 63 ((GA p1 (Ai (mx (i64.wrap (p1.Min - p2)) (0:Int))) (Ai x1))),.Af r2 63 (Af AA ((([]:List AJ)++p0.L)++([(⟨p1.Kind,p1.A,p1.B,mx (i64.wrap (p1.Min - p2)) (0:Int),x1,p1.BO,p1.S⟩:AJ)]:List AJ))),_,_,_,_] F:=E;replace A:=A.k5 1 2 3 4 5;refine Az 40 _ _ H (λD=>.of (JF (s:=DM r1 ((([]:List AJ)++p0.L).length)) (by kernel_rfl) X)) λD t H=>?_;obtain⟨h14,X,E⟩:=A.st 1 rfl (o:=0) (new:=[AR r2 (((([]:List AJ)++p0.L)++([(⟨p1.Kind,p1.A,p1.B,mx (i64.wrap (p1.Min - p2)) (0:Int),x1,p1.BO,p1.S⟩:AJ)]:List AJ)).length)]) (ds:=[AR r2 (((([]:List AJ)++p0.L)++([(⟨p1.Kind,p1.A,p1.B,mx (i64.wrap (p1.Min - p2)) (0:Int),x1,p1.BO,p1.S⟩:AJ)]:List AJ)).length),Ai 0]) (zb rfl) rfl rfl;replace A:HH g h14 [_,.obj V.size (.cells none 2 [AR r2 (((([]:List AJ)++p0.L)++([(⟨p1.Kind,p1.A,p1.B,mx (i64.wrap (p1.Min - p2)) (0:Int),x1,p1.BO,p1.S⟩:AJ)]:List AJ)).length),Ai 0]),_,_,_] F:=E;refine FO 1 [] X H λD t H=>?_;refine Ce 9 id (Az 42 _ _ H (λD=>.of (Bb (by kernel_rfl) (A.Eb 1 rfl (o:=0) (n:=2) ⟨zb rfl,rfl⟩))) λD t H=>?_);refine AV 1 [] 44 1 0 A H λD t H=>?_;obtain⟨x2,X,M⟩:=AI M;refine Bk 4 [] 49 (vs eB x2) h14 H (λD=>Steps.call (by kernel_rfl) (K0 (C:=cfg) (f:=38) (e:=AA) (xs:=((([]:List AJ)++p0.L)++([(⟨p1.Kind,p1.A,p1.B,mx (i64.wrap (p1.Min - p2)) (0:Int),x1,p1.BO,p1.S⟩:AJ)]:List AJ))) (by kernel_rfl) (l:=exts) rfl (by kernel_rfl) rfl (HH.Tv BN (by decide) A 0 (xs:=((([]:List AJ)++p0.L)++([(⟨p1.Kind,p1.A,p1.B,mx (i64.wrap (p1.Min - p2)) (0:Int),x1,p1.BO,p1.S⟩:AJ)]:List AJ))) rfl) X)) λD t H=>?_
  refine AZ 1 [(10,vs eB x2)] H λD H=>Ax ?_;obtain rfl:=Aw M;refine⟨.inl rfl,vs eB x2,rH H,?_⟩;replace A:=A.d0;exact⟨rfl,A⟩
 exact P.elim
def FH(p0:List UInt8)(p1:Ad):Option ((List UInt8)):=
 Aj ((((!p1.Is)||(decide (p1.F4<0)))||(decide (p1.To<p1.F4)))||(decide (p1.To>(p0.length:Int)))) (some ([]:Ym)) ((Kx p0 (some p1.F4) (some p1.To)).bind λx1=>some x1)
theorem MV{p0 p1 q0}(M:FH p0 p1=some q0)(A:HH g h [] F)(hc:CB (cfg.still 14) av=[.str p0,.agg (BA p1)]:=by kernel_rfl):∃v Q,Bw cfg g h 14 av v Q/\v=.str q0/\HH g Q [] F:=by
 refine Hs 33 [.tmp 4] hc ?_;clear hc;unfold FH at M;refine bg 33 [(0,.str p0),(1,.agg (BA p1))] λD H=>?_;refine AM 2 ?_;obtain⟨h1,e1,A⟩:=A.pu (.cells none 2 (BA p1));refine Bq 3 (.ptr (some (h.size,0))) e1 H λD t H=>?_;refine AZ 1 [] H λD H=>Ag (AM 22 (AV 1 [] 6 0 2 A H λD t H=>?_));refine AO 2 [(8,.bool (!p1.Is))] H λD H=>Ba 4 (λN Q=>h1=Q/\Has N 33 [(0,.str p0),(3,.ptr (some (h.size,0))),(12,.bool ((!p1.Is)||(decide (p1.F4<0))))]) ?_ ?_
 ·cases G:(!p1.Is:Bool)with
  |true=>
   replace H:=H.kn 8 G;exact AO 4 [(12,.bool true)] H λD H=>BC H G
  |false=>
   replace H:=H.kn 8 G;refine AV 1 [] 10 0 0 A H λD t H=>?_;exact AO 2 [(12,.bool (decide (p1.F4<0)))] H λD H=>BC H G
 intro t D Q I;obtain⟨e,H⟩:=I;subst e;refine AO 1 [(13,.bool ((!p1.Is)||(decide (p1.F4<0))))] H λD H=>Ba 6 (λN Q=>h1=Q/\Has N 33 [(0,.str p0),(3,.ptr (some (h.size,0))),(19,.bool (((!p1.Is)||(decide (p1.F4<0)))||(decide (p1.To<p1.F4))))]) ?_ ?_
 ·cases G:((!p1.Is)||(decide (p1.F4<0)):Bool)with
  |true=>
   replace H:=H.kn 13 G;exact AO 6 [(19,.bool true)] H λD H=>BC H G
  |false=>
   replace H:=H.kn 13 G;refine AV 1 [] 15 0 1 A H λD t H=>?_;refine AV 1 [] 17 0 0 A H λD t H=>?_;exact AO 2 [(19,.bool (decide (p1.To<p1.F4)))] H λD H=>BC H G
 intro t D Q I;obtain⟨e,H⟩:=I;subst e;refine AO 1 [(20,.bool (((!p1.Is)||(decide (p1.F4<0)))||(decide (p1.To<p1.F4))))] H λD H=>Ba 6 (λN Q=>h1=Q/\Has N 33 [(0,.str p0),(3,.ptr (some (h.size,0))),(26,.bool ((((!p1.Is)||(decide (p1.F4<0)))||(decide (p1.To<p1.F4)))||(decide (p1.To>(p0.length:Int)))))]) ?_ ?_
 ·cases G:(((!p1.Is)||(decide (p1.F4<0)))||(decide (p1.To<p1.F4)):Bool)with
  |true=>
   replace H:=H.kn 20 G;exact AO 6 [(26,.bool true)] H λD H=>BC H G
  |false=>
   replace H:=H.kn 20 G;refine AV 1 [] 22 0 1 A H λD t H=>?_;exact AO 4 [(26,.bool (decide (p1.To>(p0.length:Int))))] H λD H=>BC H G
 intro t D Q I;obtain⟨e,H⟩:=I;subst e;refine BX id (Al 26 H M (λG M H=>?_) λG M H=>?_)
 ·refine AM 1 (AZ 1 [(4,.str ([]:Ym))] H λD H=>Ax ?_);obtain rfl:=Aw M;refine⟨.inl rfl,.str ([]:Ym),rH H,?_⟩;replace A:=A.d0;exact⟨rfl,A⟩
 refine D3 7 id (AV 2 [(27,.str p0)] 29 0 0 A H λD t H=>?_);refine AV 1 [] 31 0 1 A H λD t H=>?_;obtain⟨x1,X,M⟩:=AI M;refine Az 32 (.str x1) h1 H (λD=>.of (J8 (k:=.i64) (k':=.i64) (lo:=(some p1.F4)) (hi:=(some p1.To)) (by kernel_rfl) X)) λD t H=>?_;refine AZ 1 [(4,.str x1)] H λD H=>Ax ?_;obtain rfl:=Aw M;refine⟨.inl rfl,.str x1,rH H,?_⟩;replace A:=A.d0;exact⟨rfl,A⟩
end
end Go.Av.L
