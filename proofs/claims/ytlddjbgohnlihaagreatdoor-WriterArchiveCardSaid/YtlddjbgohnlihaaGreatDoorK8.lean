/-
 A part.
-/
import Derived.Test.YtlddjbgohnlihaaGreatDoorK6
namespace Go.Av.L
open IntKind (i64)
open Go.Av Go.Lib
set_option maxRecDepth 10000
set_option linter.unusedVariables false
set_option linter.unusedSimpArgs false
variable {g:Gd} {h:AI} {F:List Ck} {av:List AB}
noncomputable section
def EC(p0:List UInt8)(x2:Int)(s:Int×Int):Option ((Int×Int)⊕((Int×Int))):=
 match s with
 |(x5,x6)=>(AX ((decide (x5<(p0.length:Int)))&&(decide (x5<(i64.wrap (x2+7))))) ((JQ p0 x5).bind fun x10=>some (decide (x10≥48))) (some false):Option (Bool)).bind fun x9=>(AX x9 ((JQ p0 x5).bind fun x12=>some (decide (x12≤57))) (some false):Option (Bool)).bind fun x11=>AX x11 ((JQ p0 x5).bind fun x13=>some (.inl (i64.wrap (x5+1),i64.wrap ((i64.wrap ((i64.wrap ((10:Int)*x6))+(i64.wrap x13))) - 48)))) (some (.inr (x5,x6)))
def ED(p0:List UInt8)(x2:Int)(x8:Int)(s:Int):Option ((Int)⊕((Int))):=
 match s with
 |x20=>(AX (decide (x20<(i64.wrap ((i64.wrap (x2+x8)) - 1)))) ((JQ p0 x20).bind fun x23=>some (x23 !=61)) (some false):Option (Bool)).bind fun x22=>AX x22 (some (.inl (i64.wrap (x20+1)))) (some (.inr x20))
def B5(p0:List UInt8)(s:(List AA)×Int):Option (((List AA)×Int)⊕(((List AA))⊕(Int))):=
 match s with
 |(x1,x2)=>AX (decide (x2<(p0.length:Int))) (AX ((x1.length:Int)==256) (some (.inr (.inr (8:Int)))) ((loop (EC p0 x2) (x2,(0:Int))).bind fun(x7,x8)=>(AX ((x7==x2)||(decide (x7>(i64.wrap (x2+6))))) (some true) ((JQ p0 x2).bind fun x15=>some (x15==48)):Option (Bool)).bind fun x14=>(AX (x14||(x7==(p0.length:Int))) (some true) ((JQ p0 x7).bind fun x17=>some (x17 !=32)):Option (Bool)).bind fun x16=>AX x16 (some (.inr (.inr (2:Int)))) (AX (decide (x8>(i64.wrap ((p0.length:Int) - x2)))) (some (.inr (.inr (3:Int)))) ((AX (decide ((i64.wrap ((i64.wrap (x2+x8)) - 1))≤x7)) (some true) ((JQ p0 (i64.wrap ((i64.wrap (x2+x8)) - 1))).bind fun x19=>some (x19 !=10)):Option (Bool)).bind fun x18=>AX x18 (some (.inr (.inr (2:Int)))) ((loop (ED p0 x2 x8) (i64.wrap (x7+1))).bind fun x21=>AX ((x21==(i64.wrap ((i64.wrap (x2+x8)) - 1)))||(x21==(i64.wrap (x7+1)))) (some (.inr (.inr (2:Int)))) ((D6 p0 (some (i64.wrap (x7+1))) (some x21)).bind fun x24=>(D6 p0 (some (i64.wrap (x21+1))) (some (i64.wrap ((i64.wrap (x2+x8)) - 1)))).bind fun x25=>Bn (MY 32 (x1.length+([(⟨x24,x25⟩:AA)]:List AA).length))<|some (.inl ((x1++([(⟨x24,x25⟩:AA)]:List AA)),i64.wrap (x2+x8))))))))) (some (.inr (.inl x1)))
def C7(p0:List UInt8):Option ((List AA)×Int):=
 AX (decide ((p0.length:Int)>65536)) (some (([]:List AA),(12:Int))) ((loop (B5 p0) (([]:List AA),(0:Int))).bind fun o1=>(match o1 with| .inl x3=>some (x3,(0:Int))| .inr x4=>some (([]:List AA),x4)))
theorem K7{p0 q0 q1}(M:C7 p0=some (q0,q1))(A:HH g h [] F)(hc:BA (cfg.still 70) av=[.str p0]:=by kernel_rfl):∃v Q,BI cfg g h 70 av v Q∧∃(rq0:Option Nat),v=.tuple [AP rq0 q0.length,Ai q1]∧HH g Q [.Af rq0 106 (Af AD q0)] F:=by
 refine EL 140 [.tmp 2,.tmp 3] hc ?_;clear hc;unfold C7 at M;refine bg 140 [(0,.str p0)] fun D H=>?_;refine AF 2 (AM 2 [] H fun D H=>AO (AF 3 (AM 3 [(12,.bool (decide ((p0.length:Int)>65536)))] H fun D H=>AU 12 H M (fun B M H=>?_) fun B M H=>?_)))
 ·refine AF 2 (AM 2 [(2,.slice none 0),(3,Ai 12)] H fun D H=>AY ?_);obtain⟨rfl,rfl⟩:=B3 M;refine⟨.inl rfl,.tuple [.slice none 0,Ai 12],rH H,?_⟩;replace A:HH g h [.Af none 106 (Af AD ([]:List AA))] F:=A.R2 106;exact⟨none,rfl,A⟩
 refine BZ 2 id ?_;obtain⟨h1,e1,A⟩:=A.pL 106 [];refine A9 13 (AP (some h.size) (([]:List AA).length)) e1 H fun D t H=>?_;refine Bk 1 [(4,AP (some h.size) (([]:List AA).length))] 1 H fun D H=>AM 1 [(5,Ai 0)] H fun D H=>AO (Ae (id:=0) (by kernel_rfl) ?_);replace A:HH g h1 [.Af (some h.size) 106 (Af AD ([]:List AA))] F:=A;obtain⟨o1,O,M⟩:=bind_some M;refine An (Q':=fun e N Q=>(∃x3,e=.exit 0∧.inl x3=o1∧∃r2,Has N 140 [(4,AP r2 x3.length)]∧HH g Q [.Af r2 106 (Af AD x3)] F)∨(∃x4,e=.ret∧.inr x4=o1∧Has N 140 [(2,.slice none 0),(3,Ai x4)]∧HH g Q [] F)∨False) ?_ ?_
 ·refine BQ (by kernel_rfl) (fun(s:(List AA)×Int) N Q=>∃x1 x2,(x1,x2)=s∧∃r1,Has N 140 [(0,.str p0),(4,AP r1 x1.length),(5,Ai x2)]∧HH g Q [.Af r1 106 (Af AD x1)] F) O ⟨_,_,rfl,some h.size,H.ls,A⟩ ?_;clear O M H A;intro s q D h2 J M;obtain⟨x1,x2,rfl,r1,H,A⟩:=J;unfold B5 at M;refine AO (AF 4 (AM 4 [(17,.bool (decide (x2<(p0.length:Int))))] H fun D H=>AU 17 H M (fun B M H=>?_) fun B M H=>?_))
  ·refine BY id (Ae (id:=1) (by kernel_rfl) ?_);refine AO (AF 3 (AM 3 [(20,.bool ((x1.length:Int)==256))] H fun D H=>AU 20 H M (fun B M H=>?_) fun B M H=>?_))
   ·refine AF 2 (AM 2 [(2,.slice none 0),(3,Ai 8)] H fun D H=>AY ?_);replace A:=A.d0;exact nr M fun e=>Or.inr (.inl ⟨_,rfl,e,H.ls,A⟩)
   refine BZ 2 id (Bk 2 [(6,Ai x2)] 1 H fun D H=>AM 1 [(7,Ai 0)] H fun D H=>AO (Ae (id:=2) (by kernel_rfl) ?_));obtain⟨o2,O,M⟩:=bind_some M;refine An (Q':=fun e N Q=>(∃x7 x8,e=.exit 2∧(x7,x8)=o2∧Has N 140 [(0,.str p0),(4,AP r1 x1.length),(5,Ai x2),(6,Ai x7),(7,Ai x8)]∧HH g Q [.Af r1 106 (Af AD x1)] F)∨False) ?_ ?_
   ·refine BQ (by kernel_rfl) (fun(s:Int×Int) N Q=>∃x5 x6,(x5,x6)=s∧Has N 140 [(0,.str p0),(4,AP r1 x1.length),(5,Ai x2),(6,Ai x5),(7,Ai x6)]∧HH g Q [.Af r1 106 (Af AD x1)] F) O ⟨_,_,rfl,H.ls,A⟩ ?_;clear O M H A;intro s q D T J M;obtain⟨x5,x6,rfl,H,A⟩:=J;unfold EC at M;refine AO (AF 22 (AG 5 [(26,.bool (decide (x5<(p0.length:Int))))] H fun D H=>Am 5 (fun N Q=>T=Q∧Has N 140 [(0,.str p0),(4,AP r1 x1.length),(5,Ai x2),(6,Ai x5),(7,Ai x6),(31,.bool ((decide (x5<(p0.length:Int)))&&(decide (x5<(i64.wrap (x2+7))))))]) ?_ ?_))
    ·cases B:(decide (x5<(p0.length:Int)):Bool)with
     |true=>
      replace H:=H.kn 26 B;exact AG 5 [(31,.bool (decide (x5<(i64.wrap (x2+7)))))] H fun D H=>AV H B
     |false=>
      replace H:=H.kn 26 B;exact AG 5 [(31,.bool false)] H fun D H=>AV H B
    intro t D Q C;obtain⟨e,H⟩:=C;subst e;refine AG 1 [(32,.bool ((decide (x5<(p0.length:Int)))&&(decide (x5<(i64.wrap (x2+7))))))] H fun D H=>?_;obtain⟨x9,O,M⟩:=bind_some M;refine Am 5 (fun N Q=>Has N 140 [(0,.str p0),(4,AP r1 x1.length),(5,Ai x2),(6,Ai x5),(7,Ai x6),(37,.bool x9)]∧HH g Q [.Af r1 106 (Af AD x1)] F) ?_ ?_
    ·rcases As O with⟨B,M⟩|⟨B,M⟩
     ·replace H:=H.kn 32 B;obtain⟨x10,X,M⟩:=bind_some M;refine Aq 2 [] 35 (Ab x10) T H (fun D=>.of (DN (by kernel_rfl) X)) fun D t H=>?_;refine AG 2 [(37,.bool (decide (x10≥48)))] H fun D H=>?_;obtain rfl:=Ac M;exact at_nil ⟨H.ls,A⟩
     replace H:=H.kn 32 B;refine AG 5 [(37,.bool false)] H fun D H=>?_;obtain rfl:=Ac M;exact at_nil ⟨H.ls,A⟩
    clear A;intro t D S C;obtain⟨H,A⟩:=C;refine AG 1 [(38,.bool x9)] H fun D H=>?_;obtain⟨x11,O,M⟩:=bind_some M;refine Am 5 (fun N Q=>Has N 140 [(0,.str p0),(4,AP r1 x1.length),(5,Ai x2),(6,Ai x5),(7,Ai x6),(43,.bool x11)]∧HH g Q [.Af r1 106 (Af AD x1)] F) ?_ ?_
    ·rcases As O with⟨B,M⟩|⟨B,M⟩
     ·replace H:=H.kn 38 B;obtain⟨x12,X,M⟩:=bind_some M;refine Aq 2 [] 41 (Ab x12) S H (fun D=>.of (DN (by kernel_rfl) X)) fun D t H=>?_;refine AG 2 [(43,.bool (decide (x12≤57)))] H fun D H=>?_;obtain rfl:=Ac M;exact at_nil ⟨H.ls,A⟩
     replace H:=H.kn 38 B;refine AG 5 [(43,.bool false)] H fun D H=>?_;obtain rfl:=Ac M;exact at_nil ⟨H.ls,A⟩
    clear A;intro t D U C;obtain⟨H,A⟩:=C;refine A8 id (AU 43 H M (fun B M H=>?_) fun B M H=>?_)
    ·refine BY id (Ae (id:=3) (by kernel_rfl) ?_);refine AF 9 ?_;obtain⟨x13,X,M⟩:=bind_some M;refine Aq 4 [(45,Ai (i64.wrap ((10:Int)*x6)))] 48 (Ab x13) U H (fun D=>.of (DN (by kernel_rfl) X)) fun D t H=>?_;refine Aw 4 [(0,.str p0),(4,AP r1 x1.length),(5,Ai x2),(6,Ai x5),(7,Ai (i64.wrap ((i64.wrap ((i64.wrap ((10:Int)*x6))+(i64.wrap x13))) - 48)))] H fun D H=>Ee 3 id (Aw 3 [(0,.str p0),(4,AP r1 x1.length),(5,Ai x2),(6,Ai (i64.wrap (x5+1))),(7,Ai (i64.wrap ((i64.wrap ((i64.wrap ((10:Int)*x6))+(i64.wrap x13))) - 48)))] H fun D H=>at_nil ?_);exact nx M ⟨_,_,rfl,H.ls,A⟩
    refine BL (i:=2) (by kernel_rfl) ?_;exact nr M fun e=>.inl ⟨_,_,rfl,e,H.ls,A⟩
   clear O;clear A;intro e D Y I;rcases I with⟨x7,x8,rfl,rfl,H,A⟩|K
   ·show AW _ _ _ _ _ _ _;refine AO (AF 27 (AG 4 [(57,.bool (x7==x2))] H fun D H=>Am 5 (fun N Q=>Y=Q∧Has N 140 [(0,.str p0),(4,AP r1 x1.length),(5,Ai x2),(6,Ai x7),(7,Ai x8),(62,.bool ((x7==x2)||(decide (x7>(i64.wrap (x2+6))))))]) ?_ ?_))
    ·cases B:(x7==x2:Bool)with
     |true=>
      replace H:=H.kn 57 B;exact AG 5 [(62,.bool true)] H fun D H=>AV H B
     |false=>
      replace H:=H.kn 57 B;exact AG 5 [(62,.bool (decide (x7>(i64.wrap (x2+6)))))] H fun D H=>AV H B
    intro t D Q C;obtain⟨e,H⟩:=C;subst e;refine AG 1 [(63,.bool ((x7==x2)||(decide (x7>(i64.wrap (x2+6))))))] H fun D H=>?_;obtain⟨x14,O,M⟩:=bind_some M;refine Am 5 (fun N Q=>Has N 140 [(0,.str p0),(4,AP r1 x1.length),(5,Ai x2),(6,Ai x7),(7,Ai x8),(68,.bool x14)]∧HH g Q [.Af r1 106 (Af AD x1)] F) ?_ ?_
    ·rcases As O with⟨B,M⟩|⟨B,M⟩
     ·replace H:=H.kn 63 B;refine AG 5 [(68,.bool true)] H fun D H=>?_;obtain rfl:=Ac M;exact at_nil ⟨H.ls,A⟩
     replace H:=H.kn 63 B;obtain⟨x15,X,M⟩:=bind_some M;refine Aq 2 [] 66 (Ab x15) Y H (fun D=>.of (DN (by kernel_rfl) X)) fun D t H=>?_;refine AG 2 [(68,.bool (x15==48))] H fun D H=>?_;obtain rfl:=Ac M;exact at_nil ⟨H.ls,A⟩
    clear A;intro t D W C;obtain⟨H,A⟩:=C;refine AG 1 [(69,.bool x14)] H fun D H=>Am 5 (fun N Q=>W=Q∧Has N 140 [(0,.str p0),(4,AP r1 x1.length),(5,Ai x2),(6,Ai x7),(7,Ai x8),(74,.bool (x14||(x7==(p0.length:Int))))]) ?_ ?_
    ·cases B:(x14:Bool)with
     |true=>
      replace H:=H.kn 69 B;exact AG 5 [(74,.bool true)] H fun D H=>AV H B
     |false=>
      replace H:=H.kn 69 B;exact AG 5 [(74,.bool (x7==(p0.length:Int)))] H fun D H=>AV H B
    intro t D Q C;obtain⟨e,H⟩:=C;subst e;refine AG 1 [(75,.bool (x14||(x7==(p0.length:Int))))] H fun D H=>?_;obtain⟨x16,O,M⟩:=bind_some M;refine Am 5 (fun N Q=>Has N 140 [(0,.str p0),(4,AP r1 x1.length),(5,Ai x2),(6,Ai x7),(7,Ai x8),(80,.bool x16)]∧HH g Q [.Af r1 106 (Af AD x1)] F) ?_ ?_
    ·rcases As O with⟨B,M⟩|⟨B,M⟩
     ·replace H:=H.kn 75 B;refine AG 5 [(80,.bool true)] H fun D H=>?_;obtain rfl:=Ac M;exact at_nil ⟨H.ls,A⟩
     replace H:=H.kn 75 B;obtain⟨x17,X,M⟩:=bind_some M;refine Aq 2 [] 78 (Ab x17) W H (fun D=>.of (DN (by kernel_rfl) X)) fun D t H=>?_;refine AG 2 [(80,.bool (x17 !=32))] H fun D H=>?_;obtain rfl:=Ac M;exact at_nil ⟨H.ls,A⟩
    clear A;intro t D Z C;obtain⟨H,A⟩:=C;refine A8 id (AU 80 H M (fun B M H=>?_) fun B M H=>?_)
    ·refine AF 2 (AM 2 [(2,.slice none 0),(3,Ai 2)] H fun D H=>AY ?_);replace A:=A.d0;exact nr M fun e=>Or.inr (.inl ⟨_,rfl,e,H.ls,A⟩)
    refine BY id (AO (AF 6 (AM 6 [(86,.bool (decide (x8>(i64.wrap ((p0.length:Int) - x2)))))] H fun D H=>AU 86 H M (fun B M H=>?_) fun B M H=>?_)))
    ·refine AF 2 (AM 2 [(2,.slice none 0),(3,Ai 3)] H fun D H=>AY ?_);replace A:=A.d0;exact nr M fun e=>Or.inr (.inl ⟨_,rfl,e,H.ls,A⟩)
    refine BZ 5 id (AM 5 [(8,Ai (i64.wrap ((i64.wrap (x2+x8)) - 1)))] H fun D H=>AO (AF 9 (AG 4 [(94,.bool (decide ((i64.wrap ((i64.wrap (x2+x8)) - 1))≤x7)))] H fun D H=>?_)));obtain⟨x18,O,M⟩:=bind_some M;refine Am 5 (fun N Q=>Has N 140 [(0,.str p0),(4,AP r1 x1.length),(5,Ai x2),(6,Ai x7),(7,Ai x8),(8,Ai (i64.wrap ((i64.wrap (x2+x8)) - 1))),(99,.bool x18)]∧HH g Q [.Af r1 106 (Af AD x1)] F) ?_ ?_
    ·rcases As O with⟨B,M⟩|⟨B,M⟩
     ·replace H:=H.kn 94 B;refine AG 5 [(99,.bool true)] H fun D H=>?_;obtain rfl:=Ac M;exact at_nil ⟨H.ls,A⟩
     replace H:=H.kn 94 B;obtain⟨x19,X,M⟩:=bind_some M;refine Aq 2 [] 97 (Ab x19) Z H (fun D=>.of (DN (by kernel_rfl) X)) fun D t H=>?_;refine AG 2 [(99,.bool (x19 !=10))] H fun D H=>?_;obtain rfl:=Ac M;exact at_nil ⟨H.ls,A⟩
    clear A;intro t D V C;obtain⟨H,A⟩:=C;refine A8 id (AU 99 H M (fun B M H=>?_) fun B M H=>?_)
    ·refine AF 2 (AM 2 [(2,.slice none 0),(3,Ai 2)] H fun D H=>AY ?_);replace A:=A.d0;exact nr M fun e=>Or.inr (.inl ⟨_,rfl,e,H.ls,A⟩)
    refine BZ 3 id (AM 3 [(9,Ai (i64.wrap (x7+1)))] H fun D H=>AO (Ae (id:=4) (by kernel_rfl) ?_));obtain⟨o3,O,M⟩:=bind_some M;refine An (Q':=fun e N Q=>(∃x21,e=.exit 4∧x21=o3∧Has N 140 [(0,.str p0),(4,AP r1 x1.length),(5,Ai x2),(6,Ai x7),(7,Ai x8),(8,Ai (i64.wrap ((i64.wrap (x2+x8)) - 1))),(9,Ai x21)]∧HH g Q [.Af r1 106 (Af AD x1)] F)∨False) ?_ ?_
    ·refine BQ (by kernel_rfl) (fun(s:Int) N Q=>∃x20,x20=s∧Has N 140 [(0,.str p0),(4,AP r1 x1.length),(5,Ai x2),(6,Ai x7),(7,Ai x8),(8,Ai (i64.wrap ((i64.wrap (x2+x8)) - 1))),(9,Ai x20)]∧HH g Q [.Af r1 106 (Af AD x1)] F) O ⟨_,rfl,H.ls,A⟩ ?_;clear O M H A;intro s q D h10 J M;obtain⟨x20,rfl,H,A⟩:=J;unfold ED at M;refine AO (AF 9 (AG 4 [(105,.bool (decide (x20<(i64.wrap ((i64.wrap (x2+x8)) - 1)))))] H fun D H=>?_));obtain⟨x22,O,M⟩:=bind_some M;refine Am 5 (fun N Q=>Has N 140 [(0,.str p0),(4,AP r1 x1.length),(5,Ai x2),(6,Ai x7),(7,Ai x8),(8,Ai (i64.wrap ((i64.wrap (x2+x8)) - 1))),(9,Ai x20),(110,.bool x22)]∧HH g Q [.Af r1 106 (Af AD x1)] F) ?_ ?_
     ·rcases As O with⟨B,M⟩|⟨B,M⟩
      ·replace H:=H.kn 105 B;obtain⟨x23,X,M⟩:=bind_some M;refine Aq 2 [] 108 (Ab x23) h10 H (fun D=>.of (DN (by kernel_rfl) X)) fun D t H=>?_;refine AG 2 [(110,.bool (x23 !=61))] H fun D H=>?_;obtain rfl:=Ac M;exact at_nil ⟨H.ls,A⟩
      replace H:=H.kn 105 B;refine AG 5 [(110,.bool false)] H fun D H=>?_;obtain rfl:=Ac M;exact at_nil ⟨H.ls,A⟩
     clear A;intro t D h11 C;obtain⟨H,A⟩:=C;refine A8 id (AU 110 H M (fun B M H=>?_) fun B M H=>?_)
     ·refine BY id (Ae (id:=5) (by kernel_rfl) ?_);refine BH 3 (Aw 3 [(0,.str p0),(4,AP r1 x1.length),(5,Ai x2),(6,Ai x7),(7,Ai x8),(8,Ai (i64.wrap ((i64.wrap (x2+x8)) - 1))),(9,Ai (i64.wrap (x20+1)))] H fun D H=>at_nil ?_);exact nx M ⟨_,rfl,H.ls,A⟩
     refine BL (i:=4) (by kernel_rfl) ?_;exact nr M fun e=>.inl ⟨_,rfl,e,H.ls,A⟩
    clear O;clear A;intro e D G I;rcases I with⟨x21,rfl,rfl,H,A⟩|K
    ·show AW _ _ _ _ _ _ _;refine AO (AF 9 (AG 4 [(116,.bool (x21==(i64.wrap ((i64.wrap (x2+x8)) - 1))))] H fun D H=>Am 5 (fun N Q=>G=Q∧Has N 140 [(0,.str p0),(4,AP r1 x1.length),(5,Ai x2),(6,Ai x7),(7,Ai x8),(8,Ai (i64.wrap ((i64.wrap (x2+x8)) - 1))),(9,Ai x21),(121,.bool ((x21==(i64.wrap ((i64.wrap (x2+x8)) - 1)))||(x21==(i64.wrap (x7+1)))))]) ?_ ?_))
     ·cases B:(x21==(i64.wrap ((i64.wrap (x2+x8)) - 1)):Bool)with
      |true=>
       replace H:=H.kn 116 B;exact AG 5 [(121,.bool true)] H fun D H=>AV H B
      |false=>
       replace H:=H.kn 116 B;exact AG 5 [(121,.bool (x21==(i64.wrap (x7+1))))] H fun D H=>AV H B
     intro t D Q C;obtain⟨e,H⟩:=C;subst e;refine A8 id (AU 121 H M (fun B M H=>?_) fun B M H=>?_)
     ·refine AF 2 (AM 2 [(2,.slice none 0),(3,Ai 2)] H fun D H=>AY ?_);replace A:=A.d0;exact nr M fun e=>Or.inr (.inl ⟨_,rfl,e,H.ls,A⟩)
     refine BY id (AO (Gh 25 15 ?_));obtain⟨x24,X,M⟩:=bind_some M;refine Aq 5 [(122,AP r1 x1.length)] 127 (.str x24) G H (fun D=>.of (Cy (k:=.i64) (k':=.i64) (lo:=(some (i64.wrap (x7+1)))) (hi:=(some x21)) (by kernel_rfl) X)) fun D t H=>?_;obtain⟨x25,X,M⟩:=bind_some M;refine Aq 4 [] 132 (.str x25) G H (fun D=>.of (Cy (k:=.i64) (k':=.i64) (lo:=(some (i64.wrap (x21+1)))) (hi:=(some (i64.wrap ((i64.wrap (x2+x8)) - 1)))) (by kernel_rfl) X)) fun D t H=>?_;refine AG 1 [(133,.agg [.str x24,.str x25])] H fun D H=>?_;obtain⟨h13,e2,A⟩:=A.pL 106 [.str x24,.str x25];refine A9 134 (AP (some G.size) (([(⟨x24,x25⟩:AA)]:List AA).length)) e2 H fun D t H=>?_;obtain⟨B,M⟩:=Ag M;obtain⟨r3,h14,X,E⟩:=HH.Il AR (by decide) A 1 (xs:=x1) (ys:=([(⟨x24,x25⟩:AA)]:List AA)) rfl (CU A 0 rfl (n:=([(⟨x24,x25⟩:AA)]:List AA).length) (z:=2) rfl (by decide)) rfl rfl B;replace A:HH g h14 [.Af (some G.size) 106 ([.str x24,.str x25]),.Af r3 106 (Af AD (x1++([(⟨x24,x25⟩:AA)]:List AA)))] F:=E;replace A:=A.k1 1;refine Aa 135 _ _ H (fun D=>.of (Fx (s:=Cr r1 x1.length) (by kernel_rfl) X)) fun D t H=>?_;refine Aw 1 [(0,.str p0),(4,AP r3 ((x1++([(⟨x24,x25⟩:AA)]:List AA)).length)),(5,Ai x2),(7,Ai x8)] H fun D H=>Ee 4 id (Aw 4 [(0,.str p0),(4,AP r3 ((x1++([(⟨x24,x25⟩:AA)]:List AA)).length)),(5,Ai (i64.wrap (x2+x8)))] H fun D H=>at_nil ?_);exact nx M ⟨_,_,rfl,_,H.ls,A⟩
    exact K.elim
   exact K.elim
  refine BL (i:=0) (by kernel_rfl) ?_;exact nr M fun e=>.inl ⟨_,rfl,e,_,H.ls,A⟩
 clear O;clear A;intro e D h15 I;rcases I with⟨x3,rfl,rfl,r2,H,A⟩|⟨x4,rfl,rfl,H,A⟩|K
 ·show AW _ _ _ _ _ _ _;refine AF 3 (AM 3 [(2,AP r2 x3.length),(3,Ai 0)] H fun D H=>AY ?_);obtain⟨rfl,rfl⟩:=B3 M;exact⟨.inl rfl,_,rH H,_,rfl,A⟩
 ·obtain⟨rfl,rfl⟩:=B3 M;refine⟨.inl rfl,.tuple [.slice none 0,Ai x4],rH H,?_⟩;replace A:HH g h15 [.Af none 106 (Af AD ([]:List AA))] F:=A.R2 106;exact⟨none,rfl,A⟩
 exact K.elim
def EV(p0:AN)(p1:List UInt8)(p2:BM)(p3:List AA)(p4:Int)(p5:Int):Option (BM×(List AA)×Int):=
 AX (p0.Kind==76) (none) (AX (p0.Kind==75) (none) ((C7 p1).bind fun(x1,x2)=>AX (x2 !=0) (some (p2,p3,x2)) (AX (p0.Kind==120) (some ((⟨x1,p2.Name,p2.Ah,true,p2.Fv,p2.HJ⟩:BM),p3,(0:Int))) (none))))
theorem H8{p0 p1 p2 p3 p4 p5 q0 q1 q2}(M:EV p0 p1 p2 p3 p4 p5=some (q0,q1,q2))(A:HH g h [] F)(hc:BA (cfg.still 36) av=[.agg (AL p0),.str p1,.agg (Ar p2),vs AD p3,Ai p4,Ai p5]:=by kernel_rfl):∃v Q,BI cfg g h 36 av v Q∧v=.tuple [.agg (Ar q0),vs AD q1,Ai q2]∧HH g Q [] F:=by
 refine eO 89 [.cell 12 70,.tmp 13,.tmp 14] hc ?_;clear hc;unfold EV at M;refine bg 89 [(0,.agg (AL p0)),(1,.str p1),(2,.agg (Ar p2)),(3,vs AD p3),(4,Ai p4),(5,Ai p5)] fun D H=>?_;refine AF 5 ?_;obtain⟨h1,e1,A⟩:=A.pu (.cells none 2 (AL p0));refine A9 6 (.ptr (some (h.size,0))) e1 H fun D t H=>?_;obtain⟨h2,e2,A⟩:=A.pu (.cells none 2 (Ar p2));refine A9 8 (.ptr (some (h1.size,0))) e2 H fun D t H=>?_;obtain⟨T,e3,A⟩:=A.pu (.cells none 2 [.slice none 0,.str ([]:UV),.str ([]:UV),.bool false,.bool false,.bool false]);refine A9 12 (.ptr (some (h2.size,0))) e3 H fun D t H=>?_;refine AM 2 [] H fun D H=>AO (AF 3 (AS 1 [] 20 2 2 A H fun D t H=>?_));refine AM 1 [(21,.bool (p0.Kind==76))] H fun D H=>AU 21 H M (fun B M H=>?_) fun B M H=>?_
 ·refine AF 4 ?_;cases M
 refine BY id (AO (AF 3 (AS 1 [] 36 2 2 A H fun D t H=>?_)));refine AM 1 [(37,.bool (p0.Kind==75))] H fun D H=>AU 37 H M (fun B M H=>?_) fun B M H=>?_
 ·refine AF 4 ?_;cases M
 refine BZ 7 id ?_;obtain⟨⟨x1,x2⟩,X,M⟩:=bind_some M;obtain⟨v1,S,R,rqw1,rfl,E⟩:=K7 (av:=[.str p1]) X (A.cut 0);replace A:HH g S [.Af rqw1 106 (Af AD x1),.obj h2.size (.cells none 2 [.slice none 0,.str ([]:UV),.str ([]:UV),.bool false,.bool false,.bool false]),.obj h1.size (.cells none 2 (Ar p2)),.obj h.size (.cells none 2 (AL p0))] F:=A.HN (n:=0) E;refine Az 1 [] 53 R H fun D t H=>?_;refine AM 5 [(15,AP rqw1 x1.length),(16,Ai x2)] H fun D H=>AO (AF 2 (AM 2 [(57,.bool (x2 !=0))] H fun D H=>AU 57 H M (fun B M H=>?_) fun B M H=>?_))
 ·refine AF 6 (Aa 58 _ _ H (fun D=>.of (Ay (by kernel_rfl) (A.DY 2 rfl (o:=0) (n:=6) ⟨zb rfl,rfl⟩))) fun D t H=>?_);obtain⟨U,X,A⟩:=A.s1 0 (Ar p2) [_,_,_,_,_,_];refine FG 2 [(59,vs AD p3),(60,Ai x2)] X H fun D t H=>?_;refine AM 2 [(13,vs AD p3),(14,Ai x2)] H fun D H=>AY ?_;obtain⟨rfl,rfl,rfl⟩:=Gx M;refine⟨.inl rfl,.tuple [.agg (Ar p2),vs AD p3,Ai x2],Bs (.cell (rT H) (Bm (by kernel_rfl) (by kernel_rfl) (A.la 1 0 6)) (.tmp (rT H) (.tmp (rT H) .nil))),?_⟩;refine⟨.tuple [.agg (Ar p2),vs AD p3,Ai x2],U,by first|rfl|(simp only[Yo,Yq,Y4,YR,Yi,Xb,Ym,Xv,Yv,XJ,XN,XZ,Ye,Xq,Y0,Xj,Ys,YP,zj,Ar]<;>rfl),?_⟩;replace A:=A.d0;exact⟨rfl,A⟩
 refine BY id (AO (AF 3 (AS 1 [] 62 3 2 A H fun D t H=>?_)));refine AM 1 [(63,.bool (p0.Kind==120))] H fun D H=>AU 63 H M (fun B M H=>?_) fun B M H=>?_
 ·refine AF 3 ?_;obtain⟨Y,X,A⟩:=A.s2 0 [AP rqw1 x1.length] [_,_,_,_,_,_];refine Bc 2 [] X H fun D t H=>?_;refine Be 2 id ?_;obtain⟨W,X,A⟩:=A.s2 3 [.bool true] [_,_,_,_,_,_];refine Bc 1 [] X H fun D t H=>?_;refine Be 5 id (Aa 67 _ _ H (fun D=>.of (Ay (by kernel_rfl) (A.DY 2 rfl (o:=0) (n:=6) ⟨zb rfl,rfl⟩))) fun D t H=>?_);obtain⟨Z,X,A⟩:=A.s1 0 (FL p2 (AP rqw1 x1.length) (.bool true)) [_,_,_,_,_,_];refine FG 1 [(68,vs AD p3)] X H fun D t H=>?_;refine AM 2 [(13,vs AD p3),(14,Ai 0)] H fun D H=>AY ?_;obtain⟨rfl,rfl,rfl⟩:=Gx M;refine⟨.inl rfl,.tuple [.agg (FL p2 (AP rqw1 x1.length) (.bool true)),vs AD p3,Ai 0],Bs (.cell (rT H) (Bm (by kernel_rfl) (by kernel_rfl) (A.la 1 0 6)) (.tmp (rT H) (.tmp (rT H) .nil))),?_⟩;obtain⟨V,hz0,E⟩:=(A.front 0 rfl).eZ (n:=x1.length) (z:=2) (AR.Mw _) (by decide);replace A:HH g V [_,_,_] F:=E;refine⟨.tuple [.agg (FL p2 (vs AD x1) (.bool true)),vs AD p3,Ai 0],V,by first|rfl|(simp only[Yo,Yq,Y4,YR,Yi,Xb,Ym,Xv,Yv,XJ,XN,XZ,Ye,Xq,Y0,Xj,Ys,YP,zj,hz0]<;>rfl),?_⟩;replace A:=A.d0;exact⟨rfl,A⟩
 refine BZ 4 id ?_;cases M
def EP(p0:AJ)(p1:AJ):Option (Bool):=
 (AX ((((((((((p0.Name==p1.Name)&&(p0.Ah==p1.Ah))&&(p0.Kind==p1.Kind))&&(p0.Mode==p1.Mode))&&(p0.BO==p1.BO))&&(p0.BW==p1.BW))&&(p0.AZ==p1.AZ))&&(p0.Ad==p1.Ad))&&(p0.Aj==p1.Aj))&&(p0.Ao==p1.Ao)) ((ZK cfg.P 28 [Ai p0.Time.Bu,Ai p0.Time.BG] [Ai p1.Time.Bu,Ai p1.Time.BG]).bind fun x2=>some x2) (some false):Option (Bool)).bind fun x1=>(AX x1 ((EU p0.Extra p1.Extra).bind fun x4=>some x4) (some false):Option (Bool)).bind fun x3=>some (x3&&(p0.Data==p1.Data))
theorem LI{p0 p1 q0}(M:EP p0 p1=some q0)(A:HH g h [] F)(hc:BA (cfg.still 38) av=[.agg (AE p0),.agg (AE p1)]:=by kernel_rfl):∃v Q,BI cfg g h 38 av v Q∧v=.bool q0∧HH g Q [] F:=by
 refine EL 94 [.tmp 4] hc ?_;clear hc;unfold EP at M;refine bg 94 [(0,.agg (AE p0)),(1,.agg (AE p1))] fun D H=>?_;refine AF 3 ?_;obtain⟨h1,e1,A⟩:=A.pu (.cells none 2 (AE p0));refine A9 2 (.ptr (some (h.size,0))) e1 H fun D t H=>?_;obtain⟨h2,e2,A⟩:=A.pu (.cells none 2 (AE p1));refine A9 3 (.ptr (some (h1.size,0))) e2 H fun D t H=>?_;refine Bk 1 [] 90 H fun D H=>AS 1 [] 6 1 0 A H fun D t H=>?_;refine AS 1 [] 8 0 0 A H fun D t H=>?_;refine AG 2 [(10,.bool (p0.Name==p1.Name))] H fun D H=>Am 6 (fun N Q=>h2=Q∧Has N 94 [(2,.ptr (some (h.size,0))),(3,.ptr (some (h1.size,0))),(16,.bool ((p0.Name==p1.Name)&&(p0.Ah==p1.Ah)))]) ?_ ?_
 ·cases B:(p0.Name==p1.Name:Bool)with
  |true=>
   replace H:=H.kn 10 B;refine AS 1 [] 12 1 1 A H fun D t H=>?_;refine AS 1 [] 14 0 1 A H fun D t H=>?_;exact AG 2 [(16,.bool (p0.Ah==p1.Ah))] H fun D H=>AV H B
  |false=>
   replace H:=H.kn 10 B;exact AG 6 [(16,.bool false)] H fun D H=>AV H B
 intro t D Q C;obtain⟨e,H⟩:=C;subst e;refine AG 1 [(17,.bool ((p0.Name==p1.Name)&&(p0.Ah==p1.Ah)))] H fun D H=>Am 6 (fun N Q=>h2=Q∧Has N 94 [(2,.ptr (some (h.size,0))),(3,.ptr (some (h1.size,0))),(23,.bool (((p0.Name==p1.Name)&&(p0.Ah==p1.Ah))&&(p0.Kind==p1.Kind)))]) ?_ ?_
 ·cases B:((p0.Name==p1.Name)&&(p0.Ah==p1.Ah):Bool)with
  |true=>
   replace H:=H.kn 17 B;refine AS 1 [] 19 1 2 A H fun D t H=>?_;refine AS 1 [] 21 0 2 A H fun D t H=>?_;exact AG 2 [(23,.bool (p0.Kind==p1.Kind))] H fun D H=>AV H B
  |false=>
   replace H:=H.kn 17 B;exact AG 6 [(23,.bool false)] H fun D H=>AV H B
 intro t D Q C;obtain⟨e,H⟩:=C;subst e;refine AG 1 [(24,.bool (((p0.Name==p1.Name)&&(p0.Ah==p1.Ah))&&(p0.Kind==p1.Kind)))] H fun D H=>Am 6 (fun N Q=>h2=Q∧Has N 94 [(2,.ptr (some (h.size,0))),(3,.ptr (some (h1.size,0))),(30,.bool ((((p0.Name==p1.Name)&&(p0.Ah==p1.Ah))&&(p0.Kind==p1.Kind))&&(p0.Mode==p1.Mode)))]) ?_ ?_
 ·cases B:(((p0.Name==p1.Name)&&(p0.Ah==p1.Ah))&&(p0.Kind==p1.Kind):Bool)with
  |true=>
   replace H:=H.kn 24 B;refine AS 1 [] 26 1 3 A H fun D t H=>?_;refine AS 1 [] 28 0 3 A H fun D t H=>?_;exact AG 2 [(30,.bool (p0.Mode==p1.Mode))] H fun D H=>AV H B
  |false=>
   replace H:=H.kn 24 B;exact AG 6 [(30,.bool false)] H fun D H=>AV H B
 intro t D Q C;obtain⟨e,H⟩:=C;subst e;refine AG 1 [(31,.bool ((((p0.Name==p1.Name)&&(p0.Ah==p1.Ah))&&(p0.Kind==p1.Kind))&&(p0.Mode==p1.Mode)))] H fun D H=>Am 6 (fun N Q=>h2=Q∧Has N 94 [(2,.ptr (some (h.size,0))),(3,.ptr (some (h1.size,0))),(37,.bool (((((p0.Name==p1.Name)&&(p0.Ah==p1.Ah))&&(p0.Kind==p1.Kind))&&(p0.Mode==p1.Mode))&&(p0.BO==p1.BO)))]) ?_ ?_
 ·cases B:((((p0.Name==p1.Name)&&(p0.Ah==p1.Ah))&&(p0.Kind==p1.Kind))&&(p0.Mode==p1.Mode):Bool)with
  |true=>
   replace H:=H.kn 31 B;refine AS 1 [] 33 1 4 A H fun D t H=>?_;refine AS 1 [] 35 0 4 A H fun D t H=>?_;exact AG 2 [(37,.bool (p0.BO==p1.BO))] H fun D H=>AV H B
  |false=>
   replace H:=H.kn 31 B;exact AG 6 [(37,.bool false)] H fun D H=>AV H B
 intro t D Q C;obtain⟨e,H⟩:=C;subst e;refine AG 1 [(38,.bool (((((p0.Name==p1.Name)&&(p0.Ah==p1.Ah))&&(p0.Kind==p1.Kind))&&(p0.Mode==p1.Mode))&&(p0.BO==p1.BO)))] H fun D H=>Am 6 (fun N Q=>h2=Q∧Has N 94 [(2,.ptr (some (h.size,0))),(3,.ptr (some (h1.size,0))),(44,.bool ((((((p0.Name==p1.Name)&&(p0.Ah==p1.Ah))&&(p0.Kind==p1.Kind))&&(p0.Mode==p1.Mode))&&(p0.BO==p1.BO))&&(p0.BW==p1.BW)))]) ?_ ?_
 ·cases B:(((((p0.Name==p1.Name)&&(p0.Ah==p1.Ah))&&(p0.Kind==p1.Kind))&&(p0.Mode==p1.Mode))&&(p0.BO==p1.BO):Bool)with
  |true=>
   replace H:=H.kn 38 B;refine AS 1 [] 40 1 5 A H fun D t H=>?_;refine AS 1 [] 42 0 5 A H fun D t H=>?_;exact AG 2 [(44,.bool (p0.BW==p1.BW))] H fun D H=>AV H B
  |false=>
   replace H:=H.kn 38 B;exact AG 6 [(44,.bool false)] H fun D H=>AV H B
 intro t D Q C;obtain⟨e,H⟩:=C;subst e;refine AG 1 [(45,.bool ((((((p0.Name==p1.Name)&&(p0.Ah==p1.Ah))&&(p0.Kind==p1.Kind))&&(p0.Mode==p1.Mode))&&(p0.BO==p1.BO))&&(p0.BW==p1.BW)))] H fun D H=>Am 6 (fun N Q=>h2=Q∧Has N 94 [(2,.ptr (some (h.size,0))),(3,.ptr (some (h1.size,0))),(51,.bool (((((((p0.Name==p1.Name)&&(p0.Ah==p1.Ah))&&(p0.Kind==p1.Kind))&&(p0.Mode==p1.Mode))&&(p0.BO==p1.BO))&&(p0.BW==p1.BW))&&(p0.AZ==p1.AZ)))]) ?_ ?_
 ·cases B:((((((p0.Name==p1.Name)&&(p0.Ah==p1.Ah))&&(p0.Kind==p1.Kind))&&(p0.Mode==p1.Mode))&&(p0.BO==p1.BO))&&(p0.BW==p1.BW):Bool)with
  |true=>
   replace H:=H.kn 45 B;refine AS 1 [] 47 1 6 A H fun D t H=>?_;refine AS 1 [] 49 0 6 A H fun D t H=>?_;exact AG 2 [(51,.bool (p0.AZ==p1.AZ))] H fun D H=>AV H B
  |false=>
   replace H:=H.kn 45 B;exact AG 6 [(51,.bool false)] H fun D H=>AV H B
 intro t D Q C;obtain⟨e,H⟩:=C;subst e;refine AG 1 [(52,.bool (((((((p0.Name==p1.Name)&&(p0.Ah==p1.Ah))&&(p0.Kind==p1.Kind))&&(p0.Mode==p1.Mode))&&(p0.BO==p1.BO))&&(p0.BW==p1.BW))&&(p0.AZ==p1.AZ)))] H fun D H=>Am 6 (fun N Q=>h2=Q∧Has N 94 [(2,.ptr (some (h.size,0))),(3,.ptr (some (h1.size,0))),(58,.bool ((((((((p0.Name==p1.Name)&&(p0.Ah==p1.Ah))&&(p0.Kind==p1.Kind))&&(p0.Mode==p1.Mode))&&(p0.BO==p1.BO))&&(p0.BW==p1.BW))&&(p0.AZ==p1.AZ))&&(p0.Ad==p1.Ad)))]) ?_ ?_
 ·cases B:(((((((p0.Name==p1.Name)&&(p0.Ah==p1.Ah))&&(p0.Kind==p1.Kind))&&(p0.Mode==p1.Mode))&&(p0.BO==p1.BO))&&(p0.BW==p1.BW))&&(p0.AZ==p1.AZ):Bool)with
  |true=>
   replace H:=H.kn 52 B;refine AS 1 [] 54 1 7 A H fun D t H=>?_;refine AS 1 [] 56 0 7 A H fun D t H=>?_;exact AG 2 [(58,.bool (p0.Ad==p1.Ad))] H fun D H=>AV H B
  |false=>
   replace H:=H.kn 52 B;exact AG 6 [(58,.bool false)] H fun D H=>AV H B
 intro t D Q C;obtain⟨e,H⟩:=C;subst e;refine AG 1 [(59,.bool ((((((((p0.Name==p1.Name)&&(p0.Ah==p1.Ah))&&(p0.Kind==p1.Kind))&&(p0.Mode==p1.Mode))&&(p0.BO==p1.BO))&&(p0.BW==p1.BW))&&(p0.AZ==p1.AZ))&&(p0.Ad==p1.Ad)))] H fun D H=>Am 6 (fun N Q=>h2=Q∧Has N 94 [(2,.ptr (some (h.size,0))),(3,.ptr (some (h1.size,0))),(65,.bool (((((((((p0.Name==p1.Name)&&(p0.Ah==p1.Ah))&&(p0.Kind==p1.Kind))&&(p0.Mode==p1.Mode))&&(p0.BO==p1.BO))&&(p0.BW==p1.BW))&&(p0.AZ==p1.AZ))&&(p0.Ad==p1.Ad))&&(p0.Aj==p1.Aj)))]) ?_ ?_
 ·cases B:((((((((p0.Name==p1.Name)&&(p0.Ah==p1.Ah))&&(p0.Kind==p1.Kind))&&(p0.Mode==p1.Mode))&&(p0.BO==p1.BO))&&(p0.BW==p1.BW))&&(p0.AZ==p1.AZ))&&(p0.Ad==p1.Ad):Bool)with
  |true=>
   replace H:=H.kn 59 B;refine AS 1 [] 61 1 8 A H fun D t H=>?_;refine AS 1 [] 63 0 8 A H fun D t H=>?_;exact AG 2 [(65,.bool (p0.Aj==p1.Aj))] H fun D H=>AV H B
  |false=>
   replace H:=H.kn 59 B;exact AG 6 [(65,.bool false)] H fun D H=>AV H B
 intro t D Q C;obtain⟨e,H⟩:=C;subst e;refine AG 1 [(66,.bool (((((((((p0.Name==p1.Name)&&(p0.Ah==p1.Ah))&&(p0.Kind==p1.Kind))&&(p0.Mode==p1.Mode))&&(p0.BO==p1.BO))&&(p0.BW==p1.BW))&&(p0.AZ==p1.AZ))&&(p0.Ad==p1.Ad))&&(p0.Aj==p1.Aj)))] H fun D H=>Am 6 (fun N Q=>h2=Q∧Has N 94 [(2,.ptr (some (h.size,0))),(3,.ptr (some (h1.size,0))),(72,.bool ((((((((((p0.Name==p1.Name)&&(p0.Ah==p1.Ah))&&(p0.Kind==p1.Kind))&&(p0.Mode==p1.Mode))&&(p0.BO==p1.BO))&&(p0.BW==p1.BW))&&(p0.AZ==p1.AZ))&&(p0.Ad==p1.Ad))&&(p0.Aj==p1.Aj))&&(p0.Ao==p1.Ao)))]) ?_ ?_
 ·cases B:(((((((((p0.Name==p1.Name)&&(p0.Ah==p1.Ah))&&(p0.Kind==p1.Kind))&&(p0.Mode==p1.Mode))&&(p0.BO==p1.BO))&&(p0.BW==p1.BW))&&(p0.AZ==p1.AZ))&&(p0.Ad==p1.Ad))&&(p0.Aj==p1.Aj):Bool)with
  |true=>
   replace H:=H.kn 66 B;refine AS 1 [] 68 1 9 A H fun D t H=>?_;refine AS 1 [] 70 0 9 A H fun D t H=>?_;exact AG 2 [(72,.bool (p0.Ao==p1.Ao))] H fun D H=>AV H B
  |false=>
   replace H:=H.kn 66 B;exact AG 6 [(72,.bool false)] H fun D H=>AV H B
 intro t D Q C;obtain⟨e,H⟩:=C;subst e;refine AG 1 [(73,.bool ((((((((((p0.Name==p1.Name)&&(p0.Ah==p1.Ah))&&(p0.Kind==p1.Kind))&&(p0.Mode==p1.Mode))&&(p0.BO==p1.BO))&&(p0.BW==p1.BW))&&(p0.AZ==p1.AZ))&&(p0.Ad==p1.Ad))&&(p0.Aj==p1.Aj))&&(p0.Ao==p1.Ao)))] H fun D H=>?_;obtain⟨x1,O,M⟩:=bind_some M;refine Am 6 (fun N Q=>Has N 94 [(2,.ptr (some (h.size,0))),(3,.ptr (some (h1.size,0))),(79,.bool x1)]∧HH g Q [.obj h1.size (.cells none 2 (AE p1)),.obj h.size (.cells none 2 (AE p0))] F) ?_ ?_
 ·rcases As O with⟨B,M⟩|⟨B,M⟩
  ·replace H:=H.kn 73 B;refine Aq 1 [] 75 _ _ H (fun D=>.of (Ay (by kernel_rfl) (A.DY 1 rfl (o:=10) (n:=2) ⟨zb rfl,rfl⟩))) fun D t H=>?_;refine Aq 1 [] 77 _ _ H (fun D=>.of (Ay (by kernel_rfl) (A.DY 0 rfl (o:=10) (n:=2) ⟨zb rfl,rfl⟩))) fun D t H=>?_;obtain⟨x2,X,M⟩:=bind_some M;refine Aa 78 (.bool x2) h2 H (fun D=>.of (cY (by kernel_rfl) X)) fun D t H=>?_;refine AG 1 [(79,.bool x2)] H fun D H=>?_;obtain rfl:=Ac M;exact at_nil ⟨H.ls,A⟩
  replace H:=H.kn 73 B;refine AG 6 [(79,.bool false)] H fun D H=>?_;obtain rfl:=Ac M;exact at_nil ⟨H.ls,A⟩
 clear A;intro t D T C;obtain⟨H,A⟩:=C;refine AG 1 [(80,.bool x1)] H fun D H=>?_;obtain⟨x3,O,M⟩:=bind_some M;refine Am 6 (fun N Q=>Has N 94 [(2,.ptr (some (h.size,0))),(3,.ptr (some (h1.size,0))),(86,.bool x3)]∧HH g Q [.obj h1.size (.cells none 2 (AE p1)),.obj h.size (.cells none 2 (AE p0))] F) ?_ ?_
 ·rcases As O with⟨B,M⟩|⟨B,M⟩
  ·replace H:=H.kn 80 B;refine AS 1 [] 82 1 12 A H fun D t H=>?_;refine AS 1 [] 84 0 12 A H fun D t H=>?_;obtain⟨x4,X,M⟩:=bind_some M;obtain⟨v1,U,R,rfl,E⟩:=LZ (av:=[vs AD p0.Extra,vs AD p1.Extra]) X (A.cut 0);replace A:=A.Dx E;refine A5 85 R H fun D t H=>?_;refine AG 1 [(86,.bool x4)] H fun D H=>?_;obtain rfl:=Ac M;exact at_nil ⟨H.ls,A⟩
  replace H:=H.kn 80 B;refine AG 6 [(86,.bool false)] H fun D H=>?_;obtain rfl:=Ac M;exact at_nil ⟨H.ls,A⟩
 clear A;intro t D S C;obtain⟨H,A⟩:=C;refine AG 1 [(87,.bool x3)] H fun D H=>Am 6 (fun N Q=>S=Q∧Has N 94 [(93,.bool (x3&&(p0.Data==p1.Data)))]) ?_ ?_
 ·cases B:(x3:Bool)with
  |true=>
   replace H:=H.kn 87 B;refine AS 1 [] 89 1 13 A H fun D t H=>?_;refine AS 1 [] 91 0 13 A H fun D t H=>?_;exact AG 2 [(93,.bool (p0.Data==p1.Data))] H fun D H=>AV H B
  |false=>
   replace H:=H.kn 87 B;exact AG 6 [(93,.bool false)] H fun D H=>AV H B
 intro t D Q C;obtain⟨e,H⟩:=C;subst e;refine AM 1 [(4,.bool (x3&&(p0.Data==p1.Data)))] H fun D H=>AY ?_;obtain rfl:=Ac M;refine⟨.inl rfl,.bool (x3&&(p0.Data==p1.Data)),rH H,?_⟩;replace A:=A.d0;exact⟨rfl,A⟩
def CJ(p0:List AJ)(p1:List AJ)(s:Int):Option ((Int)⊕((Unit)⊕(Bool))):=
 match s with
 |x1=>AX (decide (x1<(p0.length:Int))) ((G8 p0 x1).bind fun x3=>(G8 p1 x1).bind fun x4=>(EP x3 x4).bind fun x5=>AX (!x5) (some (.inr (.inr false))) (some (.inl (i64.wrap (x1+1))))) (some (.inr (.inl ())))
def DH(p0:List AJ)(p1:List AJ):Option (Bool):=
 AX ((p0.length:Int) !=(p1.length:Int)) (some false) ((loop (CJ p0 p1) (0:Int)).bind fun o1=>(match o1 with| .inl _=>some true| .inr x2=>some x2))
theorem Jz{p0 p1 rp1 q0}(M:DH p0 p1=some q0)(A:HH g h [.Af rp1 31 (Af AE p1)] F)(hc:BA (cfg.still 15) av=[vs AE p0,AP rp1 p1.length]:=by kernel_rfl):∃v Q,BI cfg g h 15 av v Q∧v=.bool q0∧HH g Q [.Af rp1 31 (Af AE p1)] F:=by
 refine EL 27 [.tmp 4] hc ?_;clear hc;unfold DH at M;refine bg 27 [(0,vs AE p0),(1,AP rp1 p1.length)] fun D H=>?_;refine AF 1 (AM 1 [] H fun D H=>AO (AF 5 (AM 5 [(10,.bool ((p0.length:Int) !=(p1.length:Int)))] H fun D H=>AU 10 H M (fun B M H=>?_) fun B M H=>?_)))
 ·refine AF 1 (AM 1 [(4,.bool false)] H fun D H=>AY ?_);obtain rfl:=Ac M;exact⟨.inl rfl,_,rH H,rfl,A⟩
 refine BY id (AO (AF 1 (AM 1 [(5,Ai 0)] H fun D H=>Ae (id:=0) (by kernel_rfl) ?_)));obtain⟨o1,O,M⟩:=bind_some M;refine An (Q':=fun e N Q=>(e=.exit 0∧.inl ()=o1∧Has N 27 []∧HH g Q [.Af rp1 31 (Af AE p1)] F)∨(∃x2,e=.ret∧.inr x2=o1∧Has N 27 [(4,.bool x2)]∧HH g Q [.Af rp1 31 (Af AE p1)] F)∨False) ?_ ?_
 ·refine BQ (by kernel_rfl) (fun(s:Int) N Q=>∃x1,x1=s∧Has N 27 [(0,vs AE p0),(1,AP rp1 p1.length),(5,Ai x1)]∧HH g Q [.Af rp1 31 (Af AE p1)] F) O ⟨_,rfl,H.ls,A⟩ ?_;clear O M H A;intro s q D h1 J M;obtain⟨x1,rfl,H,A⟩:=J;unfold CJ at M;refine AO (AF 4 (AM 4 [(14,.bool (decide (x1<(p0.length:Int))))] H fun D H=>AU 14 H M (fun B M H=>?_) fun B M H=>?_))
  ·refine BY id (AO (Ae (id:=1) (by kernel_rfl) ?_));refine AO (Gh 6 10 ?_);obtain⟨x3,X,M⟩:=bind_some M;refine Aq 2 [] 19 (.A0 (AE x3)) h1 H (fun D=>.of (KC (e:=AE) (x:=x3) CR (by decide) (by kernel_rfl) X)) fun D t H=>?_;refine Aa 20 (.agg (AE x3)) h1 H (fun D=>.of (OC (by kernel_rfl))) fun D t H=>?_;obtain⟨x4,X,M⟩:=bind_some M;obtain⟨i1,er1,_,X,hq1⟩:=HH.QT CR (by decide) A 0 (xs:=p1) rfl X;refine Aq 2 [] 23 (.ptr (some (i1,x1.toNat*14))) h1 H (fun D=>.of (GV (s:=Cr rp1 p1.length) (by kernel_rfl) X)) fun D t H=>?_;refine Aa 24 _ _ H (fun D=>.of (Ay (by kernel_rfl) (Ic CR (HH.row A 0 rfl er1) hq1 0 14 (zb rfl)))) fun D t H=>?_;obtain⟨x5,X,M⟩:=bind_some M;obtain⟨v1,h2,R,rfl,E⟩:=LI (av:=[.agg (AE x3),.agg (AE x4)]) X (A.cut 0);replace A:=A.Dx E;refine A5 25 R H fun D t H=>?_;refine AM 1 [(26,.bool (!x5))] H fun D H=>AU 26 H M (fun B M H=>?_) fun B M H=>?_
   ·refine AF 1 (AM 1 [(4,.bool false)] H fun D H=>AY ?_);exact nr M fun e=>Or.inr (.inl ⟨_,rfl,e,H.ls,A⟩)
   refine FC 3 id (Aw 3 [(0,vs AE p0),(1,AP rp1 p1.length),(5,Ai (i64.wrap (x1+1)))] H fun D H=>at_nil ?_);exact nx M ⟨_,rfl,H.ls,A⟩
  refine BL (i:=0) (by kernel_rfl) ?_;exact nr M fun e=>.inl ⟨rfl,e,H.ls,A⟩
 clear O;clear A;intro e D T I;rcases I with⟨rfl,rfl,H,A⟩|⟨x2,rfl,rfl,H,A⟩|K
 ·show AW _ _ _ _ _ _ _;refine AF 1 (AM 1 [(4,.bool true)] H fun D H=>AY ?_);obtain rfl:=Ac M;exact⟨.inl rfl,_,rH H,rfl,A⟩
 ·obtain rfl:=Ac M;exact⟨.inl rfl,_,rH H,rfl,A⟩
 exact K.elim
end
end Go.Av.L
