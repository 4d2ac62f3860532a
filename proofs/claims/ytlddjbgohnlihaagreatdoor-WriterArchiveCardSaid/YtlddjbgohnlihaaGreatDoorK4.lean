/-
 A part.
-/
import Derived.Test.YtlddjbgohnlihaaGreatDoorKCfg
namespace Go.Av.L
open IntKind (i64)
open Go.Av Go.Lib
set_option maxRecDepth 10000
set_option linter.unusedVariables false
set_option linter.unusedSimpArgs false
variable {g:Gd} {h:AI} {F:List Ck} {av:List AB}
noncomputable section
def C2(p0:List UInt8)(s:Int):Option ((Int)⊕((Unit)⊕(Bool))):=
 match s with
 |x1=>AX (decide (x1<(p0.length:Int))) ((JQ p0 x1).bind fun x3=>AX (x3 !=0) (some (.inr (.inr false))) (some (.inl (i64.wrap (x1+1))))) (some (.inr (.inl ())))
def Ez(p0:List UInt8):Option (Bool):=
 (loop (C2 p0) (0:Int)).bind fun o1=>(match o1 with| .inl _=>some true| .inr x2=>some x2)
theorem K1{p0 q0}(M:Ez p0=some q0)(A:HH g h [] F)(hc:BA (cfg.still 62) av=[.str p0]:=by kernel_rfl):∃v Q,BI cfg g h 62 av v Q∧v=.bool q0∧HH g Q [] F:=by
 refine EL 14 [.tmp 2] hc ?_;clear hc;unfold Ez at M;refine bg 14 [(0,.str p0)] fun D H=>?_;refine AF 1 (AM 1 [] H fun D H=>AO (AF 1 (AM 1 [(3,Ai 0)] H fun D H=>Ae (id:=0) (by kernel_rfl) ?_)));obtain⟨o1,O,M⟩:=bind_some M;refine An (Q':=fun e N Q=>(e=.exit 0∧.inl ()=o1∧Has N 14 []∧HH g Q [] F)∨(∃x2,e=.ret∧.inr x2=o1∧Has N 14 [(2,.bool x2)]∧HH g Q [] F)∨False) ?_ ?_
 ·refine BQ (by kernel_rfl) (fun(s:Int) N Q=>∃x1,x1=s∧Has N 14 [(0,.str p0),(3,Ai x1)]∧HH g Q [] F) O ⟨_,rfl,H.ls,A⟩ ?_;clear O M H A;intro s q D h1 J M;obtain⟨x1,rfl,H,A⟩:=J;unfold C2 at M;refine AO (AF 4 (AM 4 [(7,.bool (decide (x1<(p0.length:Int))))] H fun D H=>AU 7 H M (fun B M H=>?_) fun B M H=>?_))
  ·refine BY id (AO (Ae (id:=1) (by kernel_rfl) ?_));refine AF 4 ?_;obtain⟨x3,X,M⟩:=bind_some M;refine Aq 2 [] 12 (Ab x3) h1 H (fun D=>.of (DN (by kernel_rfl) X)) fun D t H=>?_;refine AM 1 [(13,.bool (x3 !=0))] H fun D H=>AU 13 H M (fun B M H=>?_) fun B M H=>?_
   ·refine AF 1 (AM 1 [(2,.bool false)] H fun D H=>AY ?_);exact nr M fun e=>Or.inr (.inl ⟨_,rfl,e,H.ls,A⟩)
   refine FC 3 id (Aw 3 [(0,.str p0),(3,Ai (i64.wrap (x1+1)))] H fun D H=>at_nil ?_);exact nx M ⟨_,rfl,H.ls,A⟩
  refine BL (i:=0) (by kernel_rfl) ?_;exact nr M fun e=>.inl ⟨rfl,e,H.ls,A⟩
 clear O;clear A;intro e D h2 G;rcases G with⟨rfl,rfl,H,A⟩|⟨x2,rfl,rfl,H,A⟩|I
 ·show AW _ _ _ _ _ _ _;refine AF 1 (AM 1 [(2,.bool true)] H fun D H=>AY ?_);obtain rfl:=Ac M;exact⟨.inl rfl,_,rH H,rfl,A⟩
 ·obtain rfl:=Ac M;exact⟨.inl rfl,_,rH H,rfl,A⟩
 exact I.elim
def CL(p0:List UInt8):Option (Bool):=
 (Ez p0).bind fun x1=>some x1
theorem K2{p0 q0}(M:CL p0=some q0)(A:HH g h [] F)(hc:BA (cfg.still 32) av=[.str p0]:=by kernel_rfl):∃v Q,BI cfg g h 32 av v Q∧v=.bool q0∧HH g Q [] F:=by
 refine EL 5 [.tmp 2] hc ?_;clear hc;unfold CL at M;refine bg 5 [(0,.str p0)] fun D H=>?_;refine AF 1 (Bk 1 [] 3 H fun D H=>?_);obtain⟨x1,X,M⟩:=bind_some M;obtain⟨v1,h1,R,rfl,E⟩:=K1 (av:=[.str p0]) X (A.cut 0);replace A:=A.Dx E;refine Az 1 [] 4 R H fun D t H=>?_;refine AM 1 [(2,.bool x1)] H fun D H=>AY ?_;obtain rfl:=Ac M;exact⟨.inl rfl,_,rH H,rfl,A⟩
def ES(p0:BM):Option (Bool):=
 some ((p0.Ou||p0.Fv)||p0.HJ)
theorem H6{p0 q0}(M:ES p0=some q0)(A:HH g h [] F)(hc:BA (cfg.still 33) av=[.agg (Ar p0)]:=by kernel_rfl):∃v Q,BI cfg g h 33 av v Q∧v=.bool q0∧HH g Q [] F:=by
 refine EL 13 [.tmp 2] hc ?_;clear hc;unfold ES at M;refine bg 13 [(0,.agg (Ar p0))] fun D H=>?_;refine AF 2 ?_;obtain⟨h1,e1,A⟩:=A.pu (.cells none 2 (Ar p0));refine A9 1 (.ptr (some (h.size,0))) e1 H fun D t H=>?_;refine Bk 1 [] 11 H fun D H=>AS 1 [] 4 0 3 A H fun D t H=>?_;refine AG 1 [(5,.bool p0.Ou)] H fun D H=>Am 3 (fun N Q=>h1=Q∧Has N 13 [(1,.ptr (some (h.size,0))),(8,.bool (p0.Ou||p0.Fv))]) ?_ ?_
 ·cases B:(p0.Ou:Bool)with
  |true=>
   replace H:=H.kn 5 B;exact AG 3 [(8,.bool true)] H fun D H=>AV H B
  |false=>
   replace H:=H.kn 5 B;refine AS 1 [] 7 0 4 A H fun D t H=>?_;exact AG 1 [(8,.bool p0.Fv)] H fun D H=>AV H B
 intro t D Q C;obtain⟨e,H⟩:=C;subst e;refine AG 1 [(9,.bool (p0.Ou||p0.Fv))] H fun D H=>Am 3 (fun N Q=>h1=Q∧Has N 13 [(12,.bool ((p0.Ou||p0.Fv)||p0.HJ))]) ?_ ?_
 ·cases B:(p0.Ou||p0.Fv:Bool)with
  |true=>
   replace H:=H.kn 9 B;exact AG 3 [(12,.bool true)] H fun D H=>AV H B
  |false=>
   replace H:=H.kn 9 B;refine AS 1 [] 11 0 5 A H fun D t H=>?_;exact AG 1 [(12,.bool p0.HJ)] H fun D H=>AV H B
 intro t D Q C;obtain⟨e,H⟩:=C;subst e;refine AM 1 [(2,.bool ((p0.Ou||p0.Fv)||p0.HJ))] H fun D H=>AY ?_;obtain rfl:=Ac M;refine⟨.inl rfl,.bool ((p0.Ou||p0.Fv)||p0.HJ),rH H,?_⟩;replace A:=A.d0;exact⟨rfl,A⟩
def Ds(p0:Int)(p1:Int)(p2:Int):Option (Int):=
 AX (decide (p0>9007199254740991)) (some p0) (some (i64.wrap ((i64.wrap (p0*p1))+p2)))
theorem Gb{p0 p1 p2 q0}(M:Ds p0 p1 p2=some q0)(A:HH g h [] F)(hc:BA (cfg.still 157) av=[Ai p0,Ai p1,Ai p2]:=by kernel_rfl):∃v Q,BI cfg g h 157 av v Q∧v=Ai q0∧HH g Q [] F:=by
 refine EL 15 [.tmp 6] hc ?_;clear hc;unfold Ds at M;refine bg 15 [(0,Ai p0),(1,Ai p1),(2,Ai p2)] fun D H=>?_;refine AF 1 (AM 1 [] H fun D H=>AO (AF 2 (AM 2 [(8,.bool (decide (p0>9007199254740991)))] H fun D H=>AU 8 H M (fun B M H=>?_) fun B M H=>?_)))
 ·refine AF 2 (AM 2 [(6,Ai p0)] H fun D H=>AY ?_);obtain rfl:=Ac M;exact⟨.inl rfl,_,rH H,rfl,A⟩
 refine BZ 6 id (AM 6 [(6,Ai (i64.wrap ((i64.wrap (p0*p1))+p2)))] H fun D H=>AY ?_);obtain rfl:=Ac M;exact⟨.inl rfl,_,rH H,rfl,A⟩
def HR(p0:List UInt8)(s:Int×Int):Option ((Int×Int)⊕((Int))):=
 match s with
 |(x2,x3)=>AX (decide (x3<(p0.length:Int))) ((JQ p0 x3).bind fun x5=>(Ds x2 (256:Int) (i64.wrap x5)).bind fun x6=>some (.inl (x6,i64.wrap (x3+1)))) (some (.inr x2))
def HK(p0:List UInt8)(s:Int×Int):Option ((Int×Int)⊕((Int))):=
 match s with
 |(x8,x9)=>AX (decide (x9<(p0.length:Int))) ((JQ p0 x9).bind fun x11=>(Ds x8 (256:Int) (i64.wrap ((255:Int) - (i64.wrap x11)))).bind fun x12=>some (.inl (x12,i64.wrap (x9+1)))) (some (.inr x8))
def EY(p0:List UInt8)(s:Int):Option ((Int)⊕((Int))):=
 match s with
 |x13=>(AX (decide (x13<(p0.length:Int))) ((JQ p0 x13).bind fun x16=>some (x16==32)) (some false):Option (Bool)).bind fun x15=>AX x15 (some (.inl (i64.wrap (x13+1)))) (some (.inr x13))
def CV(p0:List UInt8)(s:Int×Int):Option ((Int×Int)⊕((Int×Int))):=
 match s with
 |(x17,x18)=>(AX (decide (x17<(p0.length:Int))) ((JQ p0 x17).bind fun x22=>some (decide (x22≥48))) (some false):Option (Bool)).bind fun x21=>(AX x21 ((JQ p0 x17).bind fun x24=>some (decide (x24≤55))) (some false):Option (Bool)).bind fun x23=>AX x23 ((JQ p0 x17).bind fun x25=>(Ds x18 (8:Int) (i64.wrap ((i64.wrap x25) - 48))).bind fun x26=>some (.inl (i64.wrap (x17+1),x26))) (some (.inr (x17,x18)))
def Ba(p0:List UInt8)(s:Int):Option ((Int)⊕((Unit)⊕(Int×Int))):=
 match s with
 |x27=>AX (decide (x27<(p0.length:Int))) ((JQ p0 x27).bind fun x30=>(AX (x30 !=32) ((JQ p0 x27).bind fun x32=>some (x32 !=0)) (some false):Option (Bool)).bind fun x31=>AX x31 (some (.inr (.inr ((0:Int),(2:Int))))) (some (.inl (i64.wrap (x27+1))))) (some (.inr (.inl ())))
def Bf(p0:List UInt8):Option (Int×Int):=
 AX ((decide ((p0.length:Int)<2))||(decide ((p0.length:Int)>12))) (some ((0:Int),(1:Int))) ((JQ p0 (0:Int)).bind fun x1=>AX (x1==128) ((loop (HR p0) ((0:Int),(1:Int))).bind fun x4=>AX (decide (x4>9007199254740991)) (some ((0:Int),(6:Int))) (some (x4,(0:Int)))) ((JQ p0 (0:Int)).bind fun x7=>AX (x7==255) ((loop (HK p0) ((0:Int),(1:Int))).bind fun x10=>AX (decide ((i64.wrap (x10+1))>9007199254740991)) (some ((0:Int),(6:Int))) (some (i64.wrap ((i64.wrap (0 - x10)) - 1),(0:Int)))) ((loop (EY p0) (0:Int)).bind fun x14=>(loop (CV p0) (x14,(0:Int))).bind fun(x19,x20)=>(loop (Ba p0) x19).bind fun o5=>(match o5 with| .inl _=>AX (decide (x20>9007199254740991)) (some ((0:Int),(6:Int))) (some (x20,(0:Int)))| .inr (x28,x29)=>some (x28,x29)))))
theorem H4{p0 q0 q1}(M:Bf p0=some (q0,q1))(A:HH g h [] F)(hc:BA (cfg.still 112) av=[.str p0]:=by kernel_rfl):∃v Q,BI cfg g h 112 av v Q∧v=.tuple [Ai q0,Ai q1]∧HH g Q [] F:=by
 refine EL 110 [.tmp 2,.tmp 3] hc ?_;clear hc;unfold Bf at M;refine bg 110 [(0,.str p0)] fun D H=>?_;refine AF 2 (Bk 2 [] 3 H fun D H=>AM 3 [(4,Ai (p0.length:Int))] H fun D H=>AO (AF 6 (AG 3 [(15,.bool (decide ((p0.length:Int)<2)))] H fun D H=>Am 3 (fun N Q=>h=Q∧Has N 110 [(0,.str p0),(4,Ai (p0.length:Int)),(18,.bool ((decide ((p0.length:Int)<2))||(decide ((p0.length:Int)>12))))]) ?_ ?_)))
 ·cases B:(decide ((p0.length:Int)<2):Bool)with
  |true=>
   replace H:=H.kn 15 B;exact AG 3 [(18,.bool true)] H fun D H=>AV H B
  |false=>
   replace H:=H.kn 15 B;exact AG 3 [(18,.bool (decide ((p0.length:Int)>12)))] H fun D H=>AV H B
 intro t D Q C;obtain⟨e,H⟩:=C;subst e;refine A8 id (AU 18 H M (fun B M H=>?_) fun B M H=>?_)
 ·refine AF 2 (AM 2 [(2,Ai 0),(3,Ai 1)] H fun D H=>AY ?_);obtain⟨rfl,rfl⟩:=B3 M;exact⟨.inl rfl,_,rH H,rfl,A⟩
 refine BY id (AO (AF 3 ?_));obtain⟨x1,X,M⟩:=bind_some M;refine Aq 1 [] 20 (Ab x1) h H (fun D=>.of (DN (by kernel_rfl) X)) fun D t H=>?_;refine AM 1 [(21,.bool (x1==128))] H fun D H=>AU 21 H M (fun B M H=>?_) fun B M H=>?_
 ·refine AF 1 (AM 1 [(5,Ai 0)] H fun D H=>AO (AF 1 (AM 1 [(6,Ai 1)] H fun D H=>Ae (id:=0) (by kernel_rfl) ?_)));obtain⟨o1,O,M⟩:=bind_some M;refine An (Q':=fun e N Q=>(∃x4,e=.exit 0∧x4=o1∧Has N 110 [(5,Ai x4)]∧HH g Q [] F)∨False) ?_ ?_
  ·refine BQ (by kernel_rfl) (fun(s:Int×Int) N Q=>∃x2 x3,(x2,x3)=s∧Has N 110 [(0,.str p0),(4,Ai (p0.length:Int)),(5,Ai x2),(6,Ai x3)]∧HH g Q [] F) O ⟨_,_,rfl,H.ls,A⟩ ?_;clear O M H A;intro s q D h1 J M;obtain⟨x2,x3,rfl,H,A⟩:=J;unfold HR at M;refine AO (AF 3 (AM 3 [(24,.bool (decide (x3<(p0.length:Int))))] H fun D H=>AU 24 H M (fun B M H=>?_) fun B M H=>?_))
   ·refine BY id (AO (Ae (id:=1) (by kernel_rfl) ?_));refine BH 7 ?_;obtain⟨x5,X,M⟩:=bind_some M;refine Aq 3 [(27,Ai x2)] 30 (Ab x5) h1 H (fun D=>.of (DN (by kernel_rfl) X)) fun D t H=>?_;obtain⟨x6,X,M⟩:=bind_some M;obtain⟨v1,h2,R,rfl,E⟩:=Gb (av:=[Ai x2,Ai 256,Ai (i64.wrap x5)]) X (A.cut 0);replace A:=A.Dx E;refine Az 1 [] 32 R H fun D t H=>?_;refine Aw 1 [(0,.str p0),(4,Ai (p0.length:Int)),(5,Ai x6),(6,Ai x3)] H fun D H=>Ee 3 id (Aw 3 [(0,.str p0),(4,Ai (p0.length:Int)),(5,Ai x6),(6,Ai (i64.wrap (x3+1)))] H fun D H=>at_nil ?_);exact nx M ⟨_,_,rfl,H.ls,A⟩
   refine BL (i:=0) (by kernel_rfl) ?_;exact nr M fun e=>.inl ⟨_,rfl,e,H.ls,A⟩
  clear O;clear A;intro e D S G;rcases G with⟨x4,rfl,rfl,H,A⟩|I
  ·show AW _ _ _ _ _ _ _;refine AO (AF 2 (AM 2 [(34,.bool (decide (x4>9007199254740991)))] H fun D H=>AU 34 H M (fun B M H=>?_) fun B M H=>?_))
   ·refine AF 2 (AM 2 [(2,Ai 0),(3,Ai 6)] H fun D H=>AY ?_);obtain⟨rfl,rfl⟩:=B3 M;exact⟨.inl rfl,_,rH H,rfl,A⟩
   refine BZ 3 id (AM 3 [(2,Ai x4),(3,Ai 0)] H fun D H=>AY ?_);obtain⟨rfl,rfl⟩:=B3 M;exact⟨.inl rfl,_,rH H,rfl,A⟩
  exact I.elim
 refine BY id (AO (AF 3 ?_));obtain⟨x7,X,M⟩:=bind_some M;refine Aq 1 [] 37 (Ab x7) h H (fun D=>.of (DN (by kernel_rfl) X)) fun D t H=>?_;refine AM 1 [(38,.bool (x7==255))] H fun D H=>AU 38 H M (fun B M H=>?_) fun B M H=>?_
 ·refine AF 1 (AM 1 [(7,Ai 0)] H fun D H=>AO (AF 1 (AM 1 [(8,Ai 1)] H fun D H=>Ae (id:=2) (by kernel_rfl) ?_)));obtain⟨o2,O,M⟩:=bind_some M;refine An (Q':=fun e N Q=>(∃x10,e=.exit 2∧x10=o2∧Has N 110 [(7,Ai x10)]∧HH g Q [] F)∨False) ?_ ?_
  ·refine BQ (by kernel_rfl) (fun(s:Int×Int) N Q=>∃x8 x9,(x8,x9)=s∧Has N 110 [(0,.str p0),(4,Ai (p0.length:Int)),(7,Ai x8),(8,Ai x9)]∧HH g Q [] F) O ⟨_,_,rfl,H.ls,A⟩ ?_;clear O M H A;intro s q D W J M;obtain⟨x8,x9,rfl,H,A⟩:=J;unfold HK at M;refine AO (AF 3 (AM 3 [(41,.bool (decide (x9<(p0.length:Int))))] H fun D H=>AU 41 H M (fun B M H=>?_) fun B M H=>?_))
   ·refine BY id (AO (Ae (id:=3) (by kernel_rfl) ?_));refine BH 8 ?_;obtain⟨x11,X,M⟩:=bind_some M;refine Aq 3 [(44,Ai x8)] 47 (Ab x11) W H (fun D=>.of (DN (by kernel_rfl) X)) fun D t H=>?_;obtain⟨x12,X,M⟩:=bind_some M;obtain⟨v1,h5,R,rfl,E⟩:=Gb (av:=[Ai x8,Ai 256,Ai (i64.wrap ((255:Int) - (i64.wrap x11)))]) X (A.cut 0);replace A:=A.Dx E;refine Az 2 [] 50 R H fun D t H=>?_;refine Aw 1 [(0,.str p0),(4,Ai (p0.length:Int)),(7,Ai x12),(8,Ai x9)] H fun D H=>Ee 3 id (Aw 3 [(0,.str p0),(4,Ai (p0.length:Int)),(7,Ai x12),(8,Ai (i64.wrap (x9+1)))] H fun D H=>at_nil ?_);exact nx M ⟨_,_,rfl,H.ls,A⟩
   refine BL (i:=2) (by kernel_rfl) ?_;exact nr M fun e=>.inl ⟨_,rfl,e,H.ls,A⟩
  clear O;clear A;intro e D h6 G;rcases G with⟨x10,rfl,rfl,H,A⟩|I
  ·show AW _ _ _ _ _ _ _;refine AO (AF 3 (AM 3 [(53,.bool (decide ((i64.wrap (x10+1))>9007199254740991)))] H fun D H=>AU 53 H M (fun B M H=>?_) fun B M H=>?_))
   ·refine AF 2 (AM 2 [(2,Ai 0),(3,Ai 6)] H fun D H=>AY ?_);obtain⟨rfl,rfl⟩:=B3 M;exact⟨.inl rfl,_,rH H,rfl,A⟩
   refine BZ 5 id (AM 5 [(2,Ai (i64.wrap ((i64.wrap (0 - x10)) - 1))),(3,Ai 0)] H fun D H=>AY ?_);obtain⟨rfl,rfl⟩:=B3 M;exact⟨.inl rfl,_,rH H,rfl,A⟩
  exact I.elim
 refine BZ 1 id (AM 1 [(9,Ai 0)] H fun D H=>AO (Ae (id:=4) (by kernel_rfl) ?_));obtain⟨o3,O,M⟩:=bind_some M;refine An (Q':=fun e N Q=>(∃x14,e=.exit 4∧x14=o3∧Has N 110 [(0,.str p0),(4,Ai (p0.length:Int)),(9,Ai x14)]∧HH g Q [] F)∨False) ?_ ?_
 ·refine BQ (by kernel_rfl) (fun(s:Int) N Q=>∃x13,x13=s∧Has N 110 [(0,.str p0),(4,Ai (p0.length:Int)),(9,Ai x13)]∧HH g Q [] F) O ⟨_,rfl,H.ls,A⟩ ?_;clear O M H A;intro s q D P J M;obtain⟨x13,rfl,H,A⟩:=J;unfold EY at M;refine AO (AF 9 (AG 4 [(60,.bool (decide (x13<(p0.length:Int))))] H fun D H=>?_));obtain⟨x15,O,M⟩:=bind_some M;refine Am 5 (fun N Q=>Has N 110 [(0,.str p0),(4,Ai (p0.length:Int)),(9,Ai x13),(65,.bool x15)]∧HH g Q [] F) ?_ ?_
  ·rcases As O with⟨B,M⟩|⟨B,M⟩
   ·replace H:=H.kn 60 B;obtain⟨x16,X,M⟩:=bind_some M;refine Aq 2 [] 63 (Ab x16) P H (fun D=>.of (DN (by kernel_rfl) X)) fun D t H=>?_;refine AG 2 [(65,.bool (x16==32))] H fun D H=>?_;obtain rfl:=Ac M;exact at_nil ⟨H.ls,A⟩
   replace H:=H.kn 60 B;refine AG 5 [(65,.bool false)] H fun D H=>?_;obtain rfl:=Ac M;exact at_nil ⟨H.ls,A⟩
  clear A;intro t D h8 C;obtain⟨H,A⟩:=C;refine A8 id (AU 65 H M (fun B M H=>?_) fun B M H=>?_)
  ·refine BY id (Ae (id:=5) (by kernel_rfl) ?_);refine BH 3 (Aw 3 [(0,.str p0),(4,Ai (p0.length:Int)),(9,Ai (i64.wrap (x13+1)))] H fun D H=>at_nil ?_);exact nx M ⟨_,rfl,H.ls,A⟩
  refine BL (i:=4) (by kernel_rfl) ?_;exact nr M fun e=>.inl ⟨_,rfl,e,H.ls,A⟩
 clear O;clear A;intro e D V G;rcases G with⟨x14,rfl,rfl,H,A⟩|I
 ·show AW _ _ _ _ _ _ _;refine AF 1 (AM 1 [(10,Ai 0)] H fun D H=>AO (Ae (id:=6) (by kernel_rfl) ?_));obtain⟨o4,O,M⟩:=bind_some M;refine An (Q':=fun e N Q=>(∃x19 x20,e=.exit 6∧(x19,x20)=o4∧Has N 110 [(0,.str p0),(4,Ai (p0.length:Int)),(9,Ai x19),(10,Ai x20)]∧HH g Q [] F)∨False) ?_ ?_
  ·refine BQ (by kernel_rfl) (fun(s:Int×Int) N Q=>∃x17 x18,(x17,x18)=s∧Has N 110 [(0,.str p0),(4,Ai (p0.length:Int)),(9,Ai x17),(10,Ai x18)]∧HH g Q [] F) O ⟨_,_,rfl,H.ls,A⟩ ?_;clear O M H A;intro s q D h10 J M;obtain⟨x17,x18,rfl,H,A⟩:=J;unfold CV at M;refine AO (AF 15 (AG 4 [(71,.bool (decide (x17<(p0.length:Int))))] H fun D H=>?_));obtain⟨x21,O,M⟩:=bind_some M;refine Am 5 (fun N Q=>Has N 110 [(0,.str p0),(4,Ai (p0.length:Int)),(9,Ai x17),(10,Ai x18),(76,.bool x21)]∧HH g Q [] F) ?_ ?_
   ·rcases As O with⟨B,M⟩|⟨B,M⟩
    ·replace H:=H.kn 71 B;obtain⟨x22,X,M⟩:=bind_some M;refine Aq 2 [] 74 (Ab x22) h10 H (fun D=>.of (DN (by kernel_rfl) X)) fun D t H=>?_;refine AG 2 [(76,.bool (decide (x22≥48)))] H fun D H=>?_;obtain rfl:=Ac M;exact at_nil ⟨H.ls,A⟩
    replace H:=H.kn 71 B;refine AG 5 [(76,.bool false)] H fun D H=>?_;obtain rfl:=Ac M;exact at_nil ⟨H.ls,A⟩
   clear A;intro t D K C;obtain⟨H,A⟩:=C;refine AG 1 [(77,.bool x21)] H fun D H=>?_;obtain⟨x23,O,M⟩:=bind_some M;refine Am 5 (fun N Q=>Has N 110 [(0,.str p0),(4,Ai (p0.length:Int)),(9,Ai x17),(10,Ai x18),(82,.bool x23)]∧HH g Q [] F) ?_ ?_
   ·rcases As O with⟨B,M⟩|⟨B,M⟩
    ·replace H:=H.kn 77 B;obtain⟨x24,X,M⟩:=bind_some M;refine Aq 2 [] 80 (Ab x24) K H (fun D=>.of (DN (by kernel_rfl) X)) fun D t H=>?_;refine AG 2 [(82,.bool (decide (x24≤55)))] H fun D H=>?_;obtain rfl:=Ac M;exact at_nil ⟨H.ls,A⟩
    replace H:=H.kn 77 B;refine AG 5 [(82,.bool false)] H fun D H=>?_;obtain rfl:=Ac M;exact at_nil ⟨H.ls,A⟩
   clear A;intro t D Z C;obtain⟨H,A⟩:=C;refine A8 id (AU 82 H M (fun B M H=>?_) fun B M H=>?_)
   ·refine BY id (Ae (id:=7) (by kernel_rfl) ?_);refine AF 8 ?_;obtain⟨x25,X,M⟩:=bind_some M;refine Aq 3 [(83,Ai x18)] 86 (Ab x25) Z H (fun D=>.of (DN (by kernel_rfl) X)) fun D t H=>?_;obtain⟨x26,X,M⟩:=bind_some M;obtain⟨v1,Y,R,rfl,E⟩:=Gb (av:=[Ai x18,Ai 8,Ai (i64.wrap ((i64.wrap x25) - 48))]) X (A.cut 0);replace A:=A.Dx E;refine Az 2 [] 89 R H fun D t H=>?_;refine Aw 1 [(0,.str p0),(4,Ai (p0.length:Int)),(9,Ai x17),(10,Ai x26)] H fun D H=>Ee 3 id (Aw 3 [(0,.str p0),(4,Ai (p0.length:Int)),(9,Ai (i64.wrap (x17+1))),(10,Ai x26)] H fun D H=>at_nil ?_);exact nx M ⟨_,_,rfl,H.ls,A⟩
   refine BL (i:=6) (by kernel_rfl) ?_;exact nr M fun e=>.inl ⟨_,_,rfl,e,H.ls,A⟩
  clear O;clear A;intro e D h14 G;rcases G with⟨x19,x20,rfl,rfl,H,A⟩|I
  ·show AW _ _ _ _ _ _ _;refine AO (Ae (id:=8) (by kernel_rfl) ?_);obtain⟨o5,O,M⟩:=bind_some M;refine An (Q':=fun e N Q=>(e=.exit 8∧.inl ()=o5∧Has N 110 [(10,Ai x20)]∧HH g Q [] F)∨(∃x28 x29,e=.ret∧.inr (x28,x29)=o5∧Has N 110 [(2,Ai x28),(3,Ai x29)]∧HH g Q [] F)∨False) ?_ ?_
   ·refine BQ (by kernel_rfl) (fun(s:Int) N Q=>∃x27,x27=s∧Has N 110 [(0,.str p0),(4,Ai (p0.length:Int)),(9,Ai x27),(10,Ai x20)]∧HH g Q [] F) O ⟨_,rfl,H.ls,A⟩ ?_;clear O M H A;intro s q D h15 J M;obtain⟨x27,rfl,H,A⟩:=J;unfold Ba at M;refine AO (AF 3 (AM 3 [(94,.bool (decide (x27<(p0.length:Int))))] H fun D H=>AU 94 H M (fun B M H=>?_) fun B M H=>?_))
    ·refine BY id (Ae (id:=9) (by kernel_rfl) ?_);refine AO (AF 10 ?_);obtain⟨x30,X,M⟩:=bind_some M;refine Aq 2 [] 97 (Ab x30) h15 H (fun D=>.of (DN (by kernel_rfl) X)) fun D t H=>?_;refine AG 2 [(99,.bool (x30 !=32))] H fun D H=>?_;obtain⟨x31,O,M⟩:=bind_some M;refine Am 5 (fun N Q=>Has N 110 [(0,.str p0),(4,Ai (p0.length:Int)),(9,Ai x27),(10,Ai x20),(104,.bool x31)]∧HH g Q [] F) ?_ ?_
     ·rcases As O with⟨B,M⟩|⟨B,M⟩
      ·replace H:=H.kn 99 B;obtain⟨x32,X,M⟩:=bind_some M;refine Aq 2 [] 102 (Ab x32) h15 H (fun D=>.of (DN (by kernel_rfl) X)) fun D t H=>?_;refine AG 2 [(104,.bool (x32 !=0))] H fun D H=>?_;obtain rfl:=Ac M;exact at_nil ⟨H.ls,A⟩
      replace H:=H.kn 99 B;refine AG 5 [(104,.bool false)] H fun D H=>?_;obtain rfl:=Ac M;exact at_nil ⟨H.ls,A⟩
     clear A;intro t D h16 C;obtain⟨H,A⟩:=C;refine A8 id (AU 104 H M (fun B M H=>?_) fun B M H=>?_)
     ·refine AF 2 (AM 2 [(2,Ai 0),(3,Ai 2)] H fun D H=>AY ?_);exact nr M fun e=>Or.inr (.inl ⟨_,_,rfl,e,H.ls,A⟩)
     refine FC 3 id (Aw 3 [(0,.str p0),(4,Ai (p0.length:Int)),(9,Ai (i64.wrap (x27+1))),(10,Ai x20)] H fun D H=>at_nil ?_);exact nx M ⟨_,rfl,H.ls,A⟩
    refine BL (i:=8) (by kernel_rfl) ?_;exact nr M fun e=>.inl ⟨rfl,e,H.ls,A⟩
   clear O;clear A;intro e D h17 G;rcases G with⟨rfl,rfl,H,A⟩|⟨x28,x29,rfl,rfl,H,A⟩|I
   ·show AW _ _ _ _ _ _ _;refine AO (AF 2 (AM 2 [(108,.bool (decide (x20>9007199254740991)))] H fun D H=>AU 108 H M (fun B M H=>?_) fun B M H=>?_))
    ·refine AF 2 (AM 2 [(2,Ai 0),(3,Ai 6)] H fun D H=>AY ?_);obtain⟨rfl,rfl⟩:=B3 M;exact⟨.inl rfl,_,rH H,rfl,A⟩
    refine BZ 3 id (AM 3 [(2,Ai x20),(3,Ai 0)] H fun D H=>AY ?_);obtain⟨rfl,rfl⟩:=B3 M;exact⟨.inl rfl,_,rH H,rfl,A⟩
   ·obtain⟨rfl,rfl⟩:=B3 M;exact⟨.inl rfl,_,rH H,rfl,A⟩
   exact I.elim
  exact I.elim
 exact I.elim
def Es(p0:List UInt8)(p1:Bool)(s:Int×Int):Option ((Int×Int)⊕((Int))):=
 match s with
 |(x1,x2)=>AX (decide (x2<512)) ((AX ((decide (x2≥148))&&(decide (x2≤155))) (some (i64.wrap (x1+32))) ((AX p1 ((JQ p0 x2).bind fun x6=>some (decide (x6≥128))) (some false):Option (Bool)).bind fun x5=>AX x5 ((JQ p0 x2).bind fun x7=>some (i64.wrap (x1+(i64.wrap ((i64.wrap x7) - 256))))) ((JQ p0 x2).bind fun x8=>some (i64.wrap (x1+(i64.wrap x8))))):Option ((Int))).bind fun x4=>some (.inl (x4,i64.wrap (x2+1)))) (some (.inr x1))
def Cw(p0:List UInt8)(p1:Bool):Option (Int):=
 (loop (Es p0 p1) ((0:Int),(0:Int))).bind fun x3=>some x3
theorem IT{p0 p1 q0}(M:Cw p0 p1=some q0)(A:HH g h [] F)(hc:BA (cfg.still 113) av=[.str p0,.bool p1]:=by kernel_rfl):∃v Q,BI cfg g h 113 av v Q∧v=Ai q0∧HH g Q [] F:=by
 refine EL 40 [.tmp 4] hc ?_;clear hc;unfold Cw at M;refine bg 40 [(0,.str p0),(1,.bool p1)] fun D H=>?_;refine AF 1 (Bk 1 [] 1 H fun D H=>AM 1 [(5,Ai 0)] H fun D H=>AO (AF 1 (AM 1 [(6,Ai 0)] H fun D H=>Ae (id:=0) (by kernel_rfl) ?_)));obtain⟨o1,O,M⟩:=bind_some M;refine An (Q':=fun e N Q=>(∃x3,e=.exit 0∧x3=o1∧Has N 40 [(5,Ai x3)]∧HH g Q [] F)∨False) ?_ ?_
 ·refine BQ (by kernel_rfl) (fun(s:Int×Int) N Q=>∃x1 x2,(x1,x2)=s∧Has N 40 [(0,.str p0),(1,.bool p1),(5,Ai x1),(6,Ai x2)]∧HH g Q [] F) O ⟨_,_,rfl,H.ls,A⟩ ?_;clear O M H A;intro s q D h1 J M;obtain⟨x1,x2,rfl,H,A⟩:=J;unfold Es at M;refine AO (AF 2 (AM 2 [(8,.bool (decide (x2<512)))] H fun D H=>AU 8 H M (fun B M H=>?_) fun B M H=>?_))
  ·refine BY id (AO ?_);obtain⟨o2,O,M⟩:=bind_some M;refine An (Q':=fun e N Q=>(∃x4,e=.normal∧x4=o2∧Has N 40 [(0,.str p0),(1,.bool p1),(5,Ai x4),(6,Ai x2)]∧HH g Q [] F)∨False) ?_ ?_
   ·replace M:=O;clear O;refine Ae (id:=1) (by kernel_rfl) ?_;refine AF 6 (AG 3 [(13,.bool (decide (x2≥148)))] H fun D H=>Am 3 (fun N Q=>h1=Q∧Has N 40 [(0,.str p0),(1,.bool p1),(5,Ai x1),(6,Ai x2),(16,.bool ((decide (x2≥148))&&(decide (x2≤155))))]) ?_ ?_)
    ·cases B:(decide (x2≥148):Bool)with
     |true=>
      replace H:=H.kn 13 B;exact AG 3 [(16,.bool (decide (x2≤155)))] H fun D H=>AV H B
     |false=>
      replace H:=H.kn 13 B;exact AG 3 [(16,.bool false)] H fun D H=>AV H B
    intro t D Q C;obtain⟨e,H⟩:=C;subst e;refine A8 id (AU 16 H M (fun B M H=>?_) fun B M H=>?_)
    ·refine BH 3 (Aw 3 [(0,.str p0),(1,.bool p1),(5,Ai (i64.wrap (x1+32))),(6,Ai x2)] H fun D H=>at_nil ?_);exact .inl ⟨_,rfl,Ac M,H.ls,A⟩
    refine AF 7 (AG 2 [(20,.bool p1)] H fun D H=>?_);obtain⟨x5,O,M⟩:=bind_some M;refine Am 5 (fun N Q=>Has N 40 [(0,.str p0),(1,.bool p1),(5,Ai x1),(6,Ai x2),(25,.bool x5)]∧HH g Q [] F) ?_ ?_
    ·rcases As O with⟨B,M⟩|⟨B,M⟩
     ·replace H:=H.kn 20 B;obtain⟨x6,X,M⟩:=bind_some M;refine Aq 2 [] 23 (Ab x6) h1 H (fun D=>.of (DN (by kernel_rfl) X)) fun D t H=>?_;refine AG 2 [(25,.bool (decide (x6≥128)))] H fun D H=>?_;obtain rfl:=Ac M;exact at_nil ⟨H.ls,A⟩
     replace H:=H.kn 20 B;refine AG 5 [(25,.bool false)] H fun D H=>?_;obtain rfl:=Ac M;exact at_nil ⟨H.ls,A⟩
    clear A;intro t D h2 C;obtain⟨H,A⟩:=C;refine A8 id (AU 25 H M (fun B M H=>?_) fun B M H=>?_)
    ·refine BH 8 ?_;obtain⟨x7,X,M⟩:=bind_some M;refine Aq 3 [(26,Ai x1)] 29 (Ab x7) h2 H (fun D=>.of (DN (by kernel_rfl) X)) fun D t H=>?_;refine Aw 4 [(0,.str p0),(1,.bool p1),(5,Ai (i64.wrap (x1+(i64.wrap ((i64.wrap x7) - 256))))),(6,Ai x2)] H fun D H=>at_nil ?_;exact .inl ⟨_,rfl,Ac M,H.ls,A⟩
    refine BH 7 ?_;obtain⟨x8,X,M⟩:=bind_some M;refine Aq 3 [(33,Ai x1)] 36 (Ab x8) h2 H (fun D=>.of (DN (by kernel_rfl) X)) fun D t H=>?_;refine Aw 3 [(0,.str p0),(1,.bool p1),(5,Ai (i64.wrap (x1+(i64.wrap x8)))),(6,Ai x2)] H fun D H=>at_nil ?_;exact .inl ⟨_,rfl,Ac M,H.ls,A⟩
   clear O;clear A;intro e D S G;rcases G with⟨x4,rfl,rfl,H,A⟩|I
   ·show AW _ _ _ _ _ _ _;refine BH 3 (Aw 3 [(0,.str p0),(1,.bool p1),(5,Ai x4),(6,Ai (i64.wrap (x2+1)))] H fun D H=>at_nil ?_);exact nx M ⟨_,_,rfl,H.ls,A⟩
   exact I.elim
  refine BL (i:=0) (by kernel_rfl) ?_;exact nr M fun e=>.inl ⟨_,rfl,e,H.ls,A⟩
 clear O;clear A;intro e D W G;rcases G with⟨x3,rfl,rfl,H,A⟩|I
 ·show AW _ _ _ _ _ _ _;refine AF 2 (AM 2 [(4,Ai x3)] H fun D H=>AY ?_);obtain rfl:=Ac M;exact⟨.inl rfl,_,rH H,rfl,A⟩
 exact I.elim
def EA(p0:List UInt8):Option (Bool):=
 (AX ((p0.length:Int) !=512) (some true) ((JQ p0 (148:Int)).bind fun x2=>some (decide (x2≥128))):Option (Bool)).bind fun x1=>AX x1 (some false) ((D6 p0 (some (148:Int)) (some (156:Int))).bind fun x3=>(Bf x3).bind fun(x4,x5)=>(AX (x5==0) ((Cw p0 false).bind fun x7=>(AX (x4==x7) (some true) ((Cw p0 true).bind fun x9=>some (x4==x9)):Option (Bool)).bind fun x8=>some x8) (some false):Option (Bool)).bind fun x6=>some x6)
theorem K6{p0 q0}(M:EA p0=some q0)(A:HH g h [] F)(hc:BA (cfg.still 63) av=[.str p0]:=by kernel_rfl):∃v Q,BI cfg g h 63 av v Q∧v=.bool q0∧HH g Q [] F:=by
 refine EL 33 [.tmp 2] hc ?_;clear hc;unfold EA at M;refine bg 33 [(0,.str p0)] fun D H=>?_;refine AF 1 (AM 1 [] H fun D H=>AO (AF 8 (AG 4 [(8,.bool ((p0.length:Int) !=512))] H fun D H=>?_)));obtain⟨x1,O,M⟩:=bind_some M;refine Am 4 (fun N Q=>Has N 33 [(0,.str p0),(12,.bool x1)]∧HH g Q [] F) ?_ ?_
 ·rcases As O with⟨B,M⟩|⟨B,M⟩
  ·replace H:=H.kn 8 B;refine AG 4 [(12,.bool true)] H fun D H=>?_;obtain rfl:=Ac M;exact at_nil ⟨H.ls,A⟩
  replace H:=H.kn 8 B;obtain⟨x2,X,M⟩:=bind_some M;refine Aq 1 [] 10 (Ab x2) h H (fun D=>.of (DN (by kernel_rfl) X)) fun D t H=>?_;refine AG 2 [(12,.bool (decide (x2≥128)))] H fun D H=>?_;obtain rfl:=Ac M;exact at_nil ⟨H.ls,A⟩
 clear A;intro t D h1 C;obtain⟨H,A⟩:=C;refine A8 id (AU 12 H M (fun B M H=>?_) fun B M H=>?_)
 ·refine AF 1 (AM 1 [(2,.bool false)] H fun D H=>AY ?_);obtain rfl:=Ac M;exact⟨.inl rfl,_,rH H,rfl,A⟩
 refine BZ 8 id ?_;obtain⟨x3,X,M⟩:=bind_some M;refine Aq 1 [] 15 (.str x3) h1 H (fun D=>.of (Cy (k:=.i64) (k':=.i64) (lo:=(some (148:Int))) (hi:=(some (156:Int))) (by kernel_rfl) X)) fun D t H=>?_;obtain⟨⟨x4,x5⟩,X,M⟩:=bind_some M;obtain⟨v1,h2,R,rfl,E⟩:=H4 (av:=[.str x3]) X (A.cut 0);replace A:=A.Dx E;refine A5 16 R H fun D t H=>?_;refine Bk 5 [(3,Ai x4),(4,Ai x5)] 15 H fun D H=>AG 3 [(21,.bool (x5==0))] H fun D H=>?_;obtain⟨x6,O,M⟩:=bind_some M;refine Am 11 (fun N Q=>Has N 33 [(32,.bool x6)]∧HH g Q [] F) ?_ ?_
 ·rcases As O with⟨B,M⟩|⟨B,M⟩
  ·replace H:=H.kn 21 B;obtain⟨x7,X,M⟩:=bind_some M;obtain⟨v1,W,R,rfl,E⟩:=IT (av:=[.str p0,.bool false]) X (A.cut 0);replace A:=A.Dx E;refine Az 2 [(22,Ai x4)] 24 R H fun D t H=>?_;refine AG 2 [(26,.bool (x4==x7))] H fun D H=>?_;obtain⟨x8,O,M⟩:=bind_some M;refine Am 5 (fun N Q=>Has N 33 [(21,.bool true),(31,.bool x8)]∧HH g Q [] F) ?_ ?_
   ·rcases As O with⟨B,M⟩|⟨B,M⟩
    ·replace H:=H.kn 26 B;refine AG 5 [(31,.bool true)] H fun D H=>?_;obtain rfl:=Ac M;exact at_nil ⟨H.ls,A⟩
    replace H:=H.kn 26 B;obtain⟨x9,X,M⟩:=bind_some M;obtain⟨v1,h6,R,rfl,E⟩:=IT (av:=[.str p0,.bool true]) X (A.cut 0);replace A:=A.Dx E;refine Az 2 [(27,Ai x4)] 29 R H fun D t H=>?_;refine AG 2 [(31,.bool (x4==x9))] H fun D H=>?_;obtain rfl:=Ac M;exact at_nil ⟨H.ls,A⟩
   clear A;intro t D h5 C;obtain⟨H,A⟩:=C;refine AG 1 [(32,.bool x8)] H fun D H=>?_;obtain rfl:=Ac M;exact at_nil ⟨H.ls,A⟩
  replace H:=H.kn 21 B;refine AG 11 [(32,.bool false)] H fun D H=>?_;obtain rfl:=Ac M;exact at_nil ⟨H.ls,A⟩
 clear A;intro t D S C;obtain⟨H,A⟩:=C;refine AM 1 [(2,.bool x6)] H fun D H=>AY ?_;obtain rfl:=Ac M;exact⟨.inl rfl,_,rH H,rfl,A⟩
def BR(p0:List UInt8)(p1:Int)(p2:Int)(p3:Bool):Option (Int×Int):=
 (D6 p0 (some p1) (some (i64.wrap (p1+p2)))).bind fun x1=>(Bf x1).bind fun(x2,x3)=>AX (((x3==0)&&(decide (x2<0)))&&(!p3)) (some ((0:Int),(6:Int))) (some (x2,x3))
theorem By{p0 p1 p2 p3 q0 q1}(M:BR p0 p1 p2 p3=some (q0,q1))(A:HH g h [] F)(hc:BA (cfg.still 64) av=[.str p0,Ai p1,Ai p2,.bool p3]:=by kernel_rfl):∃v Q,BI cfg g h 64 av v Q∧v=.tuple [Ai q0,Ai q1]∧HH g Q [] F:=by
 refine EL 34 [.tmp 8,.tmp 9] hc ?_;clear hc;unfold BR at M;refine bg 34 [(0,.str p0),(1,Ai p1),(2,Ai p2),(3,.bool p3)] fun D H=>?_;refine AF 2 (Bk 2 [] 12 H fun D H=>?_);obtain⟨x1,X,M⟩:=bind_some M;refine Aq 5 [] 18 (.str x1) h H (fun D=>.of (Cy (k:=.i64) (k':=.i64) (lo:=(some p1)) (hi:=(some (i64.wrap (p1+p2)))) (by kernel_rfl) X)) fun D t H=>?_;obtain⟨⟨x2,x3⟩,X,M⟩:=bind_some M;obtain⟨v1,h1,R,rfl,E⟩:=H4 (av:=[.str x1]) X (A.cut 0);replace A:=A.Dx E;refine A5 19 R H fun D t H=>?_;refine AM 5 [(10,Ai x2),(11,Ai x3)] H fun D H=>AO (AF 10 (AG 3 [(24,.bool (x3==0))] H fun D H=>Am 3 (fun N Q=>h1=Q∧Has N 34 [(3,.bool p3),(10,Ai x2),(11,Ai x3),(27,.bool ((x3==0)&&(decide (x2<0))))]) ?_ ?_))
 ·cases B:(x3==0:Bool)with
  |true=>
   replace H:=H.kn 24 B;exact AG 3 [(27,.bool (decide (x2<0)))] H fun D H=>AV H B
  |false=>
   replace H:=H.kn 24 B;exact AG 3 [(27,.bool false)] H fun D H=>AV H B
 intro t D Q C;obtain⟨e,H⟩:=C;subst e;refine AG 1 [(28,.bool ((x3==0)&&(decide (x2<0))))] H fun D H=>Am 3 (fun N Q=>h1=Q∧Has N 34 [(10,Ai x2),(11,Ai x3),(31,.bool (((x3==0)&&(decide (x2<0)))&&(!p3)))]) ?_ ?_
 ·cases B:((x3==0)&&(decide (x2<0)):Bool)with
  |true=>
   replace H:=H.kn 28 B;exact AG 3 [(31,.bool (!p3))] H fun D H=>AV H B
  |false=>
   replace H:=H.kn 28 B;exact AG 3 [(31,.bool false)] H fun D H=>AV H B
 intro t D Q C;obtain⟨e,H⟩:=C;subst e;refine A8 id (AU 31 H M (fun B M H=>?_) fun B M H=>?_)
 ·refine AF 2 (AM 2 [(8,Ai 0),(9,Ai 6)] H fun D H=>AY ?_);obtain⟨rfl,rfl⟩:=B3 M;exact⟨.inl rfl,_,rH H,rfl,A⟩
 refine BZ 4 id (AM 4 [(8,Ai x2),(9,Ai x3)] H fun D H=>AY ?_);obtain⟨rfl,rfl⟩:=B3 M;exact⟨.inl rfl,_,rH H,rfl,A⟩
def FV(p0:List UInt8)(s:Int):Option ((Int)⊕((Int))):=
 match s with
 |x1=>(AX (decide (x1<(p0.length:Int))) ((JQ p0 x1).bind fun x4=>some (x4 !=0)) (some false):Option (Bool)).bind fun x3=>AX x3 (some (.inl (i64.wrap (x1+1)))) (some (.inr x1))
def A6(p0:List UInt8):Option ((List UInt8)):=
 (loop (FV p0) (0:Int)).bind fun x2=>(D6 p0 none (some x2)).bind fun x5=>some x5
theorem Bd{p0 q0}(M:A6 p0=some q0)(A:HH g h [] F)(hc:BA (cfg.still 65) av=[.str p0]:=by kernel_rfl):∃v Q,BI cfg g h 65 av v Q∧v=.str q0∧HH g Q [] F:=by
 refine EL 19 [.tmp 2] hc ?_;clear hc;unfold A6 at M;refine bg 19 [(0,.str p0)] fun D H=>?_;refine AF 1 (Bk 1 [] 1 H fun D H=>AM 1 [(3,Ai 0)] H fun D H=>AO (Ae (id:=0) (by kernel_rfl) ?_));obtain⟨o1,O,M⟩:=bind_some M;refine An (Q':=fun e N Q=>(∃x2,e=.exit 0∧x2=o1∧Has N 19 [(0,.str p0),(3,Ai x2)]∧HH g Q [] F)∨False) ?_ ?_
 ·refine BQ (by kernel_rfl) (fun(s:Int) N Q=>∃x1,x1=s∧Has N 19 [(0,.str p0),(3,Ai x1)]∧HH g Q [] F) O ⟨_,rfl,H.ls,A⟩ ?_;clear O M H A;intro s q D h1 J M;obtain⟨x1,rfl,H,A⟩:=J;unfold FV at M;refine AO (AF 10 (AG 5 [(8,.bool (decide (x1<(p0.length:Int))))] H fun D H=>?_));obtain⟨x3,O,M⟩:=bind_some M;refine Am 5 (fun N Q=>Has N 19 [(0,.str p0),(3,Ai x1),(13,.bool x3)]∧HH g Q [] F) ?_ ?_
  ·rcases As O with⟨B,M⟩|⟨B,M⟩
   ·replace H:=H.kn 8 B;obtain⟨x4,X,M⟩:=bind_some M;refine Aq 2 [] 11 (Ab x4) h1 H (fun D=>.of (DN (by kernel_rfl) X)) fun D t H=>?_;refine AG 2 [(13,.bool (x4 !=0))] H fun D H=>?_;obtain rfl:=Ac M;exact at_nil ⟨H.ls,A⟩
   replace H:=H.kn 8 B;refine AG 5 [(13,.bool false)] H fun D H=>?_;obtain rfl:=Ac M;exact at_nil ⟨H.ls,A⟩
  clear A;intro t D h2 C;obtain⟨H,A⟩:=C;refine A8 id (AU 13 H M (fun B M H=>?_) fun B M H=>?_)
  ·refine BY id (Ae (id:=1) (by kernel_rfl) ?_);refine BH 3 (Aw 3 [(0,.str p0),(3,Ai (i64.wrap (x1+1)))] H fun D H=>at_nil ?_);exact nx M ⟨_,rfl,H.ls,A⟩
  refine BL (i:=0) (by kernel_rfl) ?_;exact nr M fun e=>.inl ⟨_,rfl,e,H.ls,A⟩
 clear O;clear A;intro e D S G;rcases G with⟨x2,rfl,rfl,H,A⟩|I
 ·show AW _ _ _ _ _ _ _;refine AF 4 ?_;obtain⟨x5,X,M⟩:=bind_some M;refine Aq 2 [] 18 (.str x5) S H (fun D=>.of (Cy (k:=.i64) (k':=.i64) (lo:=none) (hi:=(some x2)) (by kernel_rfl) X)) fun D t H=>?_;refine AM 1 [(2,.str x5)] H fun D H=>AY ?_;obtain rfl:=Ac M;exact⟨.inl rfl,_,rH H,rfl,A⟩
 exact I.elim
def Dh(p0:List AA)(p1:AA)(s:(List AA)×Bool×Int):Option (((List AA)×Bool×Int)⊕(((List AA)×Bool))):=
 match s with
 |(x1,x2,x3)=>AX (decide (x3<(p0.length:Int))) ((((AX (!x2) ((G8 p0 x3).bind fun x11=>some (Op.bytesLess p1.Key x11.Key||p1.Key==x11.Key)) (some false):Option (Bool)).bind fun x10=>AX x10 (Bn (MY 32 (x1.length+([p1]:List AA).length))<|some ((x1++([p1]:List AA)),true)) (some (x1,x2)):Option (((List AA)×Bool))).bind fun(x8,x9)=>(G8 p0 x3).bind fun x12=>AX (!(x12.Key==p1.Key)) ((G8 p0 x3).bind fun x13=>Bn (MY 32 (x8.length+([x13]:List AA).length))<|some ((x8++([x13]:List AA)),x9)) (some (x8,x9)):Option (((List AA)×Bool))).bind fun(x6,x7)=>some (.inl (x6,x7,i64.wrap (x3+1)))) (some (.inr (x1,x2)))
def A2(p0:List AA)(p1:AA):Option ((List AA)):=
 (loop (Dh p0 p1) (([]:List AA),false,(0:Int))).bind fun(x4,x5)=>(AX (!x5) (Bn (MY 32 (x4.length+([p1]:List AA).length))<|some (x4++([p1]:List AA))) (some x4):Option (((List AA)))).bind fun x14=>some x14
theorem BP{p0 p1 rp0 q0}(M:A2 p0 p1=some q0)(A:HH g h [.Af rp0 106 (Af AD p0)] F)(hc:BA (cfg.still 117) av=[AP rp0 p0.length,.agg [.str p1.Key,.str p1.Value]]:=by kernel_rfl):∃v Q,BI cfg g h 117 av v Q∧∃(rq0:Option Nat),v=AP rq0 q0.length∧HH g Q [.Af rq0 106 (Af AD q0),.Af rp0 106 (Af AD p0)] F:=by
 refine EL 53 [.tmp 4] hc ?_;clear hc;unfold A2 at M;refine bg 53 [(0,AP rp0 p0.length),(1,.agg [.str p1.Key,.str p1.Value])] fun D H=>?_;refine AF 2 ?_;obtain⟨h1,e1,A⟩:=A.pu (.cells none 2 [.str p1.Key,.str p1.Value]);refine A9 3 (.ptr (some (h.size,0))) e1 H fun D t H=>?_;refine Bk 1 [] 2 H fun D H=>?_;obtain⟨h2,e2,A⟩:=A.pL 106 [];refine A9 8 (AP (some h1.size) (([]:List AA).length)) e2 H fun D t H=>?_;refine Bk 1 [(5,AP (some h1.size) (([]:List AA).length))] 1 H fun D H=>AM 1 [(6,.bool false)] H fun D H=>AO (AF 1 (AM 1 [(7,Ai 0)] H fun D H=>Ae (id:=0) (by kernel_rfl) ?_));replace A:HH g h2 [.Af (some h1.size) 106 (Af AD ([]:List AA)),.obj h.size (.cells none 2 [.str p1.Key,.str p1.Value]),_] F:=A;obtain⟨o1,O,M⟩:=bind_some M;refine An (Q':=fun e N Q=>(∃x4 x5,e=.exit 0∧(x4,x5)=o1∧∃r2,Has N 53 [(3,.ptr (some (h.size,0))),(5,AP r2 x4.length),(6,.bool x5)]∧HH g Q [.Af r2 106 (Af AD x4),.obj h.size (.cells none 2 [.str p1.Key,.str p1.Value]),.Af rp0 106 (Af AD p0)] F)∨False) ?_ ?_
 ·refine BQ (by kernel_rfl) (fun(s:(List AA)×Bool×Int) N Q=>∃x1 x2 x3,(x1,x2,x3)=s∧∃r1,Has N 53 [(0,AP rp0 p0.length),(3,.ptr (some (h.size,0))),(5,AP r1 x1.length),(6,.bool x2),(7,Ai x3)]∧HH g Q [.Af r1 106 (Af AD x1),.obj h.size (.cells none 2 [.str p1.Key,.str p1.Value]),.Af rp0 106 (Af AD p0)] F) O ⟨_,_,_,rfl,some h1.size,H.ls,A⟩ ?_;clear O M H A;intro s q D S J M;obtain⟨x1,x2,x3,rfl,r1,H,A⟩:=J;unfold Dh at M;refine AO (AF 4 (AM 4 [(12,.bool (decide (x3<(p0.length:Int))))] H fun D H=>AU 12 H M (fun B M H=>?_) fun B M H=>?_))
  ·refine BY id (AO ?_);obtain⟨o2,O,M⟩:=bind_some M;refine An (Q':=fun e N Q=>(∃x6 x7,e=.normal∧(x6,x7)=o2∧∃r3,Has N 53 [(0,AP rp0 p0.length),(3,.ptr (some (h.size,0))),(5,AP r3 x6.length),(6,.bool x7),(7,Ai x3)]∧HH g Q [.Af r3 106 (Af AD x6),.obj h.size (.cells none 2 [.str p1.Key,.str p1.Value]),.Af rp0 106 (Af AD p0)] F)∨False) ?_ ?_
   ·replace M:=O;clear O;refine Ae (id:=1) (by kernel_rfl) ?_;refine AO ?_;obtain⟨o3,O,M⟩:=bind_some M;refine An (Q':=fun e N Q=>(∃x8 x9,e=.normal∧(x8,x9)=o3∧∃r4,Has N 53 [(0,AP rp0 p0.length),(3,.ptr (some (h.size,0))),(5,AP r4 x8.length),(6,.bool x9),(7,Ai x3)]∧HH g Q [.Af r4 106 (Af AD x8),.obj h.size (.cells none 2 [.str p1.Key,.str p1.Value]),.Af rp0 106 (Af AD p0)] F)∨False) ?_ ?_
    ·replace M:=O;clear O;refine AO (Gh 6 12 ?_);refine AG 3 [(17,.bool (!x2))] H fun D H=>?_;obtain⟨x10,O,M⟩:=bind_some M;refine Am 9 (fun N Q=>Has N 53 [(0,AP rp0 p0.length),(3,.ptr (some (h.size,0))),(5,AP r1 x1.length),(6,.bool x2),(7,Ai x3),(26,.bool x10)]∧HH g Q [.Af r1 106 (Af AD x1),.obj h.size (.cells none 2 [.str p1.Key,.str p1.Value]),.Af rp0 106 (Af AD p0)] F) ?_ ?_
     ·rcases As O with⟨B,M⟩|⟨B,M⟩
      ·replace H:=H.kn 17 B;refine AS 1 [] 19 1 0 A H fun D t H=>?_;obtain⟨x11,X,M⟩:=bind_some M;obtain⟨i1,er1,_,X,U⟩:=HH.QT AR (by decide) A 2 (xs:=p0) rfl X;refine Aq 2 [] 22 (.ptr (some (i1,x3.toNat*2))) S H (fun D=>.of (GV (s:=Cr rp0 p0.length) (by kernel_rfl) X)) fun D t H=>?_;refine Aq 1 [] 24 _ _ H (fun D=>.of (I7 (by kernel_rfl) (HL AR (HH.row A 2 rfl er1) U (o:=0) rfl))) fun D t H=>?_;refine AG 2 [(26,.bool (Op.bytesLess p1.Key x11.Key||p1.Key==x11.Key))] H fun D H=>?_;obtain rfl:=Ac M;exact at_nil ⟨H.ls,A⟩
      replace H:=H.kn 17 B;refine AG 9 [(26,.bool false)] H fun D H=>?_;obtain rfl:=Ac M;exact at_nil ⟨H.ls,A⟩
     clear A;intro t D W C;obtain⟨H,A⟩:=C;refine A8 id (AU 26 H M (fun B M H=>?_) fun B M H=>?_)
     ·refine AF 5 (Aq 1 [(27,AP r1 x1.length)] 28 _ _ H (fun D=>.of (Ay (by kernel_rfl) (A.DY 1 rfl (o:=0) (n:=2) ⟨zb rfl,rfl⟩))) fun D t H=>?_);obtain⟨h5,e3,A⟩:=A.pL 106 [.str p1.Key,.str p1.Value];refine A9 29 (AP (some W.size) (([p1]:List AA).length)) e3 H fun D t H=>?_;obtain⟨B,M⟩:=Ag M;obtain⟨r5,h6,X,E⟩:=HH.Il AR (by decide) A 1 (xs:=x1) (ys:=([p1]:List AA)) rfl (CU A 0 rfl (n:=([p1]:List AA).length) (z:=2) rfl (by decide)) rfl rfl B;replace A:HH g h6 [.Af (some W.size) 106 ([.str p1.Key,.str p1.Value]),.Af r5 106 (Af AD (x1++([p1]:List AA))),_,_] F:=E;replace A:=A.k3 1 2 3;refine Aa 30 _ _ H (fun D=>.of (Fx (s:=Cr r1 x1.length) (by kernel_rfl) X)) fun D t H=>?_;refine Aw 1 [(0,AP rp0 p0.length),(3,.ptr (some (h.size,0))),(5,AP r5 ((x1++([p1]:List AA)).length)),(7,Ai x3)] H fun D H=>Ee 1 id (AG 1 [(6,.bool true)] H fun D H=>at_nil ?_);exact .inl ⟨_,_,rfl,Ac M,_,H.ls,A⟩
     exact Dp (.inl ⟨_,_,rfl,Ac M,_,H.ls,A⟩)
    clear O;clear A;intro e D P G;rcases G with⟨x8,x9,rfl,rfl,r4,H,A⟩|I
    ·show AW _ _ _ _ _ _ _;refine AO (Gh 9 8 ?_);obtain⟨x12,X,M⟩:=bind_some M;obtain⟨i2,er2,_,X,T⟩:=HH.QT AR (by decide) A 2 (xs:=p0) rfl X;refine Aq 2 [] 33 (.ptr (some (i2,x3.toNat*2))) P H (fun D=>.of (GV (s:=Cr rp0 p0.length) (by kernel_rfl) X)) fun D t H=>?_;refine Aq 1 [] 35 _ _ H (fun D=>.of (I7 (by kernel_rfl) (HL AR (HH.row A 2 rfl er2) T (o:=0) rfl))) fun D t H=>?_;refine AS 1 [] 37 1 0 A H fun D t H=>?_;refine AM 1 [(38,.bool (!(x12.Key==p1.Key)))] H fun D H=>AU 38 H M (fun B M H=>?_) fun B M H=>?_
     ·refine BH 8 ?_;obtain⟨x13,X,M⟩:=bind_some M;obtain⟨i3,er3,_,X,hq3⟩:=HH.QT AR (by decide) A 2 (xs:=p0) rfl X;refine Aq 3 [(39,AP r4 x8.length)] 42 (.ptr (some (i3,x3.toNat*2))) P H (fun D=>.of (GV (s:=Cr rp0 p0.length) (by kernel_rfl) X)) fun D t H=>?_;refine Aa 43 _ _ H (fun D=>.of (Ay (by kernel_rfl) (Ic AR (HH.row A 2 rfl er3) hq3 0 2 (zb rfl)))) fun D t H=>?_;obtain⟨h8,e4,A⟩:=A.pL 106 [.str x13.Key,.str x13.Value];refine A9 44 (AP (some P.size) (([x13]:List AA).length)) e4 H fun D t H=>?_;obtain⟨B,M⟩:=Ag M;obtain⟨r6,V,X,E⟩:=HH.Il AR (by decide) A 1 (xs:=x8) (ys:=([x13]:List AA)) rfl (CU A 0 rfl (n:=([x13]:List AA).length) (z:=2) rfl (by decide)) rfl rfl B;replace A:HH g V [.Af (some P.size) 106 ([.str x13.Key,.str x13.Value]),.Af r6 106 (Af AD (x8++([x13]:List AA))),_,_] F:=E;replace A:=A.k3 1 2 3;refine Aa 45 _ _ H (fun D=>.of (Fx (s:=Cr r4 x8.length) (by kernel_rfl) X)) fun D t H=>?_;refine Aw 1 [(0,AP rp0 p0.length),(3,.ptr (some (h.size,0))),(5,AP r6 ((x8++([x13]:List AA)).length)),(6,.bool x9),(7,Ai x3)] H fun D H=>at_nil ?_;exact .inl ⟨_,_,rfl,Ac M,_,H.ls,A⟩
     exact Dp (.inl ⟨_,_,rfl,Ac M,_,H.ls,A⟩)
    exact I.elim
   clear O;clear A;intro e D h10 G;rcases G with⟨x6,x7,rfl,rfl,r3,H,A⟩|I
   ·show AW _ _ _ _ _ _ _;refine BH 3 (Aw 3 [(0,AP rp0 p0.length),(3,.ptr (some (h.size,0))),(5,AP r3 x6.length),(6,.bool x7),(7,Ai (i64.wrap (x3+1)))] H fun D H=>at_nil ?_);exact nx M ⟨_,_,_,rfl,_,H.ls,A⟩
   exact I.elim
  refine BL (i:=0) (by kernel_rfl) ?_;exact nr M fun e=>.inl ⟨_,_,rfl,e,_,H.ls,A⟩
 clear O;clear A;intro e D K G;rcases G with⟨x4,x5,rfl,rfl,r2,H,A⟩|I
 ·show AW _ _ _ _ _ _ _;refine AO ?_;obtain⟨o4,O,M⟩:=bind_some M;refine An (Q':=fun e N Q=>(∃x14,e=.normal∧x14=o4∧∃r7,Has N 53 [(5,AP r7 x14.length)]∧HH g Q [.Af r7 106 (Af AD x14),.Af rp0 106 (Af AD p0)] F)∨False) ?_ ?_
  ·replace M:=O;clear O;refine AF 2 (AM 2 [(47,.bool (!x5))] H fun D H=>AU 47 H M (fun B M H=>?_) fun B M H=>?_)
   ·refine BH 5 (Aq 1 [(48,AP r2 x4.length)] 49 _ _ H (fun D=>.of (Ay (by kernel_rfl) (A.DY 1 rfl (o:=0) (n:=2) ⟨zb rfl,rfl⟩))) fun D t H=>?_);obtain⟨Z,e5,A⟩:=A.pL 106 [.str p1.Key,.str p1.Value];refine A9 50 (AP (some K.size) (([p1]:List AA).length)) e5 H fun D t H=>?_;obtain⟨B,M⟩:=Ag M;obtain⟨r8,Y,X,E⟩:=HH.Il AR (by decide) A 1 (xs:=x4) (ys:=([p1]:List AA)) rfl (CU A 0 rfl (n:=([p1]:List AA).length) (z:=2) rfl (by decide)) rfl rfl B;replace A:HH g Y [.Af (some K.size) 106 ([.str p1.Key,.str p1.Value]),.Af r8 106 (Af AD (x4++([p1]:List AA))),_,_] F:=E;replace A:=A.k3 1 2 3;refine Aa 51 _ _ H (fun D=>.of (Fx (s:=Cr r2 x4.length) (by kernel_rfl) X)) fun D t H=>?_;refine Aw 1 [(5,AP r8 ((x4++([p1]:List AA)).length))] H fun D H=>at_nil ?_;replace A:=A.k2 0 2;exact .inl ⟨_,rfl,Ac M,_,H.ls,A⟩
   refine Dp ?_;replace A:=A.k2 0 2;exact .inl ⟨_,rfl,Ac M,_,H.ls,A⟩
  clear O;clear A;intro e D h14 G;rcases G with⟨x14,rfl,rfl,r7,H,A⟩|I
  ·show AW _ _ _ _ _ _ _;refine AF 2 (AM 2 [(4,AP r7 x14.length)] H fun D H=>AY ?_);obtain rfl:=Ac M;exact⟨.inl rfl,_,rH H,_,rfl,A⟩
  exact I.elim
 exact I.elim
def DF(p0:List AA)(s:(List AA)×Int):Option (((List AA)×Int)⊕(((List AA)))):=
 match s with
 |(x1,x2)=>AX (decide (x2<(p0.length:Int))) ((G8 p0 x2).bind fun x4=>(A2 x1 x4).bind fun x5=>some (.inl (x5,i64.wrap (x2+1)))) (some (.inr x1))
def C4(p1:List AA)(s:(List AA)×Int):Option (((List AA)×Int)⊕(((List AA)))):=
 match s with
 |(x6,x7)=>AX (decide (x7<(p1.length:Int))) ((G8 p1 x7).bind fun x9=>(A2 x6 x9).bind fun x10=>some (.inl (x10,i64.wrap (x7+1)))) (some (.inr x6))
def C5(x8:List AA)(s:(List AA)×Int):Option (((List AA)×Int)⊕(((List AA)))):=
 match s with
 |(x11,x12)=>AX (decide (x12<(x8.length:Int))) (((G8 x8 x12).bind fun x15=>AX (!(x15.Value==([]:UV))) ((G8 x8 x12).bind fun x16=>Bn (MY 32 (x11.length+([x16]:List AA).length))<|some (x11++([x16]:List AA))) (some x11):Option (((List AA)))).bind fun x14=>some (.inl (x14,i64.wrap (x12+1)))) (some (.inr x11))
def D2(p0:List AA)(p1:List AA):Option ((List AA)):=
 (loop (DF p0) (([]:List AA),(0:Int))).bind fun x3=>(loop (C4 p1) (x3,(0:Int))).bind fun x8=>(loop (C5 x8) (([]:List AA),(0:Int))).bind fun x13=>some x13
theorem K9{p0 p1 q0}(M:D2 p0 p1=some q0)(A:HH g h [] F)(hc:BA (cfg.still 67) av=[vs AD p0,vs AD p1]:=by kernel_rfl):∃v Q,BI cfg g h 67 av v Q∧∃(rq0:Option Nat),v=AP rq0 q0.length∧HH g Q [.Af rq0 106 (Af AD q0)] F:=by
 refine EL 56 [.tmp 4] hc ?_;clear hc;unfold D2 at M;refine bg 56 [(0,vs AD p0),(1,vs AD p1)] fun D H=>?_;refine AF 1 (Bk 1 [] 2 H fun D H=>?_);obtain⟨h1,e1,A⟩:=A.pL 106 [];refine A9 10 (AP (some h.size) (([]:List AA).length)) e1 H fun D t H=>?_;refine AM 1 [(5,AP (some h.size) (([]:List AA).length))] H fun D H=>AO (AF 1 (AM 1 [(6,Ai 0)] H fun D H=>Ae (id:=0) (by kernel_rfl) ?_));replace A:HH g h1 [.Af (some h.size) 106 (Af AD ([]:List AA))] F:=A;obtain⟨o1,O,M⟩:=bind_some M;refine An (Q':=fun e N Q=>(∃x3,e=.exit 0∧x3=o1∧∃r2,Has N 56 [(1,vs AD p1),(5,AP r2 x3.length)]∧HH g Q [.Af r2 106 (Af AD x3)] F)∨False) ?_ ?_
 ·refine BQ (by kernel_rfl) (fun(s:(List AA)×Int) N Q=>∃x1 x2,(x1,x2)=s∧∃r1,Has N 56 [(0,vs AD p0),(1,vs AD p1),(5,AP r1 x1.length),(6,Ai x2)]∧HH g Q [.Af r1 106 (Af AD x1)] F) O ⟨_,_,rfl,some h.size,H.ls,A⟩ ?_;clear O M H A;intro s q D h2 J M;obtain⟨x1,x2,rfl,r1,H,A⟩:=J;unfold DF at M;refine AO (AF 4 (AM 4 [(14,.bool (decide (x2<(p0.length:Int))))] H fun D H=>AU 14 H M (fun B M H=>?_) fun B M H=>?_))
  ·refine BY id (AO (Ae (id:=1) (by kernel_rfl) ?_));refine BH 7 ?_;obtain⟨x4,X,M⟩:=bind_some M;refine Aq 3 [(17,AP r1 x1.length)] 20 (.A0 [.str x4.Key,.str x4.Value]) h2 H (fun D=>.of (KC (e:=AD) (x:=x4) AR (by decide) (by kernel_rfl) X)) fun D t H=>?_;refine Aa 21 (.agg [.str x4.Key,.str x4.Value]) h2 H (fun D=>.of (OC (by kernel_rfl))) fun D t H=>?_;obtain⟨x5,X,M⟩:=bind_some M;obtain⟨v1,S,R,rqw1,rfl,E⟩:=BP (av:=[AP r1 x1.length,.agg [.str x4.Key,.str x4.Value]]) X (A.cut 1);replace A:=A.g12 E;refine A5 22 R H fun D t H=>?_;refine Aw 1 [(0,vs AD p0),(1,vs AD p1),(5,AP rqw1 x5.length),(6,Ai x2)] H fun D H=>Ee 3 id (Aw 3 [(0,vs AD p0),(1,vs AD p1),(5,AP rqw1 x5.length),(6,Ai (i64.wrap (x2+1)))] H fun D H=>at_nil ?_);replace A:=A.d1;exact nx M ⟨_,_,rfl,rqw1,H.ls,A⟩
  refine BL (i:=0) (by kernel_rfl) ?_;exact nr M fun e=>.inl ⟨_,rfl,e,_,H.ls,A⟩
 clear O;clear A;intro e D W G;rcases G with⟨x3,rfl,rfl,r2,H,A⟩|I
 ·show AW _ _ _ _ _ _ _;refine AO (AF 1 (AM 1 [(7,Ai 0)] H fun D H=>Ae (id:=2) (by kernel_rfl) ?_));obtain⟨o2,O,M⟩:=bind_some M;refine An (Q':=fun e N Q=>(∃x8,e=.exit 2∧x8=o2∧∃r4,Has N 56 [(5,AP r4 x8.length)]∧HH g Q [.Af r4 106 (Af AD x8)] F)∨False) ?_ ?_
  ·refine BQ (by kernel_rfl) (fun(s:(List AA)×Int) N Q=>∃x6 x7,(x6,x7)=s∧∃r3,Has N 56 [(1,vs AD p1),(5,AP r3 x6.length),(7,Ai x7)]∧HH g Q [.Af r3 106 (Af AD x6)] F) O ⟨_,_,rfl,_,H.ls,A⟩ ?_;clear O M H A;intro s q D h5 J M;obtain⟨x6,x7,rfl,r3,H,A⟩:=J;unfold C4 at M;refine AO (AF 4 (AM 4 [(26,.bool (decide (x7<(p1.length:Int))))] H fun D H=>AU 26 H M (fun B M H=>?_) fun B M H=>?_))
   ·refine BY id (AO (Ae (id:=3) (by kernel_rfl) ?_));refine BH 7 ?_;obtain⟨x9,X,M⟩:=bind_some M;refine Aq 3 [(29,AP r3 x6.length)] 32 (.A0 [.str x9.Key,.str x9.Value]) h5 H (fun D=>.of (KC (e:=AD) (x:=x9) AR (by decide) (by kernel_rfl) X)) fun D t H=>?_;refine Aa 33 (.agg [.str x9.Key,.str x9.Value]) h5 H (fun D=>.of (OC (by kernel_rfl))) fun D t H=>?_;obtain⟨x10,X,M⟩:=bind_some M;obtain⟨v1,h6,R,rqw2,rfl,E⟩:=BP (av:=[AP r3 x6.length,.agg [.str x9.Key,.str x9.Value]]) X (A.cut 1);replace A:=A.g12 E;refine A5 34 R H fun D t H=>?_;refine Aw 1 [(1,vs AD p1),(5,AP rqw2 x10.length),(7,Ai x7)] H fun D H=>Ee 3 id (Aw 3 [(1,vs AD p1),(5,AP rqw2 x10.length),(7,Ai (i64.wrap (x7+1)))] H fun D H=>at_nil ?_);replace A:=A.d1;exact nx M ⟨_,_,rfl,rqw2,H.ls,A⟩
   refine BL (i:=2) (by kernel_rfl) ?_;exact nr M fun e=>.inl ⟨_,rfl,e,_,H.ls,A⟩
  clear O;clear A;intro e D P G;rcases G with⟨x8,rfl,rfl,r4,H,A⟩|I
  ·show AW _ _ _ _ _ _ _;refine AF 2 ?_;obtain⟨h8,e2,A⟩:=A.pL 106 [];refine A9 35 (AP (some P.size) (([]:List AA).length)) e2 H fun D t H=>?_;refine AM 1 [(8,AP (some P.size) (([]:List AA).length))] H fun D H=>AO (AF 1 (AM 1 [(9,Ai 0)] H fun D H=>Ae (id:=4) (by kernel_rfl) ?_));replace A:HH g h8 [.Af (some P.size) 106 (Af AD ([]:List AA)),_] F:=A;obtain⟨o3,O,M⟩:=bind_some M;refine An (Q':=fun e N Q=>(∃x13,e=.exit 4∧x13=o3∧∃r6,Has N 56 [(8,AP r6 x13.length)]∧HH g Q [.Af r6 106 (Af AD x13)] F)∨False) ?_ ?_
   ·refine BQ (by kernel_rfl) (fun(s:(List AA)×Int) N Q=>∃x11 x12,(x11,x12)=s∧∃r5,Has N 56 [(5,AP r4 x8.length),(8,AP r5 x11.length),(9,Ai x12)]∧HH g Q [.Af r5 106 (Af AD x11),.Af r4 106 (Af AD x8)] F) O ⟨_,_,rfl,some P.size,H.ls,A⟩ ?_;clear O M H A;intro s q D V J M;obtain⟨x11,x12,rfl,r5,H,A⟩:=J;unfold C5 at M;refine AO (AF 4 (AM 4 [(39,.bool (decide (x12<(x8.length:Int))))] H fun D H=>AU 39 H M (fun B M H=>?_) fun B M H=>?_))
    ·refine BY id (AO ?_);obtain⟨o4,O,M⟩:=bind_some M;refine An (Q':=fun e N Q=>(∃x14,e=.normal∧x14=o4∧∃r7,Has N 56 [(5,AP r4 x8.length),(8,AP r7 x14.length),(9,Ai x12)]∧HH g Q [.Af r7 106 (Af AD x14),.Af r4 106 (Af AD x8)] F)∨False) ?_ ?_
     ·replace M:=O;clear O;refine Ae (id:=5) (by kernel_rfl) ?_;refine AF 6 ?_;obtain⟨x15,X,M⟩:=bind_some M;obtain⟨i1,er1,_,X,U⟩:=HH.QT AR (by decide) A 1 (xs:=x8) rfl X;refine Aq 2 [] 44 (.ptr (some (i1,x12.toNat*2))) V H (fun D=>.of (GV (s:=Cr r4 x8.length) (by kernel_rfl) X)) fun D t H=>?_;refine Aq 1 [] 46 _ _ H (fun D=>.of (I7 (by kernel_rfl) (HL AR (HH.row A 1 rfl er1) U (o:=1) rfl))) fun D t H=>?_;refine AM 1 [(47,.bool (!(x15.Value==([]:UV))))] H fun D H=>AU 47 H M (fun B M H=>?_) fun B M H=>?_
      ·refine BH 8 ?_;obtain⟨x16,X,M⟩:=bind_some M;obtain⟨i2,er2,_,X,T⟩:=HH.QT AR (by decide) A 1 (xs:=x8) rfl X;refine Aq 3 [(48,AP r5 x11.length)] 51 (.ptr (some (i2,x12.toNat*2))) V H (fun D=>.of (GV (s:=Cr r4 x8.length) (by kernel_rfl) X)) fun D t H=>?_;refine Aa 52 _ _ H (fun D=>.of (Ay (by kernel_rfl) (Ic AR (HH.row A 1 rfl er2) T 0 2 (zb rfl)))) fun D t H=>?_;obtain⟨h10,e3,A⟩:=A.pL 106 [.str x16.Key,.str x16.Value];refine A9 53 (AP (some V.size) (([x16]:List AA).length)) e3 H fun D t H=>?_;obtain⟨B,M⟩:=Ag M;obtain⟨r8,K,X,E⟩:=HH.Il AR (by decide) A 1 (xs:=x11) (ys:=([x16]:List AA)) rfl (CU A 0 rfl (n:=([x16]:List AA).length) (z:=2) rfl (by decide)) rfl rfl B;replace A:HH g K [.Af (some V.size) 106 ([.str x16.Key,.str x16.Value]),.Af r8 106 (Af AD (x11++([x16]:List AA))),_] F:=E;replace A:=A.k2 1 2;refine Aa 54 _ _ H (fun D=>.of (Fx (s:=Cr r5 x11.length) (by kernel_rfl) X)) fun D t H=>?_;refine Aw 1 [(5,AP r4 x8.length),(8,AP r8 ((x11++([x16]:List AA)).length)),(9,Ai x12)] H fun D H=>at_nil ?_;exact .inl ⟨_,rfl,Ac M,_,H.ls,A⟩
      exact Dp (.inl ⟨_,rfl,Ac M,_,H.ls,A⟩)
     clear O;clear A;intro e D Z G;rcases G with⟨x14,rfl,rfl,r7,H,A⟩|I
     ·show AW _ _ _ _ _ _ _;refine BH 3 (Aw 3 [(5,AP r4 x8.length),(8,AP r7 x14.length),(9,Ai (i64.wrap (x12+1)))] H fun D H=>at_nil ?_);exact nx M ⟨_,_,rfl,_,H.ls,A⟩
     exact I.elim
    refine BL (i:=4) (by kernel_rfl) ?_;replace A:=A.d1;exact nr M fun e=>.inl ⟨_,rfl,e,_,H.ls,A⟩
   clear O;clear A;intro e D Y G;rcases G with⟨x13,rfl,rfl,r6,H,A⟩|I
   ·show AW _ _ _ _ _ _ _;refine AF 2 (AM 2 [(4,AP r6 x13.length)] H fun D H=>AY ?_);obtain rfl:=Ac M;exact⟨.inl rfl,_,rH H,_,rfl,A⟩
   exact I.elim
  exact I.elim
 exact I.elim
def DD(p0:List UInt8):Option (Bool):=
 some ((((((((p0==([103,105,100]:UV))||(p0==([103,110,97,109,101]:UV)))||(p0==([108,105,110,107,112,97,116,104]:UV)))||(p0==([109,116,105,109,101]:UV)))||(p0==([112,97,116,104]:UV)))||(p0==([115,105,122,101]:UV)))||(p0==([117,105,100]:UV)))||(p0==([117,110,97,109,101]:UV)))
theorem HV{p0 q0}(M:DD p0=some q0)(A:HH g h [] F)(hc:BA (cfg.still 114) av=[.str p0]:=by kernel_rfl):∃v Q,BI cfg g h 114 av v Q∧v=.bool q0∧HH g Q [] F:=by
 refine EL 33 [.tmp 2] hc ?_;clear hc;unfold DD at M;refine bg 33 [(0,.str p0)] fun D H=>?_;refine AF 1 (Bk 1 [] 31 H fun D H=>AG 3 [(5,.bool (p0==([103,105,100]:UV)))] H fun D H=>Am 3 (fun N Q=>h=Q∧Has N 33 [(0,.str p0),(8,.bool ((p0==([103,105,100]:UV))||(p0==([103,110,97,109,101]:UV))))]) ?_ ?_)
 ·cases B:(p0==([103,105,100]:UV):Bool)with
  |true=>
   replace H:=H.kn 5 B;exact AG 3 [(8,.bool true)] H fun D H=>AV H B
  |false=>
   replace H:=H.kn 5 B;exact AG 3 [(8,.bool (p0==([103,110,97,109,101]:UV)))] H fun D H=>AV H B
 intro t D Q C;obtain⟨e,H⟩:=C;subst e;refine AG 1 [(9,.bool ((p0==([103,105,100]:UV))||(p0==([103,110,97,109,101]:UV))))] H fun D H=>Am 3 (fun N Q=>h=Q∧Has N 33 [(0,.str p0),(12,.bool (((p0==([103,105,100]:UV))||(p0==([103,110,97,109,101]:UV)))||(p0==([108,105,110,107,112,97,116,104]:UV))))]) ?_ ?_
 ·cases B:((p0==([103,105,100]:UV))||(p0==([103,110,97,109,101]:UV)):Bool)with
  |true=>
   replace H:=H.kn 9 B;exact AG 3 [(12,.bool true)] H fun D H=>AV H B
  |false=>
   replace H:=H.kn 9 B;exact AG 3 [(12,.bool (p0==([108,105,110,107,112,97,116,104]:UV)))] H fun D H=>AV H B
 intro t D Q C;obtain⟨e,H⟩:=C;subst e;refine AG 1 [(13,.bool (((p0==([103,105,100]:UV))||(p0==([103,110,97,109,101]:UV)))||(p0==([108,105,110,107,112,97,116,104]:UV))))] H fun D H=>Am 3 (fun N Q=>h=Q∧Has N 33 [(0,.str p0),(16,.bool ((((p0==([103,105,100]:UV))||(p0==([103,110,97,109,101]:UV)))||(p0==([108,105,110,107,112,97,116,104]:UV)))||(p0==([109,116,105,109,101]:UV))))]) ?_ ?_
 ·cases B:(((p0==([103,105,100]:UV))||(p0==([103,110,97,109,101]:UV)))||(p0==([108,105,110,107,112,97,116,104]:UV)):Bool)with
  |true=>
   replace H:=H.kn 13 B;exact AG 3 [(16,.bool true)] H fun D H=>AV H B
  |false=>
   replace H:=H.kn 13 B;exact AG 3 [(16,.bool (p0==([109,116,105,109,101]:UV)))] H fun D H=>AV H B
 intro t D Q C;obtain⟨e,H⟩:=C;subst e;refine AG 1 [(17,.bool ((((p0==([103,105,100]:UV))||(p0==([103,110,97,109,101]:UV)))||(p0==([108,105,110,107,112,97,116,104]:UV)))||(p0==([109,116,105,109,101]:UV))))] H fun D H=>Am 3 (fun N Q=>h=Q∧Has N 33 [(0,.str p0),(20,.bool (((((p0==([103,105,100]:UV))||(p0==([103,110,97,109,101]:UV)))||(p0==([108,105,110,107,112,97,116,104]:UV)))||(p0==([109,116,105,109,101]:UV)))||(p0==([112,97,116,104]:UV))))]) ?_ ?_
 ·cases B:((((p0==([103,105,100]:UV))||(p0==([103,110,97,109,101]:UV)))||(p0==([108,105,110,107,112,97,116,104]:UV)))||(p0==([109,116,105,109,101]:UV)):Bool)with
  |true=>
   replace H:=H.kn 17 B;exact AG 3 [(20,.bool true)] H fun D H=>AV H B
  |false=>
   replace H:=H.kn 17 B;exact AG 3 [(20,.bool (p0==([112,97,116,104]:UV)))] H fun D H=>AV H B
 intro t D Q C;obtain⟨e,H⟩:=C;subst e;refine AG 1 [(21,.bool (((((p0==([103,105,100]:UV))||(p0==([103,110,97,109,101]:UV)))||(p0==([108,105,110,107,112,97,116,104]:UV)))||(p0==([109,116,105,109,101]:UV)))||(p0==([112,97,116,104]:UV))))] H fun D H=>Am 3 (fun N Q=>h=Q∧Has N 33 [(0,.str p0),(24,.bool ((((((p0==([103,105,100]:UV))||(p0==([103,110,97,109,101]:UV)))||(p0==([108,105,110,107,112,97,116,104]:UV)))||(p0==([109,116,105,109,101]:UV)))||(p0==([112,97,116,104]:UV)))||(p0==([115,105,122,101]:UV))))]) ?_ ?_
 ·cases B:(((((p0==([103,105,100]:UV))||(p0==([103,110,97,109,101]:UV)))||(p0==([108,105,110,107,112,97,116,104]:UV)))||(p0==([109,116,105,109,101]:UV)))||(p0==([112,97,116,104]:UV)):Bool)with
  |true=>
   replace H:=H.kn 21 B;exact AG 3 [(24,.bool true)] H fun D H=>AV H B
  |false=>
   replace H:=H.kn 21 B;exact AG 3 [(24,.bool (p0==([115,105,122,101]:UV)))] H fun D H=>AV H B
 intro t D Q C;obtain⟨e,H⟩:=C;subst e;refine AG 1 [(25,.bool ((((((p0==([103,105,100]:UV))||(p0==([103,110,97,109,101]:UV)))||(p0==([108,105,110,107,112,97,116,104]:UV)))||(p0==([109,116,105,109,101]:UV)))||(p0==([112,97,116,104]:UV)))||(p0==([115,105,122,101]:UV))))] H fun D H=>Am 3 (fun N Q=>h=Q∧Has N 33 [(0,.str p0),(28,.bool (((((((p0==([103,105,100]:UV))||(p0==([103,110,97,109,101]:UV)))||(p0==([108,105,110,107,112,97,116,104]:UV)))||(p0==([109,116,105,109,101]:UV)))||(p0==([112,97,116,104]:UV)))||(p0==([115,105,122,101]:UV)))||(p0==([117,105,100]:UV))))]) ?_ ?_
 ·cases B:((((((p0==([103,105,100]:UV))||(p0==([103,110,97,109,101]:UV)))||(p0==([108,105,110,107,112,97,116,104]:UV)))||(p0==([109,116,105,109,101]:UV)))||(p0==([112,97,116,104]:UV)))||(p0==([115,105,122,101]:UV)):Bool)with
  |true=>
   replace H:=H.kn 25 B;exact AG 3 [(28,.bool true)] H fun D H=>AV H B
  |false=>
   replace H:=H.kn 25 B;exact AG 3 [(28,.bool (p0==([117,105,100]:UV)))] H fun D H=>AV H B
 intro t D Q C;obtain⟨e,H⟩:=C;subst e;refine AG 1 [(29,.bool (((((((p0==([103,105,100]:UV))||(p0==([103,110,97,109,101]:UV)))||(p0==([108,105,110,107,112,97,116,104]:UV)))||(p0==([109,116,105,109,101]:UV)))||(p0==([112,97,116,104]:UV)))||(p0==([115,105,122,101]:UV)))||(p0==([117,105,100]:UV))))] H fun D H=>Am 3 (fun N Q=>h=Q∧Has N 33 [(32,.bool ((((((((p0==([103,105,100]:UV))||(p0==([103,110,97,109,101]:UV)))||(p0==([108,105,110,107,112,97,116,104]:UV)))||(p0==([109,116,105,109,101]:UV)))||(p0==([112,97,116,104]:UV)))||(p0==([115,105,122,101]:UV)))||(p0==([117,105,100]:UV)))||(p0==([117,110,97,109,101]:UV))))]) ?_ ?_
 ·cases B:(((((((p0==([103,105,100]:UV))||(p0==([103,110,97,109,101]:UV)))||(p0==([108,105,110,107,112,97,116,104]:UV)))||(p0==([109,116,105,109,101]:UV)))||(p0==([112,97,116,104]:UV)))||(p0==([115,105,122,101]:UV)))||(p0==([117,105,100]:UV)):Bool)with
  |true=>
   replace H:=H.kn 29 B;exact AG 3 [(32,.bool true)] H fun D H=>AV H B
  |false=>
   replace H:=H.kn 29 B;exact AG 3 [(32,.bool (p0==([117,110,97,109,101]:UV)))] H fun D H=>AV H B
 intro t D Q C;obtain⟨e,H⟩:=C;subst e;refine AM 1 [(2,.bool ((((((((p0==([103,105,100]:UV))||(p0==([103,110,97,109,101]:UV)))||(p0==([108,105,110,107,112,97,116,104]:UV)))||(p0==([109,116,105,109,101]:UV)))||(p0==([112,97,116,104]:UV)))||(p0==([115,105,122,101]:UV)))||(p0==([117,105,100]:UV)))||(p0==([117,110,97,109,101]:UV))))] H fun D H=>AY ?_;obtain rfl:=Ac M;exact⟨.inl rfl,_,rH H,rfl,A⟩
def Cn(p0:List UInt8)(s:Int×Int):Option ((Int×Int)⊕((Int)⊕(Int×Int))):=
 match s with
 |(x1,x2)=>AX (decide (x2<(p0.length:Int))) ((JQ p0 x2).bind fun x6=>(AX (decide (x6<48)) (some true) ((JQ p0 x2).bind fun x8=>some (decide (x8>57))):Option (Bool)).bind fun x7=>AX x7 (some (.inr (.inr ((0:Int),(2:Int))))) ((JQ p0 x2).bind fun x9=>some (.inl (i64.wrap ((i64.wrap ((i64.wrap ((10:Int)*x1))+(i64.wrap x9))) - 48),i64.wrap (x2+1))))) (some (.inr (.inl x1)))
def Dk(p0:List UInt8):Option (Int×Int):=
 AX ((decide ((p0.length:Int)<1))||(decide ((p0.length:Int)>16))) (some ((0:Int),(2:Int))) ((loop (Cn p0) ((0:Int),(0:Int))).bind fun o1=>(match o1 with| .inl x3=>AX (decide (x3>9007199254740991)) (some ((0:Int),(6:Int))) (some (x3,(0:Int)))| .inr (x4,x5)=>some (x4,x5)))
theorem Ki{p0 q0 q1}(M:Dk p0=some (q0,q1))(A:HH g h [] F)(hc:BA (cfg.still 115) av=[.str p0]:=by kernel_rfl):∃v Q,BI cfg g h 115 av v Q∧v=.tuple [Ai q0,Ai q1]∧HH g Q [] F:=by
 refine EL 41 [.tmp 2,.tmp 3] hc ?_;clear hc;unfold Dk at M;refine bg 41 [(0,.str p0)] fun D H=>?_;refine AF 2 (AM 2 [] H fun D H=>AO (AF 8 (AG 4 [(9,.bool (decide ((p0.length:Int)<1)))] H fun D H=>Am 4 (fun N Q=>h=Q∧Has N 41 [(0,.str p0),(13,.bool ((decide ((p0.length:Int)<1))||(decide ((p0.length:Int)>16))))]) ?_ ?_)))
 ·cases B:(decide ((p0.length:Int)<1):Bool)with
  |true=>
   replace H:=H.kn 9 B;exact AG 4 [(13,.bool true)] H fun D H=>AV H B
  |false=>
   replace H:=H.kn 9 B;exact AG 4 [(13,.bool (decide ((p0.length:Int)>16)))] H fun D H=>AV H B
 intro t D Q C;obtain⟨e,H⟩:=C;subst e;refine A8 id (AU 13 H M (fun B M H=>?_) fun B M H=>?_)
 ·refine AF 2 (AM 2 [(2,Ai 0),(3,Ai 2)] H fun D H=>AY ?_);obtain⟨rfl,rfl⟩:=B3 M;exact⟨.inl rfl,_,rH H,rfl,A⟩
 refine BZ 1 id (AM 1 [(4,Ai 0)] H fun D H=>AO (AF 1 (AM 1 [(5,Ai 0)] H fun D H=>Ae (id:=0) (by kernel_rfl) ?_)));obtain⟨o1,O,M⟩:=bind_some M;refine An (Q':=fun e N Q=>(∃x3,e=.exit 0∧.inl x3=o1∧Has N 41 [(4,Ai x3)]∧HH g Q [] F)∨(∃x4 x5,e=.ret∧.inr (x4,x5)=o1∧Has N 41 [(2,Ai x4),(3,Ai x5)]∧HH g Q [] F)∨False) ?_ ?_
 ·refine BQ (by kernel_rfl) (fun(s:Int×Int) N Q=>∃x1 x2,(x1,x2)=s∧Has N 41 [(0,.str p0),(4,Ai x1),(5,Ai x2)]∧HH g Q [] F) O ⟨_,_,rfl,H.ls,A⟩ ?_;clear O M H A;intro s q D h1 J M;obtain⟨x1,x2,rfl,H,A⟩:=J;unfold Cn at M;refine AO (AF 4 (AM 4 [(17,.bool (decide (x2<(p0.length:Int))))] H fun D H=>AU 17 H M (fun B M H=>?_) fun B M H=>?_))
  ·refine BY id (AO (Ae (id:=1) (by kernel_rfl) ?_));refine AO (AF 10 ?_);obtain⟨x6,X,M⟩:=bind_some M;refine Aq 2 [] 22 (Ab x6) h1 H (fun D=>.of (DN (by kernel_rfl) X)) fun D t H=>?_;refine AG 2 [(24,.bool (decide (x6<48)))] H fun D H=>?_;obtain⟨x7,O,M⟩:=bind_some M;refine Am 5 (fun N Q=>Has N 41 [(0,.str p0),(4,Ai x1),(5,Ai x2),(29,.bool x7)]∧HH g Q [] F) ?_ ?_
   ·rcases As O with⟨B,M⟩|⟨B,M⟩
    ·replace H:=H.kn 24 B;refine AG 5 [(29,.bool true)] H fun D H=>?_;obtain rfl:=Ac M;exact at_nil ⟨H.ls,A⟩
    replace H:=H.kn 24 B;obtain⟨x8,X,M⟩:=bind_some M;refine Aq 2 [] 27 (Ab x8) h1 H (fun D=>.of (DN (by kernel_rfl) X)) fun D t H=>?_;refine AG 2 [(29,.bool (decide (x8>57)))] H fun D H=>?_;obtain rfl:=Ac M;exact at_nil ⟨H.ls,A⟩
   clear A;intro t D h2 C;obtain⟨H,A⟩:=C;refine A8 id (AU 29 H M (fun B M H=>?_) fun B M H=>?_)
   ·refine AF 2 (AM 2 [(2,Ai 0),(3,Ai 2)] H fun D H=>AY ?_);exact nr M fun e=>Or.inr (.inl ⟨_,_,rfl,e,H.ls,A⟩)
   refine FC 9 id ?_;obtain⟨x9,X,M⟩:=bind_some M;refine Aq 4 [(31,Ai (i64.wrap ((10:Int)*x1)))] 34 (Ab x9) h2 H (fun D=>.of (DN (by kernel_rfl) X)) fun D t H=>?_;refine Aw 4 [(0,.str p0),(4,Ai (i64.wrap ((i64.wrap ((i64.wrap ((10:Int)*x1))+(i64.wrap x9))) - 48))),(5,Ai x2)] H fun D H=>Ee 3 id (Aw 3 [(0,.str p0),(4,Ai (i64.wrap ((i64.wrap ((i64.wrap ((10:Int)*x1))+(i64.wrap x9))) - 48))),(5,Ai (i64.wrap (x2+1)))] H fun D H=>at_nil ?_);exact nx M ⟨_,_,rfl,H.ls,A⟩
  refine BL (i:=0) (by kernel_rfl) ?_;exact nr M fun e=>.inl ⟨_,rfl,e,H.ls,A⟩
 clear O;clear A;intro e D S G;rcases G with⟨x3,rfl,rfl,H,A⟩|⟨x4,x5,rfl,rfl,H,A⟩|I
 ·show AW _ _ _ _ _ _ _;refine AO (AF 2 (AM 2 [(39,.bool (decide (x3>9007199254740991)))] H fun D H=>AU 39 H M (fun B M H=>?_) fun B M H=>?_))
  ·refine AF 2 (AM 2 [(2,Ai 0),(3,Ai 6)] H fun D H=>AY ?_);obtain⟨rfl,rfl⟩:=B3 M;exact⟨.inl rfl,_,rH H,rfl,A⟩
  refine BZ 3 id (AM 3 [(2,Ai x3),(3,Ai 0)] H fun D H=>AY ?_);obtain⟨rfl,rfl⟩:=B3 M;exact⟨.inl rfl,_,rH H,rfl,A⟩
 ·obtain⟨rfl,rfl⟩:=B3 M;exact⟨.inl rfl,_,rH H,rfl,A⟩
 exact I.elim
def DG(p0:Int):Option (Bool):=
 some ((decide (p0≥48))&&(decide (p0≤57)))
theorem HZ{p0 q0}(M:DG p0=some q0)(A:HH g h [] F)(hc:BA (cfg.still 158) av=[Ab p0]:=by kernel_rfl):∃v Q,BI cfg g h 158 av v Q∧v=.bool q0∧HH g Q [] F:=by
 refine EL 9 [.tmp 2] hc ?_;clear hc;unfold DG at M;refine bg 9 [(0,Ab p0)] fun D H=>?_;refine AF 1 (Bk 1 [] 7 H fun D H=>AG 3 [(5,.bool (decide (p0≥48)))] H fun D H=>Am 3 (fun N Q=>h=Q∧Has N 9 [(8,.bool ((decide (p0≥48))&&(decide (p0≤57))))]) ?_ ?_)
 ·cases B:(decide (p0≥48):Bool)with
  |true=>
   replace H:=H.kn 5 B;exact AG 3 [(8,.bool (decide (p0≤57)))] H fun D H=>AV H B
  |false=>
   replace H:=H.kn 5 B;exact AG 3 [(8,.bool false)] H fun D H=>AV H B
 intro t D Q C;obtain⟨e,H⟩:=C;subst e;refine AM 1 [(2,.bool ((decide (p0≥48))&&(decide (p0≤57))))] H fun D H=>AY ?_;obtain rfl:=Ac M;exact⟨.inl rfl,_,rH H,rfl,A⟩
end
end Go.Av.L
