/-
 A part.
-/
import Derived.Test.YthhonebaoidfgaaGreatDoorKCfg
set_option linter.unusedSimpArgs false
namespace Go.Av.L
open IntKind (i64)
open Go.Av Go.Lib
set_option maxRecDepth 10000
set_option linter.unusedVariables false
set_option linter.unusedSimpArgs false
variable {g:Gd} {h:AF} {F:List Ck} {av:List AD}
noncomputable section
def Gc(p0:AB)(s:Int):Option ((Int)⊕((Unit)⊕(Bool))):=
 match s with
 |x1=>Ag (decide (x1<(p0.Key.length:Int))) ((KE p0.Key x1).bind λx3=>Ag (x3==61) (some (.inr (.inr false))) (some (.inl (i64.wrap (x1+1))))) (some (.inr (.inl ())))
def Du(p0:AB):Option (Bool):=
 (loop (Gc p0) (0:Int)).bind λo1=>(match o1 with| .inl _=>some (!(p0.Key==([]:UV)))| .inr x2=>some x2)
theorem Mu{p0 q0}(M:Du p0=some q0):tl 47 [.agg [.str p0.Key,.str p0.Value]] (.bool q0):=by
 intro g h F av A hc;refine Dp 19 [.tmp 2] hc ?_;unfold Du at M;refine bg 19 [(0,.agg [.str p0.Key,.str p0.Value])] λD H=>?_;refine AE 2 ?_;obtain⟨h1,e1,A⟩:=A.pu (.cells none 2 [.str p0.Key,.str p0.Value]);refine Bj 1 (pz h.size) e1 H λD t H=>?_;refine AK 1 [] H λD H=>AU (AE 1 (AK 1 [(3,Ai 0)] H λD H=>Aa (id:=0) kr ?_));obtain⟨o1,O,M⟩:=AJ M;refine BJ (Q':=λe N Q=>(e=.exit 0/\.inl ()=o1/\Has N 19 [(1,pz h.size)]/\HH g Q [oB h.size [.str p0.Key,.str p0.Value]] F)\/(∃x2,e=.ret/\.inr x2=o1/\Has N 19 [(2,.bool x2)]/\HH g Q [] F)\/False) ?_ ?_
 ·refine B7 kr (λ(s:Int) N Q=>∃x1,x1=s/\Has N 19 [(1,pz h.size),(3,Ai x1)]/\HH g Q [oB h.size [.str p0.Key,.str p0.Value]] F) O ⟨_,rfl,H.ls,A⟩ ?_;intro s q D h2 J M;obtain⟨x1,rfl,H,A⟩:=J;unfold Gc at M;refine AU (AE 5 (AX 2 [(4,Ai x1)] 6 0 0 A H λD t H=>?_));refine AK 2 [(8,.bool (decide (x1<(p0.Key.length:Int))))] H λD H=>Ac 8 H M (λB M H=>?_) λB M H=>?_
  ·refine By id (AU (Aa (id:=1) kr ?_));refine AE 5 (AX 1 [] 12 0 0 A H λD t H=>?_);obtain⟨x3,X,M⟩:=AJ M;refine BQ 1 [] 14 (Ab x3) h2 H (λD=>.of (Eg kr X)) λD t H=>?_;refine AK 1 [(15,.bool (x3==61))] H λD H=>Ac 15 H M (λB M H=>?_) λB M H=>?_
   ·refine AE 1 (AK 1 [(2,.bool false)] H λD H=>AY ?_);replace A:=A.d0;exact wy
   refine Di 3 id (BU 3 [(1,pz h.size),(3,Ai (i64.wrap (x1+1)))] H λD H=>An ?_);exact vo
  exact v6
 intro e D K C;rcases C with⟨rfl,rfl,H,A⟩|⟨x2,rfl,rfl,H,A⟩|G
 ·refine AE 4 (AX 1 [] 17 0 0 A H λD t H=>?_);refine AK 2 [(2,.bool (!(p0.Key==eZ)))] H λD H=>AY ?_;exact wi
 ·exact wd
 exact G.elim
structure Fa where
 CO:Int->Option ((List UInt8))
structure IA(S:Fa):Prop where
 D8:∀{g:Gd} {h:AF} {F:List Ck} {p0:Int} {q0:List UInt8} {av:List AD} (M:S.CO p0=some q0) (hc:CQ (cfg.still 48) av=[Ai p0]) (A:HH g h [] F),∃v Q,Cf cfg g h 48 av v Q/\v=.str q0/\HH g Q [] F
def ES(S:Fa)(p0:Int):Option ((List UInt8)):=
 Ag (decide (p0<10)) ((E4 ([48,49,50,51,52,53,54,55,56,57]:UV) (some p0) (some (i64.wrap (p0+1)))).bind λx1=>some x1) ((S.CO (i64.wrap (Int.tdiv p0 (10:Int)))).bind λx2=>(E4 ([48,49,50,51,52,53,54,55,56,57]:UV) (some (Int.tmod p0 (10:Int))) (some (i64.wrap ((Int.tmod p0 (10:Int))+1)))).bind λx3=>B4 (decide (x2.length+x3.length<=9223372036854775807))<|some (x2++x3))
theorem Lq{S:Fa}(hS:IA S){p0 q0}(M:ES S p0=some q0)(hc:CQ (cfg.still 48) av=[Ai p0])(A:HH g h [] F):∃v Q,Cf cfg g h 48 av v Q/\v=.str q0/\HH g Q [] F:=by
 refine Dp 22 [.tmp 2] hc ?_;unfold ES at M;refine bg 22 [(0,Ai p0)] λD H=>?_;refine AE 1 (Bx 1 [] 1 H λD H=>AK 1 [(3,.str ([48,49,50,51,52,53,54,55,56,57]:UV))] H λD H=>AU (AE 2 (AK 2 [(5,.bool (decide (p0<10)))] H λD H=>Ac 5 H M (λB M H=>?_) λB M H=>?_)))
 ·refine AE 6 ?_;obtain⟨x1,X,M⟩:=AJ M;refine BQ 4 [] 10 (.str x1) h H (λD=>.of (Df (k:=.i64) (k':=.i64) (lo:=(some p0)) (hi:=(some (i64.wrap (p0+1)))) kr X)) λD t H=>?_;refine AK 1 [(2,.str x1)] H λD H=>AY ?_;exact wd
 refine By id (AU (G7 4 12 ?_));have E:=A.cut 0;obtain⟨x2,X,M⟩:=AJ M;obtain⟨v1,h1,R,rfl,E⟩:=hS.D8 (av:=[Ai (i64.wrap (Int.tdiv p0 (10:Int)))]) X kr E;replace A:=A.DF E;refine BM 2 [] 13 R H λD t H=>?_;obtain⟨x3,X,M⟩:=AJ M;refine BQ 6 [] 20 (.str x3) h1 H (λD=>.of (Df (k:=.i64) (k':=.i64) (lo:=(some (Int.tmod p0 (10:Int)))) (hi:=(some (i64.wrap ((Int.tmod p0 (10:Int))+1)))) kr X)) λD t H=>?_;obtain⟨B,M⟩:=Ap M;refine Az 21 (.str (x2++x3)) h1 H (λD=>.of (Dh kr B)) λD t H=>?_;refine AK 1 [(2,.str (x2++x3))] H λD H=>AY ?_;exact wd
def D2:Nat->Fa
 |0=>⟨λ_=>none⟩
 |n+1=>⟨ES (D2 n)⟩
theorem Ht:∀n,IA (D2 n)
 |0=>⟨λM=>(by cases M)⟩
 |n+1=>⟨λM hc A=>Lq (Ht n) M hc A⟩
def CO:Int->Option ((List UInt8)):=(D2 dY).CO
theorem D8{p0 q0}(M:CO p0=some q0)(A:HH g h [] F)(hc:CQ (cfg.still 48) av=[Ai p0]:=by kernel_rfl):∃v Q,Cf cfg g h 48 av v Q/\v=.str q0/\HH g Q [] F:=(Ht dY).D8 M hc A
def G5(p0:AB)(s:Int):Option ((Int)⊕((Unit)⊕(Int))):=
 match s with
 |x1=>Ag (decide (x1<=(i64.wrap ((i64.wrap ((i64.wrap ((p0.Key.length:Int)+(p0.Value.length:Int)))+3))+20)))) ((CO x1).bind λx3=>Ag ((i64.wrap ((i64.wrap ((i64.wrap ((p0.Key.length:Int)+(p0.Value.length:Int)))+3))+(x3.length:Int)))==x1) (some (.inr (.inr x1))) (some (.inl (i64.wrap (x1+1))))) (some (.inr (.inl ())))
def FV(p0:AB):Option (Int):=
 (loop (G5 p0) (i64.wrap ((i64.wrap ((i64.wrap ((p0.Key.length:Int)+(p0.Value.length:Int)))+3))+1))).bind λo1=>(match o1 with| .inl _=>some (0:Int)| .inr x2=>some x2)
theorem Nq{p0 q0}(M:FV p0=some q0):tl 49 [.agg [.str p0.Key,.str p0.Value]] (Ai q0):=by
 intro g h F av A hc;refine Dp 29 [.tmp 2] hc ?_;unfold FV at M;refine bg 29 [(0,.agg [.str p0.Key,.str p0.Value])] λD H=>?_;refine AE 2 ?_;obtain⟨h1,e1,A⟩:=A.pu (.cells none 2 [.str p0.Key,.str p0.Value]);refine Bj 1 (pz h.size) e1 H λD t H=>?_;refine Bx 1 [] 9 H λD H=>AX 1 [] 6 0 0 A H λD t H=>?_;refine AX 2 [(7,Ai (p0.Key.length:Int))] 9 0 1 A H λD t H=>?_;refine AK 4 [(3,Ai (i64.wrap ((i64.wrap ((p0.Key.length:Int)+(p0.Value.length:Int)))+3)))] H λD H=>AU (AE 3 (AK 3 [(4,Ai (i64.wrap ((i64.wrap ((i64.wrap ((p0.Key.length:Int)+(p0.Value.length:Int)))+3))+1)))] H λD H=>Aa (id:=0) kr ?_));replace A:=A.d0;obtain⟨o1,O,M⟩:=AJ M;refine BJ (Q':=λe N Q=>(e=.exit 0/\.inl ()=o1/\Has N 29 []/\HH g Q [] F)\/(∃x2,e=.ret/\.inr x2=o1/\Has N 29 [(2,Ai x2)]/\HH g Q [] F)\/False) ?_ ?_
 ·refine B7 kr (λ(s:Int) N Q=>∃x1,x1=s/\Has N 29 [(3,Ai (i64.wrap ((i64.wrap ((p0.Key.length:Int)+(p0.Value.length:Int)))+3))),(4,Ai x1)]/\HH g Q [] F) O ⟨_,rfl,H.ls,A⟩ ?_;intro s q D h2 J M;obtain⟨x1,rfl,H,A⟩:=J;unfold G5 at M;refine AU (AE 4 (AK 4 [(18,.bool (decide (x1<=(i64.wrap ((i64.wrap ((i64.wrap ((p0.Key.length:Int)+(p0.Value.length:Int)))+3))+20)))))] H λD H=>Ac 18 H M (λB M H=>?_) λB M H=>?_))
  ·refine By id (AU (Aa (id:=1) kr ?_));refine AE 7 ?_;obtain⟨x3,X,M⟩:=AJ M;obtain⟨v1,K,R,rfl,E⟩:=D8 (av:=[Ai x1]) X (A.cut 0);replace A:=A.DF E;refine BM 2 [(21,Ai (i64.wrap ((i64.wrap ((p0.Key.length:Int)+(p0.Value.length:Int)))+3)))] 23 R H λD t H=>?_;refine AK 4 [(27,.bool ((i64.wrap ((i64.wrap ((i64.wrap ((p0.Key.length:Int)+(p0.Value.length:Int)))+3))+(x3.length:Int)))==x1))] H λD H=>Ac 27 H M (λB M H=>?_) λB M H=>?_
   ·refine AE 2 (AK 2 [(2,Ai x1)] H λD H=>AY ?_);exact wy
   refine Di 3 id (BU 3 [(3,Ai (i64.wrap ((i64.wrap ((p0.Key.length:Int)+(p0.Value.length:Int)))+3))),(4,Ai (i64.wrap (x1+1)))] H λD H=>An ?_);exact vo
  exact v6
 intro e D T C;rcases C with⟨rfl,rfl,H,A⟩|⟨x2,rfl,rfl,H,A⟩|G
 ·refine AE 1 (AK 1 [(2,Ai 0)] H λD H=>AY ?_);exact wd
 ·exact wd
 exact G.elim
def Gf(p0:List AB)(s:Int):Option ((Int)⊕((Unit)⊕((List UInt8)×Int))):=
 match s with
 |x1=>Ag (decide (x1<(p0.length:Int))) ((Kx p0 x1).bind λx4=>(Du x4).bind λx5=>Ag (!x5) (some (.inr (.inr (([]:UV),(2:Int))))) (some (.inl (i64.wrap (x1+1))))) (some (.inr (.inl ())))
def Gh(p0:List AB)(s:(List UInt8)×Int):Option (((List UInt8)×Int)⊕(((List UInt8))⊕((List UInt8)×Int))):=
 match s with
 |(x6,x7)=>Ag (decide (x7<(p0.length:Int))) ((Kx p0 x7).bind λx11=>(Kx p0 x7).bind λx12=>(Kx p0 x7).bind λx13=>(FV x11).bind λx14=>(CO x14).bind λx15=>B4 (decide (x15.length+([32]:UV).length<=9223372036854775807))<|B4 (decide ((x15++([32]:UV)).length+x12.Key.length<=9223372036854775807))<|B4 (decide (((x15++([32]:UV))++x12.Key).length+([61]:UV).length<=9223372036854775807))<|B4 (decide ((((x15++([32]:UV))++x12.Key)++([61]:UV)).length+x13.Value.length<=9223372036854775807))<|B4 (decide (((((x15++([32]:UV))++x12.Key)++([61]:UV))++x13.Value).length+([10]:UV).length<=9223372036854775807))<|B4 (decide (x6.length+(((((x15++([32]:UV))++x12.Key)++([61]:UV))++x13.Value)++([10]:UV)).length<=9223372036854775807))<|Ag (decide (((x6++(((((x15++([32]:UV))++x12.Key)++([61]:UV))++x13.Value)++([10]:UV))).length:Int)>65536)) (some (.inr (.inr (([]:UV),(12:Int))))) (some (.inl (x6++(((((x15++([32]:UV))++x12.Key)++([61]:UV))++x13.Value)++([10]:UV)),i64.wrap (x7+1))))) (some (.inr (.inl x6)))
def Ew(p0:List AB):Option ((List UInt8)×Int):=
 Ag (decide ((p0.length:Int)>256)) (some (([]:UV),(8:Int))) ((loop (Gf p0) (0:Int)).bind λo1=>(match o1 with| .inl _=>(loop (Gh p0) (([]:UV),(0:Int))).bind λo2=>(match o2 with| .inl x8=>some (x8,(0:Int))| .inr (x9,x10)=>some (x9,x10))| .inr (x2,x3)=>some (x2,x3)))
theorem Mx{p0 q0 q1}(M:Ew p0=some (q0,q1)):tl 18 [vs AA p0] (.tuple [.str q0,Ai q1]):=by
 intro g h F av A hc;refine Dp 55 [.tmp 2,.tmp 3] hc ?_;unfold Ew at M;refine bg 55 [(0,vs AA p0)] λD H=>?_;refine AE 2 (AK 2 [] H λD H=>AU (AE 3 (AK 3 [(9,.bool (decide ((p0.length:Int)>256)))] H λD H=>Ac 9 H M (λB M H=>?_) λB M H=>?_)))
 ·refine AE 2 (AK 2 [(2,.str eZ),(3,Ai 8)] H λD H=>AY ?_);exact wb
 refine By id (AU (AE 1 (AK 1 [(4,Ai 0)] H λD H=>Aa (id:=0) kr ?_)));obtain⟨o1,O,M⟩:=AJ M;refine BJ (Q':=λe N Q=>(e=.exit 0/\.inl ()=o1/\Has N 55 [(0,vs AA p0)]/\HH g Q [] F)\/(∃x2 x3,e=.ret/\.inr (x2,x3)=o1/\Has N 55 [(2,.str x2),(3,Ai x3)]/\HH g Q [] F)\/False) ?_ ?_
 ·refine B7 kr (λ(s:Int) N Q=>∃x1,x1=s/\Has N 55 [(0,vs AA p0),(4,Ai x1)]/\HH g Q [] F) O ⟨_,rfl,H.ls,A⟩ ?_;intro s q D h1 J M;obtain⟨x1,rfl,H,A⟩:=J;unfold Gf at M;refine AU (AE 4 (AK 4 [(13,.bool (decide (x1<(p0.length:Int))))] H λD H=>Ac 13 H M (λB M H=>?_) λB M H=>?_))
  ·refine By id (AU (Aa (id:=1) kr ?_));refine AE 6 ?_;obtain⟨x4,X,M⟩:=AJ M;refine BQ 2 [] 18 (.Aw [.str x4.Key,.str x4.Value]) h1 H (λD=>.of (JB (e:=AA) (x:=x4) BK (by decide) kr X)) λD t H=>?_;refine Az 19 (.agg [.str x4.Key,.str x4.Value]) h1 H (λD=>.of (Jj kr)) λD t H=>?_;obtain⟨x5,X,M⟩:=AJ M;obtain⟨v1,h2,R,rfl,E⟩:=Mu (av:=[.agg [.str x4.Key,.str x4.Value]]) X (A.cut 0);replace A:=A.DF E;refine BO 20 R H λD t H=>?_;refine AK 1 [(21,.bool (!x5))] H λD H=>Ac 21 H M (λB M H=>?_) λB M H=>?_
   ·refine AE 2 (AK 2 [(2,.str eZ),(3,Ai 2)] H λD H=>AY ?_);exact vh
   refine Di 3 id (BU 3 [(0,vs AA p0),(4,Ai (i64.wrap (x1+1)))] H λD H=>An ?_);exact vo
  exact v6
 intro e D K C;rcases C with⟨rfl,rfl,H,A⟩|⟨x2,x3,rfl,rfl,H,A⟩|G
 ·refine AE 1 (AK 1 [(5,.str eZ)] H λD H=>AU (AE 1 (AK 1 [(6,Ai 0)] H λD H=>Aa (id:=2) kr ?_)));obtain⟨o2,O,M⟩:=AJ M;refine BJ (Q':=λe N Q=>(∃x8,e=.exit 2/\.inl x8=o2/\Has N 55 [(5,.str x8)]/\HH g Q [] F)\/(∃x9 x10,e=.ret/\.inr (x9,x10)=o2/\Has N 55 [(2,.str x9),(3,Ai x10)]/\HH g Q [] F)\/False) ?_ ?_
  ·refine B7 kr (λ(s:(List UInt8)×Int) N Q=>∃x6 x7,(x6,x7)=s/\Has N 55 [(0,vs AA p0),(5,.str x6),(6,Ai x7)]/\HH g Q [] F) O ⟨_,_,rfl,H.ls,A⟩ ?_;intro s q D T J M;obtain⟨x6,x7,rfl,H,A⟩:=J;unfold Gh at M;refine AU (AE 4 (AK 4 [(25,.bool (decide (x7<(p0.length:Int))))] H λD H=>Ac 25 H M (λB M H=>?_) λB M H=>?_))
   ·refine By id (AU (Aa (id:=3) kr ?_));refine AU (Io 12 24 [(0,[]),(1,[]),(2,[]),(3,[]),(4,[]),(8,[]),(9,[]),(10,[]),(11,[]),(12,[]),(15,[]),(16,[]),(17,[]),(18,[]),(19,[]),(5,[12,19]),(6,[12,19]),(7,[]),(13,[]),(14,[]),(20,[]),(21,[]),(22,[]),(23,[])] ?_);refine AL 3 [(28,.str x6),(29,vs AA p0),(30,Ai x7)] H λD H=>?_;obtain⟨x11,X,M⟩:=AJ M;refine BP 31 (.Aw [.str x11.Key,.str x11.Value]) T [] (g.BW) H (λD=>.of (JB (e:=AA) (x:=x11) BK (by decide) kr X)) (λD H=>?_);refine BP 32 (.agg [.str x11.Key,.str x11.Value]) T [] (g.BW) H (λD=>.of (Jj kr)) (λD H=>?_);refine AL 2 [(36,vs AA p0),(37,Ai x7)] H λD H=>?_;obtain⟨x12,X,M⟩:=AJ M;refine BP 38 (.Aw [.str x12.Key,.str x12.Value]) T [] (g.BW) H (λD=>.of (JB (e:=AA) (x:=x12) BK (by decide) kr X)) (λD H=>?_);refine AL 1 [(39,.Aw [.str x12.Key,.str x12.Value])] H λD H=>BP 40 (.str x12.Key) T [] (g.BW) H (λD=>.of (Jj kr)) (λD H=>?_);refine AL 2 [(43,vs AA p0),(44,Ai x7)] H λD H=>?_;obtain⟨x13,X,M⟩:=AJ M;refine BP 45 (.Aw [.str x13.Key,.str x13.Value]) T [] (g.BW) H (λD=>.of (JB (e:=AA) (x:=x13) BK (by decide) kr X)) (λD H=>?_);refine AL 1 [(46,.Aw [.str x13.Value])] H λD H=>BP 47 (.str x13.Value) T [] (g.BW) H (λD=>.of (Jj kr)) (λD H=>?_);obtain⟨x14,X,M⟩:=AJ M;obtain⟨v1,W,R,rfl,E⟩:=Nq (av:=[.agg [.str x11.Key,.str x11.Value]]) X (A.cut 0);replace A:=A.DF E;refine BP 33 (Ai x14) W [] (g.BW) H (λD=>Steps.call kr R) (λD H=>?_);obtain⟨x15,X,M⟩:=AJ M;obtain⟨v1,U,R,rfl,E⟩:=D8 (av:=[Ai x14]) X (A.cut 0)
    replace A:=A.DF E;refine BP 34 (.str x15) U [] (g.BW) H (λD=>Steps.call kr R) (λD H=>?_);obtain⟨B,M⟩:=Ap M;refine BP 35 (.str (x15++([32]:UV))) U [] (g.BW) H (λD=>.of (Dh kr B)) (λD H=>?_);obtain⟨B,M⟩:=Ap M;refine BP 41 (.str ((x15++([32]:UV))++x12.Key)) U [] (g.BW) H (λD=>.of (Dh kr B)) (λD H=>?_);obtain⟨B,M⟩:=Ap M;refine BP 42 (.str (((x15++([32]:UV))++x12.Key)++([61]:UV))) U [] (g.BW) H (λD=>.of (Dh kr B)) (λD H=>?_);obtain⟨B,M⟩:=Ap M;refine BP 48 (.str ((((x15++([32]:UV))++x12.Key)++([61]:UV))++x13.Value)) U [] (g.BW) H (λD=>.of (Dh kr B)) (λD H=>?_);obtain⟨B,M⟩:=Ap M;refine BP 49 (.str (((((x15++([32]:UV))++x12.Key)++([61]:UV))++x13.Value)++([10]:UV))) U [] (g.BW) H (λD=>.of (Dh kr B)) (λD H=>?_);obtain⟨B,M⟩:=Ap M;refine BP 50 (.str (x6++(((((x15++([32]:UV))++x12.Key)++([61]:UV))++x13.Value)++([10]:UV)))) U [] (g.BW) H (λD=>.of (Dh kr B)) (λD H=>?_);refine BU 1 [(0,vs AA p0),(5,.str (x6++(((((x15++([32]:UV))++x12.Key)++([61]:UV))++x13.Value)++([10]:UV)))),(6,Ai x7)] H λD H=>CI 3 id (AK 3 [(53,.bool (decide (((x6++(((((x15++([32]:UV))++x12.Key)++([61]:UV))++x13.Value)++([10]:UV))).length:Int)>65536)))] H λD H=>Ac 53 H M (λB M H=>?_) λB M H=>?_)
    ·refine AE 2 (AK 2 [(2,.str eZ),(3,Ai 12)] H λD H=>AY ?_);exact vh
    refine Di 3 id (BU 3 [(0,vs AA p0),(5,.str (x6++(((((x15++([32]:UV))++x12.Key)++([61]:UV))++x13.Value)++([10]:UV)))),(6,Ai (i64.wrap (x7+1)))] H λD H=>An ?_);exact vg
   exact uf
  intro e D V C;rcases C with⟨x8,rfl,rfl,H,A⟩|⟨x9,x10,rfl,rfl,H,A⟩|G
  ·refine AE 3 (AK 3 [(2,.str x8),(3,Ai 0)] H λD H=>AY ?_);exact wb
  ·exact wb
  exact G.elim
 ·exact wb
 exact G.elim
def Gz(p0:List UInt8)(s:Int):Option ((Int)⊕((Int))):=
 match s with
 |x1=>(Ag (decide (x1<(p0.length:Int))) ((KE p0 x1).bind λx4=>some (x4 !=0)) (some false):Option (Bool)).bind λx3=>Ag x3 (some (.inl (i64.wrap (x1+1)))) (some (.inr x1))
def CP(p0:List UInt8):Option ((List UInt8)):=
 (loop (Gz p0) (0:Int)).bind λx2=>(E4 p0 none (some x2)).bind λx5=>some x5
theorem Et{p0 q0}(M:CP p0=some q0):tl 50 [.str p0] (.str q0):=by
 intro g h F av A hc;refine Dp 19 [.tmp 2] hc ?_;unfold CP at M;refine bg 19 [(0,.str p0)] λD H=>?_;refine AE 1 (Bx 1 [] 1 H λD H=>AK 1 [(3,Ai 0)] H λD H=>AU (Aa (id:=0) kr ?_));obtain⟨o1,O,M⟩:=AJ M;refine BJ (Q':=λe N Q=>(∃x2,e=.exit 0/\x2=o1/\Has N 19 [(0,.str p0),(3,Ai x2)]/\HH g Q [] F)\/False) ?_ ?_
 ·refine B7 kr (λ(s:Int) N Q=>∃x1,x1=s/\Has N 19 [(0,.str p0),(3,Ai x1)]/\HH g Q [] F) O ⟨_,rfl,H.ls,A⟩ ?_;intro s q D h1 J M;obtain⟨x1,rfl,H,A⟩:=J;unfold Gz at M;refine AU (AE 10 (AL 5 [(8,.bool (decide (x1<(p0.length:Int))))] H λD H=>?_));obtain⟨x3,O,M⟩:=AJ M;refine Bp 5 (λN Q=>Has N 19 [(0,.str p0),(3,Ai x1),(13,.bool x3)]/\HH g Q [] F) ?_ ?_
  ·rcases BB O with⟨B,M⟩|⟨B,M⟩
   ·replace H:=H.kn 8 B;obtain⟨x4,X,M⟩:=AJ M;refine BQ 2 [] 11 (Ab x4) h1 H (λD=>.of (Eg kr X)) λD t H=>?_;refine AL 2 [(13,.bool (x4 !=0))] H λD H=>?_;exact wg
   replace H:=H.kn 8 B;refine AL 5 [(13,.bool false)] H λD H=>?_;exact wg
  intro t D h2 I;obtain⟨H,A⟩:=I;refine BN id (Ac 13 H M (λB M H=>?_) λB M H=>?_)
  ·refine By id (Aa (id:=1) kr ?_);refine CF 3 (BU 3 [(0,.str p0),(3,Ai (i64.wrap (x1+1)))] H λD H=>An ?_);exact vo
  exact wm
 intro e D K C;rcases C with⟨x2,rfl,rfl,H,A⟩|G
 ·refine AE 4 ?_;obtain⟨x5,X,M⟩:=AJ M;refine BQ 2 [] 18 (.str x5) K H (λD=>.of (Df (k:=.i64) (k':=.i64) (lo:=none) (hi:=(some x2)) kr X)) λD t H=>?_;refine AK 1 [(2,.str x5)] H λD H=>AY ?_;exact wd
 exact G.elim
def Gx(p0:List UInt8)(s:Int×Int):Option ((Int×Int)⊕((Int))):=
 match s with
 |(x1,x2)=>Ag (decide (x2<(p0.length:Int))) (((KE p0 x2).bind λx5=>Ag ((((x5==47)&&(decide (x2<=155)))&&(decide ((i64.wrap ((i64.wrap ((p0.length:Int) - x2)) - 1))>=1)))&&(decide ((i64.wrap ((i64.wrap ((p0.length:Int) - x2)) - 1))<=100))) (some x2) (some x1):Option ((Int))).bind λx4=>some (.inl (x4,i64.wrap (x2+1)))) (some (.inr x1))
def EI(p0:List UInt8):Option ((List UInt8)×(List UInt8)×Bool):=
 Ag (decide ((p0.length:Int)<=100)) (some (([]:UV),p0,true)) ((loop (Gx p0) ((-1:Int),(1:Int))).bind λx3=>Ag (decide (x3<0)) (some (([]:UV),([]:UV),false)) ((E4 p0 none (some x3)).bind λx6=>(E4 p0 (some (i64.wrap (x3+1))) none).bind λx7=>some (x6,x7,true)))
theorem Jc{p0 q0 q1 q2}(M:EI p0=some (q0,q1,q2)):tl 51 [.str p0] (.tuple [.str q0,.str q1,.bool q2]):=by
 intro g h F av A hc;refine Dp 49 [.tmp 2,.tmp 3,.tmp 4] hc ?_;unfold EI at M;refine bg 49 [(0,.str p0)] λD H=>?_;refine AE 3 (AK 3 [] H λD H=>AU (AE 3 (AK 3 [(10,.bool (decide ((p0.length:Int)<=100)))] H λD H=>Ac 10 H M (λB M H=>?_) λB M H=>?_)))
 ·exact uy
 refine CC 1 id (AK 1 [(5,Ai (-1))] H λD H=>AU (AE 1 (AK 1 [(6,Ai 1)] H λD H=>Aa (id:=0) kr ?_)));obtain⟨o1,O,M⟩:=AJ M;refine BJ (Q':=λe N Q=>(∃x3,e=.exit 0/\x3=o1/\Has N 49 [(0,.str p0),(5,Ai x3)]/\HH g Q [] F)\/False) ?_ ?_
 ·refine B7 kr (λ(s:Int×Int) N Q=>∃x1 x2,(x1,x2)=s/\Has N 49 [(0,.str p0),(5,Ai x1),(6,Ai x2)]/\HH g Q [] F) O ⟨_,_,rfl,H.ls,A⟩ ?_;intro s q D h1 J M;obtain⟨x1,x2,rfl,H,A⟩:=J;unfold Gx at M;refine AU (AE 4 (AK 4 [(15,.bool (decide (x2<(p0.length:Int))))] H λD H=>Ac 15 H M (λB M H=>?_) λB M H=>?_))
  ·refine By id (AU ?_);obtain⟨o2,O,M⟩:=AJ M;refine BJ (Q':=λe N Q=>(∃x4,e=.normal/\x4=o2/\Has N 49 [(0,.str p0),(5,Ai x4),(6,Ai x2)]/\HH g Q [] F)\/False) ?_ ?_
   ·replace M:=O;refine Aa (id:=1) kr ?_;refine AE 6 (Bx 6 [(7,Ai (i64.wrap ((i64.wrap ((p0.length:Int) - x2)) - 1)))] 16 H λD H=>?_);obtain⟨x5,X,M⟩:=AJ M;refine BQ 2 [] 25 (Ab x5) h1 H (λD=>.of (Eg kr X)) λD t H=>?_;refine AL 2 [(27,.bool (x5==47))] H λD H=>Ch 3 27 (λbb=>[(30,.bool (bb&&(decide (x2<=155))))]) H λD H=>?_;refine AL 1 [(31,.bool ((x5==47)&&(decide (x2<=155))))] H λD H=>Ch 3 31 (λbb=>[(34,.bool (bb&&(decide ((i64.wrap ((i64.wrap ((p0.length:Int) - x2)) - 1))>=1))))]) H λD H=>?_;refine AL 1 [(35,.bool (((x5==47)&&(decide (x2<=155)))&&(decide ((i64.wrap ((i64.wrap ((p0.length:Int) - x2)) - 1))>=1))))] H λD H=>Ch 3 35 (λbb=>[(38,.bool (bb&&(decide ((i64.wrap ((i64.wrap ((p0.length:Int) - x2)) - 1))<=100))))]) H λD H=>?_;refine BN id (Ac 38 H M (λB M H=>?_) λB M H=>?_)
    ·refine CF 2 (BU 2 [(0,.str p0),(5,Ai x2),(6,Ai x2)] H λD H=>An ?_);exact wo
    exact wx
   intro e D h2 C;rcases C with⟨x4,rfl,rfl,H,A⟩|G
   ·refine CF 3 (BU 3 [(0,.str p0),(5,Ai x4),(6,Ai (i64.wrap (x2+1)))] H λD H=>An ?_);exact vg
   exact G.elim
  exact wm
 intro e D K C;rcases C with⟨x3,rfl,rfl,H,A⟩|G
 ·refine AU (AE 2 (AK 2 [(41,.bool (decide (x3<0)))] H λD H=>Ac 41 H M (λB M H=>?_) λB M H=>?_))
  ·exact ux
  refine By id (AU (G7 12 10 ?_));obtain⟨x6,X,M⟩:=AJ M;refine BQ 2 [] 44 (.str x6) K H (λD=>.of (Df (k:=.i64) (k':=.i64) (lo:=none) (hi:=(some x3)) kr X)) λD t H=>?_;obtain⟨x7,X,M⟩:=AJ M;refine BQ 3 [] 48 (.str x7) K H (λD=>.of (Df (k:=.i64) (k':=.i64) (lo:=(some (i64.wrap (x3+1)))) (hi:=none) kr X)) λD t H=>?_;refine AK 3 [(2,.str x6),(3,.str x7),(4,.bool true)] H λD H=>AY ?_;exact wn
 exact G.elim
def B5(p0:Int)(p1:Int):Option (Bool):=
 some ((decide (p0>=0))&&(decide (p0<p1)))
theorem Cw{p0 p1 q0}(M:B5 p0 p1=some q0):tl 52 [Ai p0,Ai p1] (.bool q0):=by
 intro g h F av A hc;refine Dp 12 [.tmp 4] hc ?_;unfold B5 at M;refine bg 12 [(0,Ai p0),(1,Ai p1)] λD H=>?_;refine AE 1 (Bx 1 [] 8 H λD H=>AL 3 [(7,.bool (decide (p0>=0)))] H λD H=>Ch 4 7 (λbb=>[(11,.bool (bb&&(decide (p0<p1))))]) H λD H=>?_);refine AK 1 [(4,.bool ((decide (p0>=0))&&(decide (p0<p1))))] H λD H=>AY ?_;exact wd
def FP(p0:AO):Option (Int):=
 (CP p0.Name).bind λx1=>Ag (!(x1==p0.Name)) (some (2:Int)) ((CP p0.BG).bind λx2=>Ag (!(x2==p0.BG)) (some (2:Int)) ((CP p0.A6).bind λx3=>(Ag (!(x3==p0.A6)) (some true) ((CP p0.A7).bind λx5=>some (!(x5==p0.A7))):Option (Bool)).bind λx4=>Ag x4 (some (2:Int)) ((EI p0.Name).bind λ(x6,x7,x8)=>Ag ((((!x8)||(decide ((p0.BG.length:Int)>100)))||(decide ((p0.A6.length:Int)>32)))||(decide ((p0.A7.length:Int)>32))) (some (12:Int)) ((B5 p0.Mode (2097152:Int)).bind λx9=>(Ag (!x9) (some true) ((B5 p0.Cq (2097152:Int)).bind λx11=>some (!x11)):Option (Bool)).bind λx10=>(Ag x10 (some true) ((B5 p0.Cy (2097152:Int)).bind λx13=>some (!x13)):Option (Bool)).bind λx12=>(Ag x12 (some true) ((B5 p0.BY (2097152:Int)).bind λx15=>some (!x15)):Option (Bool)).bind λx14=>(Ag x14 (some true) ((B5 p0.Bi (2097152:Int)).bind λx17=>some (!x17)):Option (Bool)).bind λx16=>(Ag x16 (some true) ((B5 p0.B9 (8589934592:Int)).bind λx19=>some (!x19)):Option (Bool)).bind λx18=>(Ag x18 (some true) ((B5 p0.Time (8589934592:Int)).bind λx21=>some (!x21)):Option (Bool)).bind λx20=>Ag x20 (some (6:Int)) (some (0:Int))))))
theorem NV{p0 q0}(M:FP p0=some q0):tl 19 [.agg (AP p0)] (Ai q0):=by
 intro g h F av A hc;refine Dp 103 [.tmp 2] hc ?_;unfold FP at M;refine bg 103 [(0,.agg (AP p0))] λD H=>?_;refine AE 2 ?_;obtain⟨h1,e1,A⟩:=A.pu (.cells none 2 (AP p0));refine Bj 1 (pz h.size) e1 H λD t H=>?_;refine AK 1 [] H λD H=>AU (AU (Io 1 30 [(0,[]),(1,[]),(3,[]),(4,[]),(2,[4]),(5,[]),(6,[]),(7,[]),(8,[]),(10,[]),(11,[]),(9,[11]),(12,[]),(13,[]),(14,[]),(15,[]),(16,[]),(18,[]),(19,[]),(17,[19]),(20,[]),(21,[]),(22,[]),(23,[]),(24,[]),(26,[]),(27,[]),(25,[27]),(28,[]),(29,[])] ?_));refine AL 1 [(6,pz h.size)] H λD H=>BP 7 (.str p0.Name) h1 [(1,h.size)] (g.BW) H (λD=>.of (Fb kr (A.l1 0 0))) (λD H=>?_);refine AL 1 [(9,pz h.size)] H λD H=>BP 10 (.str p0.Name) h1 [(4,h.size),(1,h.size)] (g.BW) H (λD=>.of (Fb kr (A.l1 0 0))) (λD H=>?_);have E:=A.Ef 0 (pr:=[h.size]) (.cons 0 rfl (by simp[Ck.ids]) .nil);obtain⟨x1,X,M⟩:=AJ M;obtain⟨v1,h2,R,rfl,E⟩:=Et X E;replace A:HH g h2 [oB h.size (AP p0)] F:=A.PV (n:=0) E;refine BP 8 (.str x1) h2 [(4,h.size),(1,h.size)] (h.size::g.BW) H (λD=>Steps.call kr R) (λD H=>?_);refine AL 2 [(12,.bool (!(x1==p0.Name)))] H λD H=>?_;rcases BB M with⟨B,M⟩|⟨B,M⟩
 ·replace H:=H.kn 12 B;refine AL 4 [(14,.tuple []),(17,.tuple [])] H λD H=>JW [(1,pz h.size),(12,.bool true),(15,.tuple []),(17,.tuple [])] H (λD=>kr) ?_;intro D H;refine AL 7 [(20,.bool true),(22,.tuple []),(25,.tuple [])] H λD H=>JW [(1,pz h.size),(20,.bool true),(23,.tuple []),(25,.tuple [])] H (λD=>kr) ?_;exact vm
 replace H:=H.kn 12 B;refine AL 1 [(13,.ptr (some (h.size,1)))] H λD H=>BP 14 (.str p0.BG) h2 [(8,h.size),(4,h.size),(1,h.size)] (g.BW) H (λD=>.of (Fb kr (A.l1 0 1))) (λD H=>?_);refine AL 1 [(16,.ptr (some (h.size,1)))] H λD H=>BP 17 (.str p0.BG) h2 [(11,h.size),(8,h.size),(4,h.size),(1,h.size)] (g.BW) H (λD=>.of (Fb kr (A.l1 0 1))) (λD H=>?_);have E:=A.Ef 0 (pr:=[h.size]) (.cons 0 rfl (by simp[Ck.ids]) .nil);obtain⟨x2,X,M⟩:=AJ M;obtain⟨v1,K,R,rfl,E⟩:=Et X E;replace A:=A.Th E;refine BP 15 (.str x2) K [(11,h.size),(8,h.size),(4,h.size),(1,h.size)] (h.size::g.BW) H (λD=>Steps.call kr R) (λD H=>?_);refine AL 3 [(20,.bool (!(x2==p0.BG)))] H λD H=>?_;rcases BB M with⟨B,M⟩|⟨B,M⟩
 ·replace H:=H.kn 20 B;refine AL 4 [(22,.tuple []),(25,.tuple [])] H λD H=>JW [(1,pz h.size),(20,.bool true),(23,.tuple []),(25,.tuple [])] H (λD=>kr) ?_;exact vm
 replace H:=H.kn 20 B;refine AL 1 [(21,.ptr (some (h.size,8)))] H λD H=>BP 22 (.str p0.A6) K [(16,h.size),(11,h.size),(8,h.size),(4,h.size),(1,h.size)] (g.BW) H (λD=>.of (Fb kr (A.l1 0 8))) (λD H=>?_);refine AL 1 [(24,.ptr (some (h.size,8)))] H λD H=>BP 25 (.str p0.A6) K [(19,h.size),(16,h.size),(11,h.size),(8,h.size),(4,h.size),(1,h.size)] (g.BW) H (λD=>.of (Fb kr (A.l1 0 8))) (λD H=>?_);have E:=A.Ef 0 (pr:=[h.size]) (.cons 0 rfl (by simp[Ck.ids]) .nil);obtain⟨x3,X,M⟩:=AJ M;obtain⟨v1,T,R,rfl,E⟩:=Et X E;replace A:=A.Th E;refine BP 23 (.str x3) T [(19,h.size),(16,h.size),(11,h.size),(8,h.size),(4,h.size),(1,h.size)] (h.size::g.BW) H (λD=>Steps.call kr R) (λD H=>?_);refine AL 3 [(28,.bool (!(x3==p0.A6)))] H λD H=>?_;obtain⟨x4,O,M⟩:=AJ M;refine Bp 7 (λN Q=>Has N 103 [(1,pz h.size),(35,.bool x4)]/\HH g Q [oB h.size (AP p0)] F) ?_ ?_
 ·rcases BB O with⟨B,M⟩|⟨B,M⟩
  ·replace H:=H.kn 28 B;refine AL 4 [(30,.tuple []),(33,.tuple [])] H λD H=>JW [(1,pz h.size),(28,.bool true),(31,.tuple []),(33,.tuple [])] H (λD=>kr) ?_;intro D H;refine AL 2 [(35,.bool true)] H λD H=>?_;exact wg
  replace H:=H.kn 28 B;refine AL 1 [(29,.ptr (some (h.size,9)))] H λD H=>BP 30 (.str p0.A7) T [(24,h.size),(19,h.size),(16,h.size),(11,h.size),(8,h.size),(4,h.size),(1,h.size)] (g.BW) H (λD=>.of (Fb kr (A.l1 0 9))) (λD H=>?_);refine AL 1 [(32,.ptr (some (h.size,9)))] H λD H=>BP 33 (.str p0.A7) T [(27,h.size),(24,h.size),(19,h.size),(16,h.size),(11,h.size),(8,h.size),(4,h.size),(1,h.size)] (g.BW) H (λD=>.of (Fb kr (A.l1 0 9))) (λD H=>?_);have E:=A.Ef 0 (pr:=[h.size]) (.cons 0 rfl (by simp[Ck.ids]) .nil);obtain⟨x5,X,M⟩:=AJ M;obtain⟨v1,U,R,rfl,E⟩:=Et X E;replace A:=A.Th E;refine BP 31 (.str x5) U [(27,h.size),(24,h.size),(19,h.size),(16,h.size),(11,h.size),(8,h.size),(4,h.size),(1,h.size)] (h.size::g.BW) H (λD=>Steps.call kr R) (λD H=>?_);refine AL 2 [(35,.bool (!(x5==p0.A7)))] H λD H=>?_;exact wg
 intro t D W I;obtain⟨H,A⟩:=I;refine BN id (Ac 35 H M (λB M H=>?_) λB M H=>?_)
 ·refine AE 1 (AK 1 [(2,Ai 2)] H λD H=>AY ?_);exact wi
 refine CC 10 id (AX 1 [] 38 0 0 A H λD t H=>?_);obtain⟨⟨x6,x7,x8⟩,X,M⟩:=AJ M;obtain⟨v1,V,R,rfl,E⟩:=Jc X (A.cut 0);replace A:=A.DF E;refine BO 39 R H λD t H=>?_;refine AK 7 [(5,.bool x8)] H λD H=>AU (AE 20 (AL 3 [(45,.bool (!x8))] H λD H=>Bp 5 (λN Q=>V=Q/\Has N 103 [(1,pz h.size),(50,.bool ((!x8)||(decide ((p0.BG.length:Int)>100))))]) ?_ ?_))
 ·cases B:(!x8:Bool)with
  |true=>
   replace H:=H.kn 45 B;exact AL 5 [(50,.bool true)] H λD H=>Bu H B
  |false=>
   replace H:=H.kn 45 B;refine AX 1 [] 47 0 1 A H λD t H=>?_;exact AL 3 [(50,.bool (decide ((p0.BG.length:Int)>100)))] H λD H=>Bu H B
 intro t D Q I;obtain⟨e,H⟩:=I;subst e;refine AL 1 [(51,.bool ((!x8)||(decide ((p0.BG.length:Int)>100))))] H λD H=>Bp 5 (λN Q=>V=Q/\Has N 103 [(1,pz h.size),(56,.bool (((!x8)||(decide ((p0.BG.length:Int)>100)))||(decide ((p0.A6.length:Int)>32))))]) ?_ ?_
 ·cases B:((!x8)||(decide ((p0.BG.length:Int)>100)):Bool)with
  |true=>
   replace H:=H.kn 51 B;exact AL 5 [(56,.bool true)] H λD H=>Bu H B
  |false=>
   replace H:=H.kn 51 B;refine AX 1 [] 53 0 8 A H λD t H=>?_;exact AL 3 [(56,.bool (decide ((p0.A6.length:Int)>32)))] H λD H=>Bu H B
 intro t D Q I;obtain⟨e,H⟩:=I;subst e;refine AL 1 [(57,.bool (((!x8)||(decide ((p0.BG.length:Int)>100)))||(decide ((p0.A6.length:Int)>32))))] H λD H=>Bp 5 (λN Q=>V=Q/\Has N 103 [(1,pz h.size),(62,.bool ((((!x8)||(decide ((p0.BG.length:Int)>100)))||(decide ((p0.A6.length:Int)>32)))||(decide ((p0.A7.length:Int)>32))))]) ?_ ?_
 ·cases B:(((!x8)||(decide ((p0.BG.length:Int)>100)))||(decide ((p0.A6.length:Int)>32)):Bool)with
  |true=>
   replace H:=H.kn 57 B;exact AL 5 [(62,.bool true)] H λD H=>Bu H B
  |false=>
   replace H:=H.kn 57 B;refine AX 1 [] 59 0 9 A H λD t H=>?_;exact AL 3 [(62,.bool (decide ((p0.A7.length:Int)>32)))] H λD H=>Bu H B
 intro t D Q I;obtain⟨e,H⟩:=I;subst e;refine BN id (Ac 62 H M (λB M H=>?_) λB M H=>?_)
 ·refine AE 1 (AK 1 [(2,Ai 12)] H λD H=>AY ?_);exact wi
 refine By id (AU (AE 40 (AX 1 [] 64 0 3 A H λD t H=>?_)));obtain⟨x9,X,M⟩:=AJ M;obtain⟨v1,h8,R,rfl,E⟩:=Cw X (A.cut 0);replace A:=A.DF E;refine BO 65 R H λD t H=>?_;refine AL 2 [(67,.bool (!x9))] H λD H=>?_;obtain⟨x10,O,M⟩:=AJ M;refine Bp 5 (λN Q=>Has N 103 [(1,pz h.size),(72,.bool x10)]/\HH g Q [oB h.size (AP p0)] F) ?_ ?_
 ·rcases BB O with⟨B,M⟩|⟨B,M⟩
  ·replace H:=H.kn 67 B;refine AL 5 [(72,.bool true)] H λD H=>?_;exact wg
  replace H:=H.kn 67 B;refine AX 1 [] 69 0 4 A H λD t H=>?_;obtain⟨x11,X,M⟩:=AJ M;obtain⟨v1,h10,R,rfl,E⟩:=Cw X (A.cut 0);replace A:=A.DF E;refine BO 70 R H λD t H=>?_;refine AL 2 [(72,.bool (!x11))] H λD H=>?_;exact wg
 intro t D h9 I;obtain⟨H,A⟩:=I;refine AL 1 [(73,.bool x10)] H λD H=>?_;obtain⟨x12,O,M⟩:=AJ M;refine Bp 5 (λN Q=>Has N 103 [(1,pz h.size),(78,.bool x12)]/\HH g Q [oB h.size (AP p0)] F) ?_ ?_
 ·rcases BB O with⟨B,M⟩|⟨B,M⟩
  ·replace H:=H.kn 73 B;refine AL 5 [(78,.bool true)] H λD H=>?_;exact wg
  replace H:=H.kn 73 B;refine AX 1 [] 75 0 5 A H λD t H=>?_;obtain⟨x13,X,M⟩:=AJ M;obtain⟨v1,h12,R,rfl,E⟩:=Cw X (A.cut 0);replace A:=A.DF E;refine BO 76 R H λD t H=>?_;refine AL 2 [(78,.bool (!x13))] H λD H=>?_;exact wg
 intro t D h11 I;obtain⟨H,A⟩:=I;refine AL 1 [(79,.bool x12)] H λD H=>?_;obtain⟨x14,O,M⟩:=AJ M;refine Bp 5 (λN Q=>Has N 103 [(1,pz h.size),(84,.bool x14)]/\HH g Q [oB h.size (AP p0)] F) ?_ ?_
 ·rcases BB O with⟨B,M⟩|⟨B,M⟩
  ·replace H:=H.kn 79 B;refine AL 5 [(84,.bool true)] H λD H=>?_;exact wg
  replace H:=H.kn 79 B;refine AX 1 [] 81 0 10 A H λD t H=>?_;obtain⟨x15,X,M⟩:=AJ M;obtain⟨v1,h14,R,rfl,E⟩:=Cw X (A.cut 0);replace A:=A.DF E;refine BO 82 R H λD t H=>?_;refine AL 2 [(84,.bool (!x15))] H λD H=>?_;exact wg
 intro t D h13 I;obtain⟨H,A⟩:=I;refine AL 1 [(85,.bool x14)] H λD H=>?_;obtain⟨x16,O,M⟩:=AJ M;refine Bp 5 (λN Q=>Has N 103 [(1,pz h.size),(90,.bool x16)]/\HH g Q [oB h.size (AP p0)] F) ?_ ?_
 ·rcases BB O with⟨B,M⟩|⟨B,M⟩
  ·replace H:=H.kn 85 B;refine AL 5 [(90,.bool true)] H λD H=>?_;exact wg
  replace H:=H.kn 85 B;refine AX 1 [] 87 0 11 A H λD t H=>?_;obtain⟨x17,X,M⟩:=AJ M;obtain⟨v1,h16,R,rfl,E⟩:=Cw X (A.cut 0);replace A:=A.DF E;refine BO 88 R H λD t H=>?_;refine AL 2 [(90,.bool (!x17))] H λD H=>?_;exact wg
 intro t D h15 I;obtain⟨H,A⟩:=I;refine AL 1 [(91,.bool x16)] H λD H=>?_;obtain⟨x18,O,M⟩:=AJ M;refine Bp 5 (λN Q=>Has N 103 [(1,pz h.size),(96,.bool x18)]/\HH g Q [oB h.size (AP p0)] F) ?_ ?_
 ·rcases BB O with⟨B,M⟩|⟨B,M⟩
  ·replace H:=H.kn 91 B;refine AL 5 [(96,.bool true)] H λD H=>?_;exact wg
  replace H:=H.kn 91 B;refine AX 1 [] 93 0 6 A H λD t H=>?_;obtain⟨x19,X,M⟩:=AJ M;obtain⟨v1,h18,R,rfl,E⟩:=Cw X (A.cut 0);replace A:=A.DF E;refine BO 94 R H λD t H=>?_;refine AL 2 [(96,.bool (!x19))] H λD H=>?_;exact wg
 intro t D h17 I;obtain⟨H,A⟩:=I;refine AL 1 [(97,.bool x18)] H λD H=>?_;obtain⟨x20,O,M⟩:=AJ M;refine Bp 5 (λN Q=>Has N 103 [(102,.bool x20)]/\HH g Q [] F) ?_ ?_
 ·rcases BB O with⟨B,M⟩|⟨B,M⟩
  ·replace H:=H.kn 97 B;refine AL 5 [(102,.bool true)] H λD H=>?_;exact vk
  replace H:=H.kn 97 B;refine AX 1 [] 99 0 7 A H λD t H=>?_;obtain⟨x21,X,M⟩:=AJ M;obtain⟨v1,h20,R,rfl,E⟩:=Cw X (A.cut 0);replace A:=A.DF E;refine BO 100 R H λD t H=>?_;refine AL 2 [(102,.bool (!x21))] H λD H=>?_;exact vk
 intro t D h19 I;obtain⟨H,A⟩:=I;refine BN id (Ac 102 H M (λB M H=>?_) λB M H=>?_)
 ·refine AE 1 (AK 1 [(2,Ai 6)] H λD H=>AY ?_);exact wd
 exact um
def E6(p1:Int)(s:(List UInt8)):Option (((List UInt8))⊕(((List UInt8)))):=
 match s with
 |x3=>Ag (decide ((x3.length:Int)<p1)) (B4 (decide (x3.length+([0]:UV).length<=9223372036854775807))<|some (.inl (x3++([0]:UV)))) (some (.inr x3))
def GJ(p0:List UInt8)(p1:Int):Option ((List UInt8)×Bool):=
 (Ag (((decide (p1<0))||(decide (p1>512)))||(decide ((p0.length:Int)>p1))) (some true) ((CP p0).bind λx2=>some (!(x2==p0))):Option (Bool)).bind λx1=>Ag x1 (some (([]:UV),false)) ((loop (E6 p1) p0).bind λx4=>some (x4,true))
theorem Mv{p0 p1 q0 q1}(M:GJ p0 p1=some (q0,q1)):tl 80 [.str p0,Ai p1] (.tuple [.str q0,.bool q1]):=by
 intro g h F av A hc;refine Dp 31 [.tmp 4,.tmp 5] hc ?_;unfold GJ at M;refine bg 31 [(0,.str p0),(1,Ai p1)] λD H=>?_;refine AE 2 (AK 2 [] H λD H=>AU (AE 18 (AL 3 [(8,.bool (decide (p1<0)))] H λD H=>Ch 3 8 (λbb=>[(11,.bool (bb||(decide (p1>512))))]) H λD H=>?_)));refine AL 1 [(12,.bool ((decide (p1<0))||(decide (p1>512))))] H λD H=>Ch 5 12 (λbb=>[(17,.bool (bb||(decide ((p0.length:Int)>p1))))]) H λD H=>?_;refine AL 1 [(18,.bool (((decide (p1<0))||(decide (p1>512)))||(decide ((p0.length:Int)>p1))))] H λD H=>?_;obtain⟨x1,O,M⟩:=AJ M;refine Bp 5 (λN Q=>Has N 31 [(0,.str p0),(1,Ai p1),(23,.bool x1)]/\HH g Q [] F) ?_ ?_
 ·rcases BB O with⟨B,M⟩|⟨B,M⟩
  ·replace H:=H.kn 18 B;refine AL 5 [(23,.bool true)] H λD H=>?_;exact wg
  replace H:=H.kn 18 B;obtain⟨x2,X,M⟩:=AJ M;obtain⟨v1,h2,R,rfl,E⟩:=Et X (A.cut 0);replace A:=A.DF E;refine BM 1 [] 20 R H λD t H=>?_;refine AL 3 [(23,.bool (!(x2==p0)))] H λD H=>?_;exact wg
 intro t D h1 I;obtain⟨H,A⟩:=I;refine BN id (Ac 23 H M (λB M H=>?_) λB M H=>?_)
 ·exact u7
 refine By id (AU (Aa (id:=0) kr ?_));obtain⟨o1,O,M⟩:=AJ M;refine BJ (Q':=λe N Q=>(∃x4,e=.exit 0/\x4=o1/\Has N 31 [(0,.str x4)]/\HH g Q [] F)\/False) ?_ ?_
 ·refine B7 kr (λ(s:(List UInt8)) N Q=>∃x3,x3=s/\Has N 31 [(0,.str x3),(1,Ai p1)]/\HH g Q [] F) O ⟨_,rfl,H.ls,A⟩ ?_;intro s q D K J M;obtain⟨x3,rfl,H,A⟩:=J;unfold E6 at M;refine AU (AE 4 (AK 4 [(27,.bool (decide ((x3.length:Int)<p1)))] H λD H=>Ac 27 H M (λB M H=>?_) λB M H=>?_))
  ·refine By id (Aa (id:=1) kr ?_);refine CF 3 (AL 1 [(28,.str x3)] H λD H=>?_);obtain⟨B,M⟩:=Ap M;refine Az 29 (.str (x3++([0]:UV))) K H (λD=>.of (Dh kr B)) λD t H=>?_;refine BU 1 [(0,.str (x3++([0]:UV))),(1,Ai p1)] H λD H=>An ?_;exact vo
  exact wm
 intro e D T C;rcases C with⟨x4,rfl,rfl,H,A⟩|G
 ·refine AE 3 (AK 3 [(4,.str x4),(5,.bool true)] H λD H=>AY ?_);exact wb
 exact G.elim
def Bq(p0:List UInt8)(p1:Int):Option ((List UInt8)):=
 (GJ p0 p1).bind λ(x1,x2)=>some x1
theorem Dc{p0 p1 q0}(M:Bq p0 p1=some q0):tl 53 [.str p0,Ai p1] (.str q0):=by
 intro g h F av A hc;refine Dp 14 [.tmp 4] hc ?_;unfold Bq at M;refine bg 14 [(0,.str p0),(1,Ai p1)] λD H=>?_;refine AE 1 (Bx 1 [] 8 H λD H=>?_);obtain⟨⟨x1,x2⟩,X,M⟩:=AJ M;obtain⟨v1,h1,R,rfl,E⟩:=Mv X (A.cut 0);exact ua
def Ib(p0:Int)(p1:Int)(s:Int×Int):Option ((Int×Int)⊕((Int))):=
 match s with
 |(x1,x2)=>Ag ((decide (x2<p1))&&(decide (x1<18014398509481984))) (some (.inl (i64.wrap (x1*p0),i64.wrap (x2+1)))) (some (.inr x1))
def Ez(p0:Int)(p1:Int):Option (Int):=
 (loop (Ib p0 p1) ((1:Int),(0:Int))).bind λx3=>some x3
theorem Mr{p0 p1 q0}(M:Ez p0 p1=some q0):tl 106 [Ai p0,Ai p1] (Ai q0):=by
 intro g h F av A hc;refine Dp 20 [.tmp 4] hc ?_;unfold Ez at M;refine bg 20 [(0,Ai p0),(1,Ai p1)] λD H=>?_;refine AE 1 (Bx 1 [] 1 H λD H=>AK 1 [(5,Ai 1)] H λD H=>AU (AE 1 (AK 1 [(6,Ai 0)] H λD H=>Aa (id:=0) kr ?_)));obtain⟨o1,O,M⟩:=AJ M;refine BJ (Q':=λe N Q=>(∃x3,e=.exit 0/\x3=o1/\Has N 20 [(5,Ai x3)]/\HH g Q [] F)\/False) ?_ ?_
 ·refine B7 kr (λ(s:Int×Int) N Q=>∃x1 x2,(x1,x2)=s/\Has N 20 [(0,Ai p0),(1,Ai p1),(5,Ai x1),(6,Ai x2)]/\HH g Q [] F) O ⟨_,_,rfl,H.ls,A⟩ ?_;intro s q D h1 J M;obtain⟨x1,x2,rfl,H,A⟩:=J;unfold Ib at M;refine AU (AE 7 (AL 4 [(10,.bool (decide (x2<p1)))] H λD H=>Ch 3 10 (λbb=>[(13,.bool (bb&&(decide (x1<18014398509481984))))]) H λD H=>?_));refine BN id (Ac 13 H M (λB M H=>?_) λB M H=>?_)
  ·refine By id (AU (Aa (id:=1) kr ?_));refine CF 4 (BU 4 [(0,Ai p0),(1,Ai p1),(5,Ai (i64.wrap (x1*p0))),(6,Ai x2)] H λD H=>Dy 3 id (BU 3 [(0,Ai p0),(1,Ai p1),(5,Ai (i64.wrap (x1*p0))),(6,Ai (i64.wrap (x2+1)))] H λD H=>An ?_));exact vg
  exact wm
 intro e D h2 C;rcases C with⟨x3,rfl,rfl,H,A⟩|G
 ·refine AE 2 (AK 2 [(4,Ai x3)] H λD H=>AY ?_);exact wd
 exact G.elim
def Ca(p1:Int)(s:Int×(List UInt8)×Int):Option ((Int×(List UInt8)×Int)⊕(((List UInt8)))):=
 match s with
 |(x3,x4,x5)=>Ag (decide (x5<p1)) ((E4 ([48,49,50,51,52,53,54,55]:UV) (some (Int.tmod x3 (8:Int))) (some (i64.wrap ((Int.tmod x3 (8:Int))+1)))).bind λx7=>B4 (decide (x7.length+x4.length<=9223372036854775807))<|some (.inl (i64.wrap (Int.tdiv x3 (8:Int)),x7++x4,i64.wrap (x5+1)))) (some (.inr x4))
def Er(p0:Int)(p1:Int):Option ((List UInt8)×Bool):=
 (Ag (((decide (p1<2))||(decide (p1>12)))||(decide (p0<0))) (some true) ((Ez (8:Int) (i64.wrap (p1 - 1))).bind λx2=>some (decide (p0>=x2))):Option (Bool)).bind λx1=>Ag x1 (some (([]:UV),false)) ((loop (Ca p1) (p0,([0]:UV),(1:Int))).bind λx6=>some (x6,true))
theorem Mq{p0 p1 q0 q1}(M:Er p0 p1=some (q0,q1)):tl 81 [Ai p0,Ai p1] (.tuple [.str q0,.bool q1]):=by
 intro g h F av A hc;refine Dp 41 [.tmp 4,.tmp 5] hc ?_;unfold Er at M;refine bg 41 [(0,Ai p0),(1,Ai p1)] λD H=>?_;refine AE 2 (AK 2 [] H λD H=>AU (AE 17 (AL 3 [(10,.bool (decide (p1<2)))] H λD H=>Ch 3 10 (λbb=>[(13,.bool (bb||(decide (p1>12))))]) H λD H=>?_)));refine AL 1 [(14,.bool ((decide (p1<2))||(decide (p1>12))))] H λD H=>Ch 3 14 (λbb=>[(17,.bool (bb||(decide (p0<0))))]) H λD H=>?_;refine AL 1 [(18,.bool (((decide (p1<2))||(decide (p1>12)))||(decide (p0<0))))] H λD H=>?_;obtain⟨x1,O,M⟩:=AJ M;refine Bp 6 (λN Q=>Has N 41 [(0,Ai p0),(1,Ai p1),(24,.bool x1)]/\HH g Q [] F) ?_ ?_
 ·rcases BB O with⟨B,M⟩|⟨B,M⟩
  ·replace H:=H.kn 18 B;refine AL 6 [(24,.bool true)] H λD H=>?_;exact wg
  replace H:=H.kn 18 B;obtain⟨x2,X,M⟩:=AJ M;obtain⟨v1,h2,R,rfl,E⟩:=Mr X (A.cut 0);replace A:=A.DF E;refine BM 3 [(19,Ai p0)] 22 R H λD t H=>?_;refine AL 2 [(24,.bool (decide (p0>=x2)))] H λD H=>?_;exact wg
 intro t D h1 I;obtain⟨H,A⟩:=I;refine BN id (Ac 24 H M (λB M H=>?_) λB M H=>?_)
 ·exact u7
 refine CC 1 id (AK 1 [(6,.str ([0]:UV))] H λD H=>AU (AE 1 (AK 1 [(7,Ai 1)] H λD H=>Aa (id:=0) kr ?_)));obtain⟨o1,O,M⟩:=AJ M;refine BJ (Q':=λe N Q=>(∃x6,e=.exit 0/\x6=o1/\Has N 41 [(6,.str x6)]/\HH g Q [] F)\/False) ?_ ?_
 ·refine B7 kr (λ(s:Int×(List UInt8)×Int) N Q=>∃x3 x4 x5,(x3,x4,x5)=s/\Has N 41 [(0,Ai x3),(1,Ai p1),(6,.str x4),(7,Ai x5)]/\HH g Q [] F) O ⟨_,_,_,rfl,H.ls,A⟩ ?_;intro s q D K J M;obtain⟨x3,x4,x5,rfl,H,A⟩:=J;unfold Ca at M;refine AU (AE 3 (AK 3 [(27,.bool (decide (x5<p1)))] H λD H=>Ac 27 H M (λB M H=>?_) λB M H=>?_))
  ·refine By id (AU (Aa (id:=1) kr ?_));refine AE 9 ?_;obtain⟨x7,X,M⟩:=AJ M;refine BQ 5 [] 35 (.str x7) K H (λD=>.of (Df (k:=.i64) (k':=.i64) (lo:=(some (Int.tmod x3 (8:Int)))) (hi:=(some (i64.wrap ((Int.tmod x3 (8:Int))+1)))) kr X)) λD t H=>?_;refine AL 1 [(36,.str x4)] H λD H=>?_;obtain⟨B,M⟩:=Ap M;refine Az 37 (.str (x7++x4)) K H (λD=>.of (Dh kr B)) λD t H=>?_;refine BU 1 [(0,Ai x3),(1,Ai p1),(6,.str (x7++x4)),(7,Ai x5)] H λD H=>Dy 3 id (BU 3 [(0,Ai (i64.wrap (Int.tdiv x3 (8:Int)))),(1,Ai p1),(6,.str (x7++x4)),(7,Ai x5)] H λD H=>Dy 3 id (BU 3 [(0,Ai (i64.wrap (Int.tdiv x3 (8:Int)))),(1,Ai p1),(6,.str (x7++x4)),(7,Ai (i64.wrap (x5+1)))] H λD H=>An ?_));exact nx M ⟨_,_,_,rfl,H.ls,A⟩
  exact wm
 intro e D T C;rcases C with⟨x6,rfl,rfl,H,A⟩|G
 ·refine AE 3 (AK 3 [(4,.str x6),(5,.bool true)] H λD H=>AY ?_);exact wb
 exact G.elim
def B2(p0:Int)(p1:Int):Option ((List UInt8)):=
 (Er p0 p1).bind λ(x1,x2)=>some x1
theorem C6{p0 p1 q0}(M:B2 p0 p1=some q0):tl 54 [Ai p0,Ai p1] (.str q0):=by
 intro g h F av A hc;refine Dp 14 [.tmp 4] hc ?_;unfold B2 at M;refine bg 14 [(0,Ai p0),(1,Ai p1)] λD H=>?_;refine AE 1 (Bx 1 [] 8 H λD H=>?_);obtain⟨⟨x1,x2⟩,X,M⟩:=AJ M;obtain⟨v1,h1,R,rfl,E⟩:=Mq X (A.cut 0);exact ua
def Fv(p0:List UInt8)(p1:Bool)(s:Int×Int):Option ((Int×Int)⊕((Int))):=
 match s with
 |(x1,x2)=>Ag (decide (x2<512)) ((Ag ((decide (x2>=148))&&(decide (x2<=155))) (some (i64.wrap (x1+32))) ((Ag p1 ((KE p0 x2).bind λx6=>some (decide (x6>=128))) (some false):Option (Bool)).bind λx5=>Ag x5 ((KE p0 x2).bind λx7=>some (i64.wrap (x1+(i64.wrap ((i64.wrap x7) - 256))))) ((KE p0 x2).bind λx8=>some (i64.wrap (x1+(i64.wrap x8))))):Option ((Int))).bind λx4=>some (.inl (x4,i64.wrap (x2+1)))) (some (.inr x1))
def Fo(p0:List UInt8)(p1:Bool):Option (Int):=
 (loop (Fv p0 p1) ((0:Int),(0:Int))).bind λx3=>some x3
theorem ON{p0 p1 q0}(M:Fo p0 p1=some q0):tl 82 [.str p0,.bool p1] (Ai q0):=by
 intro g h F av A hc;refine Dp 40 [.tmp 4] hc ?_;unfold Fo at M;refine bg 40 [(0,.str p0),(1,.bool p1)] λD H=>?_;refine AE 1 (Bx 1 [] 1 H λD H=>AK 1 [(5,Ai 0)] H λD H=>AU (AE 1 (AK 1 [(6,Ai 0)] H λD H=>Aa (id:=0) kr ?_)));obtain⟨o1,O,M⟩:=AJ M;refine BJ (Q':=λe N Q=>(∃x3,e=.exit 0/\x3=o1/\Has N 40 [(5,Ai x3)]/\HH g Q [] F)\/False) ?_ ?_
 ·refine B7 kr (λ(s:Int×Int) N Q=>∃x1 x2,(x1,x2)=s/\Has N 40 [(0,.str p0),(1,.bool p1),(5,Ai x1),(6,Ai x2)]/\HH g Q [] F) O ⟨_,_,rfl,H.ls,A⟩ ?_;intro s q D h1 J M;obtain⟨x1,x2,rfl,H,A⟩:=J;unfold Fv at M;refine AU (AE 2 (AK 2 [(8,.bool (decide (x2<512)))] H λD H=>Ac 8 H M (λB M H=>?_) λB M H=>?_))
  ·refine By id (AU ?_);obtain⟨o2,O,M⟩:=AJ M;refine BJ (Q':=λe N Q=>(∃x4,e=.normal/\x4=o2/\Has N 40 [(0,.str p0),(1,.bool p1),(5,Ai x4),(6,Ai x2)]/\HH g Q [] F)\/False) ?_ ?_
   ·replace M:=O;refine Aa (id:=1) kr ?_;refine AE 6 (AL 3 [(13,.bool (decide (x2>=148)))] H λD H=>Ch 3 13 (λbb=>[(16,.bool (bb&&(decide (x2<=155))))]) H λD H=>?_);refine BN id (Ac 16 H M (λB M H=>?_) λB M H=>?_)
    ·refine CF 3 (BU 3 [(0,.str p0),(1,.bool p1),(5,Ai (i64.wrap (x1+32))),(6,Ai x2)] H λD H=>An ?_);exact wo
    refine AE 7 (AL 2 [(20,.bool p1)] H λD H=>?_);obtain⟨x5,O,M⟩:=AJ M;refine Bp 5 (λN Q=>Has N 40 [(0,.str p0),(1,.bool p1),(5,Ai x1),(6,Ai x2),(25,.bool x5)]/\HH g Q [] F) ?_ ?_
    ·rcases BB O with⟨B,M⟩|⟨B,M⟩
     ·replace H:=H.kn 20 B;obtain⟨x6,X,M⟩:=AJ M;refine BQ 2 [] 23 (Ab x6) h1 H (λD=>.of (Eg kr X)) λD t H=>?_;refine AL 2 [(25,.bool (decide (x6>=128)))] H λD H=>?_;exact wg
     replace H:=H.kn 20 B;refine AL 5 [(25,.bool false)] H λD H=>?_;exact wg
    intro t D h2 I;obtain⟨H,A⟩:=I;refine BN id (Ac 25 H M (λB M H=>?_) λB M H=>?_)
    ·refine CF 8 ?_;obtain⟨x7,X,M⟩:=AJ M;refine BQ 3 [(26,Ai x1)] 29 (Ab x7) h2 H (λD=>.of (Eg kr X)) λD t H=>?_;refine BU 4 [(0,.str p0),(1,.bool p1),(5,Ai (i64.wrap (x1+(i64.wrap ((i64.wrap x7) - 256))))),(6,Ai x2)] H λD H=>An ?_;exact wo
    refine CF 7 ?_;obtain⟨x8,X,M⟩:=AJ M;refine BQ 3 [(33,Ai x1)] 36 (Ab x8) h2 H (λD=>.of (Eg kr X)) λD t H=>?_;refine BU 3 [(0,.str p0),(1,.bool p1),(5,Ai (i64.wrap (x1+(i64.wrap x8)))),(6,Ai x2)] H λD H=>An ?_;exact wo
   intro e D K C;rcases C with⟨x4,rfl,rfl,H,A⟩|G
   ·refine CF 3 (BU 3 [(0,.str p0),(1,.bool p1),(5,Ai x4),(6,Ai (i64.wrap (x2+1)))] H λD H=>An ?_);exact vg
   exact G.elim
  exact wm
 intro e D T C;rcases C with⟨x3,rfl,rfl,H,A⟩|G
 ·refine AE 2 (AK 2 [(4,Ai x3)] H λD H=>AY ?_);exact wd
 exact G.elim
def DQ(s:Int×(List UInt8)×Int):Option ((Int×(List UInt8)×Int)⊕(((List UInt8)))):=
 match s with
 |(x2,x3,x4)=>Ag (decide (x4<6)) ((E4 ([48,49,50,51,52,53,54,55]:UV) (some (Int.tmod x2 (8:Int))) (some (i64.wrap ((Int.tmod x2 (8:Int))+1)))).bind λx6=>B4 (decide (x6.length+x3.length<=9223372036854775807))<|some (.inl (i64.wrap (Int.tdiv x2 (8:Int)),x6++x3,i64.wrap (x4+1)))) (some (.inr x3))
def FL(p0:List UInt8):Option ((List UInt8)):=
 (Fo p0 false).bind λx1=>(loop (DQ) (x1,([]:UV),(0:Int))).bind λx5=>(E4 p0 none (some (148:Int))).bind λx7=>B4 (decide (x7.length+x5.length<=9223372036854775807))<|B4 (decide ((x7++x5).length+([0,32]:UV).length<=9223372036854775807))<|(E4 p0 (some (156:Int)) none).bind λx8=>B4 (decide (((x7++x5)++([0,32]:UV)).length+x8.length<=9223372036854775807))<|some (((x7++x5)++([0,32]:UV))++x8)
theorem N0{p0 q0}(M:FL p0=some q0):tl 55 [.str p0] (.str q0):=by
 intro g h F av A hc;refine Dp 30 [.tmp 2] hc ?_;unfold FL at M;refine bg 30 [(0,.str p0)] λD H=>?_;refine AE 1 (Bx 1 [] 3 H λD H=>?_);obtain⟨x1,X,M⟩:=AJ M;obtain⟨v1,h1,R,rfl,E⟩:=ON X (A.cut 0);replace A:=A.DF E;refine BM 1 [] 7 R H λD t H=>?_;refine Bx 1 [(3,Ai x1)] 1 H λD H=>AK 1 [(4,.str eZ)] H λD H=>AU (AE 1 (AK 1 [(5,Ai 0)] H λD H=>Aa (id:=0) kr ?_));obtain⟨o1,O,M⟩:=AJ M;refine BJ (Q':=λe N Q=>(∃x5,e=.exit 0/\x5=o1/\Has N 30 [(0,.str p0),(4,.str x5)]/\HH g Q [] F)\/False) ?_ ?_
 ·refine B7 kr (λ(s:Int×(List UInt8)×Int) N Q=>∃x2 x3 x4,(x2,x3,x4)=s/\Has N 30 [(0,.str p0),(3,Ai x2),(4,.str x3),(5,Ai x4)]/\HH g Q [] F) O ⟨_,_,_,rfl,H.ls,A⟩ ?_;intro s q D h2 J M;obtain⟨x2,x3,x4,rfl,H,A⟩:=J;unfold DQ at M;refine AU (AE 2 (AK 2 [(9,.bool (decide (x4<6)))] H λD H=>Ac 9 H M (λB M H=>?_) λB M H=>?_))
  ·refine By id (AU (Aa (id:=1) kr ?_));refine AE 9 ?_;obtain⟨x6,X,M⟩:=AJ M;refine BQ 5 [] 17 (.str x6) h2 H (λD=>.of (Df (k:=.i64) (k':=.i64) (lo:=(some (Int.tmod x2 (8:Int)))) (hi:=(some (i64.wrap ((Int.tmod x2 (8:Int))+1)))) kr X)) λD t H=>?_;refine AL 1 [(18,.str x3)] H λD H=>?_;obtain⟨B,M⟩:=Ap M;refine Az 19 (.str (x6++x3)) h2 H (λD=>.of (Dh kr B)) λD t H=>?_;refine BU 1 [(0,.str p0),(3,Ai x2),(4,.str (x6++x3)),(5,Ai x4)] H λD H=>Dy 3 id (BU 3 [(0,.str p0),(3,Ai (i64.wrap (Int.tdiv x2 (8:Int)))),(4,.str (x6++x3)),(5,Ai x4)] H λD H=>Dy 3 id (BU 3 [(0,.str p0),(3,Ai (i64.wrap (Int.tdiv x2 (8:Int)))),(4,.str (x6++x3)),(5,Ai (i64.wrap (x4+1)))] H λD H=>An ?_));exact nx M ⟨_,_,_,rfl,H.ls,A⟩
  exact wm
 intro e D K C;rcases C with⟨x5,rfl,rfl,H,A⟩|G
 ·refine AU (G7 8 9 ?_);obtain⟨x7,X,M⟩:=AJ M;refine BQ 1 [] 23 (.str x7) K H (λD=>.of (Df (k:=.i64) (k':=.i64) (lo:=none) (hi:=(some (148:Int))) kr X)) λD t H=>?_;refine AL 1 [(24,.str x5)] H λD H=>?_;obtain⟨B,M⟩:=Ap M;refine Az 25 (.str (x7++x5)) K H (λD=>.of (Dh kr B)) λD t H=>?_;obtain⟨B,M⟩:=Ap M;refine Az 26 (.str ((x7++x5)++([0,32]:UV))) K H (λD=>.of (Dh kr B)) λD t H=>?_;obtain⟨x8,X,M⟩:=AJ M;refine BQ 1 [] 28 (.str x8) K H (λD=>.of (Df (k:=.i64) (k':=.i64) (lo:=(some (156:Int))) (hi:=none) kr X)) λD t H=>?_;obtain⟨B,M⟩:=Ap M;refine Az 29 (.str (((x7++x5)++([0,32]:UV))++x8)) K H (λD=>.of (Dh kr B)) λD t H=>?_;refine AK 1 [(2,.str (((x7++x5)++([0,32]:UV))++x8))] H λD H=>AY ?_;exact wd
 exact G.elim
def ET(s:(List UInt8)):Option (((List UInt8))⊕(((List UInt8)))):=
 match s with
 |x1=>Ag ((Int.tmod (x1.length:Int) (512:Int)) !=0) (B4 (decide (x1.length+([0]:UV).length<=9223372036854775807))<|some (.inl (x1++([0]:UV)))) (some (.inr x1))
def Fm(p0:List UInt8):Option ((List UInt8)):=
 (loop (ET) p0).bind λx2=>some x2
theorem OY{p0 q0}(M:Fm p0=some q0):tl 21 [.str p0] (.str q0):=by
 intro g h F av A hc;refine Dp 10 [.tmp 2] hc ?_;unfold Fm at M;refine bg 10 [(0,.str p0)] λD H=>?_;refine AE 1 (AK 1 [] H λD H=>AU (Aa (id:=0) kr ?_));obtain⟨o1,O,M⟩:=AJ M;refine BJ (Q':=λe N Q=>(∃x2,e=.exit 0/\x2=o1/\Has N 10 [(0,.str x2)]/\HH g Q [] F)\/False) ?_ ?_
 ·refine B7 kr (λ(s:(List UInt8)) N Q=>∃x1,x1=s/\Has N 10 [(0,.str x1)]/\HH g Q [] F) O ⟨_,rfl,H.ls,A⟩ ?_;intro s q D h1 J M;obtain⟨x1,rfl,H,A⟩:=J;unfold ET at M;refine AU (AE 4 (AK 4 [(6,.bool ((Int.tmod (x1.length:Int) (512:Int)) !=0))] H λD H=>Ac 6 H M (λB M H=>?_) λB M H=>?_))
  ·refine By id (Aa (id:=1) kr ?_);refine CF 3 (AL 1 [(7,.str x1)] H λD H=>?_);obtain⟨B,M⟩:=Ap M;refine Az 8 (.str (x1++([0]:UV))) h1 H (λD=>.of (Dh kr B)) λD t H=>?_;refine BU 1 [(0,.str (x1++([0]:UV)))] H λD H=>An ?_;exact vo
  exact wm
 intro e D h2 C;rcases C with⟨x2,rfl,rfl,H,A⟩|G
 ·refine AE 2 (AK 2 [(2,.str x2)] H λD H=>AY ?_);exact wd
 exact G.elim
def PA:Option (Aj):=
 some (⟨([]:List (List UInt8)),([]:UV),(0:Int),false⟩:Aj)
theorem Vd{q00}(M:PA=some q00)(A:HH g h [] F)(hc:CQ (cfg.still 56) av=[]:=by kernel_rfl):∃v Q,Cf cfg g h 56 av v Q/\∃(bq00:Nat) (bq00_0:Nat),v=.ptr (some (bq00,0))/\HH g Q [.obj bq00 (.cells none 2 (Ak q00 (.chan (some bq00_0)))),.obj bq00_0 (.chan 64 (Am eS q00.BC))] F:=by
 refine Dp 4 [.tmp 0] hc ?_;unfold PA at M;refine bg 4 [] λD H=>?_;refine AE 1 (Bx 1 [] 4 H λD H=>?_);obtain⟨h1,e1⟩:∃x,x=h.push (.chan 64 []):=⟨_,rfl⟩;replace A:HH g h1 [.obj h.size (.chan 64 (Am eS ([]:List (List UInt8))))] F:=(A.push _).to e1;refine Bj 1 (.chan (some h.size)) e1 H λD t H=>?_;obtain⟨h2,e2,A⟩:=A.pu (.cells none 2 [.chan (some h.size),.str eZ,Ai 0,.bool false]);refine LM 1 [] 3 (pz h1.size) e2 H λD t H=>?_;refine AK 1 [(0,pz h1.size)] H λD H=>AY ?_;obtain rfl:=Ar M;exact⟨.inl rfl,_,rH H,_,_,rfl,A⟩
def D5(p0:Aj):Option (Int):=
 (Ag (!(p0.QM==([]:UV))) (some (i64.wrap ((p0.BC.length:Int)+1))) (some (p0.BC.length:Int)):Option ((Int))).bind λx1=>some x1
theorem Lf{p0 bp0 bp0_0 q0}(M:D5 p0=some q0)(A:HH g h [.obj bp0 (.cells none 2 (Ak p0 (.chan (some bp0_0)))),.obj bp0_0 (.chan 64 (Am eS p0.BC))] F)(hc:CQ (cfg.still 83) av=[.ptr (some (bp0,0))]:=by kernel_rfl):∃v Q,Cf cfg g h 83 av v Q/\v=Ai q0/\HH g Q [.obj bp0 (.cells none 2 (Ak p0 (.chan (some bp0_0)))),.obj bp0_0 (.chan 64 (Am eS p0.BC))] F:=by
 refine Dp 17 [.tmp 2] hc ?_;unfold D5 at M;refine bg 17 [(0,pz bp0)] λD H=>?_;refine AE 1 (Bx 1 [] 6 H λD H=>AX 3 [] 7 0 0 A H λD t H=>?_);refine Az 8 (Ai (p0.BC.length:Int)) h H (λD=>.of (gq kr (HH.j0 encS A 1 rfl).1 (HH.j0 encS A 1 (xs:=p0.BC) rfl).2)) λD t H=>?_;refine AK 1 [(3,Ai (p0.BC.length:Int))] H λD H=>AU ?_;obtain⟨o1,O,M⟩:=AJ M;refine BJ (Q':=λe N Q=>(∃x1,e=.normal/\x1=o1/\Has N 17 [(3,Ai x1)]/\HH g Q [oB bp0 (Ak p0 (.chan (some bp0_0))),.obj bp0_0 (.chan 64 (Am eS p0.BC))] F)\/False) ?_ ?_
 ·replace M:=O;refine AE 5 (AX 3 [] 12 0 1 A H λD t H=>?_);refine AK 1 [(13,.bool (!(p0.QM==eZ)))] H λD H=>Ac 13 H M (λB M H=>?_) λB M H=>?_
  ·refine CF 3 (BU 3 [(3,Ai (i64.wrap ((p0.BC.length:Int)+1)))] H λD H=>An ?_);exact wo
  exact wx
 intro e D h1 C;rcases C with⟨x1,rfl,rfl,H,A⟩|G
 ·refine AE 2 (AK 2 [(2,Ai x1)] H λD H=>AY ?_);exact wd
 exact G.elim
def Fz(p0:Aj):Option (Bool×Aj×(List (List UInt8))):=
 Ag (p0.BC.isEmpty) (some (false,p0,p0.BC)) ((ke p0.BC).bind λ(x1,x2)=>some (true,({p0 with BC:=x2,QM:=x1}:Aj),x2))
theorem MY{p0 bp0 bp0_0 q0 u0 u1}(M:Fz p0=some (q0,u0,u1))(A:HH g h [.obj bp0 (.cells none 2 (Ak p0 (.chan (some bp0_0)))),.obj bp0_0 (.chan 64 (Am eS p0.BC))] F)(hc:CQ (cfg.still 87) av=[.ptr (some (bp0,0))]:=by kernel_rfl):∃v Q,Cf cfg g h 87 av v Q/\v=.bool q0/\HH g Q [.obj bp0 (.cells none 2 (Ak u0 (.chan (some bp0_0)))),.obj bp0_0 (.chan 64 (Am eS u1))] F:=by
 refine mI 14 [.tmp 2] hc ?_;unfold Fz at M;refine mG 14 [(0,pz bp0)] λD H=>?_;refine LK kr ?_;refine LZ kr ?_;refine CF 1 (AL 1 [] H λD H=>An ?_);show TR cfg 87 g (right (H6 cfg.P 87)) D h _;refine LK kr ?_;refine LZ kr ?_;refine CF 4 (AX 3 [] 6 0 0 A H λD t H=>?_);refine An ?_;show TR cfg 87 g (right (right (H6 cfg.P 87))) D h _;refine LK kr ?_;rcases BB M with⟨B,M⟩|⟨B,M⟩
 ·have X:=HH.bR (e:=eS) A 1 (xs:=p0.BC) (z:=.str eZ) rfl B;refine RY (id:=2) (n:=2) (v:=.tuple [Ai (-1),.bool false,.str eZ]) [(1,[]),(2,[])] [(0,pz bp0),(7,.tuple [Ai (-1),.bool false,.str eZ])] kr kr kr H (λD=>WQ kr X) (λD=>kr) ?_;intro D H;refine AL 2 [(9,.bool false)] H λD H=>An ?_;show TR cfg 87 g (right (right (right (H6 cfg.P 87)))) D h _;refine LZ kr ?_;refine Aa (id:=0) kr ?_;refine G8 (x:=.tmp 9) kr H (λD=>kr) ?_;refine AE 1 (AK 1 [(2,.bool false)] H λD H=>AY ?_);exact wn
 obtain⟨⟨x1,x2⟩,X,M⟩:=AJ M;obtain⟨h1,X,E⟩:=HH.bS encS A 1 (xs:=p0.BC) (v:=.str x1) (z:=.str eZ) rfl X rfl;replace A:HH g h1 [_,.obj bp0_0 (.chan 64 (Am eS x2))] F:=E;refine RY (id:=2) (n:=2) (v:=.tuple [Ai 0,.bool true,.str x1]) [(1,[]),(2,[])] [(0,pz bp0),(7,.tuple [Ai 0,.bool true,.str x1])] kr kr kr H (λD=>WQ kr X) (λD=>kr) ?_;intro D H;refine AL 2 [(9,.bool true)] H λD H=>An ?_;show TR cfg 87 g (right (right (right (H6 cfg.P 87)))) D h1 _;refine LZ kr ?_;refine Aa (id:=0) kr ?_;refine DM (x:=.tmp 9) kr H (λD=>kr) ?_;refine AE 5 ?_;obtain⟨h2,X,A⟩:=A.s0 1 [.str x1];refine Bz 4 [] X H λD t H=>?_;refine CI 1 id (AK 1 [(2,.bool true)] H λD H=>AY ?_);exact wn
end
end Go.Av.L
