/-
 A part.
-/
import Derived.Test.YtfgmnhjedmkpeaaK0
set_option linter.unusedSimpArgs false
namespace Go.Av.L
open IntKind (i64)
open Go.Av Go.Lib
set_option maxRecDepth 10000
set_option linter.unusedVariables false
set_option linter.unusedSimpArgs false
variable {g:Gd} {h:AB} {F:List Ck} {av:List AA}
noncomputable section
structure AV where
 BY:Int->AM->AN->Option (Int×AM×(List AE))
 Aw:AM->Int->Int->Option (Int×AM×(List AE))
 B8:AM->AN->Int->Option (Int×AM×(List AE))
structure CS(S:AV):Prop where
 CA:∀{g:Gd} {h:AB} {F:List Ck} {p0:Int} {p1_0:AM} {p2:AN} {bp1:Nat} {bp1_0:Nat} {bp1_0_2:Nat} {rp1_0_2_0:Option Nat} {bp2:Nat} {q0:Int} {u1:AM} {u3:List AE} {av:List AA} (M:S.BY p0 p1_0 p2=some (q0,u1,u3)) (hc:C1 (cfg.still 63) av=[Ai p0,.ptr (some (bp1,0)),.ptr (some (bp2,0))]) (A:HH g h [.obj bp1 (.cells none 2 [.ptr (some (bp1_0,0))]),.obj bp1_0 (.cells none 2 (Ax p1_0 (.ptr (some (bp1_0_2,0))))),.obj bp1_0_2 (.cells none 2 [AY rp1_0_2_0 p1_0.a_.l_.length,Ai p1_0.a_.AZ]),.Ag rp1_0_2_0 91 (Ag AF p1_0.a_.l_),.obj bp2 (.cells none 2 (AG p2))] F),∃v Q,CW cfg g h 63 av v Q/\∃(r'3:Option Nat),v=Ai q0/\HH g Q [.obj bp1 (.cells none 2 [.ptr (some (bp1_0,0))]),.obj bp1_0 (.cells none 2 (Ax u1 (.ptr (some (bp1_0_2,0))))),.obj bp1_0_2 (.cells none 2 [AY r'3 u3.length,Ai p1_0.a_.AZ]),.Ag r'3 91 (Ag AF u3),.obj bp2 (.cells none 2 (AG p2))] F
 Bb:∀{g:Gd} {h:AB} {F:List Ck} {p0:AM} {p1:Int} {p2:Int} {bp0:Nat} {bp0_2:Nat} {rp0_2_0:Option Nat} {q0:Int} {u0:AM} {u2:List AE} {av:List AA} (M:S.Aw p0 p1 p2=some (q0,u0,u2)) (hc:C1 (cfg.still 34) av=[.ptr (some (bp0,0)),Ai p1,Ai p2]) (A:HH g h [.obj bp0 (.cells none 2 (Ax p0 (.ptr (some (bp0_2,0))))),.obj bp0_2 (.cells none 2 [AY rp0_2_0 p0.a_.l_.length,Ai p0.a_.AZ]),.Ag rp0_2_0 91 (Ag AF p0.a_.l_)] F),∃v Q,CW cfg g h 34 av v Q/\∃(r'2:Option Nat),v=Ai q0/\HH g Q [.obj bp0 (.cells none 2 (Ax u0 (.ptr (some (bp0_2,0))))),.obj bp0_2 (.cells none 2 [AY r'2 u2.length,Ai p0.a_.AZ]),.Ag r'2 91 (Ag AF u2)] F
 ED:∀{g:Gd} {h:AB} {F:List Ck} {p0:AM} {p1:AN} {p2:Int} {bp0:Nat} {bp0_2:Nat} {rp0_2_0:Option Nat} {q0:Int} {u0:AM} {u2:List AE} {av:List AA} (M:S.B8 p0 p1 p2=some (q0,u0,u2)) (hc:C1 (cfg.still 50) av=[.ptr (some (bp0,0)),.agg (AG p1),Ai p2]) (A:HH g h [.obj bp0 (.cells none 2 (Ax p0 (.ptr (some (bp0_2,0))))),.obj bp0_2 (.cells none 2 [AY rp0_2_0 p0.a_.l_.length,Ai p0.a_.AZ]),.Ag rp0_2_0 91 (Ag AF p0.a_.l_)] F),∃v Q,CW cfg g h 50 av v Q/\∃(r'2:Option Nat),v=Ai q0/\HH g Q [.obj bp0 (.cells none 2 (Ax u0 (.ptr (some (bp0_2,0))))),.obj bp0_2 (.cells none 2 [AY r'2 u2.length,Ai p0.a_.AZ]),.Ag r'2 91 (Ag AF u2)] F
def CG(S:AV)(p0:Int)(p1_0:AM)(p2:AN):Option (Int×AM×(List AE)):=
 (S.Aw p1_0 p2.A p0).bind λ(x1,x2,x3)=>some (x1,(⟨x2.t_,(⟨x3,p1_0.a_.AZ⟩:Ah),x2.DP,x2.A0⟩:AM),x3)
theorem G5{S:AV}(K:CS S){p0 p1_0 p2 bp1 bp1_0 bp1_0_2 rp1_0_2_0 bp2 q0 u1 u3}(M:CG S p0 p1_0 p2=some (q0,u1,u3))(hc:C1 (cfg.still 63) av=[Ai p0,.ptr (some (bp1,0)),.ptr (some (bp2,0))])(A:HH g h [.obj bp1 (.cells none 2 [.ptr (some (bp1_0,0))]),.obj bp1_0 (.cells none 2 (Ax p1_0 (.ptr (some (bp1_0_2,0))))),.obj bp1_0_2 (.cells none 2 [AY rp1_0_2_0 p1_0.a_.l_.length,Ai p1_0.a_.AZ]),.Ag rp1_0_2_0 91 (Ag AF p1_0.a_.l_),.obj bp2 (.cells none 2 (AG p2))] F):∃v Q,CW cfg g h 63 av v Q/\∃(r'3:Option Nat),v=Ai q0/\HH g Q [.obj bp1 (.cells none 2 [.ptr (some (bp1_0,0))]),.obj bp1_0 (.cells none 2 (Ax u1 (.ptr (some (bp1_0_2,0))))),.obj bp1_0_2 (.cells none 2 [AY r'3 u3.length,Ai p1_0.a_.AZ]),.Ag r'3 91 (Ag AF u3),.obj bp2 (.cells none 2 (AG p2))] F:=by
 refine Mg 10 [.tmp 4] hc ?_;clear hc;unfold CG at M;refine bg 10 [(0,Ai p0),(1,.ptr (some (bp1,0))),(2,.ptr (some (bp2,0)))] λD H=>?_;refine AU 1 (G3 1 [] 6 H λD H=>OI 5 0 0 A H λD t H=>?_);refine Ak 1 [] 7 4 1 A H λD t H=>?_;replace A:=A.k5 1 2 3 0 4;have E:=A.cut 3;obtain⟨⟨x1,x2,x3⟩,X,M⟩:=AJ M;obtain⟨v1,h1,R,r1,rfl,E⟩:=K.Bb (av:=[.ptr (some (bp1_0,0)),Ai p2.A,Ai p0]) X (by kernel_rfl) E;replace A:=A.Rh E;refine Ds 1 [] 9 R H λD t H=>?_;refine Ao 1 [(4,Ai x1)] H λD H=>Bf ?_;obtain⟨rfl,rfl,rfl⟩:=PF M;refine⟨.inl rfl,Ai x1,rH H,?_⟩;replace A:=A.k5 3 0 1 2 4;exact⟨r1,rfl,A⟩
def Cs(S:AV)(p0:AM)(p1:Int)(p2:Int):Option (Int×AM×(List AE)):=
 A3 p0.A0 (some ((0:Int),p0,p0.a_.l_)) (((Iz p0.t_.Ad p1).bind λx7=>A3 (x7.Kind==1) ((Az p0 (⟨(1:Int),p2,(0:Int),x7.Set⟩:AE)).bind λ(x8,x9,x10)=>some (.inr (x9.t_.Ad,x9.t_.A2,x9.DP,x9.A0,x10,x8))) (A3 (x7.Kind==6) ((Az p0 (⟨(3:Int),p2,(0:Int),(⟨(0:Int),(0:Int),(0:Int),(0:Int)⟩:BB)⟩:AE)).bind λ(x11,x12,x13)=>some (.inr (x12.t_.Ad,x12.t_.A2,x12.DP,x12.A0,x13,x11))) (A3 (x7.Kind==7) ((Az p0 (⟨(4:Int),p2,(0:Int),(⟨(0:Int),(0:Int),(0:Int),(0:Int)⟩:BB)⟩:AE)).bind λ(x14,x15,x16)=>some (.inr (x15.t_.Ad,x15.t_.A2,x15.DP,x15.A0,x16,x14))) (A3 (x7.Kind==2) ((S.Aw p0 x7.B p2).bind λ(x17,x18,x19)=>(S.Aw (⟨x18.t_,(⟨x19,p0.a_.AZ⟩:Ah),x18.DP,x18.A0⟩:AM) x7.A x17).bind λ(x20,x21,x22)=>some (.inr (x21.t_.Ad,x21.t_.A2,x21.DP,x21.A0,x22,x20))) (A3 (x7.Kind==3) ((S.Aw p0 x7.A p2).bind λ(x23,x24,x25)=>(S.Aw (⟨x24.t_,(⟨x25,p0.a_.AZ⟩:Ah),x24.DP,x24.A0⟩:AM) x7.B p2).bind λ(x26,x27,x28)=>(Az (⟨x27.t_,(⟨x28,p0.a_.AZ⟩:Ah),x27.DP,x27.A0⟩:AM) (⟨(2:Int),x23,x26,(⟨(0:Int),(0:Int),(0:Int),(0:Int)⟩:BB)⟩:AE)).bind λ(x29,x30,x31)=>some (.inr (x30.t_.Ad,x30.t_.A2,x30.DP,x30.A0,x31,x29))) (A3 (x7.Kind==5) ((S.Aw p0 x7.A p2).bind λ(x32,x33,x34)=>some (.inr (x33.t_.Ad,x33.t_.A2,x33.DP,x33.A0,x34,x32))) (A3 (x7.Kind==4) (A3 (x7.Max !=0) ((S.B8 p0 x7 p2).bind λ(x35,x36,x37)=>some (.inr (x36.t_.Ad,x36.t_.A2,x36.DP,x36.A0,x37,x35))) (some (.inl ()))) (some (.inl ())))))))):Option ((Unit)⊕((List AN)×Int×Int×Bool×(List AE)×Int))).bind λo1=>(match o1 with| .inl _=>(Az p0 (⟨(2:Int),p2,p2,(⟨(0:Int),(0:Int),(0:Int),(0:Int)⟩:BB)⟩:AE)).bind λ(x38,x39,x40)=>some (x38,(⟨x39.t_,(⟨x40,p0.a_.AZ⟩:Ah),x39.DP,x39.A0⟩:AM),x40)| .inr (x1,x2,x3,x4,x5,x6)=>some (x6,(⟨(⟨x1,x2⟩:AL),(⟨x5,p0.a_.AZ⟩:Ah),x3,x4⟩:AM),x5)))
theorem IA{S:AV}(K:CS S){p0 p1 p2 bp0 bp0_2 rp0_2_0 q0 u0 u2}(M:Cs S p0 p1 p2=some (q0,u0,u2))(hc:C1 (cfg.still 34) av=[.ptr (some (bp0,0)),Ai p1,Ai p2])(A:HH g h [.obj bp0 (.cells none 2 (Ax p0 (.ptr (some (bp0_2,0))))),.obj bp0_2 (.cells none 2 [AY rp0_2_0 p0.a_.l_.length,Ai p0.a_.AZ]),.Ag rp0_2_0 91 (Ag AF p0.a_.l_)] F):∃v Q,CW cfg g h 34 av v Q/\∃(r'2:Option Nat),v=Ai q0/\HH g Q [.obj bp0 (.cells none 2 (Ax u0 (.ptr (some (bp0_2,0))))),.obj bp0_2 (.cells none 2 [AY r'2 u2.length,Ai p0.a_.AZ]),.Ag r'2 91 (Ag AF u2)] F:=by
 refine Mg 93 [.tmp 6] hc ?_;clear hc;unfold Cs at M;refine bg 93 [(0,.ptr (some (bp0,0))),(1,Ai p1),(2,Ai p2)] λD H=>?_;refine AU 1 (Ao 1 [] H λD H=>BC (AU 4 (Ak 3 [] 13 0 4 A H λD t H=>?_)));refine Da id (BM 13 H M (λC M H=>?_) λC M H=>?_)
 ·refine AU 1 (Ao 1 [(6,Ai 0)] H λD H=>Bf ?_);obtain⟨rfl,rfl,rfl⟩:=PF M;exact⟨.inl rfl,_,rH H,_,rfl,A⟩
 refine E5 id (BC ?_);obtain⟨o1,O,M⟩:=AJ M;refine BZ (Q':=λe N Q=>(e=.normal/\.inl ()=o1/\Has N 93 [(0,.ptr (some (bp0,0))),(2,Ai p2)]/\HH g Q [.obj bp0 (.cells none 2 (Ax p0 (.ptr (some (bp0_2,0))))),.obj bp0_2 (.cells none 2 [AY rp0_2_0 p0.a_.l_.length,Ai p0.a_.AZ]),.Ag rp0_2_0 91 (Ag AF p0.a_.l_)] F)\/(∃x1 x2 x3 x4 x5 x6,e=.ret/\.inr (x1,x2,x3,x4,x5,x6)=o1/\∃r1,Has N 93 [(6,Ai x6)]/\HH g Q [.obj bp0 (.cells none 2 [vs AG x1,Ai x2,.ptr (some (bp0_2,0)),Ai x3,.bool x4]),.obj bp0_2 (.cells none 2 [AY r1 x5.length,Ai p0.a_.AZ]),.Ag r1 91 (Ag AF x5)] F)\/False) ?_ ?_
 ·replace M:=O;clear O;refine AU 10 (Ak 4 [] 18 0 0 A H λD t H=>?_);obtain⟨x7,X,M⟩:=AJ M;refine D3 1 [] 20 (.Bu (AG x7)) h H (λD=>.of (Lp (e:=AG) (x:=x7) GN (by decide) (by kernel_rfl) X)) λD t H=>?_;refine Bj 21 (.agg (AG x7)) h H (λD=>.of (L9 (by kernel_rfl))) λD t H=>?_;obtain⟨h1,e1,A⟩:=A.pu (.cells none 2 VS);refine DF 7 (.ptr (some (h.size,0))) e1 H λD t H=>?_;obtain⟨I,X,A⟩:=A.s0 0 (AG x7) [_,_,_,_,_,_,_,_,_,_];refine Km X H λD t H=>?_;refine Jv 2 id (Ak 1 [] 23 0 0 A H λD t H=>?_);refine Da id (A4 (id:=0) (by kernel_rfl) ?_);refine AU 2 (Ao 2 [(24,.bool (x7.Kind==1))] H λD H=>BM 24 H M (λC M H=>?_) λC M H=>?_)
  ·refine AU 7 (D3 3 [(26,.ptr (some (bp0,0))),(27,Ai p2)] 29 _ _ H (λD=>.of (Db (by kernel_rfl) (A.Gp 0 rfl (o:=6) (n:=4) ⟨zj rfl,rfl⟩))) λD t H=>?_);replace A:=A.k4 1 2 3 0;obtain⟨⟨x8,x9,x10⟩,X,M⟩:=AJ M;obtain⟨v1,J,R,r2,rfl,E⟩:=B7 (av:=[.ptr (some (bp0,0)),.agg [Ai 1,Ai p2,Ai 0,Au x7.Set.w0,Au x7.Set.w1,Au x7.Set.w2,Au x7.Set.w3]]) X (A.cut 3);replace A:=A.Rh E;refine Ds 1 [] 31 R H λD t H=>?_;refine Ao 1 [(6,Ai x8)] H λD H=>Bf ?_;replace A:=A.d3;exact .inr (.inl ⟨_,_,_,_,_,_,rfl,Bc M,_,H.ls,A⟩)
  refine AU 2 (Ao 2 [(32,.bool (x7.Kind==6))] H λD H=>BM 32 H M (λC M H=>?_) λC M H=>?_)
  ·refine AU 5 ?_;replace A:=A.k4 1 2 3 0;obtain⟨⟨x11,x12,x13⟩,X,M⟩:=AJ M;obtain⟨v1,h4,R,r3,rfl,E⟩:=B7 (av:=[.ptr (some (bp0,0)),.agg [Ai 3,Ai p2,Ai 0,Au 0,Au 0,Au 0,Au 0]]) X (A.cut 3);replace A:=A.Rh E;refine Ds 3 [] 37 R H λD t H=>?_;refine Ao 1 [(6,Ai x11)] H λD H=>Bf ?_;replace A:=A.d3;exact .inr (.inl ⟨_,_,_,_,_,_,rfl,Bc M,_,H.ls,A⟩)
  refine AU 2 (Ao 2 [(38,.bool (x7.Kind==7))] H λD H=>BM 38 H M (λC M H=>?_) λC M H=>?_)
  ·refine AU 5 ?_;replace A:=A.k4 1 2 3 0;obtain⟨⟨x14,x15,x16⟩,X,M⟩:=AJ M;obtain⟨v1,h5,R,r4,rfl,E⟩:=B7 (av:=[.ptr (some (bp0,0)),.agg [Ai 4,Ai p2,Ai 0,Au 0,Au 0,Au 0,Au 0]]) X (A.cut 3);replace A:=A.Rh E;refine Ds 3 [] 43 R H λD t H=>?_;refine Ao 1 [(6,Ai x14)] H λD H=>Bf ?_;replace A:=A.d3;exact .inr (.inl ⟨_,_,_,_,_,_,rfl,Bc M,_,H.ls,A⟩)
  refine AU 2 (Ao 2 [(44,.bool (x7.Kind==2))] H λD H=>BM 44 H M (λC M H=>?_) λC M H=>?_)
  ·refine BC (M6 12 10 [(0,[]),(1,[]),(2,[]),(3,[]),(4,[]),(5,[]),(6,[]),(7,[2]),(8,[]),(9,[])] ?_);refine AR 2 [(46,.ptr (some (bp0,0))),(47,.ptr (some (h.size,1)))] H λD H=>D4 48 (Ai x7.A) I [(2,h.size)] (g.B4) H (λD=>.of (Cf (by kernel_rfl) (A.l1 0 1))) (λD H=>?_);refine AR 2 [(49,.ptr (some (bp0,0))),(50,.ptr (some (h.size,2)))] H λD H=>D4 51 (Ai x7.B) I [(5,h.size),(2,h.size)] (g.B4) H (λD=>.of (Cf (by kernel_rfl) (A.l1 0 2))) (λD H=>?_);refine AR 1 [(52,Ai p2)] H λD H=>?_;replace A:=A.k4 1 2 3 0;have E:=A.Pp 3 (pr:=[h.size]) (.cons 0 rfl (by simp[Ck.ids]) .nil);obtain⟨⟨x17,x18,x19⟩,X,M⟩:=AJ M;obtain⟨v1,h6,R,r5,rfl,E⟩:=K.Bb (av:=[.ptr (some (bp0,0)),Ai x7.B,Ai p2]) X (by kernel_rfl) E;replace A:=A.aN E;refine D4 53 (Ai x17) h6 [(5,h.size),(2,h.size)] (h.size::g.B4) H (λD=>Steps.call (by kernel_rfl) R) (λD H=>?_);have E:=A.cut 3;obtain⟨⟨x20,x21,x22⟩,X,M⟩:=AJ M;obtain⟨v1,W,R,r6,rfl,E⟩:=K.Bb (av:=[.ptr (some (bp0,0)),Ai x7.A,Ai x17]) X (by kernel_rfl) E;replace A:=A.Rh E;refine D4 54 (Ai x20) W [(5,h.size),(2,h.size)] (g.B4) H (λD=>Steps.call (by kernel_rfl) R) (λD H=>?_);refine Ao 1 [(6,Ai x20)] H λD H=>Bf ?_;replace A:=A.d3;exact .inr (.inl ⟨_,_,_,_,_,_,rfl,Bc M,_,H.ls,A⟩)
  refine AU 2 (Ao 2 [(55,.bool (x7.Kind==3))] H λD H=>BM 55 H M (λC M H=>?_) λC M H=>?_)
  ·refine BC (M6 14 12 [(0,[]),(1,[]),(2,[]),(3,[]),(5,[]),(6,[]),(7,[]),(4,[7]),(8,[]),(9,[]),(10,[]),(11,[])] ?_);refine AR 2 [(57,.ptr (some (bp0,0))),(58,.ptr (some (h.size,1)))] H λD H=>D4 59 (Ai x7.A) I [(2,h.size)] (g.B4) H (λD=>.of (Cf (by kernel_rfl) (A.l1 0 1))) (λD H=>?_);refine AR 3 [(60,Ai p2),(62,.ptr (some (bp0,0))),(63,.ptr (some (h.size,2)))] H λD H=>D4 64 (Ai x7.B) I [(7,h.size),(2,h.size)] (g.B4) H (λD=>.of (Cf (by kernel_rfl) (A.l1 0 2))) (λD H=>?_);replace A:=A.k4 1 2 3 0;have E:=A.Pp 3 (pr:=[h.size]) (.cons 0 rfl (by simp[Ck.ids]) .nil);obtain⟨⟨x23,x24,x25⟩,X,M⟩:=AJ M;obtain⟨v1,h8,R,r7,rfl,E⟩:=K.Bb (av:=[.ptr (some (bp0,0)),Ai x7.A,Ai p2]) X (by kernel_rfl) E;replace A:=A.aN E;refine D4 61 (Ai x23) h8 [(7,h.size),(2,h.size)] (h.size::g.B4) H (λD=>Steps.call (by kernel_rfl) R) (λD H=>?_);refine AR 1 [(65,Ai p2)] H λD H=>?_;have E:=A.cut 3;obtain⟨⟨x26,x27,x28⟩,X,M⟩:=AJ M;obtain⟨v1,V,R,r8,rfl,E⟩:=K.Bb (av:=[.ptr (some (bp0,0)),Ai x7.B,Ai p2]) X (by kernel_rfl) E;replace A:=A.Rh E;refine D4 66 (Ai x26) V [(7,h.size),(2,h.size)] (g.B4) H (λD=>Steps.call (by kernel_rfl) R) (λD H=>?_);refine G3 2 [(8,Ai x23),(9,Ai x26)] 6 H λD H=>?_;obtain⟨⟨x29,x30,x31⟩,X,M⟩:=AJ M;obtain⟨v1,h10,R,r9,rfl,E⟩:=B7 (av:=[.ptr (some (bp0,0)),.agg [Ai 2,Ai x23,Ai x26,Au 0,Au 0,Au 0,Au 0]]) X (A.cut 3);replace A:=A.Rh E;refine Ds 4 [] 71 R H λD t H=>?_;refine Ao 1 [(6,Ai x29)] H λD H=>Bf ?_;replace A:=A.d3;exact .inr (.inl ⟨_,_,_,_,_,_,rfl,Bc M,_,H.ls,A⟩)
  refine AU 2 (Ao 2 [(72,.bool (x7.Kind==5))] H λD H=>BM 72 H M (λC M H=>?_) λC M H=>?_)
  ·refine AU 6 (Ak 2 [(74,.ptr (some (bp0,0)))] 76 0 1 A H λD t H=>?_);replace A:=A.k4 1 2 3 0;have E:=A.cut 3;obtain⟨⟨x32,x33,x34⟩,X,M⟩:=AJ M;obtain⟨v1,h11,R,r10,rfl,E⟩:=K.Bb (av:=[.ptr (some (bp0,0)),Ai x7.A,Ai p2]) X (by kernel_rfl) E;replace A:=A.Rh E;refine Ds 1 [] 78 R H λD t H=>?_;refine Ao 1 [(6,Ai x32)] H λD H=>Bf ?_;replace A:=A.d3;exact .inr (.inl ⟨_,_,_,_,_,_,rfl,Bc M,_,H.ls,A⟩)
  refine AU 2 (Ao 2 [(79,.bool (x7.Kind==4))] H λD H=>BM 79 H M (λC M H=>?_) λC M H=>?_)
  ·refine AU 3 (Ak 1 [] 82 0 4 A H λD t H=>?_);refine Ao 1 [(83,.bool (x7.Max !=0))] H λD H=>BM 83 H M (λC M H=>?_) λC M H=>?_
   ·refine AU 5 (D3 1 [(84,.ptr (some (bp0,0)))] 85 _ _ H (λD=>.of (Db (by kernel_rfl) (A.Gp 0 rfl (o:=0) (n:=10) ⟨zj rfl,rfl⟩))) λD t H=>?_);replace A:=A.k4 1 2 3 0;have E:=A.cut 3;obtain⟨⟨x35,x36,x37⟩,X,M⟩:=AJ M;obtain⟨v1,h12,R,r11,rfl,E⟩:=K.ED (av:=[.ptr (some (bp0,0)),.agg (AG x7),Ai p2]) X (by kernel_rfl) E;replace A:=A.Rh E;refine Ds 1 [] 87 R H λD t H=>?_;refine Ao 1 [(6,Ai x35)] H λD H=>Bf ?_;replace A:=A.d3;exact .inr (.inl ⟨_,_,_,_,_,_,rfl,Bc M,_,H.ls,A⟩)
   refine Fl ?_;replace A:=A.k3 1 2 3;exact .inl ⟨rfl,Bc M,H.ls,A⟩
  refine Fl ?_;replace A:=A.k3 1 2 3;exact .inl ⟨rfl,Bc M,H.ls,A⟩
 clear O;clear A;intro e D h13 P;rcases P with⟨rfl,rfl,H,A⟩|⟨x1,x2,x3,x4,x5,x6,rfl,rfl,r1,H,A⟩|T
 ·show AW _ _ _ _ _ _ _;refine AU 6 ?_;obtain⟨⟨x38,x39,x40⟩,X,M⟩:=AJ M;obtain⟨v1,h14,R,r12,rfl,E⟩:=B7 (av:=[.ptr (some (bp0,0)),.agg [Ai 2,Ai p2,Ai p2,Au 0,Au 0,Au 0,Au 0]]) X (A.cut 3);replace A:=A.Rh E;refine Ds 4 [] 92 R H λD t H=>?_;refine Ao 1 [(6,Ai x38)] H λD H=>Bf ?_;obtain⟨rfl,rfl,rfl⟩:=PF M;exact⟨.inl rfl,_,rH H,_,rfl,A⟩
 ·obtain⟨rfl,rfl,rfl⟩:=PF M;exact⟨.inl rfl,_,rH H,_,rfl,A⟩
 exact T.elim
def Dp(S:AV)(p0:AM)(p1:AN)(p2:Int)(s:(List AN)×Int×Int×Bool×(List AE)×Int×Int):Option (((List AN)×Int×Int×Bool×(List AE)×Int×Int)⊕(((List AN)×Int×Int×Bool×(List AE)×Int))):=
 match s with
 |(x14,x15,x16,x17,x18,x19,x20)=>A3 ((decide (x20>p1.Min))&&(!x17)) ((S.BY x19 (⟨(⟨x14,x15⟩:AL),(⟨x18,p0.a_.AZ⟩:Ah),x16,x17⟩:AM) p1).bind λ(x27,x28,x29)=>(Bs x27 p2 (⟨x28.t_,(⟨x29,p0.a_.AZ⟩:Ah),x28.DP,x28.A0⟩:AM)).bind λ(x30,x31,x32)=>some (.inl (x31.t_.Ad,x31.t_.A2,x31.DP,x31.A0,x32,x30,i64.wrap (x20 - 1)))) (some (.inr (x14,x15,x16,x17,x18,x19)))
def Dl(S:AV)(p0:AM)(p1:AN)(s:(List AN)×Int×Int×Bool×(List AE)×Int×Int):Option (((List AN)×Int×Int×Bool×(List AE)×Int×Int)⊕(((List AN)×Int×Int×Bool×(List AE)×Int))):=
 match s with
 |(x33,x34,x35,x36,x37,x38,x39)=>A3 ((decide (x39<p1.Min))&&(!x36)) ((S.BY x38 (⟨(⟨x33,x34⟩:AL),(⟨x37,p0.a_.AZ⟩:Ah),x35,x36⟩:AM) p1).bind λ(x46,x47,x48)=>some (.inl (x47.t_.Ad,x47.t_.A2,x47.DP,x47.A0,x48,x46,i64.wrap (x39+1)))) (some (.inr (x33,x34,x35,x36,x37,x38)))
def CZ(S:AV)(p0:AM)(p1:AN)(p2:Int):Option (Int×AM×(List AE)):=
 (A3 (decide (p1.Max<0)) ((Bs p2 p2 p0).bind λ(x7,x8,x9)=>(S.BY x7 (⟨x8.t_,(⟨x9,p0.a_.AZ⟩:Ah),x8.DP,x8.A0⟩:AM) p1).bind λ(x10,x11,x12)=>A3 (!x11.A0) ((Iz x12 x7).bind λx13=>some (x11.t_.Ad,x11.t_.A2,x11.DP,x11.A0,(x12.set x7.toNat (⟨x13.C2,x10,x13.b_,x13.Jz⟩:AE)),x7)) (some (x11.t_.Ad,x11.t_.A2,x11.DP,x11.A0,x12,x7))) ((loop (Dp S p0 p1 p2) (p0.t_.Ad,p0.t_.A2,p0.DP,p0.A0,p0.a_.l_,p2,p1.Max)).bind λ(x21,x22,x23,x24,x25,x26)=>some (x21,x22,x23,x24,x25,x26)):Option (((List AN)×Int×Int×Bool×(List AE)×Int))).bind λ(x1,x2,x3,x4,x5,x6)=>(loop (Dl S p0 p1) (x1,x2,x3,x4,x5,x6,(0:Int))).bind λ(x40,x41,x42,x43,x44,x45)=>some (x45,(⟨(⟨x40,x41⟩:AL),(⟨x44,p0.a_.AZ⟩:Ah),x42,x43⟩:AM),x44)
theorem Hs{S:AV}(K:CS S){p0 p1 p2 bp0 bp0_2 rp0_2_0 q0 u0 u2}(M:CZ S p0 p1 p2=some (q0,u0,u2))(hc:C1 (cfg.still 50) av=[.ptr (some (bp0,0)),.agg (AG p1),Ai p2])(A:HH g h [.obj bp0 (.cells none 2 (Ax p0 (.ptr (some (bp0_2,0))))),.obj bp0_2 (.cells none 2 [AY rp0_2_0 p0.a_.l_.length,Ai p0.a_.AZ]),.Ag rp0_2_0 91 (Ag AF p0.a_.l_)] F):∃v Q,CW cfg g h 50 av v Q/\∃(r'2:Option Nat),v=Ai q0/\HH g Q [.obj bp0 (.cells none 2 (Ax u0 (.ptr (some (bp0_2,0))))),.obj bp0_2 (.cells none 2 [AY r'2 u2.length,Ai p0.a_.AZ]),.Ag r'2 91 (Ag AF u2)] F:=by
 refine Mg 80 [.tmp 6] hc ?_;clear hc;unfold CZ at M;refine bg 80 [(0,.ptr (some (bp0,0))),(1,.agg (AG p1)),(2,Ai p2)] λD H=>?_;refine AU 3 ?_;obtain⟨h1,e1,A⟩:=A.pu (.cells none 2 [.ptr (some (bp0,0))]);refine DF 3 (.ptr (some (h.size,0))) e1 H λD t H=>?_;obtain⟨I,e2,A⟩:=A.pu (.cells none 2 (AG p1));refine DF 4 (.ptr (some (h1.size,0))) e2 H λD t H=>?_;refine G3 1 [] 2 H λD H=>G3 2 [(7,.func (.func 63) [] [.ptr (some (h.size,0)),.ptr (some (h1.size,0))])] 2 H λD H=>G3 2 [(8,.func (.func 64) [] [.ptr (some (h.size,0))])] 2 H λD H=>Ao 2 [(9,Ai p2)] H λD H=>BC ?_;obtain⟨o1,O,M⟩:=AJ M;refine BZ (Q':=λe N Q=>(∃x1 x2 x3 x4 x5 x6,e=.normal/\(x1,x2,x3,x4,x5,x6)=o1/\∃r1,Has N 80 [(3,.ptr (some (h.size,0))),(4,.ptr (some (h1.size,0))),(7,.func (.func 63) [] [.ptr (some (h.size,0)),.ptr (some (h1.size,0))]),(9,Ai x6)]/\HH g Q [.obj h1.size (.cells none 2 (AG p1)),.obj h.size (.cells none 2 [.ptr (some (bp0,0))]),.obj bp0 (.cells none 2 [vs AG x1,Ai x2,.ptr (some (bp0_2,0)),Ai x3,.bool x4]),.obj bp0_2 (.cells none 2 [AY r1 x5.length,Ai p0.a_.AZ]),.Ag r1 91 (Ag AF x5)] F)\/False) ?_ ?_
 ·replace M:=O;clear O;refine AU 3 (Ak 1 [] 17 0 4 A H λD t H=>?_);refine Ao 1 [(18,.bool (decide (p1.Max<0)))] H λD H=>BM 18 H M (λC M H=>?_) λC M H=>?_
  ·refine AU 5 ?_;replace A:HH g I [.obj h.size (.cells none 2 [.ptr (some (bp0,0))]),_,_,_,.obj h1.size (.cells none 2 (AG p1))] F:=((((A.front 4 rfl).front 4 rfl).front 4 rfl).front 4 rfl);obtain⟨⟨x7,x8,x9⟩,X,M⟩:=AJ M;obtain⟨v1,J,R,r2,rfl,E⟩:=E4 (av:=[Ai p2,Ai p2,.ptr (some (h.size,0))]) X (A.cut 4);replace A:=A.aQ E;refine Ds 3 [] 22 R H λD t H=>?_;refine DE 1 [(3,.ptr (some (h.size,0))),(4,.ptr (some (h1.size,0))),(7,.func (.func 63) [] [.ptr (some (h.size,0)),.ptr (some (h1.size,0))]),(9,Ai x7)] H λD H=>Jv 4 id ?_;have E:=A.cut 5;obtain⟨⟨x10,x11,x12⟩,X,M⟩:=AJ M;obtain⟨v1,h4,R,r3,rfl,E⟩:=K.CA (av:=[Ai x7,.ptr (some (h.size,0)),.ptr (some (h1.size,0))]) X (by kernel_rfl) E;replace A:HH g h4 [.obj h.size (.cells none 2 [.ptr (some (bp0,0))]),.obj bp0 (.cells none 2 (Ax x11 _)),.obj bp0_2 (.cells none 2 [AY r3 x12.length,Ai p0.a_.AZ]),.Ag r3 91 (Ag AF x12),.obj h1.size (.cells none 2 (AG p1))] F:=A.JN (n:=5) E;refine Ds 2 [] 25 R H λD t H=>?_;refine G3 1 [(10,Ai x10)] 5 H λD H=>OI 26 0 0 A H λD t H=>?_;refine Ak 2 [] 29 1 4 A H λD t H=>?_;refine Ao 1 [(30,.bool (!x11.A0))] H λD H=>BM 30 H M (λC M H=>?_) λC M H=>?_
   ·refine Ea 12 (OI 31 0 0 A H λD t H=>?_);refine Ak 2 [] 34 1 2 A H λD t H=>?_;refine Ak 2 [] 37 2 0 A H λD t H=>?_;obtain⟨x13,X,M⟩:=AJ M;obtain⟨i1,er1,_,X,U⟩:=HH.Ow EK (by decide) A 3 (xs:=x12) rfl X;refine D3 2 [(39,Ai x10)] 40 (.ptr (some (i1,x7.toNat*7))) h4 H (λD=>.of (C9 (s:=Dt r3 x12.length) (by kernel_rfl) X)) λD t H=>?_;obtain⟨h5,X,E⟩:=HH.Yw EK A 3 rfl er1 U (y:=(⟨x13.C2,x10,x13.b_,x13.Jz⟩:AE)) (o:=1) (new:=[Ai x10]) rfl rfl (zj rfl);have hl1:(x12.set x7.toNat (⟨x13.C2,x10,x13.b_,x13.Jz⟩:AE)).length=x12.length:=yj;have el:AY r3 x12.length=AY r3 (x12.set x7.toNat (⟨x13.C2,x10,x13.b_,x13.Jz⟩:AE)).length:=congrArg _ yj.symm
    try rw[el]at H
    try rw[el]at E
    replace A:HH g h5 [_,_,.obj bp0_2 (.cells none 2 [AY r3 ((x12.set x7.toNat (⟨x13.C2,x10,x13.b_,x13.Jz⟩:AE)).length),Ai p0.a_.AZ]),.Ag r3 91 (Ag AF (x12.set x7.toNat (⟨x13.C2,x10,x13.b_,x13.Jz⟩:AE))),_] F:=E;refine Vh 1 [] X H λD t H=>?_;refine Ac ?_;replace A:=A.k5 4 0 1 2 3;exact .inl ⟨_,_,_,_,_,_,rfl,Bc M,_,H.ls,A⟩
   refine Fl ?_;replace A:=A.k5 4 0 1 2 3;exact .inl ⟨_,_,_,_,_,_,rfl,Bc M,_,H.ls,A⟩
  refine AU 3 (Ak 1 [] 43 0 4 A H λD t H=>?_);refine Ao 1 [(11,Ai p1.Max)] H λD H=>A4 (id:=0) (by kernel_rfl) ?_;obtain⟨o2,O,M⟩:=AJ M;refine BZ (Q':=λe N Q=>(∃x21 x22 x23 x24 x25 x26,e=.exit 0/\(x21,x22,x23,x24,x25,x26)=o2/\∃r5,Has N 80 [(3,.ptr (some (h.size,0))),(4,.ptr (some (h1.size,0))),(7,.func (.func 63) [] [.ptr (some (h.size,0)),.ptr (some (h1.size,0))]),(9,Ai x26)]/\HH g Q [.obj h1.size (.cells none 2 (AG p1)),.obj h.size (.cells none 2 [.ptr (some (bp0,0))]),.obj bp0 (.cells none 2 [vs AG x21,Ai x22,.ptr (some (bp0_2,0)),Ai x23,.bool x24]),.obj bp0_2 (.cells none 2 [AY r5 x25.length,Ai p0.a_.AZ]),.Ag r5 91 (Ag AF x25)] F)\/False) ?_ ?_
  ·refine DN (by kernel_rfl) (λ(s:(List AN)×Int×Int×Bool×(List AE)×Int×Int) N Q=>∃x14 x15 x16 x17 x18 x19 x20,(x14,x15,x16,x17,x18,x19,x20)=s/\∃r4,Has N 80 [(2,Ai p2),(3,.ptr (some (h.size,0))),(4,.ptr (some (h1.size,0))),(7,.func (.func 63) [] [.ptr (some (h.size,0)),.ptr (some (h1.size,0))]),(8,.func (.func 64) [] [.ptr (some (h.size,0))]),(9,Ai x19),(11,Ai x20)]/\HH g Q [.obj h1.size (.cells none 2 (AG p1)),.obj h.size (.cells none 2 [.ptr (some (bp0,0))]),.obj bp0 (.cells none 2 [vs AG x14,Ai x15,.ptr (some (bp0_2,0)),Ai x16,.bool x17]),.obj bp0_2 (.cells none 2 [AY r4 x18.length,Ai p0.a_.AZ]),.Ag r4 91 (Ag AF x18)] F) O ⟨_,_,_,_,_,_,_,rfl,rp0_2_0,H.ls,A⟩ ?_;clear O M H A;intro s q D h6 Z M;obtain⟨x14,x15,x16,x17,x18,x19,x20,rfl,r4,H,A⟩:=Z;unfold Dp at M;refine BC (AU 11 (Ak 2 [(44,Ai x20)] 46 0 3 A H λD t H=>?_));refine AR 2 [(48,.bool (decide (x20>p1.Min)))] H λD H=>CE 6 (λN Q=>h6=Q/\Has N 80 [(2,Ai p2),(3,.ptr (some (h.size,0))),(4,.ptr (some (h1.size,0))),(7,.func (.func 63) [] [.ptr (some (h.size,0)),.ptr (some (h1.size,0))]),(8,.func (.func 64) [] [.ptr (some (h.size,0))]),(9,Ai x19),(11,Ai x20),(54,.bool ((decide (x20>p1.Min))&&(!x17)))]) ?_ ?_
   ·cases C:(decide (x20>p1.Min):Bool)with
    |true=>
     replace H:=H.kn 48 C;refine OI 49 1 0 A H λD t H=>?_;refine Ak 2 [] 52 2 4 A H λD t H=>?_;exact AR 2 [(54,.bool (!x17))] H λD H=>BJ H C
    |false=>
     replace H:=H.kn 48 C;exact AR 6 [(54,.bool false)] H λD H=>BJ H C
   intro t D Q G;obtain⟨e,H⟩:=G;subst e;refine Da id (BM 54 H M (λC M H=>?_) λC M H=>?_)
   ·refine E5 id (BC (A4 (id:=1) (by kernel_rfl) ?_));refine Ea 7 ?_;replace A:=A.k5 1 2 3 4 0;have E:=A.cut 5;obtain⟨⟨x27,x28,x29⟩,X,M⟩:=AJ M;obtain⟨v1,W,R,r6,rfl,E⟩:=K.CA (av:=[Ai x19,.ptr (some (h.size,0)),.ptr (some (h1.size,0))]) X (by kernel_rfl) E;replace A:HH g W [.obj h.size (.cells none 2 [.ptr (some (bp0,0))]),.obj bp0 (.cells none 2 (Ax x28 _)),.obj bp0_2 (.cells none 2 [AY r6 x29.length,Ai p0.a_.AZ]),.Ag r6 91 (Ag AF x29),.obj h1.size (.cells none 2 (AG p1))] F:=A.JN (n:=5) E;refine Ds 3 [(57,.func (.func 64) [] [.ptr (some (h.size,0))])] 60 R H λD t H=>?_;obtain⟨⟨x30,x31,x32⟩,X,M⟩:=AJ M;obtain⟨v1,h8,R,r7,rfl,E⟩:=E4 (av:=[Ai x27,Ai p2,.ptr (some (h.size,0))]) X (A.cut 4);replace A:=A.aQ E;refine Ds 1 [] 62 R H λD t H=>?_;refine DE 1 [(2,Ai p2),(3,.ptr (some (h.size,0))),(4,.ptr (some (h1.size,0))),(7,.func (.func 63) [] [.ptr (some (h.size,0)),.ptr (some (h1.size,0))]),(8,.func (.func 64) [] [.ptr (some (h.size,0))]),(9,Ai x30),(11,Ai x20)] H λD H=>OL 3 id (DE 3 [(2,Ai p2),(3,.ptr (some (h.size,0))),(4,.ptr (some (h1.size,0))),(7,.func (.func 63) [] [.ptr (some (h.size,0)),.ptr (some (h1.size,0))]),(8,.func (.func 64) [] [.ptr (some (h.size,0))]),(9,Ai x30),(11,Ai (i64.wrap (x20 - 1)))] H λD H=>Ac ?_);replace A:=A.k5 4 0 1 2 3;exact nx M ⟨_,_,_,_,_,_,_,rfl,_,H.ls,A⟩
   refine Cz (i:=0) (by kernel_rfl) ?_;exact nr M λe=>.inl ⟨_,_,_,_,_,_,rfl,e,_,H.ls,A⟩
  clear O;clear A;intro e D V P;rcases P with⟨x21,x22,x23,x24,x25,x26,rfl,rfl,r5,H,A⟩|T
  ·exact .inl ⟨_,_,_,_,_,_,rfl,Bc M,_,H.ls,A⟩
  exact T.elim
 clear O;clear A;intro e D h10 P;rcases P with⟨x1,x2,x3,x4,x5,x6,rfl,rfl,r1,H,A⟩|T
 ·show AW _ _ _ _ _ _ _;refine BC (AU 1 (Ao 1 [(12,Ai 0)] H λD H=>A4 (id:=2) (by kernel_rfl) ?_));obtain⟨o3,O,M⟩:=AJ M;refine BZ (Q':=λe N Q=>(∃x40 x41 x42 x43 x44 x45,e=.exit 2/\(x40,x41,x42,x43,x44,x45)=o3/\∃r9,Has N 80 [(9,Ai x45)]/\HH g Q [.obj h1.size (.cells none 2 (AG p1)),.obj h.size (.cells none 2 [.ptr (some (bp0,0))]),.obj bp0 (.cells none 2 [vs AG x40,Ai x41,.ptr (some (bp0_2,0)),Ai x42,.bool x43]),.obj bp0_2 (.cells none 2 [AY r9 x44.length,Ai p0.a_.AZ]),.Ag r9 91 (Ag AF x44)] F)\/False) ?_ ?_
  ·refine DN (by kernel_rfl) (λ(s:(List AN)×Int×Int×Bool×(List AE)×Int×Int) N Q=>∃x33 x34 x35 x36 x37 x38 x39,(x33,x34,x35,x36,x37,x38,x39)=s/\∃r8,Has N 80 [(3,.ptr (some (h.size,0))),(4,.ptr (some (h1.size,0))),(7,.func (.func 63) [] [.ptr (some (h.size,0)),.ptr (some (h1.size,0))]),(9,Ai x38),(12,Ai x39)]/\HH g Q [.obj h1.size (.cells none 2 (AG p1)),.obj h.size (.cells none 2 [.ptr (some (bp0,0))]),.obj bp0 (.cells none 2 [vs AG x33,Ai x34,.ptr (some (bp0_2,0)),Ai x35,.bool x36]),.obj bp0_2 (.cells none 2 [AY r8 x37.length,Ai p0.a_.AZ]),.Ag r8 91 (Ag AF x37)] F) O ⟨_,_,_,_,_,_,_,rfl,_,H.ls,A⟩ ?_;clear O M H A;intro s q D h11 Z M;obtain⟨x33,x34,x35,x36,x37,x38,x39,rfl,r8,H,A⟩:=Z;unfold Dl at M;refine BC (AU 11 (Ak 2 [(63,Ai x39)] 65 0 3 A H λD t H=>?_));refine AR 2 [(67,.bool (decide (x39<p1.Min)))] H λD H=>CE 6 (λN Q=>h11=Q/\Has N 80 [(3,.ptr (some (h.size,0))),(4,.ptr (some (h1.size,0))),(7,.func (.func 63) [] [.ptr (some (h.size,0)),.ptr (some (h1.size,0))]),(9,Ai x38),(12,Ai x39),(73,.bool ((decide (x39<p1.Min))&&(!x36)))]) ?_ ?_
   ·cases C:(decide (x39<p1.Min):Bool)with
    |true=>
     replace H:=H.kn 67 C;refine OI 68 1 0 A H λD t H=>?_;refine Ak 2 [] 71 2 4 A H λD t H=>?_;exact AR 2 [(73,.bool (!x36))] H λD H=>BJ H C
    |false=>
     replace H:=H.kn 67 C;exact AR 6 [(73,.bool false)] H λD H=>BJ H C
   intro t D Q G;obtain⟨e,H⟩:=G;subst e;refine Da id (BM 73 H M (λC M H=>?_) λC M H=>?_)
   ·refine E5 id (BC (A4 (id:=3) (by kernel_rfl) ?_));refine Ea 4 ?_;replace A:=A.k5 1 2 3 4 0;have E:=A.cut 5;obtain⟨⟨x46,x47,x48⟩,X,M⟩:=AJ M;obtain⟨v1,h12,R,r10,rfl,E⟩:=K.CA (av:=[Ai x38,.ptr (some (h.size,0)),.ptr (some (h1.size,0))]) X (by kernel_rfl) E;replace A:HH g h12 [.obj h.size (.cells none 2 [.ptr (some (bp0,0))]),.obj bp0 (.cells none 2 (Ax x47 _)),.obj bp0_2 (.cells none 2 [AY r10 x48.length,Ai p0.a_.AZ]),.Ag r10 91 (Ag AF x48),.obj h1.size (.cells none 2 (AG p1))] F:=A.JN (n:=5) E;refine Ds 2 [] 78 R H λD t H=>?_;refine DE 1 [(3,.ptr (some (h.size,0))),(4,.ptr (some (h1.size,0))),(7,.func (.func 63) [] [.ptr (some (h.size,0)),.ptr (some (h1.size,0))]),(9,Ai x46),(12,Ai x39)] H λD H=>OL 3 id (DE 3 [(3,.ptr (some (h.size,0))),(4,.ptr (some (h1.size,0))),(7,.func (.func 63) [] [.ptr (some (h.size,0)),.ptr (some (h1.size,0))]),(9,Ai x46),(12,Ai (i64.wrap (x39+1)))] H λD H=>Ac ?_);replace A:=A.k5 4 0 1 2 3;exact nx M ⟨_,_,_,_,_,_,_,rfl,_,H.ls,A⟩
   refine Cz (i:=2) (by kernel_rfl) ?_;exact nr M λe=>.inl ⟨_,_,_,_,_,_,rfl,e,_,H.ls,A⟩
  clear O;clear A;intro e D h13 P;rcases P with⟨x40,x41,x42,x43,x44,x45,rfl,rfl,r9,H,A⟩|T
  ·show AW _ _ _ _ _ _ _;refine AU 2 (Ao 2 [(6,Ai x45)] H λD H=>Bf ?_);obtain⟨rfl,rfl,rfl⟩:=PF M;refine⟨.inl rfl,Ai x45,rH H,?_⟩;replace A:=A.k3 2 3 4;exact⟨r9,rfl,A⟩
  exact T.elim
 exact T.elim
def Am:Nat->AV
 |0=>⟨λ_ _ _=>none,λ_ _ _=>none,λ_ _ _=>none⟩
 |n+1=>⟨CG (Am n),Cs (Am n),CZ (Am n)⟩
theorem Bg:∀n,CS (Am n)
 |0=>⟨λM=>(by cases M),λM=>(by cases M),λM=>(by cases M)⟩
 |n+1=>⟨λM hc A=>G5 (Bg n) M hc A,λM hc A=>IA (Bg n) M hc A,λM hc A=>Hs (Bg n) M hc A⟩
def BY:Int->AM->AN->Option (Int×AM×(List AE)):=(Am Iv).BY
theorem CA{p0 p1_0 p2 bp1 bp1_0 bp1_0_2 rp1_0_2_0 bp2 q0 u1 u3}(M:BY p0 p1_0 p2=some (q0,u1,u3))(A:HH g h [.obj bp1 (.cells none 2 [.ptr (some (bp1_0,0))]),.obj bp1_0 (.cells none 2 (Ax p1_0 (.ptr (some (bp1_0_2,0))))),.obj bp1_0_2 (.cells none 2 [AY rp1_0_2_0 p1_0.a_.l_.length,Ai p1_0.a_.AZ]),.Ag rp1_0_2_0 91 (Ag AF p1_0.a_.l_),.obj bp2 (.cells none 2 (AG p2))] F)(hc:C1 (cfg.still 63) av=[Ai p0,.ptr (some (bp1,0)),.ptr (some (bp2,0))]:=by kernel_rfl):∃v Q,CW cfg g h 63 av v Q/\∃(r'3:Option Nat),v=Ai q0/\HH g Q [.obj bp1 (.cells none 2 [.ptr (some (bp1_0,0))]),.obj bp1_0 (.cells none 2 (Ax u1 (.ptr (some (bp1_0_2,0))))),.obj bp1_0_2 (.cells none 2 [AY r'3 u3.length,Ai p1_0.a_.AZ]),.Ag r'3 91 (Ag AF u3),.obj bp2 (.cells none 2 (AG p2))] F:=(Bg Iv).CA M hc A
def Aw:AM->Int->Int->Option (Int×AM×(List AE)):=(Am Iv).Aw
theorem Bb{p0 p1 p2 bp0 bp0_2 rp0_2_0 q0 u0 u2}(M:Aw p0 p1 p2=some (q0,u0,u2))(A:HH g h [.obj bp0 (.cells none 2 (Ax p0 (.ptr (some (bp0_2,0))))),.obj bp0_2 (.cells none 2 [AY rp0_2_0 p0.a_.l_.length,Ai p0.a_.AZ]),.Ag rp0_2_0 91 (Ag AF p0.a_.l_)] F)(hc:C1 (cfg.still 34) av=[.ptr (some (bp0,0)),Ai p1,Ai p2]:=by kernel_rfl):∃v Q,CW cfg g h 34 av v Q/\∃(r'2:Option Nat),v=Ai q0/\HH g Q [.obj bp0 (.cells none 2 (Ax u0 (.ptr (some (bp0_2,0))))),.obj bp0_2 (.cells none 2 [AY r'2 u2.length,Ai p0.a_.AZ]),.Ag r'2 91 (Ag AF u2)] F:=(Bg Iv).Bb M hc A
def B8:AM->AN->Int->Option (Int×AM×(List AE)):=(Am Iv).B8
theorem ED{p0 p1 p2 bp0 bp0_2 rp0_2_0 q0 u0 u2}(M:B8 p0 p1 p2=some (q0,u0,u2))(A:HH g h [.obj bp0 (.cells none 2 (Ax p0 (.ptr (some (bp0_2,0))))),.obj bp0_2 (.cells none 2 [AY rp0_2_0 p0.a_.l_.length,Ai p0.a_.AZ]),.Ag rp0_2_0 91 (Ag AF p0.a_.l_)] F)(hc:C1 (cfg.still 50) av=[.ptr (some (bp0,0)),.agg (AG p1),Ai p2]:=by kernel_rfl):∃v Q,CW cfg g h 50 av v Q/\∃(r'2:Option Nat),v=Ai q0/\HH g Q [.obj bp0 (.cells none 2 (Ax u0 (.ptr (some (bp0_2,0))))),.obj bp0_2 (.cells none 2 [AY r'2 u2.length,Ai p0.a_.AZ]),.Ag r'2 91 (Ag AF u2)] F:=(Bg Iv).ED M hc A
def FX(p0:AL)(p1:Int):Option ((Option Ah)×Int):=
 A3 ((decide (p1<1))||(decide (p1>4096))) (some (none,(6:Int))) ((Cm p0).bind λx1=>A3 (!x1) (some (none,(1:Int))) ((Az (⟨p0,(⟨([]:List AE),(0:Int)⟩:Ah),p1,false⟩:AM) (⟨(0:Int),(0:Int),(0:Int),(⟨(0:Int),(0:Int),(0:Int),(0:Int)⟩:BB)⟩:AE)).bind λ(x2,x3,x4)=>(Aw (⟨x3.t_,(⟨x4,(0:Int)⟩:Ah),x3.DP,x3.A0⟩:AM) p0.A2 x2).bind λ(x5,x6,x7)=>A3 x6.A0 (some (none,(7:Int))) (some (some (⟨x7,x5⟩:Ah),(0:Int)))))
theorem Ns{p0 p1 o0 q1}(M:FX p0 p1=some (o0,q1))(A:HH g h [] F)(hc:C1 (cfg.still 16) av=[.agg [vs AG p0.Ad,Ai p0.A2],Ai p1]:=by kernel_rfl):∃v Q,CW cfg g h 16 av v Q/\((∃(q0:Ah),o0=some q0/\v=.tuple [.Bu [vs AF q0.l_,Ai q0.AZ],Ai q1]/\HH g Q [] F)\/(o0=none/\v=.tuple [.ptr none,Ai q1]/\HH g Q [] F)):=by
 refine ah 47 [.tmp 4,.tmp 5] hc ?_;clear hc;unfold FX at M;refine bg 47 [(0,.agg [vs AG p0.Ad,Ai p0.A2]),(1,Ai p1)] λD H=>?_;refine AU 3 ?_;obtain⟨h1,e1,A⟩:=A.pu (.cells none 2 [vs AG p0.Ad,Ai p0.A2]);refine DF 2 (.ptr (some (h.size,0))) e1 H λD t H=>?_;refine Ao 2 [] H λD H=>BC (A4 (id:=0) (by kernel_rfl) ?_);refine AU 7 (AR 3 [(11,.bool (decide (p1<1)))] H λD H=>CE 3 (λN Q=>h1=Q/\Has N 47 [(1,Ai p1),(2,.ptr (some (h.size,0))),(14,.bool ((decide (p1<1))||(decide (p1>4096))))]) ?_ ?_)
 ·cases C:(decide (p1<1):Bool)with
  |true=>
   replace H:=H.kn 11 C;exact AR 3 [(14,.bool true)] H λD H=>BJ H C
  |false=>
   replace H:=H.kn 11 C;exact AR 3 [(14,.bool (decide (p1>4096)))] H λD H=>BJ H C
 intro t D Q G;obtain⟨e,H⟩:=G;subst e;refine Ao 1 [(8,.bool ((decide (p1<1))||(decide (p1>4096))))] H λD H=>BM 8 H M (λC M H=>?_) λC M H=>?_
 ·refine AU 2 (Ao 2 [(4,.ptr none),(5,Ai 6)] H λD H=>Bf ?_);obtain⟨rfl,rfl⟩:=Ms M;refine⟨.inl rfl,.tuple [.ptr none,Ai 6],rH H,?_⟩;replace A:=A.d0;refine⟨.tuple [.ptr none,Ai 6],h1,by first|rfl|(simp only[Sg,Su,Tx,T4,Tu,S2,SP,Sw,Tc,Se,Sj,TD,SN,Rp,Rq,R9,Rr,R0,RP,R4,ze]<;>rfl),?_⟩;exact .inr ⟨rfl,rfl,A⟩
 refine AU 4 (Bj 16 _ _ H (λD=>.of (Db (by kernel_rfl) (A.Gp 0 rfl (o:=0) (n:=2) ⟨zj rfl,rfl⟩))) λD t H=>?_);obtain⟨x1,X,M⟩:=AJ M;obtain⟨v1,I,R,rfl,E⟩:=Kz (av:=[.agg [vs AG p0.Ad,Ai p0.A2]]) X (A.cut 0);replace A:HH g I [.obj h.size (.cells none 2 [vs AG p0.Ad,Ai p0.A2])] F:=A.JN (n:=0) E;refine F1 17 R H λD t H=>?_;refine Ao 2 [(15,.bool (!x1))] H λD H=>BM 15 H M (λC M H=>?_) λC M H=>?_
 ·refine AU 2 (Ao 2 [(4,.ptr none),(5,Ai 1)] H λD H=>Bf ?_);obtain⟨rfl,rfl⟩:=Ms M;refine⟨.inl rfl,.tuple [.ptr none,Ai 1],rH H,?_⟩;replace A:=A.d0;refine⟨.tuple [.ptr none,Ai 1],I,by first|rfl|(simp only[Sg,Su,Tx,T4,Tu,S2,SP,Sw,Tc,Se,Sj,TD,SN,Rp,Rq,R9,Rr,R0,RP,R4,ze]<;>rfl),?_⟩;exact .inr ⟨rfl,rfl,A⟩
 refine JD 7 id (Bj 19 _ _ H (λD=>.of (Db (by kernel_rfl) (A.Gp 0 rfl (o:=0) (n:=2) ⟨zj rfl,rfl⟩))) λD t H=>?_);obtain⟨J,e2,A⟩:=A.pu (.cells none 2 [.slice none 0,Ai 0]);refine Q9 1 [] 21 (.ptr (some (I.size,0))) e2 H λD t H=>?_;obtain⟨h4,e3,A⟩:=A.pu (.cells none 2 [vs AG p0.Ad,Ai p0.A2,.ptr (some (I.size,0)),Ai p1,.bool false]);refine Q9 2 [] 24 (.ptr (some (J.size,0))) e3 H λD t H=>?_;refine G3 1 [(6,.ptr (some (J.size,0)))] 4 H λD H=>?_;replace A:HH g h4 [.Ag none 91 (Ag AF ([]:List AE)),.obj J.size (.cells none 2 [vs AG p0.Ad,Ai p0.A2,.ptr (some (I.size,0)),Ai p1,.bool false]),.obj I.size (.cells none 2 [AY none (([]:List AE).length),Ai 0]),_] F:=A.Pr 91;replace A:=A.k4 1 2 0 3;obtain⟨⟨x2,x3,x4⟩,X,M⟩:=AJ M;obtain⟨v1,h5,R,r1,rfl,E⟩:=B7 (av:=[.ptr (some (J.size,0)),.agg Zu]) X (A.cut 3);replace A:=A.Rh E;refine Ds 2 [] 27 R H λD t H=>?_;refine Ao 1 [(7,Ai x2)] H λD H=>BC (M6 7 12 [(0,[]),(1,[]),(2,[]),(3,[]),(4,[]),(5,[]),(6,[]),(7,[]),(8,[10003]),(9,[]),(10,[]),(11,[])] ?_);refine AR 3 [(30,.ptr (some (J.size,2)))] H λD H=>D4 31 (.ptr (some (I.size,0))) h5 [(3,J.size)] (g.B4) H (λD=>.of (Cf (by kernel_rfl) (A.l1 0 2))) (λD H=>?_);refine AR 2 [(32,.ptr (some (J.size,0))),(33,.ptr (some (h.size,1)))] H λD H=>D4 34 (Ai p0.A2) h5 [(6,h.size),(3,J.size)] (g.B4) H (λD=>.of (Cf (by kernel_rfl) (A.l1 3 1))) (λD H=>?_);refine AR 1 [(35,Ai x2)] H λD H=>?_;obtain⟨⟨x5,x6,x7⟩,X,M⟩:=AJ M;obtain⟨v1,h6,R,r2,rfl,E⟩:=Bb (av:=[.ptr (some (J.size,0)),Ai p0.A2,Ai x2]) X (A.cut 3)
 replace A:=A.Rh E;refine D4 36 (Ai x5) h6 [(6,h.size),(3,J.size)] (g.B4) H (λD=>Steps.call (by kernel_rfl) R) (λD H=>?_) (hre:=λD=>QC (j:=3) rfl (YM (i:=3) (by kernel_rfl) (A.l1 0 2) (Rx _ _)) (rfl));refine AR 2 [(38,.ptr (some (I.size,1)))] H λD H=>?_;obtain⟨W,X,A⟩:=A.s1 1 [Ai x5] [_,_];refine TR (.tuple []) W [(6,h.size),(3,J.size)] (g.B4) H (λD=>.of (LH (by kernel_rfl) rfl X)) (λD H=>?_);refine Da id (BC (AU 4 (Ak 3 [] 42 0 4 A H λD t H=>?_)));refine Da id (BM 42 H M (λC M H=>?_) λC M H=>?_)
 ·refine AU 2 (Ao 2 [(4,.ptr none),(5,Ai 7)] H λD H=>Bf ?_);obtain⟨rfl,rfl⟩:=Ms M;refine⟨.inl rfl,.tuple [.ptr none,Ai 7],rH H,?_⟩;replace A:=A.d0;refine⟨.tuple [.ptr none,Ai 7],W,by first|rfl|(simp only[Sg,Su,Tx,T4,Tu,S2,SP,Sw,Tc,Se,Sj,TD,SN,Rp,Rq,R9,Rr,R0,RP,R4,ze]<;>rfl),?_⟩;exact .inr ⟨rfl,rfl,A⟩
 refine JD 6 id (Ak 3 [] 46 0 2 A H λD t H=>?_);refine Ao 2 [(4,.ptr (some (I.size,0))),(5,Ai 0)] H λD H=>Bf ?_;obtain⟨rfl,rfl⟩:=Ms M;refine⟨.inl rfl,.tuple [.ptr (some (I.size,0)),Ai 0],rH H,?_⟩;replace A:=A.k2 1 2;obtain⟨h8,E,hy0⟩:=(A.front 0 rfl).ZL;replace A:HH g h8 [_] F:=E;obtain⟨V,Y,E⟩:=(A.front 0 rfl).aK (n:=x7.length) (z:=7) (EK.Jc _) (by decide);replace A:HH g V [] F:=E;have hz0:=hy0 [vs AF x7,Ai x5] V (by simp only[Sg,Su,Tx,T4,Tu,S2,SP,Sw,Tc,Se,Sj,TD,SN,Rp,Rq,R9,Rr,R0,RP,R4,ze,Kh,Y]<;>rfl);refine⟨.tuple [.Bu [vs AF x7,Ai x5],Ai 0],V,by first|rfl|(simp only[Sg,Su,Tx,T4,Tu,S2,SP,Sw,Tc,Se,Sj,TD,SN,Rp,Rq,R9,Rr,R0,RP,R4,ze,Kh,hz0,Y]<;>rfl),?_⟩;exact .inl ⟨(⟨x7,x5⟩:Ah),rfl,rfl,A⟩
def EN(p0:AS)(p1:Int):Option (Bool):=
 A3 ((decide (p0.Kind<0))||(decide (p0.Kind>7))) (some false) (A3 ((((((decide (p0.Kind>=2))&&(decide (p0.Kind<=5)))&&((decide (p0.A<0))||(decide (p0.A>=p1))))||((!((decide (p0.Kind>=2))&&(decide (p0.Kind<=5))))&&(p0.A !=0)))||(((p0.Kind==2)||(p0.Kind==3))&&((decide (p0.B<0))||(decide (p0.B>=p1)))))||((!((p0.Kind==2)||(p0.Kind==3)))&&(p0.B !=0))) (some false) (A3 ((p0.Kind !=1)&&(!(p0.S==([]:UV)))) (some false) ((A3 (p0.Kind==4) (A3 (((((decide (p0.Min<0))||(decide (p0.Min>255)))||(decide (p0.Max<(-1))))||(decide (p0.Max>255)))||((decide (p0.Max>=0))&&(decide (p0.Max<p0.Min)))) (some (.inr false)) (some (.inl ()))) (A3 ((p0.Min !=0)||(p0.Max !=0)) (some (.inr false)) (some (.inl ()))):Option ((Unit)⊕(Bool))).bind λo1=>(match o1 with| .inl _=>A3 (p0.Kind==5) (some ((decide (p0.Bl>=1))&&(decide (p0.Bl<=1024)))) (some (p0.Bl==0))| .inr x1=>some x1))))
theorem Kd{p0 p1 q0}(M:EN p0 p1=some q0)(A:HH g h [] F)(hc:C1 (cfg.still 24) av=[.agg (AD p0),Ai p1]:=by kernel_rfl):∃v Q,CW cfg g h 24 av v Q/\v=.bool q0/\HH g Q [] F:=by
 refine Mg 138 [.tmp 4] hc ?_;clear hc;unfold EN at M;refine bg 138 [(0,.agg (AD p0)),(1,Ai p1)] λD H=>?_;refine AU 2 ?_;obtain⟨h1,e1,A⟩:=A.pu (.cells none 2 (AD p0));refine DF 2 (.ptr (some (h.size,0))) e1 H λD t H=>?_;refine Ao 1 [] H λD H=>BC (AU 8 (Ak 1 [] 8 0 0 A H λD t H=>?_));refine AR 2 [(10,.bool (decide (p0.Kind<0)))] H λD H=>CE 4 (λN Q=>h1=Q/\Has N 138 [(1,Ai p1),(2,.ptr (some (h.size,0))),(14,.bool ((decide (p0.Kind<0))||(decide (p0.Kind>7))))]) ?_ ?_
 ·cases C:(decide (p0.Kind<0):Bool)with
  |true=>
   replace H:=H.kn 10 C;exact AR 4 [(14,.bool true)] H λD H=>BJ H C
  |false=>
   replace H:=H.kn 10 C;refine Ak 1 [] 12 0 0 A H λD t H=>?_;exact AR 2 [(14,.bool (decide (p0.Kind>7)))] H λD H=>BJ H C
 intro t D Q G;obtain⟨e,H⟩:=G;subst e;refine Da id (BM 14 H M (λC M H=>?_) λC M H=>?_)
 ·refine AU 1 (Ao 1 [(4,.bool false)] H λD H=>Bf ?_);obtain rfl:=Bc M;refine⟨.inl rfl,.bool false,rH H,?_⟩;replace A:=A.d0;exact⟨rfl,A⟩
 refine JD 9 id (Ak 1 [] 16 0 0 A H λD t H=>?_);refine AR 2 [(18,.bool (decide (p0.Kind>=2)))] H λD H=>CE 4 (λN Q=>h1=Q/\Has N 138 [(1,Ai p1),(2,.ptr (some (h.size,0))),(22,.bool ((decide (p0.Kind>=2))&&(decide (p0.Kind<=5))))]) ?_ ?_
 ·cases C:(decide (p0.Kind>=2):Bool)with
  |true=>
   replace H:=H.kn 18 C;refine Ak 1 [] 20 0 0 A H λD t H=>?_;exact AR 2 [(22,.bool (decide (p0.Kind<=5)))] H λD H=>BJ H C
  |false=>
   replace H:=H.kn 18 C;exact AR 4 [(22,.bool false)] H λD H=>BJ H C
 intro t D Q G;obtain⟨e,H⟩:=G;subst e;refine G3 1 [(5,.bool ((decide (p0.Kind>=2))&&(decide (p0.Kind<=5))))] 9 H λD H=>Ak 1 [] 24 0 0 A H λD t H=>?_;refine AR 2 [(26,.bool (p0.Kind==2))] H λD H=>CE 4 (λN Q=>h1=Q/\Has N 138 [(1,Ai p1),(2,.ptr (some (h.size,0))),(5,.bool ((decide (p0.Kind>=2))&&(decide (p0.Kind<=5)))),(30,.bool ((p0.Kind==2)||(p0.Kind==3)))]) ?_ ?_
 ·cases C:(p0.Kind==2:Bool)with
  |true=>
   replace H:=H.kn 26 C;exact AR 4 [(30,.bool true)] H λD H=>BJ H C
  |false=>
   replace H:=H.kn 26 C;refine Ak 1 [] 28 0 0 A H λD t H=>?_;exact AR 2 [(30,.bool (p0.Kind==3))] H λD H=>BJ H C
 intro t D Q G;obtain⟨e,H⟩:=G;subst e;refine Ao 1 [(6,.bool ((p0.Kind==2)||(p0.Kind==3)))] H λD H=>BC (AU 44 (AR 2 [(32,.bool ((decide (p0.Kind>=2))&&(decide (p0.Kind<=5))))] H λD H=>CE 10 (λN Q=>h1=Q/\Has N 138 [(1,Ai p1),(2,.ptr (some (h.size,0))),(5,.bool ((decide (p0.Kind>=2))&&(decide (p0.Kind<=5)))),(6,.bool ((p0.Kind==2)||(p0.Kind==3))),(42,.bool (((decide (p0.Kind>=2))&&(decide (p0.Kind<=5)))&&((decide (p0.A<0))||(decide (p0.A>=p1)))))]) ?_ ?_))
 ·cases C:((decide (p0.Kind>=2))&&(decide (p0.Kind<=5)):Bool)with
  | true=>
   replace H:=H.kn 32 C;refine Ak 1 [] 34 0 1 A H λD t H=>?_;refine AR 2 [(36,.bool (decide (p0.A<0)))] H λD H=>CE 5 (λN Q=>h1=Q/\Has N 138 [(1,Ai p1),(2,.ptr (some (h.size,0))),(5,.bool ((decide (p0.Kind>=2))&&(decide (p0.Kind<=5)))),(6,.bool ((p0.Kind==2)||(p0.Kind==3))),(32,.bool true),(41,.bool ((decide (p0.A<0))||(decide (p0.A>=p1))))]) ?_ ?_
   ·cases C:(decide (p0.A<0):Bool)with
    |true=>
     replace H:=H.kn 36 C;exact AR 5 [(41,.bool true)] H λD H=>BJ H C
    |false=>
     replace H:=H.kn 36 C;refine Ak 1 [] 38 0 1 A H λD t H=>?_;exact AR 3 [(41,.bool (decide (p0.A>=p1)))] H λD H=>BJ H C
   intro t D Q G;obtain⟨e,H⟩:=G;subst e;exact AR 1 [(42,.bool ((decide (p0.A<0))||(decide (p0.A>=p1))))] H λD H=>BJ H C
  |false=>
   replace H:=H.kn 32 C;exact AR 10 [(42,.bool false)] H λD H=>BJ H C
 intro t D Q G;obtain⟨e,H⟩:=G;subst e;refine AR 1 [(43,.bool (((decide (p0.Kind>=2))&&(decide (p0.Kind<=5)))&&((decide (p0.A<0))||(decide (p0.A>=p1)))))] H λD H=>CE 8 (λN Q=>h1=Q/\Has N 138 [(1,Ai p1),(2,.ptr (some (h.size,0))),(6,.bool ((p0.Kind==2)||(p0.Kind==3))),(51,.bool ((((decide (p0.Kind>=2))&&(decide (p0.Kind<=5)))&&((decide (p0.A<0))||(decide (p0.A>=p1))))||((!((decide (p0.Kind>=2))&&(decide (p0.Kind<=5))))&&(p0.A !=0))))]) ?_ ?_
 ·cases C:(((decide (p0.Kind>=2))&&(decide (p0.Kind<=5)))&&((decide (p0.A<0))||(decide (p0.A>=p1))):Bool)with
  |true=>
   replace H:=H.kn 43 C;exact AR 8 [(51,.bool true)] H λD H=>BJ H C
  | false=>
   replace H:=H.kn 43 C;refine AR 3 [(46,.bool (!((decide (p0.Kind>=2))&&(decide (p0.Kind<=5)))))] H λD H=>CE 4 (λN Q=>h1=Q/\Has N 138 [(1,Ai p1),(2,.ptr (some (h.size,0))),(6,.bool ((p0.Kind==2)||(p0.Kind==3))),(43,.bool false),(50,.bool ((!((decide (p0.Kind>=2))&&(decide (p0.Kind<=5))))&&(p0.A !=0)))]) ?_ ?_
   ·cases C:(!((decide (p0.Kind>=2))&&(decide (p0.Kind<=5))):Bool)with
    |true=>
     replace H:=H.kn 46 C;refine Ak 1 [] 48 0 1 A H λD t H=>?_;exact AR 2 [(50,.bool (p0.A !=0))] H λD H=>BJ H C
    |false=>
     replace H:=H.kn 46 C;exact AR 4 [(50,.bool false)] H λD H=>BJ H C
   intro t D Q G;obtain⟨e,H⟩:=G;subst e;exact AR 1 [(51,.bool ((!((decide (p0.Kind>=2))&&(decide (p0.Kind<=5))))&&(p0.A !=0)))] H λD H=>BJ H C
 intro t D Q G;obtain⟨e,H⟩:=G;subst e;refine AR 1 [(52,.bool ((((decide (p0.Kind>=2))&&(decide (p0.Kind<=5)))&&((decide (p0.A<0))||(decide (p0.A>=p1))))||((!((decide (p0.Kind>=2))&&(decide (p0.Kind<=5))))&&(p0.A !=0))))] H λD H=>CE 13 (λN Q=>h1=Q/\Has N 138 [(2,.ptr (some (h.size,0))),(6,.bool ((p0.Kind==2)||(p0.Kind==3))),(65,.bool (((((decide (p0.Kind>=2))&&(decide (p0.Kind<=5)))&&((decide (p0.A<0))||(decide (p0.A>=p1))))||((!((decide (p0.Kind>=2))&&(decide (p0.Kind<=5))))&&(p0.A !=0)))||(((p0.Kind==2)||(p0.Kind==3))&&((decide (p0.B<0))||(decide (p0.B>=p1))))))]) ?_ ?_
 ·cases C:((((decide (p0.Kind>=2))&&(decide (p0.Kind<=5)))&&((decide (p0.A<0))||(decide (p0.A>=p1))))||((!((decide (p0.Kind>=2))&&(decide (p0.Kind<=5))))&&(p0.A !=0)):Bool)with
  |true=>
   replace H:=H.kn 52 C;exact AR 13 [(65,.bool true)] H λD H=>BJ H C
  | false=>
   replace H:=H.kn 52 C;refine AR 2 [(54,.bool ((p0.Kind==2)||(p0.Kind==3)))] H λD H=>CE 10 (λN Q=>h1=Q/\Has N 138 [(2,.ptr (some (h.size,0))),(6,.bool ((p0.Kind==2)||(p0.Kind==3))),(52,.bool false),(64,.bool (((p0.Kind==2)||(p0.Kind==3))&&((decide (p0.B<0))||(decide (p0.B>=p1)))))]) ?_ ?_
   ·cases C:((p0.Kind==2)||(p0.Kind==3):Bool)with
    | true=>
     replace H:=H.kn 54 C;refine Ak 1 [] 56 0 2 A H λD t H=>?_;refine AR 2 [(58,.bool (decide (p0.B<0)))] H λD H=>CE 5 (λN Q=>h1=Q/\Has N 138 [(2,.ptr (some (h.size,0))),(6,.bool ((p0.Kind==2)||(p0.Kind==3))),(52,.bool false),(54,.bool true),(63,.bool ((decide (p0.B<0))||(decide (p0.B>=p1))))]) ?_ ?_
     ·cases C:(decide (p0.B<0):Bool)with
      |true=>
       replace H:=H.kn 58 C;exact AR 5 [(63,.bool true)] H λD H=>BJ H C
      |false=>
       replace H:=H.kn 58 C;refine Ak 1 [] 60 0 2 A H λD t H=>?_;exact AR 3 [(63,.bool (decide (p0.B>=p1)))] H λD H=>BJ H C
     intro t D Q G;obtain⟨e,H⟩:=G;subst e;exact AR 1 [(64,.bool ((decide (p0.B<0))||(decide (p0.B>=p1))))] H λD H=>BJ H C
    |false=>
     replace H:=H.kn 54 C;exact AR 10 [(64,.bool false)] H λD H=>BJ H C
   intro t D Q G;obtain⟨e,H⟩:=G;subst e;exact AR 1 [(65,.bool (((p0.Kind==2)||(p0.Kind==3))&&((decide (p0.B<0))||(decide (p0.B>=p1)))))] H λD H=>BJ H C
 intro t D Q G;obtain⟨e,H⟩:=G;subst e;refine AR 1 [(66,.bool (((((decide (p0.Kind>=2))&&(decide (p0.Kind<=5)))&&((decide (p0.A<0))||(decide (p0.A>=p1))))||((!((decide (p0.Kind>=2))&&(decide (p0.Kind<=5))))&&(p0.A !=0)))||(((p0.Kind==2)||(p0.Kind==3))&&((decide (p0.B<0))||(decide (p0.B>=p1))))))] H λD H=>CE 8 (λN Q=>h1=Q/\Has N 138 [(2,.ptr (some (h.size,0))),(74,.bool ((((((decide (p0.Kind>=2))&&(decide (p0.Kind<=5)))&&((decide (p0.A<0))||(decide (p0.A>=p1))))||((!((decide (p0.Kind>=2))&&(decide (p0.Kind<=5))))&&(p0.A !=0)))||(((p0.Kind==2)||(p0.Kind==3))&&((decide (p0.B<0))||(decide (p0.B>=p1)))))||((!((p0.Kind==2)||(p0.Kind==3)))&&(p0.B !=0))))]) ?_ ?_
 ·cases C:(((((decide (p0.Kind>=2))&&(decide (p0.Kind<=5)))&&((decide (p0.A<0))||(decide (p0.A>=p1))))||((!((decide (p0.Kind>=2))&&(decide (p0.Kind<=5))))&&(p0.A !=0)))||(((p0.Kind==2)||(p0.Kind==3))&&((decide (p0.B<0))||(decide (p0.B>=p1)))):Bool)with
  |true=>
   replace H:=H.kn 66 C;exact AR 8 [(74,.bool true)] H λD H=>BJ H C
  | false=>
   replace H:=H.kn 66 C;refine AR 3 [(69,.bool (!((p0.Kind==2)||(p0.Kind==3))))] H λD H=>CE 4 (λN Q=>h1=Q/\Has N 138 [(2,.ptr (some (h.size,0))),(66,.bool false),(73,.bool ((!((p0.Kind==2)||(p0.Kind==3)))&&(p0.B !=0)))]) ?_ ?_
   ·cases C:(!((p0.Kind==2)||(p0.Kind==3)):Bool)with
    |true=>
     replace H:=H.kn 69 C;refine Ak 1 [] 71 0 2 A H λD t H=>?_;exact AR 2 [(73,.bool (p0.B !=0))] H λD H=>BJ H C
    |false=>
     replace H:=H.kn 69 C;exact AR 4 [(73,.bool false)] H λD H=>BJ H C
   intro t D Q G;obtain⟨e,H⟩:=G;subst e;exact AR 1 [(74,.bool ((!((p0.Kind==2)||(p0.Kind==3)))&&(p0.B !=0)))] H λD H=>BJ H C
 intro t D Q G;obtain⟨e,H⟩:=G;subst e;refine Da id (BM 74 H M (λC M H=>?_) λC M H=>?_)
 ·refine AU 1 (Ao 1 [(4,.bool false)] H λD H=>Bf ?_);obtain rfl:=Bc M;refine⟨.inl rfl,.bool false,rH H,?_⟩;replace A:=A.d0;exact⟨rfl,A⟩
 refine E5 id (BC (AU 8 (Ak 1 [] 76 0 0 A H λD t H=>?_)));refine AR 2 [(78,.bool (p0.Kind !=1))] H λD H=>CE 4 (λN Q=>h1=Q/\Has N 138 [(2,.ptr (some (h.size,0))),(82,.bool ((p0.Kind !=1)&&(!(p0.S==([]:UV)))))]) ?_ ?_
 ·cases C:(p0.Kind !=1:Bool)with
  |true=>
   replace H:=H.kn 78 C;refine Ak 1 [] 80 0 6 A H λD t H=>?_;exact AR 2 [(82,.bool (!(p0.S==([]:UV))))] H λD H=>BJ H C
  |false=>
   replace H:=H.kn 78 C;exact AR 4 [(82,.bool false)] H λD H=>BJ H C
 intro t D Q G;obtain⟨e,H⟩:=G;subst e;refine Da id (BM 82 H M (λC M H=>?_) λC M H=>?_)
 ·refine AU 1 (Ao 1 [(4,.bool false)] H λD H=>Bf ?_);obtain rfl:=Bc M;refine⟨.inl rfl,.bool false,rH H,?_⟩;replace A:=A.d0;exact⟨rfl,A⟩
 refine E5 id (BC ?_);obtain⟨o1,O,M⟩:=AJ M;refine BZ (Q':=λe N Q=>(e=.normal/\.inl ()=o1/\Has N 138 [(2,.ptr (some (h.size,0)))]/\HH g Q [.obj h.size (.cells none 2 (AD p0))] F)\/(∃x1,e=.ret/\.inr x1=o1/\Has N 138 [(4,.bool x1)]/\HH g Q [.obj h.size (.cells none 2 (AD p0))] F)\/False) ?_ ?_
 ·replace M:=O;clear O;refine AU 3 (Ak 1 [] 84 0 0 A H λD t H=>?_);refine Ao 1 [(85,.bool (p0.Kind==4))] H λD H=>BM 85 H M (λC M H=>?_) λC M H=>?_
  ·refine AU 30 (Ak 1 [] 87 0 3 A H λD t H=>?_);refine AR 2 [(89,.bool (decide (p0.Min<0)))] H λD H=>CE 4 (λN Q=>h1=Q/\Has N 138 [(2,.ptr (some (h.size,0))),(93,.bool ((decide (p0.Min<0))||(decide (p0.Min>255))))]) ?_ ?_
   ·cases C:(decide (p0.Min<0):Bool)with
    |true=>
     replace H:=H.kn 89 C;exact AR 4 [(93,.bool true)] H λD H=>BJ H C
    |false=>
     replace H:=H.kn 89 C;refine Ak 1 [] 91 0 3 A H λD t H=>?_;exact AR 2 [(93,.bool (decide (p0.Min>255)))] H λD H=>BJ H C
   intro t D Q G;obtain⟨e,H⟩:=G;subst e;refine AR 1 [(94,.bool ((decide (p0.Min<0))||(decide (p0.Min>255))))] H λD H=>CE 4 (λN Q=>h1=Q/\Has N 138 [(2,.ptr (some (h.size,0))),(98,.bool (((decide (p0.Min<0))||(decide (p0.Min>255)))||(decide (p0.Max<(-1)))))]) ?_ ?_
   ·cases C:((decide (p0.Min<0))||(decide (p0.Min>255)):Bool)with
    |true=>
     replace H:=H.kn 94 C;exact AR 4 [(98,.bool true)] H λD H=>BJ H C
    |false=>
     replace H:=H.kn 94 C;refine Ak 1 [] 96 0 4 A H λD t H=>?_;exact AR 2 [(98,.bool (decide (p0.Max<(-1))))] H λD H=>BJ H C
   intro t D Q G;obtain⟨e,H⟩:=G;subst e;refine AR 1 [(99,.bool (((decide (p0.Min<0))||(decide (p0.Min>255)))||(decide (p0.Max<(-1)))))] H λD H=>CE 4 (λN Q=>h1=Q/\Has N 138 [(2,.ptr (some (h.size,0))),(103,.bool ((((decide (p0.Min<0))||(decide (p0.Min>255)))||(decide (p0.Max<(-1))))||(decide (p0.Max>255))))]) ?_ ?_
   ·cases C:(((decide (p0.Min<0))||(decide (p0.Min>255)))||(decide (p0.Max<(-1))):Bool)with
    |true=>
     replace H:=H.kn 99 C;exact AR 4 [(103,.bool true)] H λD H=>BJ H C
    |false=>
     replace H:=H.kn 99 C;refine Ak 1 [] 101 0 4 A H λD t H=>?_;exact AR 2 [(103,.bool (decide (p0.Max>255)))] H λD H=>BJ H C
   intro t D Q G;obtain⟨e,H⟩:=G;subst e;refine AR 1 [(104,.bool ((((decide (p0.Min<0))||(decide (p0.Min>255)))||(decide (p0.Max<(-1))))||(decide (p0.Max>255))))] H λD H=>CE 11 (λN Q=>h1=Q/\Has N 138 [(2,.ptr (some (h.size,0))),(115,.bool (((((decide (p0.Min<0))||(decide (p0.Min>255)))||(decide (p0.Max<(-1))))||(decide (p0.Max>255)))||((decide (p0.Max>=0))&&(decide (p0.Max<p0.Min)))))]) ?_ ?_
   ·cases C:((((decide (p0.Min<0))||(decide (p0.Min>255)))||(decide (p0.Max<(-1))))||(decide (p0.Max>255)):Bool)with
    |true=>
     replace H:=H.kn 104 C;exact AR 11 [(115,.bool true)] H λD H=>BJ H C
    | false=>
     replace H:=H.kn 104 C;refine Ak 1 [] 106 0 4 A H λD t H=>?_;refine AR 2 [(108,.bool (decide (p0.Max>=0)))] H λD H=>CE 6 (λN Q=>h1=Q/\Has N 138 [(2,.ptr (some (h.size,0))),(104,.bool false),(114,.bool ((decide (p0.Max>=0))&&(decide (p0.Max<p0.Min))))]) ?_ ?_
     ·cases C:(decide (p0.Max>=0):Bool)with
      |true=>
       replace H:=H.kn 108 C;refine Ak 1 [] 110 0 4 A H λD t H=>?_;refine Ak 1 [] 112 0 3 A H λD t H=>?_;exact AR 2 [(114,.bool (decide (p0.Max<p0.Min)))] H λD H=>BJ H C
      |false=>
       replace H:=H.kn 108 C;exact AR 6 [(114,.bool false)] H λD H=>BJ H C
     intro t D Q G;obtain⟨e,H⟩:=G;subst e;exact AR 1 [(115,.bool ((decide (p0.Max>=0))&&(decide (p0.Max<p0.Min))))] H λD H=>BJ H C
   intro t D Q G;obtain⟨e,H⟩:=G;subst e;refine Da id (BM 115 H M (λC M H=>?_) λC M H=>?_)
   ·refine AU 1 (Ao 1 [(4,.bool false)] H λD H=>Bf ?_);exact .inr (.inl ⟨_,rfl,Bc M,H.ls,A⟩)
   exact Fl (.inl ⟨rfl,Bc M,H.ls,A⟩)
  refine AU 8 (Ak 1 [] 117 0 3 A H λD t H=>?_);refine AR 2 [(119,.bool (p0.Min !=0))] H λD H=>CE 4 (λN Q=>h1=Q/\Has N 138 [(2,.ptr (some (h.size,0))),(123,.bool ((p0.Min !=0)||(p0.Max !=0)))]) ?_ ?_
  ·cases C:(p0.Min !=0:Bool)with
   |true=>
    replace H:=H.kn 119 C;exact AR 4 [(123,.bool true)] H λD H=>BJ H C
   |false=>
    replace H:=H.kn 119 C;refine Ak 1 [] 121 0 4 A H λD t H=>?_;exact AR 2 [(123,.bool (p0.Max !=0))] H λD H=>BJ H C
  intro t D Q G;obtain⟨e,H⟩:=G;subst e;refine Da id (BM 123 H M (λC M H=>?_) λC M H=>?_)
  ·refine AU 1 (Ao 1 [(4,.bool false)] H λD H=>Bf ?_);exact .inr (.inl ⟨_,rfl,Bc M,H.ls,A⟩)
  exact Fl (.inl ⟨rfl,Bc M,H.ls,A⟩)
 clear O;clear A;intro e D I P;rcases P with⟨rfl,rfl,H,A⟩|⟨x1,rfl,rfl,H,A⟩|T
 ·show AW _ _ _ _ _ _ _;refine BC (AU 3 (Ak 1 [] 125 0 0 A H λD t H=>?_));refine Ao 1 [(126,.bool (p0.Kind==5))] H λD H=>BM 126 H M (λC M H=>?_) λC M H=>?_
  ·refine AU 9 (Ak 1 [] 128 0 5 A H λD t H=>?_);refine AR 2 [(130,.bool (decide (p0.Bl>=1)))] H λD H=>CE 4 (λN Q=>I=Q/\Has N 138 [(134,.bool ((decide (p0.Bl>=1))&&(decide (p0.Bl<=1024))))]) ?_ ?_
   ·cases C:(decide (p0.Bl>=1):Bool)with
    |true=>
     replace H:=H.kn 130 C;refine Ak 1 [] 132 0 5 A H λD t H=>?_;exact AR 2 [(134,.bool (decide (p0.Bl<=1024)))] H λD H=>BJ H C
    |false=>
     replace H:=H.kn 130 C;exact AR 4 [(134,.bool false)] H λD H=>BJ H C
   intro t D Q G;obtain⟨e,H⟩:=G;subst e;refine Ao 1 [(4,.bool ((decide (p0.Bl>=1))&&(decide (p0.Bl<=1024))))] H λD H=>Bf ?_;obtain rfl:=Bc M;refine⟨.inl rfl,.bool ((decide (p0.Bl>=1))&&(decide (p0.Bl<=1024))),rH H,?_⟩;replace A:=A.d0;exact⟨rfl,A⟩
  refine JD 4 id (Ak 1 [] 136 0 5 A H λD t H=>?_);refine Ao 2 [(4,.bool (p0.Bl==0))] H λD H=>Bf ?_;obtain rfl:=Bc M;refine⟨.inl rfl,.bool (p0.Bl==0),rH H,?_⟩;replace A:=A.d0;exact⟨rfl,A⟩
 ·obtain rfl:=Bc M;refine⟨.inl rfl,.bool x1,rH H,?_⟩;replace A:=A.d0;exact⟨rfl,A⟩
 exact T.elim
def Cj(p0:List Int)(p1:Int)(s:Int):Option ((Int)⊕((Unit)⊕(Int))):=
 match s with
 |x1=>A3 (decide (x1<(p0.length:Int))) ((Iz p0 x1).bind λx3=>A3 (p1==x3) (some (.inr (.inr x1))) (some (.inl (i64.wrap (x1+1))))) (some (.inr (.inl ())))
def CY(p0:List Int)(p1:Int):Option (Int):=
 (loop (Cj p0 p1) (0:Int)).bind λo1=>(match o1 with| .inl _=>some (-1:Int)| .inr x2=>some x2)
theorem Ht{p0 p1 rp0 q0}(M:CY p0 p1=some q0)(A:HH g h [.Ag rp0 3 (Ag (eI .i64) p0)] F)(hc:C1 (cfg.still 66) av=[AY rp0 p0.length,Ai p1]:=by kernel_rfl):∃v Q,CW cfg g h 66 av v Q/\v=Ai q0/\HH g Q [.Ag rp0 3 (Ag (eI .i64) p0)] F:=by
 refine Mg 19 [.tmp 4] hc ?_;clear hc;unfold CY at M;refine bg 19 [(0,AY rp0 p0.length),(1,Ai p1)] λD H=>?_;refine AU 1 (Ao 1 [] H λD H=>BC (AU 3 (Ao 3 [(7,Ai (p0.length:Int)),(8,Ai 0)] H λD H=>A4 (id:=0) (by kernel_rfl) ?_)));obtain⟨o1,O,M⟩:=AJ M;refine BZ (Q':=λe N Q=>(e=.exit 0/\.inl ()=o1/\Has N 19 []/\HH g Q [.Ag rp0 3 (Ag (eI .i64) p0)] F)\/(∃x2,e=.ret/\.inr x2=o1/\Has N 19 [(4,Ai x2)]/\HH g Q [.Ag rp0 3 (Ag (eI .i64) p0)] F)\/False) ?_ ?_
 ·refine DN (by kernel_rfl) (λ(s:Int) N Q=>∃x1,x1=s/\Has N 19 [(0,AY rp0 p0.length),(1,Ai p1),(7,Ai (p0.length:Int)),(8,Ai x1)]/\HH g Q [.Ag rp0 3 (Ag (eI .i64) p0)] F) O ⟨_,rfl,H.ls,A⟩ ?_;clear O M H A;intro s q D h1 Z M;obtain⟨x1,rfl,H,A⟩:=Z;unfold Cj at M;refine AU 1 (Ao 1 [(9,.bool (decide (x1<(p0.length:Int))))] H λD H=>BC (BM 9 H M (λC M H=>?_) λC M H=>?_))
  ·refine E5 id (BC (A4 (id:=1) (by kernel_rfl) ?_));refine AU 2 (G3 2 [(5,Ai x1)] 6 H λD H=>?_);obtain⟨x3,X,M⟩:=AJ M;obtain⟨i1,er1,_,X,U⟩:=HH.Ow (encI .i64) (by decide) A 0 (xs:=p0) rfl X;refine D3 3 [(11,Ai p1)] 14 (.ptr (some (i1,x1.toNat*1))) h1 H (λD=>.of (C9 (s:=Dt rp0 p0.length) (by kernel_rfl) X)) λD t H=>?_;refine Bj 15 _ _ H (λD=>.of (Cf (by kernel_rfl) (Fb (encI .i64) (HH.row A 0 rfl er1) U (o:=0) rfl))) λD t H=>?_;refine Ao 1 [(16,.bool (p1==x3))] H λD H=>BM 16 H M (λC M H=>?_) λC M H=>?_
   ·refine AU 2 (Ao 2 [(4,Ai x1)] H λD H=>Bf ?_);exact nr M λe=>Or.inr (.inl ⟨_,rfl,e,H.ls,A⟩)
   refine OD 2 id (DE 2 [(0,AY rp0 p0.length),(1,Ai p1),(7,Ai (p0.length:Int)),(8,Ai (i64.wrap (x1+1)))] H λD H=>Ac ?_);exact nx M ⟨_,rfl,H.ls,A⟩
  refine Cz (i:=0) (by kernel_rfl) ?_;exact nr M λe=>.inl ⟨rfl,e,H.ls,A⟩
 clear O;clear A;intro e D I P;rcases P with⟨rfl,rfl,H,A⟩|⟨x2,rfl,rfl,H,A⟩|T
 ·show AW _ _ _ _ _ _ _;refine AU 1 (Ao 1 [(4,Ai (-1))] H λD H=>Bf ?_);obtain rfl:=Bc M;exact⟨.inl rfl,_,rH H,rfl,A⟩
 ·obtain rfl:=Bc M;exact⟨.inl rfl,_,rH H,rfl,A⟩
 exact T.elim
def CJ(p0:List Int)(p1:Int):Option (Bool):=
 (CY p0 p1).bind λx1=>some (decide (x1>=0))
theorem HE{p0 p1 rp0 q0}(M:CJ p0 p1=some q0)(A:HH g h [.Ag rp0 3 (Ag (eI .i64) p0)] F)(hc:C1 (cfg.still 52) av=[AY rp0 p0.length,Ai p1]:=by kernel_rfl):∃v Q,CW cfg g h 52 av v Q/\v=.bool q0/\HH g Q [.Ag rp0 3 (Ag (eI .i64) p0)] F:=by
 refine Mg 9 [.tmp 4] hc ?_;clear hc;unfold CJ at M;refine bg 9 [(0,AY rp0 p0.length),(1,Ai p1)] λD H=>?_;refine AU 1 (G3 1 [] 5 H λD H=>?_);obtain⟨x1,X,M⟩:=AJ M;obtain⟨v1,h1,R,rfl,E⟩:=Ht (av:=[AY rp0 p0.length,Ai p1]) X (A.cut 1);replace A:=A.g11 E;refine Ds 2 [] 7 R H λD t H=>?_;refine Ao 2 [(4,.bool (decide (x1>=0)))] H λD H=>Bf ?_;obtain rfl:=Bc M;exact⟨.inl rfl,_,rH H,rfl,A⟩
end
end Go.Av.L
