/-
 A part.
-/
import Derived.Test.YtlddjbgohnlihaaGreatDoorK2
namespace Go.Av.L
open Go.Av Go.Lib
set_option maxRecDepth 10000
set_option linter.unusedVariables false
set_option linter.unusedSimpArgs false
variable {g:Gd} {h:AI} {F:List Ck} {av:List AB}
noncomputable section
def Ci(pp:Int×(List UInt8))(s:(List UInt8)):Option (((List UInt8))⊕(Empty)):=
 match s with
 |z1=>(EK).bind fun x4=>(G8 ([x4.w0,x4.w1,x4.w2,x4.w3,x4.w4,x4.w5,x4.w6,x4.w7,x4.w8,x4.w9,x4.W3,x4.UT]:List Ax) pp.1).bind fun x5=>(W4 z1 x5.from_).bind fun o2=>some (.inl (putAt z1 o2 pp.2))
def EB(pp:Int×Int)(s:(List UInt8)):Option (((List UInt8))⊕(Empty)):=
 match s with
 |z3=>(EK).bind fun x7=>(G8 ([x7.w0,x7.w1,x7.w2,x7.w3,x7.w4,x7.w5,x7.w6,x7.w7,x7.w8,x7.w9,x7.W3,x7.UT]:List Ax) pp.1).bind fun x8=>(Cp pp.2 x8.Dv).bind fun(x9,x10)=>(EK).bind fun x11=>(G8 ([x11.w0,x11.w1,x11.w2,x11.w3,x11.w4,x11.w5,x11.w6,x11.w7,x11.w8,x11.w9,x11.W3,x11.UT]:List Ax) pp.1).bind fun x12=>(W4 z3 x12.from_).bind fun o4=>some (.inl (putAt z3 o4 x9))
theorem L7{z s:List UInt8}{o:Nat}(h:o+s.length≤z.length)(n:Nat):(putAt z o s)[n]?=if o≤n∧n<o+s.length then s[n - o]? else z[n]?:=by
 unfold putAt;rw[zI (l:=s) (by omega)];have ht:(z.take o).length=o:=by rw[zA];omega
 by_cases h1:n<o
 ·rw[List.getElem?_append_left (by omega),List.getElem?_take_of_lt h1,zk (by omega)]
 ·rw[List.getElem?_append_right (by omega),ht];by_cases h2:n<o+s.length
  ·rw[List.getElem?_append_left (by omega),zm (by omega)]
  ·rw[List.getElem?_append_right (by omega),List.getElem?_drop,zk (by omega)];congr 1;omega
theorem U5{z s t:List UInt8}{i j:Nat}(h1:i+s.length≤z.length)(h2:j+t.length≤z.length)(hd:i+s.length≤j∨j+t.length≤i):putAt (putAt z i s) j t=putAt (putAt z j t) i s:=by
 have l1:=Cu (xs:=z) (s:=s) (o:=i) (by omega);have l2:=Cu (xs:=z) (s:=t) (o:=j) (by omega);refine xf fun n=>?_;rw[L7 (by omega),L7 (by omega),L7 (by omega),L7 (by omega)];by_cases a:i≤n∧n<i+s.length
 ·have c:¬(j≤n∧n<j+t.length):=by omega
  simp only[zm a,zk c]
 ·by_cases c:j≤n∧n<j+t.length
  ·simp only[zk a,zm c]
  ·simp only[zk a,zk c]
theorem TM{κ:Type}{step:κ→List UInt8→Option (List UInt8⊕Empty)}{l:List κ}(F:κ→Nat)(T:κ→List UInt8)(Y:∀a∈l,∀z:List UInt8,z.length=512→step a z=some (.inl (putAt z (F a) (T a))))
  (B:∀a∈l,F a+(T a).length≤512) (hd:∀a∈l,∀b∈l,a=b∨F a+(T a).length≤F b∨F b+(T b).length≤F a):∀l',l'.Perm l→∀z:List UInt8,z.length=512→Bv step l' z=Bv step l z:=by
 refine Mr (fun z:List UInt8=>z.length=512) (fun a J z z' I e=>?_) fun a J b Z z I=>?_
 ·rw[Y a J z I]at e;have:=Sum.inl.inj (zJ e);rw[←this,Cu (by have:=B a J;omega)];exact I
 ·have n1:(putAt z (F a) (T a)).length=512:=by rw[Cu (by have:=B a J;omega)];exact I
  have n2:(putAt z (F b) (T b)).length=512:=by rw[Cu (by have:=B b Z;omega)];exact I
  unfold VB;rw[Y a J z I,Y b Z z I];dsimp only;rw[Y b Z _ n1,Y a J _ n2];rcases hd a J b Z with rfl|h
  ·rfl
  ·rw[U5 (by have:=B a J;omega) (by have:=B b Z;omega) h]
def W5(k:Int):Nat:=if k=0 then 0 else if k=11 then 345 else if k=6 then 157 else if k=7 then 265 else 297
theorem Rc{z:List UInt8}(I:z.length=512){o:Nat}(O:o≤512):W4 z (o:Int)=some o:=by
 unfold W4;rw[zm ⟨by omega,by omega⟩,zN]
theorem GB{a:Int×List UInt8}(h:a.1=0∨a.1=11∨a.1=6∨a.1=7∨a.1=8){z:List UInt8}(I:z.length=512):Ci a z=some (.inl (putAt z (W5 a.1) a.2)):=by
 obtain⟨k,s⟩:=a;dsimp only at h;have g:∀o:Nat,o≤512→(W4 z (o:Int)).bind (fun o2=>some (.inl (putAt z o2 s)))=some (.inl (putAt z o s):List UInt8⊕Empty):=fun o O=>by rw[Rc I O];rfl
 rcases h with rfl|rfl|rfl|rfl|rfl
 ·exact g 0 (by omega)
 ·exact g 345 (by omega)
 ·exact g 157 (by omega)
 ·exact g 265 (by omega)
 ·exact g 297 (by omega)
theorem zero_eq(s:List UInt8):Bg s 0=some (idxOf s 0):=by
 unfold Bg DC H3;rfl
def EW(s:List UInt8):Bool:=decide (0≤idxOf s 0)
theorem PW(p0:AN):loop (C8 p0) 0=some (if EW p0.Name||(EW p0.Ah||(EW p0.AZ||EW p0.Ad))then .inr 2 else .inl ()):=by
 have st:∀(k:Nat) (s:List UInt8),[p0.Name,p0.Ah,p0.AZ,p0.Ad][k]?=some s→C8 p0 (k:Int)=some (if EW s then .inr (.inr 2)else .inl ((k+1:Nat):Int)):=by
  intro k s Y;have hk:k<4:=by have:=(List.getElem?_eq_some_iff.1 Y).1;simpa using this
  rw[C8,zf (by simp;omega),AQ,Rz Y,za,zero_eq,za,Fc,DK (by omega) (by omega)];unfold EW;by_cases h:0≤idxOf s 0
  ·rw[zm h,zf h,zm rfl]
  ·rw[zk h,zi h,zk (by simp)];rfl
 have en:C8 p0 ((4:Nat):Int)=some (.inr (.inl ())):=by rw[C8];rfl
 have s0:=st 0 _ rfl;have s1:=st 1 _ rfl;have s2:=st 2 _ rfl;have s3:=st 3 _ rfl;show loop (C8 p0) ((0:Nat):Int)=_;cases h0:EW p0.Name with
 |true=>rw[h0]at s0;rw[Dn (by rw[s0];rfl)];rfl
 | false=>
  rw[h0]at s0;rw[B7 (s':=((0+1:Nat):Int)) (by rw[s0];rfl)];cases h1:EW p0.Ah with
  |true=>rw[h1]at s1;rw[Dn (r:=.inr 2) (by rw[s1];rfl)];rfl
  | false=>
   rw[h1]at s1;rw[B7 (s':=((1+1:Nat):Int)) (by rw[s1];rfl)];cases h2:EW p0.AZ with
   |true=>rw[h2]at s2;rw[Dn (r:=.inr 2) (by rw[s2];rfl)];rfl
   | false=>
    rw[h2]at s2;rw[B7 (s':=((2+1:Nat):Int)) (by rw[s2];rfl)];cases K:EW p0.Ad with
    |true=>rw[K]at s3;rw[Dn (r:=.inr 2) (by rw[s3];rfl)];rfl
    |false=>
     rw[K]at s3;rw[B7 (s':=((3+1:Nat):Int)) (by rw[s3];rfl),Dn en];rfl
theorem P5{p0:AN}{l:List (Int×List UInt8)}{b:Bool}{x1:Int}(h1:BT p0=some x1)(h2:(x1 !=(0:Int))=false)(X:Br p0=some (l,b)):b=true∧∀a∈l,(a.2.length:Int)≤U0 a.1:=by
 have h0:x1=0:=by simpa using h2
 subst h0;unfold BT at h1;obtain⟨o1,O,h1⟩:=bind_some h1;cases o1 with
 |inr x2=>
  exfalso;rw[PW]at O;have e:=zJ O;dsimp only at h1;have e2:=zJ h1;subst e2;split at e
  ·cases e
  ·cases e
 | inl u=>
  dsimp only at h1;rw[X,za]at h1;dsimp only at h1;rw[N7 l b (Hl X),za]at h1;dsimp only at h1;cases I:(b&&l.all fun a=>decide ((a.2.length:Int)≤U0 a.1))with
  |false=>rw[I]at h1;simp at h1
  |true=>
   rw[zh,zn]at I;exact⟨I.1,fun a J=>by simpa using I.2 a J⟩
theorem H0{p0:AN}{l:List (Int×List UInt8)}{b:Bool}{x1:Int}(h1:BT p0=some x1)(h2:(x1 !=(0:Int))=false)(X:Br p0=some (l,b)):
  ∀l',l'.Perm l→Bv Ci l' (List.replicate (512:Int).toNat (0:UInt8))=Bv Ci l (List.replicate (512:Int).toNat (0:UInt8)):=by
 obtain⟨_,hl⟩:=P5 h1 h2 X;have hk:=Hl X;obtain⟨p,q,_,rfl⟩:=UC X;have n1:=hl (0,q) (by simp);have n2:=hl (11,p) (by simp);have n3:=hl (6,p0.Ah) (by simp);have n4:=hl (7,p0.AZ) (by simp);have n5:=hl (8,p0.Ad) (by simp);simp only[U0]at n1 n2 n3 n4 n5;refine fun l' hl'=>TM (fun a=>W5 a.1) (fun a=>a.2) (fun a J z I=>GB (hk a J) I) (fun a J=>?_) (fun a J c hc=>?_) l' hl' _ (by rw[zT];rfl)
 ·simp only[zF,yz,or_false]at J;rcases J with rfl|rfl|rfl|rfl|rfl<;>simp[W5]at * <;>omega
 ·simp only[zF,yz,or_false]at J hc;rcases J with rfl|rfl|rfl|rfl|rfl<;>rcases hc with rfl|rfl|rfl|rfl|rfl<;>first|exact .inl rfl|(simp[W5]at * <;>omega)
theorem PQ:∀(l:List (Int×List UInt8)) (z z':List UInt8),(∀a∈l,a.1=0∨a.1=11∨a.1=6∨a.1=7∨a.1=8)→z.length=512→(∀a∈l,W5 a.1+a.2.length≤512)→Bv Ci l z=some (.inl z')→z'.length=512
 |[],z,z',_,I,_,e=>by
  simp only[Bv,zd,Sum.inl.injEq]at e;rw[←e];exact I
 |a::l,z,z',hk,I,B,e=>by
  rw[Bv,GB (hk a (by simp)) I]at e;dsimp only at e;exact PQ l _ z' (fun c hc=>hk c (by simp[hc])) (by rw[Cu (by have:=B a (by simp);omega)];exact I) (fun c hc=>B c (by simp[hc])) e
theorem Tn{l:List (Int×List UInt8)}(hk:∀a∈l,a.1=0∨a.1=11∨a.1=6∨a.1=7∨a.1=8)(hl:∀a∈l,(a.2.length:Int)≤U0 a.1):∀a∈l,W5 a.1+a.2.length≤512:=by
 intro a J;have h1:=hl a J;obtain⟨k,s⟩:=a;have h2:=hk _ J;dsimp only at h1 h2⊢;rcases h2 with rfl|rfl|rfl|rfl|rfl<;>simp[U0]at h1<;>simp[W5]<;>omega
def X7(k:Int):Nat:=if k=1 then 100 else if k=2 then 108 else if k=3 then 116 else if k=4 then 124 else if k=5 then 136 else if k=9 then 329 else 337
def Qm(a:Int×Int):List UInt8:=if NZ a then CE a.2.toNat (if a.1=4∨a.1=5 then 12 else 8)else[]
theorem Ly(a:Int×Int):(Qm a).length≤if a.1=4∨a.1=5 then 12 else 8:=by
 unfold Qm;split
 ·rw[Dc (by split<;>omega)];exact zC _
 ·simp
theorem FN{a:Int×Int}(h:a.1=1∨a.1=2∨a.1=3∨a.1=4∨a.1=5∨a.1=9∨a.1=10){z:List UInt8}(I:z.length=512):EB a z=some (.inl (putAt z (X7 a.1) (Qm a))):=by
 obtain⟨k,v⟩:=a;dsimp only at h;have e8:=LB v (k:=7) (by omega) (by omega);have e12:=LB v (k:=11) (by omega) (by omega);have p8:(8:Int)^7=2097152:=rfl;have p12:(8:Int)^11=8589934592:=rfl;rw[p8]at e8;rw[p12]at e12;have g8:∀k:Int,¬(k=4∨k=5)→∀o:Nat,o≤512→(Cp v 8).bind (fun(x:List UInt8×Bool)=>match x with|(x9,x10)=>(W4 z (o:Int)).bind fun o4=>some (.inl (putAt z o4 x9)))=some (.inl (putAt z o (Qm (k,v))):List UInt8⊕Empty):=fun k hk o O=>by
  rw[show(8:Int)=((7+1:Nat):Int) from rfl,e8,za];unfold Qm NZ;dsimp only;rw[zk hk,zk hk];by_cases W:0≤v∧v<2097152
  ·simp only[zm W,zf W,if_true,Rc I O,za]
  ·simp only[zk W,zi W,yu,if_false,Rc I O,za]
 have g12:∀k:Int,(k=4∨k=5)→∀o:Nat,o≤512→(Cp v 12).bind (fun(x:List UInt8×Bool)=>match x with|(x9,x10)=>(W4 z (o:Int)).bind fun o4=>some (.inl (putAt z o4 x9)))=some (.inl (putAt z o (Qm (k,v))):List UInt8⊕Empty):=fun k hk o O=>by
  rw[show(12:Int)=((11+1:Nat):Int) from rfl,e12,za];unfold Qm NZ;dsimp only;rw[zm hk,zm hk];by_cases W:0≤v∧v<8589934592
  ·simp only[zm W,zf W,if_true,Rc I O,za]
  ·simp only[zk W,zi W,yu,if_false,Rc I O,za]
 rcases h with rfl|rfl|rfl|rfl|rfl|rfl|rfl
 ·exact g8 1 (by omega) 100 (by omega)
 ·exact g8 2 (by omega) 108 (by omega)
 ·exact g8 3 (by omega) 116 (by omega)
 ·exact g12 4 (by omega) 124 (by omega)
 ·exact g12 5 (by omega) 136 (by omega)
 ·exact g8 9 (by omega) 329 (by omega)
 ·exact g8 10 (by omega) 337 (by omega)
theorem H2{p0:AN}{l:List (Int×List UInt8)}{m:List (Int×Int)}{b:Bool}{x1:Int}{z:List UInt8}(h1:BT p0=some x1)(h2:(x1 !=(0:Int))=false)(X:Br p0=some (l,b))
  (K:Bv Ci l (List.replicate (512:Int).toNat (0:UInt8))=some (.inl z)) (W:CN p0=some m):∀l',l'.Perm m→Bv EB l' z=Bv EB m z:=by
 obtain⟨_,hl⟩:=P5 h1 h2 X;have I:=PQ l _ z (Hl X) (by rw[zT];rfl) (Tn (Hl X) hl) K;have hk:=LG W;refine fun l' hl'=>TM (fun a=>X7 a.1) Qm (fun a J z I=>FN (hk a J) I) (fun a J=>?_) (fun a J c hc=>?_) l' hl' _ I
 ·have:=Ly a;obtain⟨k,v⟩:=a;have h:=hk _ J;dsimp only at h this⊢;rcases h with rfl|rfl|rfl|rfl|rfl|rfl|rfl<;>simp at this<;>simp[X7]<;>omega
 ·rw[Qv W]at J hc;have n1:=Ly a;have n2:=Ly c;simp only[zF,yz,or_false]at J hc;rcases J with rfl|rfl|rfl|rfl|rfl|rfl|rfl<;>rcases hc with rfl|rfl|rfl|rfl|rfl|rfl|rfl<;>first|exact .inl rfl|(simp at n1 n2;simp[X7];omega)
def En(p0:AN):Option ((List UInt8)×Int):=
 (BT p0).bind fun x1=>AX (x1 !=0) (some (([]:UV),x1)) (Bn (aX 1 (512:Int))<|(Br p0).bind fun(x2,x3)=>(Bv (Ci) x2 (List.replicate (512:Int).toNat (0:UInt8))).bind fun o=>(match o with| .inl z2=>(CN p0).bind fun x6=>(Bv (EB) x6 z2).bind fun o=>(match o with| .inl z4=>((G8 z4 (156:Int)).bind fun x14=>(Z2 p0.Kind).bind fun x15=>AX (p0.Kind==0) ((G8 (z4.set (156:Int).toNat x15) (156:Int)).bind fun x16=>some ((z4.set (156:Int).toNat x15).set (156:Int).toNat (48:UInt8))) (some (z4.set (156:Int).toNat x15)):Option (((List UInt8)))).bind fun x13=>(W4 x13 (257:Int)).bind fun o6=>(GI (putAt x13 o6 ([117,115,116,97,114,0,48,48]:UV))).bind fun(x17,x18)=>some (x17,x18)| .inr y=>y.elim)| .inr y=>y.elim))
theorem Kt{p0 q0 q1}(M:En p0=some (q0,q1))(A:HH g h [] F)(hc:BA (cfg.still 57) av=[.agg (AL p0)]:=by kernel_rfl):∃v Q,BI cfg g h 57 av v Q∧v=.tuple [.str q0,Ai q1]∧HH g Q [] F:=by
 refine Vp (n:=82) (rs:=[.tmp 2,.tmp 3]) (by kernel_rfl) hc (by kernel_rfl) ?_;clear hc;unfold En at M;refine YX (n:=82) [(0,.agg (AL p0))] (by kernel_rfl) (by kernel_rfl) ?_;intro D H;refine Gm ?_;refine J0 ?_;refine BH 3 ?_;obtain⟨h1,e1,A⟩:=A.pu (.cells none 2 (AL p0));refine A9 1 (.ptr (some (h.size,0))) e1 H fun D t H=>?_;refine AG 2 [] H fun D H=>at_nil ?_;show Q9 cfg 57 g (right (GX cfg.P 57)) D h1 _;refine Gm ?_;refine J0 ?_;refine AF 3 (Aa 14 _ _ H (fun D=>.of (Ay (by kernel_rfl) (A.DY 0 rfl (o:=0) (n:=13) ⟨zb rfl,rfl⟩))) fun D t H=>?_);obtain⟨x1,X,M⟩:=bind_some M;obtain⟨v1,h2,R,rfl,E⟩:=DT (av:=[.agg (AL p0)]) X (A.cut 0);replace A:HH g h2 [.obj h.size (.cells none 2 (AL p0))] F:=A.HN (n:=0) E;refine A5 15 R H fun D t H=>?_;refine Bk 1 [(4,Ai x1)] 2 H fun D H=>AM 2 [(17,.bool (x1 !=0))] H fun D H=>AU 17 H M (fun B M H=>?_) fun B M H=>?_
 ·refine AF 3 (AM 3 [(2,.str ([]:UV)),(3,Ai x1)] H fun D H=>AY ?_);obtain⟨rfl,rfl⟩:=B3 M;refine⟨.inl rfl,.tuple [.str ([]:UV),Ai x1],rH H,?_⟩;replace A:=A.d0;exact⟨rfl,A⟩
 refine Dp ?_;show Q9 cfg 57 g (right (right (GX cfg.P 57))) D h2 _;refine Gm ?_;refine J0 ?_;refine BH 2 ?_;obtain⟨B,M⟩:=Ag M;obtain⟨K,e2,A⟩:=A.pL 5 (Af eY (List.replicate (512:Int).toNat (0:UInt8)));refine Aa 19 (AP (some h2.size) (List.replicate (512:Int).toNat (0:UInt8)).length) K H (fun D=>.of (Y3 (e:=eY) KH (x:=(0:UInt8)) (by kernel_rfl) B (congrArg some e2.symm))) fun D t H=>?_;refine AG 1 [(5,AP (some h2.size) ((List.replicate (512:Int).toNat (0:UInt8)).length))] H fun D H=>at_nil ?_;show Q9 cfg 57 g (right (right (right (GX cfg.P 57)))) D K _;refine Gm ?_;refine J0 ?_;refine BH 7 (Aa 21 _ _ H (fun D=>.of (Ay (by kernel_rfl) (A.DY 1 rfl (o:=0) (n:=13) ⟨zb rfl,rfl⟩))) fun D t H=>?_);obtain⟨⟨x2,x3⟩,X,M⟩:=bind_some M;obtain⟨v1,h4,R,bqw2,rfl,E⟩:=Kv (av:=[.agg (AL p0)]) X (A.cut 0);replace A:HH g h4 [.obj bqw2 (.map 2 (GH (fun k:Int=>Ai k) (fun v:List UInt8=>.str v) x2)),.Af (some h2.size) 5 (Af eY (List.replicate (512:Int).toNat (0:UInt8))),_] F:=A.HN (n:=0) E;refine A5 22 R H fun D t H=>?_;refine AG 5 [(6,.map (some bqw2))] H fun D H=>at_nil ?_;show Q9 cfg 57 g (right (right (right (right (GX cfg.P 57))))) D h4 _;refine Gm ?_;refine PH 1 [26,5,1] [] (some 5) ?_;refine AG 1 [(25,.map (some bqw2))] H fun D H=>at_nil ?_;obtain⟨o1,O,M⟩:=bind_some M;refine Ta (step:=Ci) (l:=x2) (s0:=(List.replicate (512:Int).toNat (0:UInt8))) (x0:=o1) (enc:=fun p=>((fun k:Int=>Ai k) p.1,(fun v:List UInt8=>.str v) p.2)) (V:=(fun(z1:(List UInt8))=>[(1,.ptr (some (h.size,0)))])) (row:=(fun(z1:(List UInt8))=>z1)) 0 1 h2.size 26 27 29 5 4 152 3 9 (.tmp 25) A H O (by first|exact H0|(apply H0<;>assumption)) rfl rfl (by decide) (fun D=>by kernel_rfl) (fun D=>by kernel_rfl) (fun _=>rfl) (fun s=>by exact(Kn.cons (A.cB 2 rfl _) Kn.nil)) ?_ ?_
 ·clear O M H A;intro pp hpp s x M D U it g F A H;obtain⟨z1,S⟩:∃z,z=s:=⟨_,rfl⟩;subst S;unfold Ci at M;replace H:=H.less [(1,.ptr (some (h.size,0))),(5,AP (some h2.size) z1.length),(26,it),(29,.tuple [Ai pp.1,.str pp.2])] (fun D=>by kernel_rfl);refine aH 4 [(8,Ai pp.1),(9,.str pp.2)] 8 H fun D H=>?_;obtain⟨x4,X,M⟩:=bind_some M;obtain⟨v1,h6,R,rfl,E⟩:=FE (av:=[]) X (A.cut 0);replace A:=A.Dx E;refine Az 1 [(32,AP (some h2.size) z1.length)] 33 R H fun D t H=>?_;obtain⟨x5,hq1,M⟩:=bind_some M;refine Aq 1 [] 35 (.agg [Ai x5.from_,Ai x5.Dv]) h6 H (fun D=>.of (NY (e:=Ef) (x:=x5) Eo [x4.w0,x4.w1,x4.w2,x4.w3,x4.w4,x4.w5,x4.w6,x4.w7,x4.w8,x4.w9,x4.W3,x4.UT] (by kernel_rfl) rfl rfl hq1)) fun D t H=>?_;obtain⟨o2,hv1,M⟩:=bind_some M;refine Aq 1 [] 37 (.slice (some (h2.size,o2)) (z1.length - o2)) h6 H (fun D=>.of (U7 (s:=Cr (some h2.size) z1.length) (t:=⟨some (h2.size,o2),z1.length - o2⟩) (k:=.i64) (k':=.i64) (lo:=some x5.from_) (hi:=none) (by kernel_rfl) (HH.vw A 0 rfl hv1 (by kernel_rfl)))) fun D t H=>?_;refine AG 1 [(38,.str pp.2)] H fun D H=>?_;obtain⟨h7,hc,E⟩:=HH.bA A 0 rfl hv1 pp.2;have hl1:(putAt z1 o2 pp.2).length=z1.length:=Cu (LF hv1).2.2;have el:AP (some h2.size) z1.length=AP (some h2.size) (putAt z1 o2 pp.2).length:=congrArg _ (Cu (LF hv1).2.2).symm
  try rw[el]at H
  replace A:HH g h7 [.Af (some h2.size) 5 (Af eY (putAt z1 o2 pp.2))] F:=E;refine IE (Ai ((min pp.2.length (z1.length - o2):Nat):Int)) h7 H (fun D=>.of (Y6 (d:=⟨some (h2.size,o2),z1.length - o2⟩) (by kernel_rfl) hc)) fun D t H=>?_;refine at_nil ?_;have el:AP (some h2.size) z1.length=AP (some h2.size) (putAt z1 o2 pp.2).length:=congrArg _ (hl1).symm
  try rw[el]at H
  exact⟨.inl rfl,_,(zJ M).symm,H.ls,A⟩
 intro s Y D h8 A H;subst Y;obtain⟨z2,S⟩:∃z,z=s:=⟨_,rfl⟩;subst S;replace H:=H.less [(1,.ptr (some (h.size,0))),(5,AP (some h2.size) z2.length)] (fun D=>by kernel_rfl);show Q9 cfg 57 g (right (right (right (right (right (GX cfg.P 57)))))) D h8 _;refine Gm ?_;refine PH 2 [42,5,1] [] (some 5) ?_;refine Aa 40 _ _ H (fun D=>.of (Ay (by kernel_rfl) (A.DY 1 rfl (o:=0) (n:=13) ⟨zb rfl,rfl⟩))) fun D t H=>?_;obtain⟨x6,X,M⟩:=bind_some M;obtain⟨v1,h9,R,bqw5,rfl,E⟩:=KV (av:=[.agg (AL p0)]) X (A.cut 0);replace A:=A.aP E;refine A5 41 R H fun D t H=>?_;refine at_nil ?_;obtain⟨o3,O,M⟩:=bind_some M;refine Ta (step:=EB) (l:=x6) (s0:=z2) (x0:=o3) (enc:=fun p=>((fun k:Int=>Ai k) p.1,(fun v:Int=>Ai v) p.2)) (V:=(fun(z3:(List UInt8))=>[(1,.ptr (some (h.size,0)))])) (row:=(fun(z3:(List UInt8))=>z3)) 0 1 h2.size 42 43 45 5 4 159 3 3 (.tmp 41) A H O (by first|exact H2|(apply H2<;>assumption)) rfl rfl (by decide) (fun D=>by kernel_rfl) (fun D=>by kernel_rfl) (fun _=>rfl) (fun s=>by exact(Kn.cons (A.cB 2 rfl _) Kn.nil)) ?_ ?_
 ·clear O M H A;intro pp hpp s x M D h10 it g F A H;obtain⟨z3,S⟩:∃z,z=s:=⟨_,rfl⟩;subst S;unfold EB at M;replace H:=H.less [(1,.ptr (some (h.size,0))),(5,AP (some h2.size) z3.length),(42,it),(45,.tuple [Ai pp.1,Ai pp.2])] (fun D=>by kernel_rfl);refine Bk 4 [(10,Ai pp.1),(11,Ai pp.2)] 11 H fun D H=>?_;obtain⟨x7,X,M⟩:=bind_some M;obtain⟨v1,h11,R,rfl,E⟩:=FE (av:=[]) X (A.cut 0);replace A:=A.Dx E;refine Az 1 [(49,Ai pp.2)] 50 R H fun D t H=>?_;obtain⟨x8,hq2,M⟩:=bind_some M;refine Aq 1 [] 52 (.agg [Ai x8.from_,Ai x8.Dv]) h11 H (fun D=>.of (NY (e:=Ef) (x:=x8) Eo [x7.w0,x7.w1,x7.w2,x7.w3,x7.w4,x7.w5,x7.w6,x7.w7,x7.w8,x7.w9,x7.W3,x7.UT] (by kernel_rfl) rfl rfl hq2)) fun D t H=>?_;obtain⟨⟨x9,x10⟩,X,M⟩:=bind_some M;obtain⟨v1,h12,R,rfl,E⟩:=Iw (av:=[Ai pp.2,Ai x8.Dv]) X (A.cut 0);replace A:=A.Dx E;refine Az 1 [] 54 R H fun D t H=>?_;refine aH 5 [(12,.str x9)] 8 H fun D H=>?_;obtain⟨x11,X,M⟩:=bind_some M;obtain⟨v1,h13,R,rfl,E⟩:=FE (av:=[]) X (A.cut 0);replace A:=A.Dx E;refine Az 1 [(57,AP (some h2.size) z3.length)] 58 R H fun D t H=>?_;obtain⟨x12,hq3,M⟩:=bind_some M;refine Aq 1 [] 60 (.agg [Ai x12.from_,Ai x12.Dv]) h13 H (fun D=>.of (NY (e:=Ef) (x:=x12) Eo [x11.w0,x11.w1,x11.w2,x11.w3,x11.w4,x11.w5,x11.w6,x11.w7,x11.w8,x11.w9,x11.W3,x11.UT] (by kernel_rfl) rfl rfl hq3)) fun D t H=>?_;obtain⟨o4,hv2,M⟩:=bind_some M;refine Aq 1 [] 62 (.slice (some (h2.size,o4)) (z3.length - o4)) h13 H (fun D=>.of (U7 (s:=Cr (some h2.size) z3.length) (t:=⟨some (h2.size,o4),z3.length - o4⟩) (k:=.i64) (k':=.i64) (lo:=some x12.from_) (hi:=none) (by kernel_rfl) (HH.vw A 0 rfl hv2 (by kernel_rfl)))) fun D t H=>?_
  refine AG 1 [(63,.str x9)] H fun D H=>?_;obtain⟨h14,hc,E⟩:=HH.bA A 0 rfl hv2 x9;have hl2:(putAt z3 o4 x9).length=z3.length:=Cu (LF hv2).2.2;have el:AP (some h2.size) z3.length=AP (some h2.size) (putAt z3 o4 x9).length:=congrArg _ (Cu (LF hv2).2.2).symm
  try rw[el]at H
  replace A:HH g h14 [.Af (some h2.size) 5 (Af eY (putAt z3 o4 x9))] F:=E;refine IE (Ai ((min x9.length (z3.length - o4):Nat):Int)) h14 H (fun D=>.of (Y6 (d:=⟨some (h2.size,o4),z3.length - o4⟩) (by kernel_rfl) hc)) fun D t H=>?_;refine at_nil ?_;have el:AP (some h2.size) z3.length=AP (some h2.size) (putAt z3 o4 x9).length:=congrArg _ (hl2).symm
  try rw[el]at H
  exact⟨.inl rfl,_,(zJ M).symm,H.ls,A⟩
 intro s Y D h15 A H;subst Y;obtain⟨z4,S⟩:∃z,z=s:=⟨_,rfl⟩;subst S;replace H:=H.less [(1,.ptr (some (h.size,0))),(5,AP (some h2.size) z4.length)] (fun D=>by kernel_rfl);show Q9 cfg 57 g (right (right (right (right (right (right (GX cfg.P 57))))))) D h15 _;refine J0 ?_;refine AO ?_;obtain⟨o5,O,M⟩:=bind_some M;refine An (Q':=fun e N Q=>(∃x13,e=.normal∧x13=o5∧∃(hl3:x13.length=z4.length),Has N 82 [(5,AP (some h2.size) x13.length)]∧HH g Q [.Af (some h2.size) 5 (Af eY x13)] F)∨False) ?_ ?_
 ·replace M:=O;clear O;refine AF 5 (AS 2 [(65,AP (some h2.size) z4.length)] 67 1 2 A H fun D t H=>?_);obtain⟨x14,X,M⟩:=bind_some M;obtain⟨i1,er1,_,X,hq4⟩:=HH.QT KH (by decide) A 0 (xs:=z4) rfl X;refine Aa 68 (.ptr (some (i1,(156:Int).toNat*1))) h15 H (fun D=>.of (GV (s:=Cr (some h2.size) z4.length) (by kernel_rfl) X)) fun D t H=>?_;obtain⟨x15,X,M⟩:=bind_some M;have X:=XK X;rw[X]at H;obtain⟨h16,X,E⟩:=HH.eG KH A 0 rfl er1 hq4 (y:=x15) (o:=0) (new:=[Ab (x15.toNat:Int)]) rfl rfl (zb rfl);have hl4:(z4.set (156:Int).toNat x15).length=z4.length:=yp;have el:AP (some h2.size) z4.length=AP (some h2.size) (z4.set (156:Int).toNat x15).length:=congrArg _ yp.symm
  try rw[el]at H
  try rw[el]at E
  replace A:HH g h16 [.Af (some h2.size) 5 (Af eY (z4.set (156:Int).toNat x15)),_] F:=E;refine Ls X H fun D t H=>?_;refine Be 3 id (AS 1 [] 70 1 2 A H fun D t H=>?_);refine AM 1 [(71,.bool (p0.Kind==0))] H fun D H=>AU 71 H M (fun B M H=>?_) fun B M H=>?_
  ·refine BH 3 ?_;obtain⟨x16,X,M⟩:=bind_some M;obtain⟨i2,er2,_,X,hq5⟩:=HH.QT KH (by decide) A 0 (xs:=(z4.set (156:Int).toNat x15)) rfl X;refine Aq 1 [] 73 (.ptr (some (i2,(156:Int).toNat*1))) h16 H (fun D=>.of (GV (s:=Cr (some h2.size) ((z4.set (156:Int).toNat x15).length)) (by kernel_rfl) X)) fun D t H=>?_;obtain⟨h17,X,E⟩:=HH.eG KH A 0 rfl er2 hq5 (y:=(48:UInt8)) (o:=0) (new:=[Ab 48]) rfl rfl (zb rfl);have hl5:((z4.set (156:Int).toNat x15).set (156:Int).toNat (48:UInt8)).length=z4.length:=yp.trans hl4;have el:AP (some h2.size) (z4.set (156:Int).toNat x15).length=AP (some h2.size) ((z4.set (156:Int).toNat x15).set (156:Int).toNat (48:UInt8)).length:=congrArg _ yp.symm
   try rw[el]at H
   try rw[el]at E
   replace A:HH g h17 [.Af (some h2.size) 5 (Af eY ((z4.set (156:Int).toNat x15).set (156:Int).toNat (48:UInt8))),_] F:=E;refine Ls X H fun D t H=>?_;refine at_nil ?_;replace A:=A.d1;exact .inl ⟨_,rfl,Ac M,hl5,H.ls,A⟩
  refine Dp ?_;replace A:=A.d1;exact .inl ⟨_,rfl,Ac M,hl4,H.ls,A⟩
 clear O;clear A;intro e D h18 hQ;rcases hQ with⟨x13,rfl,rfl,hl3,H,A⟩|hF
 ·show AW _ _ _ _ _ _ _;refine AF 3 ?_;obtain⟨o6,hv3,M⟩:=bind_some M;refine Aq 1 [] 75 (.slice (some (h2.size,o6)) (x13.length - o6)) h18 H (fun D=>.of (U7 (s:=Cr (some h2.size) x13.length) (t:=⟨some (h2.size,o6),x13.length - o6⟩) (k:=.i64) (k':=.i64) (lo:=some (257:Int)) (hi:=none) (by kernel_rfl) (HH.vw A 0 rfl hv3 (by kernel_rfl)))) fun D t H=>?_;obtain⟨h19,hc,E⟩:=HH.bA A 0 rfl hv3 ([117,115,116,97,114,0,48,48]:UV);have hl6:(putAt x13 o6 ([117,115,116,97,114,0,48,48]:UV)).length=z4.length:=(Cu (LF hv3).2.2).trans hl3;have el:AP (some h2.size) x13.length=AP (some h2.size) (putAt x13 o6 ([117,115,116,97,114,0,48,48]:UV)).length:=congrArg _ (Cu (LF hv3).2.2).symm
  try rw[el]at H
  replace A:HH g h19 [.Af (some h2.size) 5 (Af eY (putAt x13 o6 ([117,115,116,97,114,0,48,48]:UV)))] F:=E;refine IE (Ai ((min ([117,115,116,97,114,0,48,48]:UV).length (x13.length - o6):Nat):Int)) h19 H (fun D=>.of (Y6 (d:=⟨some (h2.size,o6),x13.length - o6⟩) (by kernel_rfl) hc)) fun D t H=>?_;refine Be 7 id (AG 1 [(77,AP (some h2.size) ((putAt x13 o6 ([117,115,116,97,114,0,48,48]:UV)).length))] H fun D H=>Aa 78 (.str (putAt x13 o6 ([117,115,116,97,114,0,48,48]:UV))) h19 H (fun D=>.of (TS (xs:=putAt x13 o6 ([117,115,116,97,114,0,48,48]:UV)) A 0 rfl (by kernel_rfl))) fun D t H=>?_);obtain⟨⟨x17,x18⟩,X,M⟩:=bind_some M;obtain⟨v1,h20,R,rfl,E⟩:=Rf (av:=[.str (putAt x13 o6 ([117,115,116,97,114,0,48,48]:UV))]) X (A.cut 0);replace A:=A.Dx E;refine A5 79 R H fun D t H=>?_;refine AM 4 [(2,.str x17),(3,Ai x18)] H fun D H=>AY ?_;obtain⟨rfl,rfl⟩:=B3 M;refine⟨.inl rfl,.tuple [.str x17,Ai x18],rH H,?_⟩;replace A:=A.d0;exact⟨rfl,A⟩
 exact hF.elim
def Fy(p0:List AA):Option ((List UInt8)×Int):=
 (E0 p0).bind fun(x1,x2)=>AX ((x2 !=0)||(x1==([]:UV))) (some (([]:UV),x2)) ((En (⟨([80,97,120,72,101,97,100,101,114,115]:UV),([]:UV),(120:Int),(420:Int),(0:Int),(0:Int),(x1.length:Int),(0:Int),([]:UV),([]:UV),(0:Int),(0:Int),(0:Int)⟩:AN)).bind fun(x3,x4)=>(I9 x1).bind fun x5=>(Eg ([x3,x5]:List (List UInt8))).bind fun x6=>some (x6,x4))
theorem M7{p0 rp0 q0 q1}(M:Fy p0=some (q0,q1))(A:HH g h [.Af rp0 106 (Af AD p0)] F)(hc:BA (cfg.still 55) av=[AP rp0 p0.length]:=by kernel_rfl):∃v Q,BI cfg g h 55 av v Q∧v=.tuple [.str q0,Ai q1]∧HH g Q [.Af rp0 106 (Af AD p0)] F:=by
 refine EL 32 [.tmp 2,.tmp 3] hc ?_;clear hc;unfold Fy at M;refine bg 32 [(0,AP rp0 p0.length)] fun D H=>?_;refine AF 2 (Bk 2 [] 7 H fun D H=>?_);obtain⟨⟨x1,x2⟩,X,M⟩:=bind_some M;obtain⟨v1,h1,R,rfl,E⟩:=Mu (av:=[AP rp0 p0.length]) X (A.cut 1);replace A:=A.g11 E;refine Az 1 [] 9 R H fun D t H=>?_;refine AM 5 [(4,.str x1),(5,Ai x2)] H fun D H=>AO (AF 6 (AG 3 [(14,.bool (x2 !=0))] H fun D H=>Am 3 (fun N Q=>h1=Q∧Has N 32 [(4,.str x1),(5,Ai x2),(17,.bool ((x2 !=0)||(x1==([]:UV))))]) ?_ ?_))
 ·cases B:(x2 !=0:Bool)with
  |true=>
   replace H:=H.kn 14 B;exact AG 3 [(17,.bool true)] H fun D H=>AV H B
  |false=>
   replace H:=H.kn 14 B;exact AG 3 [(17,.bool (x1==([]:UV)))] H fun D H=>AV H B
 intro t D Q G;obtain⟨e,H⟩:=G;subst e;refine A8 id (AU 17 H M (fun B M H=>?_) fun B M H=>?_)
 ·refine AF 3 (AM 3 [(2,.str ([]:UV)),(3,Ai x2)] H fun D H=>AY ?_);obtain⟨rfl,rfl⟩:=B3 M;exact⟨.inl rfl,_,rH H,rfl,A⟩
 refine BZ 9 id ?_;obtain⟨⟨x3,x4⟩,X,M⟩:=bind_some M;obtain⟨v1,h2,R,rfl,E⟩:=Kt (av:=[.agg [.str ([80,97,120,72,101,97,100,101,114,115]:UV),.str ([]:UV),Ab 120,Ai 420,Ai 0,Ai 0,Ai (x1.length:Int),Ai 0,.str ([]:UV),.str ([]:UV),Ai 0,Ai 0,Ai 0]]) X (A.cut 0);replace A:=A.Dx E;refine Az 3 [] 23 R H fun D t H=>?_;refine Aw 5 [(4,.str x1),(5,Ai x4),(6,.str x3)] H fun D H=>Be 8 id ?_;obtain⟨x5,X,M⟩:=bind_some M;obtain⟨v1,K,R,rfl,E⟩:=Ti (av:=[.str x1]) X (A.cut 0);replace A:=A.Dx E;refine Az 2 [(26,.str x3)] 28 R H fun D t H=>?_;obtain⟨h4,e1,A⟩:=A.pL 9 [.str x3,.str x5];refine A9 29 (AP (some K.size) (([x3,x5]:List (List UInt8)).length)) e1 H fun D t H=>?_;replace A:HH g h4 [.Af (some K.size) 9 (Af eS ([x3,x5]:List (List UInt8))),_] F:=A;obtain⟨x6,X,M⟩:=bind_some M;obtain⟨v1,U,R,rfl,E⟩:=Jr (av:=[AP (some K.size) (([x3,x5]:List (List UInt8)).length)]) X (A.cut 1);replace A:=A.g11 E;refine A5 30 R H fun D t H=>?_;refine AM 3 [(2,.str x6),(3,Ai x4)] H fun D H=>AY ?_;obtain⟨rfl,rfl⟩:=B3 M;refine⟨.inl rfl,.tuple [.str x6,Ai x4],rH H,?_⟩;replace A:=A.k1 1;exact⟨rfl,A⟩
def HB(p0:AJ)(p1:Int):Option (AN×Int):=
 (Fk p0 p1).bind fun x1=>AX (x1 !=0) (some ((⟨([]:UV),([]:UV),(0:Int),(0:Int),(0:Int),(0:Int),(0:Int),(0:Int),([]:UV),([]:UV),(0:Int),(0:Int),(0:Int)⟩:AN),x1)) ((GR p0 p1).bind fun(x2,x3)=>some (x2,(0:Int)))
theorem Qe{p0 p1 q0 q1}(M:HB p0 p1=some (q0,q1))(A:HH g h [] F)(hc:BA (cfg.still 56) av=[.agg (AE p0),Ai p1]:=by kernel_rfl):∃v Q,BI cfg g h 56 av v Q∧v=.tuple [.agg (AL q0),Ai q1]∧HH g Q [] F:=by
 refine EL 23 [.cell 4 75,.tmp 5] hc ?_;clear hc;unfold HB at M;refine bg 23 [(0,.agg (AE p0)),(1,Ai p1)] fun D H=>?_;refine AF 3 ?_;obtain⟨h1,e1,A⟩:=A.pu (.cells none 2 (AE p0));refine A9 2 (.ptr (some (h.size,0))) e1 H fun D t H=>?_;obtain⟨h2,e2,A⟩:=A.pu (.cells none 2 [.str ([]:UV),.str ([]:UV),Ab 0,Ai 0,Ai 0,Ai 0,Ai 0,Ai 0,.str ([]:UV),.str ([]:UV),Ai 0,Ai 0,Ai 0]);refine A9 4 (.ptr (some (h1.size,0))) e2 H fun D t H=>?_;refine AM 1 [] H fun D H=>AO (AF 4 (Aa 9 _ _ H (fun D=>.of (Ay (by kernel_rfl) (A.DY 1 rfl (o:=0) (n:=14) ⟨zb rfl,rfl⟩))) fun D t H=>?_));obtain⟨x1,X,M⟩:=bind_some M;obtain⟨v1,K,R,rfl,E⟩:=Lh (av:=[.agg (AE p0),Ai p1]) X (A.cut 0);replace A:HH g K [.obj h1.size (.cells none 2 [.str ([]:UV),.str ([]:UV),Ab (0:Int),Ai (0:Int),Ai (0:Int),Ai (0:Int),Ai (0:Int),Ai (0:Int),.str ([]:UV),.str ([]:UV),Ai (0:Int),Ai (0:Int),Ai (0:Int)]),.obj h.size (.cells none 2 (AE p0))] F:=A.HN (n:=0) E;refine Az 1 [] 11 R H fun D t H=>?_;refine Bk 1 [(6,Ai x1)] 2 H fun D H=>AM 2 [(13,.bool (x1 !=0))] H fun D H=>AU 13 H M (fun B M H=>?_) fun B M H=>?_
 ·refine AF 4 ?_;obtain⟨h4,X,A⟩:=A.s0 0 [.str ([]:UV),.str ([]:UV),Ab 0,Ai 0,Ai 0,Ai 0,Ai 0,Ai 0,.str ([]:UV),.str ([]:UV),Ai 0,Ai 0,Ai 0] [_,_,_,_,_,_,_,_,_,_,_,_,_];refine FG 2 [(15,Ai x1)] X H fun D t H=>?_;refine AM 1 [(5,Ai x1)] H fun D H=>AY ?_;obtain⟨rfl,rfl⟩:=B3 M;refine⟨.inl rfl,.tuple [.agg [.str ([]:UV),.str ([]:UV),Ab 0,Ai 0,Ai 0,Ai 0,Ai 0,Ai 0,.str ([]:UV),.str ([]:UV),Ai 0,Ai 0,Ai 0],Ai x1],Bs (.cell (rT H) (Bm (by kernel_rfl) (by kernel_rfl) (A.la 0 0 13)) (.tmp (rT H) .nil)),?_⟩;replace A:=A.d0;exact⟨rfl,A⟩
 refine BZ 9 id (Aa 17 _ _ H (fun D=>.of (Ay (by kernel_rfl) (A.DY 1 rfl (o:=0) (n:=14) ⟨zb rfl,rfl⟩))) fun D t H=>?_);obtain⟨⟨x2,x3⟩,X,M⟩:=bind_some M;obtain⟨v1,U,R,rqw3,rfl,E⟩:=Ma (av:=[.agg (AE p0),Ai p1]) X (A.cut 0);replace A:=A.aP E;refine Az 1 [] 19 R H fun D t H=>?_;obtain⟨h6,e3,A⟩:=A.pu (.cells none 2 [.str ([]:UV),.str ([]:UV),Ab 0,Ai 0,Ai 0,Ai 0,Ai 0,Ai 0,.str ([]:UV),.str ([]:UV),Ai 0,Ai 0,Ai 0]);refine IS 3 [(20,.agg (AL x2)),(21,AP rqw3 x3.length)] 7 (.ptr (some (U.size,0))) e3 H fun D t H=>?_;obtain⟨h7,X,A⟩:=A.s0 0 (AL x2) [_,_,_,_,_,_,_,_,_,_,_,_,_];refine Ca X H fun D t H=>?_;refine Bk 1 [] 3 H fun D H=>Aa 22 _ _ H (fun D=>.of (Ay (by kernel_rfl) (A.DY 0 rfl (o:=0) (n:=13) ⟨zb rfl,rfl⟩))) fun D t H=>?_;obtain⟨h8,X,A⟩:=A.s2 0 (AL x2) [_,_,_,_,_,_,_,_,_,_,_,_,_];refine Ca X H fun D t H=>?_;refine AM 1 [(5,Ai 0)] H fun D H=>AY ?_;obtain⟨rfl,rfl⟩:=B3 M;refine⟨.inl rfl,.tuple [.agg (AL x2),Ai 0],Bs (.cell (rT H) (Bm (by kernel_rfl) (by kernel_rfl) (A.la 2 0 13)) (.tmp (rT H) .nil)),?_⟩;replace A:=A.d0;exact⟨rfl,A⟩
def Gf(p0:AJ)(p1:Int):Option ((List UInt8)×Int):=
 (AX (p0.Kind==0) (some (48:Int)) (some p0.Kind):Option ((Int))).bind fun x1=>(HC (⟨p0.Name,p0.Ah,x1,p0.Mode,p0.BO,p0.BW,p0.AZ,p0.Ad,p0.Aj,p0.Ao,p0.Time,p0.Extra,p0.Data⟩:AJ) p1).bind fun x2=>AX (x2 !=0) (some (([]:UV),x2)) ((Fz (⟨p0.Name,p0.Ah,x1,p0.Mode,p0.BO,p0.BW,p0.AZ,p0.Ad,p0.Aj,p0.Ao,p0.Time,p0.Extra,p0.Data⟩:AJ) p1).bind fun(x3,x4)=>(Fy x3).bind fun(x5,x6)=>AX (x6 !=0) (some (([]:UV),x6)) ((HB (⟨p0.Name,p0.Ah,x1,p0.Mode,p0.BO,p0.BW,p0.AZ,p0.Ad,p0.Aj,p0.Ao,p0.Time,p0.Extra,p0.Data⟩:AJ) p1).bind fun(x7,x8)=>(En x7).bind fun(x9,x10)=>(Eg ([x5,x9]:List (List UInt8))).bind fun x11=>some (x11,x10)))
theorem Pc{p0 p1 q0 q1}(M:Gf p0 p1=some (q0,q1))(A:HH g h [] F)(hc:BA (cfg.still 28) av=[.agg (AE p0),Ai p1]:=by kernel_rfl):∃v Q,BI cfg g h 28 av v Q∧v=.tuple [.str q0,Ai q1]∧HH g Q [] F:=by
 refine EL 54 [.tmp 4,.tmp 5] hc ?_;clear hc;unfold Gf at M;refine bg 54 [(0,.agg (AE p0)),(1,Ai p1)] fun D H=>?_;refine AF 3 ?_;obtain⟨h1,e1,A⟩:=A.pu (.cells none 2 (AE p0));refine A9 2 (.ptr (some (h.size,0))) e1 H fun D t H=>?_;refine AM 2 [] H fun D H=>AO ?_;obtain⟨o1,O,M⟩:=bind_some M;refine An (Q':=fun e N Q=>(∃x1,e=.normal∧x1=o1∧Has N 54 [(1,Ai p1),(2,.ptr (some (h.size,0)))]∧HH g Q [.obj h.size (.cells none 2 (A7 p0 (Ab x1)))] F)∨False) ?_ ?_
 ·replace M:=O;clear O;refine AF 3 (AS 1 [] 15 0 2 A H fun D t H=>?_);refine AM 1 [(16,.bool (p0.Kind==0))] H fun D H=>AU 16 H M (fun B M H=>?_) fun B M H=>?_
  ·refine BH 2 ?_;obtain⟨h2,X,A⟩:=A.s0 2 [Ab 48] [_,_,_,_,_,_,_,_,_,_,_,_,_,_];refine Bc 1 [] X H fun D t H=>?_;refine at_nil ?_;exact .inl ⟨_,rfl,Ac M,H.ls,A⟩
  exact Dp (.inl ⟨_,rfl,Ac M,H.ls,A⟩)
 clear O;clear A;intro e D K hQ;rcases hQ with⟨x1,rfl,rfl,H,A⟩|hF
 ·show AW _ _ _ _ _ _ _;refine AO (AF 4 (Aa 18 _ _ H (fun D=>.of (Ay (by kernel_rfl) (A.DY 0 rfl (o:=0) (n:=14) ⟨zb rfl,rfl⟩))) fun D t H=>?_));obtain⟨x2,X,M⟩:=bind_some M;obtain⟨v1,h4,R,rfl,E⟩:=Oz (av:=[.agg (A7 p0 (Ab x1)),Ai p1]) X (A.cut 0);replace A:=A.Dx E;refine Az 1 [] 20 R H fun D t H=>?_;refine Bk 1 [(6,Ai x2)] 2 H fun D H=>AM 2 [(22,.bool (x2 !=0))] H fun D H=>AU 22 H M (fun B M H=>?_) fun B M H=>?_
  ·refine AF 3 (AM 3 [(4,.str ([]:UV)),(5,Ai x2)] H fun D H=>AY ?_);obtain⟨rfl,rfl⟩:=B3 M;refine⟨.inl rfl,.tuple [.str ([]:UV),Ai x2],rH H,?_⟩;replace A:=A.d0;exact⟨rfl,A⟩
  refine BZ 8 id (Aa 25 _ _ H (fun D=>.of (Ay (by kernel_rfl) (A.DY 0 rfl (o:=0) (n:=14) ⟨zb rfl,rfl⟩))) fun D t H=>?_);obtain⟨⟨x3,x4⟩,X,M⟩:=bind_some M;obtain⟨v1,U,R,rqw2,rfl,E⟩:=Ow (av:=[.agg (A7 p0 (Ab x1)),Ai p1]) X (A.cut 0);replace A:=A.aP E;refine Az 1 [] 27 R H fun D t H=>?_;refine Bk 5 [(7,AP rqw2 x3.length)] 7 H fun D H=>?_;obtain⟨⟨x5,x6⟩,X,M⟩:=bind_some M;obtain⟨v1,h6,R,rfl,E⟩:=M7 (av:=[AP rqw2 x3.length]) X (A.cut 1);replace A:=A.g11 E;refine Az 1 [] 32 R H fun D t H=>?_;refine AM 5 [(9,.str x5),(10,Ai x6)] H fun D H=>AO (AF 2 (AM 2 [(36,.bool (x6 !=0))] H fun D H=>AU 36 H M (fun B M H=>?_) fun B M H=>?_))
  ·refine AF 3 (AM 3 [(4,.str ([]:UV)),(5,Ai x6)] H fun D H=>AY ?_);obtain⟨rfl,rfl⟩:=B3 M;refine⟨.inl rfl,.tuple [.str ([]:UV),Ai x6],rH H,?_⟩;replace A:=A.d0;exact⟨rfl,A⟩
  refine BZ 9 id (Aa 39 _ _ H (fun D=>.of (Ay (by kernel_rfl) (A.DY 1 rfl (o:=0) (n:=14) ⟨zb rfl,rfl⟩))) fun D t H=>?_);obtain⟨⟨x7,x8⟩,X,M⟩:=bind_some M;obtain⟨v1,h7,R,rfl,E⟩:=Qe (av:=[.agg (A7 p0 (Ab x1)),Ai p1]) X (A.cut 0);replace A:=A.Dx E;refine Az 1 [] 41 R H fun D t H=>?_;obtain⟨h8,e2,A⟩:=A.pu (.cells none 2 [.str ([]:UV),.str ([]:UV),Ab 0,Ai 0,Ai 0,Ai 0,Ai 0,Ai 0,.str ([]:UV),.str ([]:UV),Ai 0,Ai 0,Ai 0]);refine IS 3 [(42,.agg (AL x7)),(43,Ai x8)] 11 (.ptr (some (h7.size,0))) e2 H fun D t H=>?_;obtain⟨h9,X,A⟩:=A.s0 0 (AL x7) [_,_,_,_,_,_,_,_,_,_,_,_,_];refine Ca X H fun D t H=>?_;refine Bk 1 [] 7 H fun D H=>Aa 45 _ _ H (fun D=>.of (Ay (by kernel_rfl) (A.DY 0 rfl (o:=0) (n:=13) ⟨zb rfl,rfl⟩))) fun D t H=>?_;obtain⟨⟨x9,x10⟩,X,M⟩:=bind_some M;obtain⟨v1,h10,R,rfl,E⟩:=Kt (av:=[.agg (AL x7)]) X (A.cut 0);replace A:=A.Dx E;refine A5 46 R H fun D t H=>?_;refine Aw 5 [(9,.str x5),(10,Ai x10),(13,.str x9)] H fun D H=>Be 7 id (AG 2 [(49,.str x5),(50,.str x9)] H fun D H=>?_);obtain⟨h11,e3,A⟩:=A.pL 9 [.str x5,.str x9];refine A9 51 (AP (some h10.size) (([x5,x9]:List (List UInt8)).length)) e3 H fun D t H=>?_;replace A:HH g h11 [.Af (some h10.size) 9 (Af eS ([x5,x9]:List (List UInt8))),_,_,_] F:=A;obtain⟨x11,X,M⟩:=bind_some M;obtain⟨v1,h12,R,rfl,E⟩:=Jr (av:=[AP (some h10.size) (([x5,x9]:List (List UInt8)).length)]) X (A.cut 1);replace A:=A.g11 E;refine A5 52 R H fun D t H=>?_;refine AM 3 [(4,.str x11),(5,Ai x10)] H fun D H=>AY ?_;obtain⟨rfl,rfl⟩:=B3 M;refine⟨.inl rfl,.tuple [.str x11,Ai x10],rH H,?_⟩
  replace A:=A.d0;exact⟨rfl,A⟩
 exact hF.elim
def Dm(p0:BB)(p1:AJ)(p2:Int):Option ((List UInt8)×Int×BB):=
 AX (p0.FK||p0.FT) (some (([]:UV),(10:Int),p0)) ((Gf p1 p2).bind fun(x1,x2)=>AX (x2 !=0) (some (([]:UV),x2,p0)) (some (x1,(0:Int),(⟨true,p0.FT,p2,p2⟩:BB))))
theorem HE{p0 p1 p2 bp0 q0 q1 u0}(M:Dm p0 p1 p2=some (q0,q1,u0))(A:HH g h [.obj bp0 (.cells none 2 (Bt p0))] F)(hc:BA (cfg.still 10) av=[.ptr (some (bp0,0)),.agg (AE p1),Ai p2]:=by kernel_rfl):∃v Q,BI cfg g h 10 av v Q∧v=.tuple [.str q0,Ai q1]∧HH g Q [.obj bp0 (.cells none 2 (Bt u0))] F:=by
 refine EL 41 [.tmp 6,.tmp 7] hc ?_;clear hc;unfold Dm at M;refine bg 41 [(0,.ptr (some (bp0,0))),(1,.agg (AE p1)),(2,Ai p2)] fun D H=>?_;refine AF 3 ?_;obtain⟨h1,e1,A⟩:=A.pu (.cells none 2 (AE p1));refine A9 4 (.ptr (some (h.size,0))) e1 H fun D t H=>?_;refine AM 2 [] H fun D H=>AO (AF 10 (AS 3 [] 13 1 0 A H fun D t H=>?_));refine AG 1 [(14,.bool p0.FK)] H fun D H=>Am 5 (fun N Q=>h1=Q∧Has N 41 [(0,.ptr (some (bp0,0))),(2,Ai p2),(4,.ptr (some (h.size,0))),(19,.bool (p0.FK||p0.FT))]) ?_ ?_
 ·cases B:(p0.FK:Bool)with
  |true=>
   replace H:=H.kn 14 B;exact AG 5 [(19,.bool true)] H fun D H=>AV H B
  |false=>
   replace H:=H.kn 14 B;refine AS 3 [] 18 1 1 A H fun D t H=>?_;exact AG 1 [(19,.bool p0.FT)] H fun D H=>AV H B
 intro t D Q G;obtain⟨e,H⟩:=G;subst e;refine A8 id (AU 19 H M (fun B M H=>?_) fun B M H=>?_)
 ·refine AF 2 (AM 2 [(6,.str ([]:UV)),(7,Ai 10)] H fun D H=>AY ?_);obtain⟨rfl,rfl,rfl⟩:=Gx M;refine⟨.inl rfl,.tuple [.str ([]:UV),Ai 10],rH H,?_⟩;replace A:=A.k1 1;exact⟨rfl,A⟩
 refine BZ 8 id (Aa 21 _ _ H (fun D=>.of (Ay (by kernel_rfl) (A.DY 0 rfl (o:=0) (n:=14) ⟨zb rfl,rfl⟩))) fun D t H=>?_);obtain⟨⟨x1,x2⟩,X,M⟩:=bind_some M;obtain⟨v1,h2,R,rfl,E⟩:=Pc (av:=[.agg (AE p1),Ai p2]) X (A.cut 0);replace A:HH g h2 [.obj h.size (.cells none 2 (AE p1)),_] F:=A.HN (n:=0) E;refine Az 1 [] 23 R H fun D t H=>?_;refine AM 5 [(8,.str x1),(9,Ai x2)] H fun D H=>AO (AF 2 (AM 2 [(27,.bool (x2 !=0))] H fun D H=>AU 27 H M (fun B M H=>?_) fun B M H=>?_))
 ·refine AF 3 (AM 3 [(6,.str ([]:UV)),(7,Ai x2)] H fun D H=>AY ?_);obtain⟨rfl,rfl,rfl⟩:=Gx M;refine⟨.inl rfl,.tuple [.str ([]:UV),Ai x2],rH H,?_⟩;replace A:=A.k1 1;exact⟨rfl,A⟩
 refine BZ 14 id ?_;obtain⟨K,X,A⟩:=A.s1 0 [.bool true] [_,_,_,_];refine Bc 7 [(30,.ptr (some (bp0,0))),(31,.ptr (some (bp0,0))),(32,Ai p2),(33,Ai p2)] X H fun D t H=>?_;obtain⟨h4,X,A⟩:=A.s1 2 [Ai p2] [_,_,_,_];refine Bc 2 [] X H fun D t H=>?_;obtain⟨U,X,A⟩:=A.s1 3 [Ai p2] [_,_,_,_];refine Bc 2 [] X H fun D t H=>?_;refine Be 3 id (AM 3 [(6,.str x1),(7,Ai 0)] H fun D H=>AY ?_);obtain⟨rfl,rfl,rfl⟩:=Gx M;refine⟨.inl rfl,.tuple [.str x1,Ai 0],rH H,?_⟩;replace A:=A.k1 1;exact⟨rfl,A⟩
def D4(p0:BB)(p1:List UInt8):Option ((List UInt8)×Int×BB):=
 AX (!p0.FK) (some (([]:UV),(10:Int),p0)) (AX (decide ((p1.length:Int)>p0.Je)) (some (([]:UV),(12:Int),p0)) (some (p1,(0:Int),(⟨p0.FK,p0.FT,p0.Dv,IntKind.i64.wrap (p0.Je - (p1.length:Int))⟩:BB))))
theorem HX{p0 p1 bp0 q0 q1 u0}(M:D4 p0 p1=some (q0,q1,u0))(A:HH g h [.obj bp0 (.cells none 2 (Bt p0))] F)(hc:BA (cfg.still 11) av=[.ptr (some (bp0,0)),.str p1]:=by kernel_rfl):∃v Q,BI cfg g h 11 av v Q∧v=.tuple [.str q0,Ai q1]∧HH g Q [.obj bp0 (.cells none 2 (Bt u0))] F:=by
 refine EL 30 [.tmp 4,.tmp 5] hc ?_;clear hc;unfold D4 at M;refine bg 30 [(0,.ptr (some (bp0,0))),(1,.str p1)] fun D H=>?_;refine AF 2 (AM 2 [] H fun D H=>AO (Ae (id:=0) (by kernel_rfl) ?_));refine AF 6 (AS 3 [] 10 0 0 A H fun D t H=>?_);refine AM 2 [(6,.bool (!p0.FK))] H fun D H=>AU 6 H M (fun B M H=>?_) fun B M H=>?_
 ·refine AF 2 (AM 2 [(4,.str ([]:UV)),(5,Ai 10)] H fun D H=>AY ?_);obtain⟨rfl,rfl,rfl⟩:=Gx M;exact⟨.inl rfl,_,rH H,rfl,A⟩
 refine AF 8 (AS 5 [(14,Ai (p1.length:Int))] 18 0 3 A H fun D t H=>?_);refine AM 2 [(12,.bool (decide ((p1.length:Int)>p0.Je)))] H fun D H=>AU 12 H M (fun B M H=>?_) fun B M H=>?_
 ·refine AF 2 (AM 2 [(4,.str ([]:UV)),(5,Ai 12)] H fun D H=>AY ?_);obtain⟨rfl,rfl,rfl⟩:=Gx M;exact⟨.inl rfl,_,rH H,rfl,A⟩
 refine BZ 10 id (AS 3 [(20,.ptr (some (bp0,0)))] 23 0 3 A H fun D t H=>?_);obtain⟨h1,X,A⟩:=A.s0 3 [Ai (IntKind.i64.wrap (p0.Je - (p1.length:Int)))] [_,_,_,_];refine Bc 5 [] X H fun D t H=>?_;refine Be 3 id (AM 3 [(4,.str p1),(5,Ai 0)] H fun D H=>AY ?_);obtain⟨rfl,rfl,rfl⟩:=Gx M;exact⟨.inl rfl,_,rH H,rfl,A⟩
def Im(p0:Int):Option (Bool):=
 some ((decide (p0≥0))&&(decide (p0≤1099511627776)))
theorem Qj{p0 q0}(M:Im p0=some q0)(A:HH g h [] F)(hc:BA (cfg.still 59) av=[Ai p0]:=by kernel_rfl):∃v Q,BI cfg g h 59 av v Q∧v=.bool q0∧HH g Q [] F:=by
 refine EL 9 [.tmp 2] hc ?_;clear hc;unfold Im at M;refine bg 9 [(0,Ai p0)] fun D H=>?_;refine AF 1 (Bk 1 [] 7 H fun D H=>AG 3 [(5,.bool (decide (p0≥0)))] H fun D H=>Am 3 (fun N Q=>h=Q∧Has N 9 [(8,.bool ((decide (p0≥0))&&(decide (p0≤1099511627776))))]) ?_ ?_)
 ·cases B:(decide (p0≥0):Bool)with
  |true=>
   replace H:=H.kn 5 B;exact AG 3 [(8,.bool (decide (p0≤1099511627776)))] H fun D H=>AV H B
  |false=>
   replace H:=H.kn 5 B;exact AG 3 [(8,.bool false)] H fun D H=>AV H B
 intro t D Q G;obtain⟨e,H⟩:=G;subst e;refine AM 1 [(2,.bool ((decide (p0≥0))&&(decide (p0≤1099511627776))))] H fun D H=>AY ?_;obtain rfl:=Ac M;exact⟨.inl rfl,_,rH H,rfl,A⟩
def GJ(p0:Int):Option (Int×Int):=
 (Im p0).bind fun x1=>AX (!x1) (some ((0:Int),(6:Int))) ((G6 p0).bind fun x2=>some (x2,(0:Int)))
theorem O5{p0 q0 q1}(M:GJ p0=some (q0,q1))(A:HH g h [] F)(hc:BA (cfg.still 29) av=[Ai p0]:=by kernel_rfl):∃v Q,BI cfg g h 29 av v Q∧v=.tuple [Ai q0,Ai q1]∧HH g Q [] F:=by
 refine EL 9 [.tmp 2,.tmp 3] hc ?_;clear hc;unfold GJ at M;refine bg 9 [(0,Ai p0)] fun D H=>?_;refine AF 2 (AM 2 [] H fun D H=>AO (AF 3 ?_));obtain⟨x1,X,M⟩:=bind_some M;obtain⟨v1,h1,R,rfl,E⟩:=Qj (av:=[Ai p0]) X (A.cut 0);replace A:=A.Dx E;refine Az 1 [] 5 R H fun D t H=>?_;refine AM 1 [(6,.bool (!x1))] H fun D H=>AU 6 H M (fun B M H=>?_) fun B M H=>?_
 ·refine AF 2 (AM 2 [(2,Ai 0),(3,Ai 6)] H fun D H=>AY ?_);obtain⟨rfl,rfl⟩:=B3 M;exact⟨.inl rfl,_,rH H,rfl,A⟩
 refine BZ 4 id ?_;obtain⟨x2,X,M⟩:=bind_some M;obtain⟨v1,h2,R,rfl,E⟩:=Nf (av:=[Ai p0]) X (A.cut 0);replace A:=A.Dx E;refine Az 1 [] 8 R H fun D t H=>?_;refine AM 2 [(2,Ai x2),(3,Ai 0)] H fun D H=>AY ?_;obtain⟨rfl,rfl⟩:=B3 M;exact⟨.inl rfl,_,rH H,rfl,A⟩
def DI(p0:BB):Option ((List UInt8)×Int×BB):=
 AX (!p0.FK) (some (([]:UV),(10:Int),p0)) (AX (decide (p0.Je>0)) (some (([]:UV),(3:Int),p0)) ((GJ p0.Dv).bind fun(x1,x2)=>Bn (aX 1 x1)<|some ((List.replicate x1.toNat (0:UInt8)),(0:Int),(⟨false,p0.FT,p0.Dv,p0.Je⟩:BB))))
theorem Hb{p0 bp0 q0 q1 u0}(M:DI p0=some (q0,q1,u0))(A:HH g h [.obj bp0 (.cells none 2 (Bt p0))] F)(hc:BA (cfg.still 12) av=[.ptr (some (bp0,0))]:=by kernel_rfl):∃v Q,BI cfg g h 12 av v Q∧v=.tuple [.str q0,Ai q1]∧HH g Q [.obj bp0 (.cells none 2 (Bt u0))] F:=by
 refine EL 32 [.tmp 2,.tmp 3] hc ?_;clear hc;unfold DI at M;refine bg 32 [(0,.ptr (some (bp0,0)))] fun D H=>?_;refine AF 2 (AM 2 [] H fun D H=>AO (Ae (id:=0) (by kernel_rfl) ?_));refine AF 6 (AS 3 [] 10 0 0 A H fun D t H=>?_);refine AM 2 [(6,.bool (!p0.FK))] H fun D H=>AU 6 H M (fun B M H=>?_) fun B M H=>?_
 ·refine AF 2 (AM 2 [(2,.str ([]:UV)),(3,Ai 10)] H fun D H=>AY ?_);obtain⟨rfl,rfl,rfl⟩:=Gx M;exact⟨.inl rfl,_,rH H,rfl,A⟩
 refine AF 6 (AS 3 [] 16 0 3 A H fun D t H=>?_);refine AM 2 [(12,.bool (decide (p0.Je>0)))] H fun D H=>AU 12 H M (fun B M H=>?_) fun B M H=>?_
 ·refine AF 2 (AM 2 [(2,.str ([]:UV)),(3,Ai 3)] H fun D H=>AY ?_);obtain⟨rfl,rfl,rfl⟩:=Gx M;exact⟨.inl rfl,_,rH H,rfl,A⟩
 refine BZ 4 id ?_;obtain⟨h1,X,A⟩:=A.s0 0 [.bool false] [_,_,_,_];refine Bc 3 [] X H fun D t H=>?_;refine Be 10 id (AS 3 [] 25 0 2 A H fun D t H=>?_);obtain⟨⟨x1,x2⟩,X,M⟩:=bind_some M;obtain⟨v1,h2,R,rfl,E⟩:=O5 (av:=[Ai p0.Dv]) X (A.cut 0);replace A:=A.Dx E;refine A5 26 R H fun D t H=>?_;refine Bk 5 [(4,Ai x1)] 5 H fun D H=>?_;obtain⟨B,M⟩:=Ag M;obtain⟨K,e1,A⟩:=A.pL 5 (Af eY (List.replicate x1.toNat (0:UInt8)));refine Aq 1 [] 30 (AP (some h2.size) (List.replicate x1.toNat (0:UInt8)).length) K H (fun D=>.of (Y3 (e:=eY) KH (x:=(0:UInt8)) (by kernel_rfl) B (congrArg some e1.symm))) fun D t H=>?_;refine Aa 31 (.str (List.replicate x1.toNat (0:UInt8))) K H (fun D=>.of (TS (xs:=(List.replicate x1.toNat (0:UInt8))) A 0 rfl (by kernel_rfl))) fun D t H=>?_;refine AM 2 [(2,.str (List.replicate x1.toNat (0:UInt8))),(3,Ai 0)] H fun D H=>AY ?_;obtain⟨rfl,rfl,rfl⟩:=Gx M;refine⟨.inl rfl,.tuple [.str (List.replicate x1.toNat (0:UInt8)),Ai 0],rH H,?_⟩;replace A:=A.k1 1;exact⟨rfl,A⟩
def JK:Option ((List UInt8)):=
 Bn (Pp ([0]:UV) (1024:Int))<|some (Lib.repeatL ([0]:UV) (1024:Int).toNat)
theorem Sk{q0}(M:JK=some q0)(A:HH g h [] F)(hc:BA (cfg.still 30) av=[]:=by kernel_rfl):∃v Q,BI cfg g h 30 av v Q∧v=.str q0∧HH g Q [] F:=by
 refine EL 2 [.tmp 0] hc ?_;clear hc;unfold JK at M;refine bg 2 [] fun D H=>?_;refine AF 1 (Bk 1 [] 2 H fun D H=>?_);obtain⟨B,M⟩:=Ag M;refine Aa 1 (.str (Lib.repeatL ([0]:UV) (1024:Int).toNat)) h H (fun D=>Steps.call (by kernel_rfl) (VY (C:=cfg) (f:=61) (by kernel_rfl) (l:=exts) rfl (by kernel_rfl) B)) fun D t H=>?_;refine AM 1 [(0,.str (Lib.repeatL ([0]:UV) (1024:Int).toNat))] H fun D H=>AY ?_;obtain rfl:=Ac M;exact⟨.inl rfl,_,rH H,rfl,A⟩
def Dl(p0:BB):Option ((List UInt8)×Int×BB):=
 AX (p0.FK||p0.FT) (some (([]:UV),(10:Int),p0)) ((JK).bind fun x1=>some (x1,(0:Int),(⟨p0.FK,true,p0.Dv,p0.Je⟩:BB)))
theorem HO{p0 bp0 q0 q1 u0}(M:Dl p0=some (q0,q1,u0))(A:HH g h [.obj bp0 (.cells none 2 (Bt p0))] F)(hc:BA (cfg.still 13) av=[.ptr (some (bp0,0))]:=by kernel_rfl):∃v Q,BI cfg g h 13 av v Q∧v=.tuple [.str q0,Ai q1]∧HH g Q [.obj bp0 (.cells none 2 (Bt u0))] F:=by
 refine EL 18 [.tmp 2,.tmp 3] hc ?_;clear hc;unfold Dl at M;refine bg 18 [(0,.ptr (some (bp0,0)))] fun D H=>?_;refine AF 2 (AM 2 [] H fun D H=>AO (AF 10 (AS 3 [] 7 0 0 A H fun D t H=>?_)));refine AG 1 [(8,.bool p0.FK)] H fun D H=>Am 5 (fun N Q=>h=Q∧Has N 18 [(0,.ptr (some (bp0,0))),(13,.bool (p0.FK||p0.FT))]) ?_ ?_
 ·cases B:(p0.FK:Bool)with
  |true=>
   replace H:=H.kn 8 B;exact AG 5 [(13,.bool true)] H fun D H=>AV H B
  |false=>
   replace H:=H.kn 8 B;refine AS 3 [] 12 0 1 A H fun D t H=>?_;exact AG 1 [(13,.bool p0.FT)] H fun D H=>AV H B
 intro t D Q G;obtain⟨e,H⟩:=G;subst e;refine A8 id (AU 13 H M (fun B M H=>?_) fun B M H=>?_)
 ·refine AF 2 (AM 2 [(2,.str ([]:UV)),(3,Ai 10)] H fun D H=>AY ?_);obtain⟨rfl,rfl,rfl⟩:=Gx M;exact⟨.inl rfl,_,rH H,rfl,A⟩
 refine BZ 4 id ?_;obtain⟨h1,X,A⟩:=A.s0 1 [.bool true] [_,_,_,_];refine Bc 3 [] X H fun D t H=>?_;refine Be 3 id ?_;obtain⟨x1,X,M⟩:=bind_some M;obtain⟨v1,h2,R,rfl,E⟩:=Sk (av:=[]) X (A.cut 0);replace A:=A.Dx E;refine A5 17 R H fun D t H=>?_;refine AM 2 [(2,.str x1),(3,Ai 0)] H fun D H=>AY ?_;obtain⟨rfl,rfl,rfl⟩:=Gx M;exact⟨.inl rfl,_,rH H,rfl,A⟩
def C3:Option (Bool):=
 (HA).bind fun x1w1=>(Dm x1w1 (⟨([97]:UV),([]:UV),(48:Int),(0:Int),(0:Int),(0:Int),([]:UV),([]:UV),(0:Int),(0:Int),(⟨(0:Int),(0:Int)⟩:Ap),([]:List AA),([]:UV)⟩:AJ) (3:Int)).bind fun(x2,x3,x4)=>(D4 x4 ([120,121,122]:UV)).bind fun(x5,x6,x7)=>(DI x7).bind fun(x8,x9,x10)=>(Dl x10).bind fun(x11,x12,x13)=>some (((((((((x2.length:Int)==512)&&(x3==0))&&(x5==([120,121,122]:UV)))&&(x6==0))&&((x8.length:Int)==509))&&(x9==0))&&((x11.length:Int)==1024))&&(x12==0))
theorem Fs{q0}(M:C3=some q0)(A:HH g h [] F)(hc:BA (cfg.still 8) av=[]:=by kernel_rfl):∃v Q,BI cfg g h 8 av v Q∧v=.bool q0∧HH g Q [] F:=by
 refine EL 67 [.tmp 0] hc ?_;clear hc;unfold C3 at M;refine bg 67 [] fun D H=>?_;refine AF 1 (Bk 1 [] 2 H fun D H=>?_);obtain⟨x1w1,X,M⟩:=bind_some M;obtain⟨v1,h1,R,bx1w1,rfl,E⟩:=Mh (av:=[]) X (A.cut 0);replace A:=A.aP E;refine A5 10 R H fun D t H=>?_;refine AM 1 [(1,.ptr (some (bx1w1,0)))] H fun D H=>AO (AF 2 (AM 2 [(12,.bool false)] H fun D H=>Yy (x:=.tmp 12) (by kernel_rfl) H (fun D=>by kernel_rfl) ?_));refine BZ 8 id ?_;obtain⟨⟨x2,x3,x4⟩,X,M⟩:=bind_some M;obtain⟨v1,h2,R,rfl,E⟩:=HE (av:=[.ptr (some (bx1w1,0)),.agg [.str ([97]:UV),.str ([]:UV),Ab 48,Ai 0,Ai 0,Ai 0,.str ([]:UV),.str ([]:UV),Ai 0,Ai 0,Ai 0,Ai 0,.slice none 0,.str ([]:UV)],Ai 3]) X (A.cut 1);replace A:=A.g11 E;refine Az 2 [] 16 R H fun D t H=>?_;refine Bk 5 [(2,.str x2),(3,Ai x3)] 7 H fun D H=>?_;obtain⟨⟨x5,x6,x7⟩,X,M⟩:=bind_some M;obtain⟨v1,K,R,rfl,E⟩:=HX (av:=[.ptr (some (bx1w1,0)),.str ([120,121,122]:UV)]) X (A.cut 1);replace A:=A.g11 E;refine Az 1 [] 21 R H fun D t H=>?_;refine Bk 5 [(4,.str x5),(5,Ai x6)] 7 H fun D H=>?_;obtain⟨⟨x8,x9,x10⟩,X,M⟩:=bind_some M;obtain⟨v1,h4,R,rfl,E⟩:=Hb (av:=[.ptr (some (bx1w1,0))]) X (A.cut 1);replace A:=A.g11 E;refine Az 1 [] 26 R H fun D t H=>?_;refine Bk 5 [(6,.str x8),(7,Ai x9)] 7 H fun D H=>?_;obtain⟨⟨x11,x12,x13⟩,X,M⟩:=bind_some M;obtain⟨v1,U,R,rfl,E⟩:=HO (av:=[.ptr (some (bx1w1,0))]) X (A.cut 1);replace A:=A.g11 E;refine Az 1 [] 31 R H fun D t H=>?_;refine Bk 5 [(8,.str x11),(9,Ai x12)] 34 H fun D H=>AG 4 [(37,.bool ((x2.length:Int)==512))] H fun D H=>Am 3 (fun N Q=>U=Q∧Has N 67 [(4,.str x5),(5,Ai x6),(6,.str x8),(7,Ai x9),(8,.str x11),(9,Ai x12),(40,.bool (((x2.length:Int)==512)&&(x3==0)))]) ?_ ?_
 ·cases B:((x2.length:Int)==512:Bool)with
  |true=>
   replace H:=H.kn 37 B;exact AG 3 [(40,.bool (x3==0))] H fun D H=>AV H B
  |false=>
   replace H:=H.kn 37 B;exact AG 3 [(40,.bool false)] H fun D H=>AV H B
 intro t D Q G;obtain⟨e,H⟩:=G;subst e;refine AG 1 [(41,.bool (((x2.length:Int)==512)&&(x3==0)))] H fun D H=>Am 3 (fun N Q=>U=Q∧Has N 67 [(5,Ai x6),(6,.str x8),(7,Ai x9),(8,.str x11),(9,Ai x12),(44,.bool ((((x2.length:Int)==512)&&(x3==0))&&(x5==([120,121,122]:UV))))]) ?_ ?_
 ·cases B:(((x2.length:Int)==512)&&(x3==0):Bool)with
  |true=>
   replace H:=H.kn 41 B;exact AG 3 [(44,.bool (x5==([120,121,122]:UV)))] H fun D H=>AV H B
  |false=>
   replace H:=H.kn 41 B;exact AG 3 [(44,.bool false)] H fun D H=>AV H B
 intro t D Q G;obtain⟨e,H⟩:=G;subst e;refine AG 1 [(45,.bool ((((x2.length:Int)==512)&&(x3==0))&&(x5==([120,121,122]:UV))))] H fun D H=>Am 3 (fun N Q=>U=Q∧Has N 67 [(6,.str x8),(7,Ai x9),(8,.str x11),(9,Ai x12),(48,.bool (((((x2.length:Int)==512)&&(x3==0))&&(x5==([120,121,122]:UV)))&&(x6==0)))]) ?_ ?_
 ·cases B:((((x2.length:Int)==512)&&(x3==0))&&(x5==([120,121,122]:UV)):Bool)with
  |true=>
   replace H:=H.kn 45 B;exact AG 3 [(48,.bool (x6==0))] H fun D H=>AV H B
  |false=>
   replace H:=H.kn 45 B;exact AG 3 [(48,.bool false)] H fun D H=>AV H B
 intro t D Q G;obtain⟨e,H⟩:=G;subst e;refine AG 1 [(49,.bool (((((x2.length:Int)==512)&&(x3==0))&&(x5==([120,121,122]:UV)))&&(x6==0)))] H fun D H=>Am 4 (fun N Q=>U=Q∧Has N 67 [(7,Ai x9),(8,.str x11),(9,Ai x12),(53,.bool ((((((x2.length:Int)==512)&&(x3==0))&&(x5==([120,121,122]:UV)))&&(x6==0))&&((x8.length:Int)==509)))]) ?_ ?_
 ·cases B:(((((x2.length:Int)==512)&&(x3==0))&&(x5==([120,121,122]:UV)))&&(x6==0):Bool)with
  |true=>
   replace H:=H.kn 49 B;exact AG 4 [(53,.bool ((x8.length:Int)==509))] H fun D H=>AV H B
  |false=>
   replace H:=H.kn 49 B;exact AG 4 [(53,.bool false)] H fun D H=>AV H B
 intro t D Q G;obtain⟨e,H⟩:=G;subst e;refine AG 1 [(54,.bool ((((((x2.length:Int)==512)&&(x3==0))&&(x5==([120,121,122]:UV)))&&(x6==0))&&((x8.length:Int)==509)))] H fun D H=>Am 3 (fun N Q=>U=Q∧Has N 67 [(8,.str x11),(9,Ai x12),(57,.bool (((((((x2.length:Int)==512)&&(x3==0))&&(x5==([120,121,122]:UV)))&&(x6==0))&&((x8.length:Int)==509))&&(x9==0)))]) ?_ ?_
 ·cases B:((((((x2.length:Int)==512)&&(x3==0))&&(x5==([120,121,122]:UV)))&&(x6==0))&&((x8.length:Int)==509):Bool)with
  |true=>
   replace H:=H.kn 54 B;exact AG 3 [(57,.bool (x9==0))] H fun D H=>AV H B
  |false=>
   replace H:=H.kn 54 B;exact AG 3 [(57,.bool false)] H fun D H=>AV H B
 intro t D Q G;obtain⟨e,H⟩:=G;subst e;refine AG 1 [(58,.bool (((((((x2.length:Int)==512)&&(x3==0))&&(x5==([120,121,122]:UV)))&&(x6==0))&&((x8.length:Int)==509))&&(x9==0)))] H fun D H=>Am 4 (fun N Q=>U=Q∧Has N 67 [(9,Ai x12),(62,.bool ((((((((x2.length:Int)==512)&&(x3==0))&&(x5==([120,121,122]:UV)))&&(x6==0))&&((x8.length:Int)==509))&&(x9==0))&&((x11.length:Int)==1024)))]) ?_ ?_
 ·cases B:(((((((x2.length:Int)==512)&&(x3==0))&&(x5==([120,121,122]:UV)))&&(x6==0))&&((x8.length:Int)==509))&&(x9==0):Bool)with
  |true=>
   replace H:=H.kn 58 B;exact AG 4 [(62,.bool ((x11.length:Int)==1024))] H fun D H=>AV H B
  |false=>
   replace H:=H.kn 58 B;exact AG 4 [(62,.bool false)] H fun D H=>AV H B
 intro t D Q G;obtain⟨e,H⟩:=G;subst e;refine AG 1 [(63,.bool ((((((((x2.length:Int)==512)&&(x3==0))&&(x5==([120,121,122]:UV)))&&(x6==0))&&((x8.length:Int)==509))&&(x9==0))&&((x11.length:Int)==1024)))] H fun D H=>Am 3 (fun N Q=>U=Q∧Has N 67 [(66,.bool (((((((((x2.length:Int)==512)&&(x3==0))&&(x5==([120,121,122]:UV)))&&(x6==0))&&((x8.length:Int)==509))&&(x9==0))&&((x11.length:Int)==1024))&&(x12==0)))]) ?_ ?_
 ·cases B:((((((((x2.length:Int)==512)&&(x3==0))&&(x5==([120,121,122]:UV)))&&(x6==0))&&((x8.length:Int)==509))&&(x9==0))&&((x11.length:Int)==1024):Bool)with
  |true=>
   replace H:=H.kn 63 B;exact AG 3 [(66,.bool (x12==0))] H fun D H=>AV H B
  |false=>
   replace H:=H.kn 63 B;exact AG 3 [(66,.bool false)] H fun D H=>AV H B
 intro t D Q G;obtain⟨e,H⟩:=G;subst e;refine AM 1 [(0,.bool (((((((((x2.length:Int)==512)&&(x3==0))&&(x5==([120,121,122]:UV)))&&(x6==0))&&((x8.length:Int)==509))&&(x9==0))&&((x11.length:Int)==1024))&&(x12==0)))] H fun D H=>AY ?_;obtain rfl:=Ac M;refine⟨.inl rfl,.bool (((((((((x2.length:Int)==512)&&(x3==0))&&(x5==([120,121,122]:UV)))&&(x6==0))&&((x8.length:Int)==509))&&(x9==0))&&((x11.length:Int)==1024))&&(x12==0)),rH H,?_⟩;replace A:=A.d0;exact⟨rfl,A⟩
def CQ(p0:List AA)(s:Int):Option ((Int)⊕((Unit)⊕(Bool))):=
 match s with
 |x1=>AX (decide (x1<(p0.length:Int))) ((G8 p0 x1).bind fun x3=>(AX (decide ((x3.Key.length:Int)>300)) (some true) ((G8 p0 x1).bind fun x5=>some (decide ((x5.Value.length:Int)>300))):Option (Bool)).bind fun x4=>AX x4 (some (.inr (.inr true))) (some (.inl (IntKind.i64.wrap (x1+1))))) (some (.inr (.inl ())))
def ET(p0:List AA):Option (Bool):=
 AX (decide ((p0.length:Int)>12)) (some true) ((loop (CQ p0) (0:Int)).bind fun o1=>(match o1 with| .inl _=>some false| .inr x2=>some x2))
theorem LV{p0 q0}(M:ET p0=some q0)(A:HH g h [] F)(hc:BA (cfg.still 27) av=[vs AD p0]:=by kernel_rfl):∃v Q,BI cfg g h 27 av v Q∧v=.bool q0∧HH g Q [] F:=by
 refine EL 29 [.tmp 2] hc ?_;clear hc;unfold ET at M;refine bg 29 [(0,vs AD p0)] fun D H=>?_;refine AF 1 (AM 1 [] H fun D H=>AO (AF 3 (AM 3 [(6,.bool (decide ((p0.length:Int)>12)))] H fun D H=>AU 6 H M (fun B M H=>?_) fun B M H=>?_)))
 ·refine AF 1 (AM 1 [(2,.bool true)] H fun D H=>AY ?_);obtain rfl:=Ac M;exact⟨.inl rfl,_,rH H,rfl,A⟩
 refine BY id (AO (AF 1 (AM 1 [(3,Ai 0)] H fun D H=>Ae (id:=0) (by kernel_rfl) ?_)));obtain⟨o1,O,M⟩:=bind_some M;refine An (Q':=fun e N Q=>(e=.exit 0∧.inl ()=o1∧Has N 29 []∧HH g Q [] F)∨(∃x2,e=.ret∧.inr x2=o1∧Has N 29 [(2,.bool x2)]∧HH g Q [] F)∨False) ?_ ?_
 ·refine BQ (by kernel_rfl) (fun(s:Int) N Q=>∃x1,x1=s∧Has N 29 [(0,vs AD p0),(3,Ai x1)]∧HH g Q [] F) O ⟨_,rfl,H.ls,A⟩ ?_;clear O M H A;intro s q D h1 hI M;obtain⟨x1,rfl,H,A⟩:=hI;unfold CQ at M;refine AO (AF 4 (AM 4 [(10,.bool (decide (x1<(p0.length:Int))))] H fun D H=>AU 10 H M (fun B M H=>?_) fun B M H=>?_))
  ·refine BY id (AO (Ae (id:=1) (by kernel_rfl) ?_));refine AF 16 ?_;obtain⟨x3,X,M⟩:=bind_some M;refine Aq 2 [] 15 (.A0 [.str x3.Key,.str x3.Value]) h1 H (fun D=>.of (KC (e:=AD) (x:=x3) AR (by decide) (by kernel_rfl) X)) fun D t H=>?_;refine Aq 1 [] 17 (.str x3.Key) h1 H (fun D=>.of (OC (by kernel_rfl))) fun D t H=>?_;refine AG 3 [(20,.bool (decide ((x3.Key.length:Int)>300)))] H fun D H=>?_;obtain⟨x4,O,M⟩:=bind_some M;refine Am 8 (fun N Q=>Has N 29 [(0,vs AD p0),(3,Ai x1),(28,.bool x4)]∧HH g Q [] F) ?_ ?_
   ·rcases As O with⟨B,M⟩|⟨B,M⟩
    ·replace H:=H.kn 20 B;refine AG 8 [(28,.bool true)] H fun D H=>?_;obtain rfl:=Ac M;exact at_nil ⟨H.ls,A⟩
    replace H:=H.kn 20 B;obtain⟨x5,X,M⟩:=bind_some M;refine Aq 2 [] 23 (.A0 [.str x5.Key,.str x5.Value]) h1 H (fun D=>.of (KC (e:=AD) (x:=x5) AR (by decide) (by kernel_rfl) X)) fun D t H=>?_;refine Aq 1 [] 25 (.str x5.Value) h1 H (fun D=>.of (OC (by kernel_rfl))) fun D t H=>?_;refine AG 3 [(28,.bool (decide ((x5.Value.length:Int)>300)))] H fun D H=>?_;obtain rfl:=Ac M;exact at_nil ⟨H.ls,A⟩
   clear A;intro t D h2 G;obtain⟨H,A⟩:=G;refine A8 id (AU 28 H M (fun B M H=>?_) fun B M H=>?_)
   ·refine AF 1 (AM 1 [(2,.bool true)] H fun D H=>AY ?_);exact nr M fun e=>Or.inr (.inl ⟨_,rfl,e,H.ls,A⟩)
   refine FC 3 id (Aw 3 [(0,vs AD p0),(3,Ai (IntKind.i64.wrap (x1+1)))] H fun D H=>at_nil ?_);exact nx M ⟨_,rfl,H.ls,A⟩
  refine BL (i:=0) (by kernel_rfl) ?_;exact nr M fun e=>.inl ⟨rfl,e,H.ls,A⟩
 clear O;clear A;intro e D K hQ;rcases hQ with⟨rfl,rfl,H,A⟩|⟨x2,rfl,rfl,H,A⟩|hF
 ·show AW _ _ _ _ _ _ _;refine AF 1 (AM 1 [(2,.bool false)] H fun D H=>AY ?_);obtain rfl:=Ac M;exact⟨.inl rfl,_,rH H,rfl,A⟩
 ·obtain rfl:=Ac M;exact⟨.inl rfl,_,rH H,rfl,A⟩
 exact hF.elim
def DZ(p0:AJ):Option (Bool):=
 (ET p0.Extra).bind fun x1=>some (((((x1||(decide ((p0.Name.length:Int)>600)))||(decide ((p0.Ah.length:Int)>600)))||(decide ((p0.AZ.length:Int)>100)))||(decide ((p0.Ad.length:Int)>100)))||(decide ((p0.Data.length:Int)>2000)))
theorem LO{p0 q0}(M:DZ p0=some q0)(A:HH g h [] F)(hc:BA (cfg.still 9) av=[.agg (AE p0)]:=by kernel_rfl):∃v Q,BI cfg g h 9 av v Q∧v=.bool q0∧HH g Q [] F:=by
 refine EL 36 [.tmp 2] hc ?_;clear hc;unfold DZ at M;refine bg 36 [(0,.agg (AE p0))] fun D H=>?_;refine AF 2 ?_;obtain⟨h1,e1,A⟩:=A.pu (.cells none 2 (AE p0));refine A9 1 (.ptr (some (h.size,0))) e1 H fun D t H=>?_;refine Bk 1 [] 34 H fun D H=>AS 1 [] 4 0 12 A H fun D t H=>?_;obtain⟨x1,X,M⟩:=bind_some M;obtain⟨v1,h2,R,rfl,E⟩:=LV (av:=[vs AD p0.Extra]) X (A.cut 0);replace A:HH g h2 [.obj h.size (.cells none 2 (AE p0))] F:=A.HN (n:=0) E;refine A5 5 R H fun D t H=>?_;refine AG 1 [(6,.bool x1)] H fun D H=>Am 5 (fun N Q=>h2=Q∧Has N 36 [(1,.ptr (some (h.size,0))),(11,.bool (x1||(decide ((p0.Name.length:Int)>600))))]) ?_ ?_
 ·cases B:(x1:Bool)with
  |true=>
   replace H:=H.kn 6 B;exact AG 5 [(11,.bool true)] H fun D H=>AV H B
  |false=>
   replace H:=H.kn 6 B;refine AS 1 [] 8 0 0 A H fun D t H=>?_;exact AG 3 [(11,.bool (decide ((p0.Name.length:Int)>600)))] H fun D H=>AV H B
 intro t D Q G;obtain⟨e,H⟩:=G;subst e;refine AG 1 [(12,.bool (x1||(decide ((p0.Name.length:Int)>600))))] H fun D H=>Am 5 (fun N Q=>h2=Q∧Has N 36 [(1,.ptr (some (h.size,0))),(17,.bool ((x1||(decide ((p0.Name.length:Int)>600)))||(decide ((p0.Ah.length:Int)>600))))]) ?_ ?_
 ·cases B:(x1||(decide ((p0.Name.length:Int)>600)):Bool)with
  |true=>
   replace H:=H.kn 12 B;exact AG 5 [(17,.bool true)] H fun D H=>AV H B
  |false=>
   replace H:=H.kn 12 B;refine AS 1 [] 14 0 1 A H fun D t H=>?_;exact AG 3 [(17,.bool (decide ((p0.Ah.length:Int)>600)))] H fun D H=>AV H B
 intro t D Q G;obtain⟨e,H⟩:=G;subst e;refine AG 1 [(18,.bool ((x1||(decide ((p0.Name.length:Int)>600)))||(decide ((p0.Ah.length:Int)>600))))] H fun D H=>Am 5 (fun N Q=>h2=Q∧Has N 36 [(1,.ptr (some (h.size,0))),(23,.bool (((x1||(decide ((p0.Name.length:Int)>600)))||(decide ((p0.Ah.length:Int)>600)))||(decide ((p0.AZ.length:Int)>100))))]) ?_ ?_
 ·cases B:((x1||(decide ((p0.Name.length:Int)>600)))||(decide ((p0.Ah.length:Int)>600)):Bool)with
  |true=>
   replace H:=H.kn 18 B;exact AG 5 [(23,.bool true)] H fun D H=>AV H B
  |false=>
   replace H:=H.kn 18 B;refine AS 1 [] 20 0 6 A H fun D t H=>?_;exact AG 3 [(23,.bool (decide ((p0.AZ.length:Int)>100)))] H fun D H=>AV H B
 intro t D Q G;obtain⟨e,H⟩:=G;subst e;refine AG 1 [(24,.bool (((x1||(decide ((p0.Name.length:Int)>600)))||(decide ((p0.Ah.length:Int)>600)))||(decide ((p0.AZ.length:Int)>100))))] H fun D H=>Am 5 (fun N Q=>h2=Q∧Has N 36 [(1,.ptr (some (h.size,0))),(29,.bool ((((x1||(decide ((p0.Name.length:Int)>600)))||(decide ((p0.Ah.length:Int)>600)))||(decide ((p0.AZ.length:Int)>100)))||(decide ((p0.Ad.length:Int)>100))))]) ?_ ?_
 ·cases B:(((x1||(decide ((p0.Name.length:Int)>600)))||(decide ((p0.Ah.length:Int)>600)))||(decide ((p0.AZ.length:Int)>100)):Bool)with
  |true=>
   replace H:=H.kn 24 B;exact AG 5 [(29,.bool true)] H fun D H=>AV H B
  |false=>
   replace H:=H.kn 24 B;refine AS 1 [] 26 0 7 A H fun D t H=>?_;exact AG 3 [(29,.bool (decide ((p0.Ad.length:Int)>100)))] H fun D H=>AV H B
 intro t D Q G;obtain⟨e,H⟩:=G;subst e;refine AG 1 [(30,.bool ((((x1||(decide ((p0.Name.length:Int)>600)))||(decide ((p0.Ah.length:Int)>600)))||(decide ((p0.AZ.length:Int)>100)))||(decide ((p0.Ad.length:Int)>100))))] H fun D H=>Am 5 (fun N Q=>h2=Q∧Has N 36 [(35,.bool (((((x1||(decide ((p0.Name.length:Int)>600)))||(decide ((p0.Ah.length:Int)>600)))||(decide ((p0.AZ.length:Int)>100)))||(decide ((p0.Ad.length:Int)>100)))||(decide ((p0.Data.length:Int)>2000))))]) ?_ ?_
 ·cases B:((((x1||(decide ((p0.Name.length:Int)>600)))||(decide ((p0.Ah.length:Int)>600)))||(decide ((p0.AZ.length:Int)>100)))||(decide ((p0.Ad.length:Int)>100)):Bool)with
  |true=>
   replace H:=H.kn 30 B;exact AG 5 [(35,.bool true)] H fun D H=>AV H B
  |false=>
   replace H:=H.kn 30 B;refine AS 1 [] 32 0 13 A H fun D t H=>?_;exact AG 3 [(35,.bool (decide ((p0.Data.length:Int)>2000)))] H fun D H=>AV H B
 intro t D Q G;obtain⟨e,H⟩:=G;subst e;refine AM 1 [(2,.bool (((((x1||(decide ((p0.Name.length:Int)>600)))||(decide ((p0.Ah.length:Int)>600)))||(decide ((p0.AZ.length:Int)>100)))||(decide ((p0.Ad.length:Int)>100)))||(decide ((p0.Data.length:Int)>2000))))] H fun D H=>AY ?_;obtain rfl:=Ac M;refine⟨.inl rfl,.bool (((((x1||(decide ((p0.Name.length:Int)>600)))||(decide ((p0.Ah.length:Int)>600)))||(decide ((p0.AZ.length:Int)>100)))||(decide ((p0.Ad.length:Int)>100)))||(decide ((p0.Data.length:Int)>2000))),rH H,?_⟩;replace A:=A.d0;exact⟨rfl,A⟩
end
end Go.Av.L
