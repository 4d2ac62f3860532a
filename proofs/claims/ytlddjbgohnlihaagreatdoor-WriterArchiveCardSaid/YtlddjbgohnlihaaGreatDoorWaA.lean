/-
 A part.
-/
import Derived.Test.YtlddjbgohnlihaaGreatDoorWaN
import Derived.Test.YtlddjbgohnlihaaGreatDoorWaM
namespace Go.Av.L
open Go.Av Go.Lib
set_option linter.unusedVariables false
set_option linter.unusedSimpArgs false
set_option maxRecDepth 10000
def Wu(m:Mem)(n:Int)(i:Nat):(List AA)×(List UInt8)×(List UInt8)×Int×Int×(List UInt8)×(List UInt8)×Int×Int×Int×Int:=
 (m.Extra,m.Name,m.Ah,m.BO,m.BW,m.AZ,m.Ad,m.Time.Bu,m.Time.BG,n,(i:Int))
noncomputable def tP(v:IH):Ap:=⟨((BJ v).getD (0,0,2)).1,((BJ v).getD (0,0,2)).2.1⟩
theorem bz{α β:Type}{m:Option α}{x:α}{k:α→Option β}(h:m=some x):m.bind k=k x:=by rw[h];rfl
noncomputable def Bi(s:Mem×Int)(p:Pr):Mem×Int:=
 if p.Key=IA then({s.1 with BW:=(Jq p.Value).1},s.2)
 else if p.Key=Hf then({s.1 with BO:=(Jq p.Value).1},s.2)
 else if p.Key=Fe then(s.1,(Jq p.Value).1)
 else if p.Key=Dz then({s.1 with Ad:=p.Value},s.2)
 else if p.Key=EM then({s.1 with AZ:=p.Value},s.2)
 else if p.Key=E8 then({s.1 with Name:=p.Value},s.2)
 else if p.Key=E7 then({s.1 with Ah:=p.Value},s.2)
 else if p.Key=FQ then({s.1 with Time:=tP p.Value},s.2)
 else({s.1 with Extra:=s.1.Extra++[p]},s.2)
structure bq(p:Pr):Prop where
 num:p.Key=IA∨p.Key=Hf∨p.Key=Fe→(Jq p.Value).2=0
 fP:p.Key=Dz∨p.Key=EM∨p.Key=E8∨p.Key=E7→EW p.Value=false
 fT:p.Key=FQ→∃t:Ap,BJ p.Value=some (t.Bu,t.BG,0)
 len:p.Value.length≤1000000
theorem UD{k:IH}(h:C0 k=false):k≠IA∧k≠Hf∧k≠Fe∧k≠Dz∧k≠EM∧k≠E8∧k≠E7∧k≠FQ:=by
 refine⟨?_,?_,?_,?_,?_,?_,?_,?_⟩<;>(rintro rfl;exact absurd h (by decide))
theorem step_ok{l:List Pr}{i:Nat}(hi:i<l.length)(V:l.length≤1000)(Q:bq l[i]){s:Mem×Int}(hx:s.1.Extra.length≤i):Bb l (Wu s.1 s.2 i)=some (.inl (Wu (Bi s l[i]).1 (Bi s l[i]).2 (i+1))):=by
 obtain⟨m,n⟩:=s;dsimp only at hx;unfold Bb Wu Bi;simp only[];rw[zf (show(i:Int)<(l.length:Int) by omega),AQ,EH hi];simp only[za];generalize l[i]=p at Q;obtain⟨k,v⟩:=p;obtain⟨o1,o2,o3,o4⟩:=Q;dsimp only at o1 o2 o3 o4;obtain⟨x,hx1,hx2⟩:=Lq v o4;simp only;rw[RL,za];by_cases hk:C0 k=true
 ·rw[hk,zY,AK];by_cases h1:k=IA
  ·subst h1;rw[zm rfl,show(((IA==([103,105,100]:List UInt8))||(IA==([117,105,100]:List UInt8)))||(IA==([115,105,122,101]:List UInt8)))=true from rfl,AQ,SB,za];have P:=o1 (.inl rfl);rw[←DP (by omega)];simp only[za];rw[P];rfl
  by_cases h2:k=Hf
  ·subst h2;rw[zk h1,zm rfl,show(((Hf==([103,105,100]:List UInt8))||(Hf==([117,105,100]:List UInt8)))||(Hf==([115,105,122,101]:List UInt8)))=true from rfl,AQ,SB,za];have P:=o1 (.inr (.inl rfl));rw[←DP (by omega)];simp only[za];rw[P];rfl
  by_cases I:k=Fe
  ·subst I;rw[zk h1,zk h2,zm rfl,show(((Fe==([103,105,100]:List UInt8))||(Fe==([117,105,100]:List UInt8)))||(Fe==([115,105,122,101]:List UInt8)))=true from rfl,AQ,SB,za];have P:=o1 (.inr (.inr rfl));rw[←DP (by omega)];simp only[za];rw[P];rfl
  rw[zk h1,zk h2,zk I,show(((k==([103,105,100]:List UInt8))||(k==([117,105,100]:List UInt8)))||(k==([115,105,122,101]:List UInt8)))=false from by
   rw[zH,zH];exact⟨⟨beq_eq_false_iff_ne.2 h1,beq_eq_false_iff_ne.2 h2⟩,beq_eq_false_iff_ne.2 I⟩,AK]
  by_cases J:k=FQ
  ·subst J;obtain⟨t,O⟩:=o3 rfl
   rw[show(FQ==([109,116,105,109,101]:List UInt8))=true from rfl,AQ,
    zk (show ¬FQ=Dz by decide),zk (show ¬FQ=EM by decide),zk (show ¬FQ=E8 by decide),zk (show ¬FQ=E7 by decide),zm rfl,←DP (by omega)]
   unfold tP;rw[O];rfl
  rw[show(k==([109,116,105,109,101]:List UInt8))=false from beq_eq_false_iff_ne.2 J,AK,hx1,za,hx2];by_cases G:k=Dz
  ·subst G;rw[zm rfl,o2 (.inl rfl),←DP (by omega)];rfl
  by_cases H:k=EM
  ·subst H;rw[zk G,zm rfl,o2 (.inr (.inl rfl)),←DP (by omega)];rfl
  by_cases M:k=E8
  ·subst M;rw[zk G,zk H,zm rfl,o2 (.inr (.inr (.inl rfl))),←DP (by omega)];rfl
  by_cases N:k=E7
  ·subst N;rw[zk G,zk H,zk M,zm rfl,o2 (.inr (.inr (.inr rfl))),←DP (by omega)];rfl
  exfalso;unfold C0 at hk;simp only[yo,yM]at hk;rcases hk with h|h|h|h|h|h|h|h<;>first|exact h1 h|exact h2 h|exact I h|exact G h|exact H h|exact M h|exact N h|exact J h
 ·have hk:C0 k=false:=by simpa using hk
  obtain⟨k1,k2,k3,k4,k5,k6,k7,k8⟩:=UD hk;rw[hk,yD,AQ,zk k1,zk k2,zk k3,zk k4,zk k5,zk k6,zk k7,zk k8];rw[show MY 32 (m.Extra.length+([(⟨k,v⟩:Pr)]:List Pr).length)=true from GZ (by simp;omega) (by simp;omega),Ak,←DP (by omega)];rfl
theorem Ya(s:Mem×Int)(p:Pr):(Bi s p).1.Extra.length≤s.1.Extra.length+1:=by
 unfold Bi
 repeat' split
 all_goals simp
def KF(h:AN):Mem:=⟨h.Name,h.Ah,h.Kind,h.Mode,h.BO,h.BW,h.AZ,h.Ad,h.Aj,h.Ao,⟨h.Time,0⟩,[],[]⟩
section
variable {β:Type} {π:Mem×Int→β} {K:IH} {F:IH→β}
theorem Hu(hO:∀s p,p.Key≠K→π (Bi s p)=π s):∀(l:List Pr) (s:Mem×Int),(∀p∈l,p.Key≠K)→π (l.foldl Bi s)=π s
 |[],s,_=>rfl
 |p::l,s,h=>by
  rw[yR,Hu hO l _ fun q E=>h q (by simp[E]),hO s p (h p (by simp))]
theorem IW(U:∀s p,p.Key=K→π (Bi s p)=F p.Value)(hO:∀s p,p.Key≠K→π (Bi s p)=π s):∀(l:List Pr) (s:Mem×Int) (v:IH),QM l→(⟨K,v⟩:Pr)∈l→π (l.foldl Bi s)=F v
 |[],s,v,_,h=>by cases h
 | p::l,s,v,D,h=>by
  obtain⟨h1,h2⟩:=yx.1 D;rw[yR];rcases zF.1 h with e|e
  ·rw[Hu hO l _ fun q E e2=>?_,U s p (by rw[←e]),←e];have:=h1 q E;rw[e2,←e]at this;exact absurd this (qo _)
  ·exact IW U hO l _ v h2 e
end
theorem QD:∀(l:List Pr) (s:Mem×Int),(l.foldl Bi s).1.Extra=s.1.Extra++l.filter fun p=> !C0 p.Key
 |[],s=>by simp
 | p::l,s=>by
  rw[yR,QD l];have e:(Bi s p).1.Extra=s.1.Extra++if C0 p.Key=true then[]else[p]:=by
   unfold Bi C0;by_cases h1:p.Key=IA
   ·rw[zm h1,h1];simp[IA]
   rw[zk h1];by_cases h2:p.Key=Hf
   ·rw[zm h2,h2];simp[Hf]
   rw[zk h2];by_cases I:p.Key=Fe
   ·rw[zm I,I];simp[Fe]
   rw[zk I];by_cases G:p.Key=Dz
   ·rw[zm G,G];simp[Dz]
   rw[zk G];by_cases H:p.Key=EM
   ·rw[zm H,H];simp[EM]
   rw[zk H];by_cases M:p.Key=E8
   ·rw[zm M,M];simp[E8]
   rw[zk M];by_cases N:p.Key=E7
   ·rw[zm N,N];simp[E7]
   rw[zk N];by_cases J:p.Key=FQ
   ·rw[zm J,J];simp[FQ]
   rw[zk J]
   rw[show(p.Key==([103,105,100]:List UInt8))=false from beq_eq_false_iff_ne.2 h1,show(p.Key==([117,105,100]:List UInt8))=false from beq_eq_false_iff_ne.2 h2,show(p.Key==([115,105,122,101]:List UInt8))=false from beq_eq_false_iff_ne.2 I,
    show(p.Key==([103,110,97,109,101]:List UInt8))=false from beq_eq_false_iff_ne.2 G,show(p.Key==([117,110,97,109,101]:List UInt8))=false from beq_eq_false_iff_ne.2 H,show(p.Key==([112,97,116,104]:List UInt8))=false from beq_eq_false_iff_ne.2 M,
    show(p.Key==([108,105,110,107,112,97,116,104]:List UInt8))=false from beq_eq_false_iff_ne.2 N,show(p.Key==([109,116,105,109,101]:List UInt8))=false from beq_eq_false_iff_ne.2 J]
   rfl
  rw[e,zw,qA];cases C0 p.Key<;>simp
theorem U4(s:Mem×Int)(p:Pr):(Bi s p).1.Kind=s.1.Kind∧(Bi s p).1.Mode=s.1.Mode∧(Bi s p).1.Aj=s.1.Aj∧(Bi s p).1.Ao=s.1.Ao∧(Bi s p).1.Data=s.1.Data:=by
 unfold Bi
 repeat' split
 all_goals exact⟨rfl,rfl,rfl,rfl,rfl⟩
theorem Ms:∀(l:List Pr) (s:Mem×Int),(l.foldl Bi s).1.Kind=s.1.Kind∧(l.foldl Bi s).1.Mode=s.1.Mode∧(l.foldl Bi s).1.Aj=s.1.Aj∧(l.foldl Bi s).1.Ao=s.1.Ao∧(l.foldl Bi s).1.Data=s.1.Data
 |[],s=>⟨rfl,rfl,rfl,rfl,rfl⟩
 |p::l,s=>by
  obtain⟨a1,a2,a3,a4,a5⟩:=Ms l (Bi s p);obtain⟨b1,b2,b3,b4,b5⟩:=U4 s p;rw[yR];exact⟨a1.trans b1,a2.trans b2,a3.trans b3,a4.trans b4,a5.trans b5⟩
theorem cd(l:List Pr)(s:Mem×Int):((∀p∈l,p.Key≠IA)→(l.foldl Bi s).1.BW=s.1.BW)∧∀v,QM l→(⟨IA,v⟩:Pr)∈l→(l.foldl Bi s).1.BW=(Jq v).1:=by
 have hO:∀(s:Mem×Int) (p:Pr),p.Key≠IA→(Bi s p).1.BW=s.1.BW:=fun s p h=>by
  unfold Bi;rw[zk h]
  repeat' split
  all_goals rfl
 refine⟨Hu (π:=fun s=>s.1.BW) hO l s,fun v D hm=>IW (π:=fun s=>s.1.BW) (F:=fun v=>(Jq v).1) (fun s p h=>?_) hO l s v D hm⟩;unfold Bi;rw[zm h]
theorem dT(l:List Pr)(s:Mem×Int):((∀p∈l,p.Key≠Hf)→(l.foldl Bi s).1.BO=s.1.BO)∧∀v,QM l→(⟨Hf,v⟩:Pr)∈l→(l.foldl Bi s).1.BO=(Jq v).1:=by
 have hO:∀(s:Mem×Int) (p:Pr),p.Key≠Hf→(Bi s p).1.BO=s.1.BO:=fun s p h=>by
  unfold Bi;rw[zk h]
  repeat' split
  all_goals rfl
 refine⟨Hu (π:=fun s=>s.1.BO) hO l s,fun v D hm=>IW (π:=fun s=>s.1.BO) (F:=fun v=>(Jq v).1) (fun s p h=>?_) hO l s v D hm⟩;unfold Bi;rw[h,zk (by decide),zm rfl]
theorem a8(l:List Pr)(s:Mem×Int):((∀p∈l,p.Key≠Fe)→(l.foldl Bi s).2=s.2)∧∀v,QM l→(⟨Fe,v⟩:Pr)∈l→(l.foldl Bi s).2=(Jq v).1:=by
 have hO:∀(s:Mem×Int) (p:Pr),p.Key≠Fe→(Bi s p).2=s.2:=fun s p h=>by
  unfold Bi;rw[zk h]
  repeat' split
  all_goals rfl
 refine⟨Hu (π:=fun s=>s.2) hO l s,fun v D hm=>IW (π:=fun s=>s.2) (F:=fun v=>(Jq v).1) (fun s p h=>?_) hO l s v D hm⟩;unfold Bi;rw[h,zk (by decide),zk (by decide),zm rfl]
theorem Zd(l:List Pr)(s:Mem×Int):((∀p∈l,p.Key≠Dz)→(l.foldl Bi s).1.Ad=s.1.Ad)∧∀v,QM l→(⟨Dz,v⟩:Pr)∈l→(l.foldl Bi s).1.Ad=v:=by
 have hO:∀(s:Mem×Int) (p:Pr),p.Key≠Dz→(Bi s p).1.Ad=s.1.Ad:=fun s p h=>by
  unfold Bi;rw[zk h]
  repeat' split
  all_goals rfl
 refine⟨Hu (π:=fun s=>s.1.Ad) hO l s,fun v D hm=>IW (π:=fun s=>s.1.Ad) (F:=fun v=>v) (fun s p h=>?_) hO l s v D hm⟩;unfold Bi;rw[h,zk (by decide),zk (by decide),zk (by decide),zm rfl]
theorem Zo(l:List Pr)(s:Mem×Int):((∀p∈l,p.Key≠EM)→(l.foldl Bi s).1.AZ=s.1.AZ)∧∀v,QM l→(⟨EM,v⟩:Pr)∈l→(l.foldl Bi s).1.AZ=v:=by
 have hO:∀(s:Mem×Int) (p:Pr),p.Key≠EM→(Bi s p).1.AZ=s.1.AZ:=fun s p h=>by
  unfold Bi;rw[zk h]
  repeat' split
  all_goals rfl
 refine⟨Hu (π:=fun s=>s.1.AZ) hO l s,fun v D hm=>IW (π:=fun s=>s.1.AZ) (F:=fun v=>v) (fun s p h=>?_) hO l s v D hm⟩;unfold Bi;rw[h,zk (by decide),zk (by decide),zk (by decide),zk (by decide),zm rfl]
theorem bX(l:List Pr)(s:Mem×Int):((∀p∈l,p.Key≠E8)→(l.foldl Bi s).1.Name=s.1.Name)∧∀v,QM l→(⟨E8,v⟩:Pr)∈l→(l.foldl Bi s).1.Name=v:=by
 have hO:∀(s:Mem×Int) (p:Pr),p.Key≠E8→(Bi s p).1.Name=s.1.Name:=fun s p h=>by
  unfold Bi;rw[zk h]
  repeat' split
  all_goals rfl
 refine⟨Hu (π:=fun s=>s.1.Name) hO l s,fun v D hm=>IW (π:=fun s=>s.1.Name) (F:=fun v=>v) (fun s p h=>?_) hO l s v D hm⟩;unfold Bi;rw[h,zk (by decide),zk (by decide),zk (by decide),zk (by decide),zk (by decide),zm rfl]
theorem cK(l:List Pr)(s:Mem×Int):((∀p∈l,p.Key≠E7)→(l.foldl Bi s).1.Ah=s.1.Ah)∧∀v,QM l→(⟨E7,v⟩:Pr)∈l→(l.foldl Bi s).1.Ah=v:=by
 have hO:∀(s:Mem×Int) (p:Pr),p.Key≠E7→(Bi s p).1.Ah=s.1.Ah:=fun s p h=>by
  unfold Bi;rw[zk h]
  repeat' split
  all_goals rfl
 refine⟨Hu (π:=fun s=>s.1.Ah) hO l s,fun v D hm=>IW (π:=fun s=>s.1.Ah) (F:=fun v=>v) (fun s p h=>?_) hO l s v D hm⟩;unfold Bi;rw[h,zk (by decide),zk (by decide),zk (by decide),zk (by decide),zk (by decide),zk (by decide),zm rfl]
theorem ay(l:List Pr)(s:Mem×Int):((∀p∈l,p.Key≠FQ)→(l.foldl Bi s).1.Time=s.1.Time)∧∀v,QM l→(⟨FQ,v⟩:Pr)∈l→(l.foldl Bi s).1.Time=tP v:=by
 have hO:∀(s:Mem×Int) (p:Pr),p.Key≠FQ→(Bi s p).1.Time=s.1.Time:=fun s p h=>by
  unfold Bi;rw[zk h]
  repeat' split
  all_goals rfl
 refine⟨Hu (π:=fun s=>s.1.Time) hO l s,fun v D hm=>IW (π:=fun s=>s.1.Time) (F:=tP) (fun s p h=>?_) hO l s v D hm⟩;unfold Bi;rw[h,zk (by decide),zk (by decide),zk (by decide),zk (by decide),zk (by decide),zk (by decide),zk (by decide),zm rfl]
theorem Wr{h:AN}{l:List Pr}(V:l.length≤1000)(Q:∀p∈l,bq p):Co h l=some ((l.foldl Bi (KF h,h.B2)).1,(l.foldl Bi (KF h,h.B2)).2,0):=by
 unfold Co;have key:W (loop (Bb l) (Wu (KF h) h.B2 0)) fun r=>r=.inl ((l.foldl Bi (KF h,h.B2)).1.Extra,(l.foldl Bi (KF h,h.B2)).1.Name,(l.foldl Bi (KF h,h.B2)).1.Ah,(l.foldl Bi (KF h,h.B2)).1.BO,(l.foldl Bi (KF h,h.B2)).1.BW,(l.foldl Bi (KF h,h.B2)).1.AZ,(l.foldl Bi (KF h,h.B2)).1.Ad,(l.foldl Bi (KF h,h.B2)).1.Time.Bu,(l.foldl Bi (KF h,h.B2)).1.Time.BG,(l.foldl Bi (KF h,h.B2)).2):=by
  refine W.list (l:=l) (fun(s:Mem×Int) (i:Nat)=>Wu s.1 s.2 i) (fun s i=>s=(l.take i).foldl Bi (KF h,h.B2)∧s.1.Extra.length≤i) ?_ ?_ (KF h,h.B2) ⟨rfl,zC _⟩
  ·intro s D;obtain⟨h1,_⟩:=D;rw[z8]at h1;rw[←h1];unfold Bb Wu;simp only[];rw[zi (by omega),AK];exact W.ret rfl
  ·intro s i hi D;obtain⟨h1,h2⟩:=D;refine⟨_,step_ok hi V (Q _ (zS hi)) h2,Bi s l[i],rfl,?_,?_⟩
   ·rw[Da (List.getElem?_eq_getElem hi),xi,←h1];rfl
   ·have:=Ya s l[i];omega
 refine(bz (show loop (Bb l) _=_ from key.eq)).trans ?_;dsimp only;obtain⟨c1,c2,c3,c4,c5⟩:=Ms l (KF h,h.B2);generalize l.foldl Bi (KF h,h.B2)=r at *;obtain⟨⟨r1,r2,r3,r4,r5,r6,r7,r8,r9,r10,r11,r12,r13⟩,r14⟩:=r;dsimp only[KF]at *;subst c1;subst c2;subst c3;subst c4;subst c5;rfl
theorem IM{m:Mem}{n:Int}{ts:IH}{p:Pr}:p∈lW m n ts↔p∈lB m n ts∨p∈m.Extra:=by
 rw[(Nc m n ts).mem_iff,zB]
theorem ax(m:Mem)(n:Int)(ts:IH):(lW m n ts).length≤8+m.Extra.length:=by
 rw[(Nc m n ts).length_eq,ze];have:=(NV m n ts).2.1;omega
theorem My{s:IH}(h:1≤s.length):s≠[]:=fun e=>by rw[e]at h;simp at h
theorem bK{m:Mem}{n:Int}{ts:IH}(R:Ho m)(T:0≤n∧n<9007199254740992)(O:1≤ts.length):∀p∈lW m n ts,p.Value≠[]:=by
 intro p B;rcases IM.1 B with B|B
 ·have gi:=R.gi;have ui:=R.ui;rw[FJ]at B;rcases B with⟨h,rfl⟩|⟨h,rfl⟩|⟨h,rfl⟩|⟨h,rfl⟩|⟨h,rfl⟩|⟨h,rfl⟩|⟨h,rfl⟩|⟨h,rfl⟩
  ·exact My (NO (by omega) (by omega)).1
  ·exact My (by unfold c2 at h;dsimp only;omega)
  ·exact My (by unfold c3 at h;dsimp only;omega)
  ·exact My O
  ·exact R.ne
  ·exact My (NO (by omega) (by omega)).1
  ·exact My (NO (by omega) (by omega)).1
  ·exact My (by unfold c8 at h;dsimp only;omega)
 ·exact(R.ex.2 p B).2.2.1
theorem dX{m:Mem}{n:Int}{ts:IH}(R:Ho m)(T:0≤n∧n<9007199254740992)(O:BJ ts=some (m.Time.Bu,m.Time.BG,0))(hlen:∀p∈lW m n ts,p.Value.length≤1000000):∀p∈lW m n ts,bq p:=by
 intro p B;have gi:=R.gi;have ui:=R.ui;have E:=hlen p B;rcases IM.1 B with B|B
 ·rw[FJ]at B;rcases B with⟨h,rfl⟩|⟨h,rfl⟩|⟨h,rfl⟩|⟨h,rfl⟩|⟨h,rfl⟩|⟨h,rfl⟩|⟨h,rfl⟩|⟨h,rfl⟩
  ·exact⟨fun _=>by dsimp only;rw[KU (by omega) (by omega)],fun h=>absurd h (by dsimp only;decide),fun h=>absurd h (by dsimp only;decide),E⟩
  ·exact⟨fun h=>absurd h (by dsimp only;decide),fun _=>R.nG,fun h=>absurd h (by dsimp only;decide),E⟩
  ·exact⟨fun h=>absurd h (by dsimp only;decide),fun _=>R.nL,fun h=>absurd h (by dsimp only;decide),E⟩
  ·exact⟨fun h=>absurd h (by dsimp only;decide),fun h=>absurd h (by dsimp only;decide),fun _=>⟨m.Time,O⟩,E⟩
  ·exact⟨fun h=>absurd h (by dsimp only;decide),fun _=>R.nN,fun h=>absurd h (by dsimp only;decide),E⟩
  ·exact⟨fun _=>by dsimp only;rw[KU (by omega) (by omega)],fun h=>absurd h (by dsimp only;decide),fun h=>absurd h (by dsimp only;decide),E⟩
  ·exact⟨fun _=>by dsimp only;rw[KU (by omega) (by omega)],fun h=>absurd h (by dsimp only;decide),fun h=>absurd h (by dsimp only;decide),E⟩
  ·exact⟨fun h=>absurd h (by dsimp only;decide),fun _=>R.nU,fun h=>absurd h (by dsimp only;decide),E⟩
 ·obtain⟨k1,k2,k3,k4,k5,k6,k7,k8⟩:=UD (R.ex.2 p B).1;exact⟨fun h=>by rcases h with h|h|h<;>contradiction,fun h=>by rcases h with h|h|h|h<;>contradiction,fun h=>absurd h k8,E⟩
theorem Of{m:Mem}{n:Int}{ts:IH}{K:IH}(R:Ho m)(U:C0 K=true)(T:∀p∈lB m n ts,p.Key≠K):∀p∈lW m n ts,p.Key≠K:=by
 intro p B e;rcases IM.1 B with h|h
 ·exact T p h e
 ·have:=(R.ex.2 p h).1;rw[e,U]at this;cases this
theorem Wl{m:Mem}{n:Int}{ts:IH}(R:Ho m):(lW m n ts).filter (fun p=> !C0 p.Key)=m.Extra:=by
 refine PB ((SJ R n ts).sublist List.filter_sublist) R.ex.1 fun q=>?_;rw[yf,IM];constructor
 ·rintro⟨h|h,h2⟩
  ·rw[(NV m n ts).2.2 q h]at h2;cases h2
  ·exact h
 ·intro h;exact⟨.inr h,by rw[(R.ex.2 q h).1];rfl⟩
theorem ZY{m:Mem}{n:Int}{ts:IH}{kd:Int}(R:Ho m)(T:0≤n∧n<9007199254740992)(B:BJ ts=some (m.Time.Bu,m.Time.BG,0)):
  (lW m n ts).foldl Bi (KF ⟨(hB m n).Name,(hB m n).Ah,kd,(hB m n).Mode,(hB m n).BO,(hB m n).BW,(hB m n).B2,(hB m n).Time,(hB m n).AZ,(hB m n).Ad,(hB m n).Aj,(hB m n).Ao,2⟩,(hB m n).B2)=
   (⟨m.Name,m.Ah,kd,m.Mode,m.BO,m.BW,m.AZ,m.Ad,m.Aj,m.Ao,m.Time,m.Extra,[]⟩,n):=by
 have gi:=R.gi;have ui:=R.ui;have S:=SJ R n ts;generalize C:(KF ⟨(hB m n).Name,(hB m n).Ah,kd,(hB m n).Mode,(hB m n).BO,(hB m n).BW,(hB m n).B2,(hB m n).Time,(hB m n).AZ,(hB m n).Ad,(hB m n).Aj,(hB m n).Ao,2⟩,(hB m n).B2)=s0;obtain⟨g1,g2⟩:=cd (lW m n ts) s0;obtain⟨u1,u2⟩:=dT (lW m n ts) s0;obtain⟨z1,z2⟩:=a8 (lW m n ts) s0;obtain⟨a1,a2⟩:=Zd (lW m n ts) s0;obtain⟨b1,b2⟩:=Zo (lW m n ts) s0;obtain⟨n1,n2⟩:=bX (lW m n ts) s0;obtain⟨l1,l2⟩:=cK (lW m n ts) s0;obtain⟨t1,t2⟩:=ay (lW m n ts) s0;obtain⟨q1,q2,q3,q4,q5⟩:=Ms (lW m n ts) s0;have qe:=QD (lW m n ts) s0;rw[Wl R]at qe;have e1:((lW m n ts).foldl Bi s0).1.BW=m.BW:=by
  by_cases hc:c1 m
  ·rw[g1 (Of R rfl fun p B=>by rw[FJ]at B;rcases B with⟨h,rfl⟩|⟨h,rfl⟩|⟨h,rfl⟩|⟨h,rfl⟩|⟨h,rfl⟩|⟨h,rfl⟩|⟨h,rfl⟩|⟨h,rfl⟩<;>first|exact absurd hc h|(dsimp only;decide)),←C];show(if c1 m then m.BW else 0)=m.BW;rw[zm hc]
  ·rw[g2 _ S (IM.2 (.inl (FJ.2 (.inl ⟨hc,rfl⟩)))),KU (by omega) (by omega)]
 have e2:((lW m n ts).foldl Bi s0).1.BO=m.BO:=by
  by_cases hc:c7 m
  ·rw[u1 (Of R rfl fun p B=>by rw[FJ]at B;rcases B with⟨h,rfl⟩|⟨h,rfl⟩|⟨h,rfl⟩|⟨h,rfl⟩|⟨h,rfl⟩|⟨h,rfl⟩|⟨h,rfl⟩|⟨h,rfl⟩<;>first|exact absurd hc h|(dsimp only;decide)),←C];show(if c7 m then m.BO else 0)=m.BO;rw[zm hc]
  ·rw[u2 _ S (IM.2 (.inl (FJ.2 (.inr (.inr (.inr (.inr (.inr (.inr (.inl ⟨hc,rfl⟩)))))))))),KU (by omega) (by omega)]
 have e3:((lW m n ts).foldl Bi s0).2=n:=by
  by_cases hc:c6 n
  ·rw[z1 (Of R rfl fun p B=>by rw[FJ]at B;rcases B with⟨h,rfl⟩|⟨h,rfl⟩|⟨h,rfl⟩|⟨h,rfl⟩|⟨h,rfl⟩|⟨h,rfl⟩|⟨h,rfl⟩|⟨h,rfl⟩<;>first|exact absurd hc h|(dsimp only;decide)),←C];show(if c6 n then n else 0)=n;rw[zm hc]
  ·rw[z2 _ S (IM.2 (.inl (FJ.2 (.inr (.inr (.inr (.inr (.inr (.inl ⟨hc,rfl⟩))))))))),KU (by omega) (by omega)]
 have e4:((lW m n ts).foldl Bi s0).1.Ad=m.Ad:=by
  by_cases hc:c2 m
  ·rw[a1 (Of R rfl fun p B=>by rw[FJ]at B;rcases B with⟨h,rfl⟩|⟨h,rfl⟩|⟨h,rfl⟩|⟨h,rfl⟩|⟨h,rfl⟩|⟨h,rfl⟩|⟨h,rfl⟩|⟨h,rfl⟩<;>first|exact absurd hc h|(dsimp only;decide)),←C];show(if c2 m then m.Ad else[])=m.Ad;rw[zm hc]
  ·rw[a2 _ S (IM.2 (.inl (FJ.2 (.inr (.inl ⟨hc,rfl⟩)))))]
 have e5:((lW m n ts).foldl Bi s0).1.AZ=m.AZ:=by
  by_cases hc:c8 m
  ·rw[b1 (Of R rfl fun p B=>by rw[FJ]at B;rcases B with⟨h,rfl⟩|⟨h,rfl⟩|⟨h,rfl⟩|⟨h,rfl⟩|⟨h,rfl⟩|⟨h,rfl⟩|⟨h,rfl⟩|⟨h,rfl⟩<;>first|exact absurd hc h|(dsimp only;decide)),←C];show(if c8 m then m.AZ else[])=m.AZ;rw[zm hc]
  ·rw[b2 _ S (IM.2 (.inl (FJ.2 (.inr (.inr (.inr (.inr (.inr (.inr (.inr ⟨hc,rfl⟩))))))))))]
 have e6:((lW m n ts).foldl Bi s0).1.Name=m.Name:=by
  by_cases hc:c5 m
  ·rw[n1 (Of R rfl fun p B=>by rw[FJ]at B;rcases B with⟨h,rfl⟩|⟨h,rfl⟩|⟨h,rfl⟩|⟨h,rfl⟩|⟨h,rfl⟩|⟨h,rfl⟩|⟨h,rfl⟩|⟨h,rfl⟩<;>first|exact absurd hc h|(dsimp only;decide)),←C];show(if c5 m then m.Name else[])=m.Name;rw[zm hc]
  ·rw[n2 _ S (IM.2 (.inl (FJ.2 (.inr (.inr (.inr (.inr (.inl ⟨hc,rfl⟩))))))))]
 have e7:((lW m n ts).foldl Bi s0).1.Ah=m.Ah:=by
  by_cases hc:c3 m
  ·rw[l1 (Of R rfl fun p B=>by rw[FJ]at B;rcases B with⟨h,rfl⟩|⟨h,rfl⟩|⟨h,rfl⟩|⟨h,rfl⟩|⟨h,rfl⟩|⟨h,rfl⟩|⟨h,rfl⟩|⟨h,rfl⟩<;>first|exact absurd hc h|(dsimp only;decide)),←C];show(if c3 m then m.Ah else[])=m.Ah;rw[zm hc]
  ·rw[l2 _ S (IM.2 (.inl (FJ.2 (.inr (.inr (.inl ⟨hc,rfl⟩))))))]
 have e8:((lW m n ts).foldl Bi s0).1.Time=m.Time:=by
  by_cases hc:c4 m
  ·rw[t1 (Of R rfl fun p B=>by rw[FJ]at B;rcases B with⟨h,rfl⟩|⟨h,rfl⟩|⟨h,rfl⟩|⟨h,rfl⟩|⟨h,rfl⟩|⟨h,rfl⟩|⟨h,rfl⟩|⟨h,rfl⟩<;>first|exact absurd hc h|(dsimp only;decide)),←C];show(⟨if c4 m then m.Time.Bu else 0,0⟩:Ap)=m.Time;rw[zm hc,←hc.1]
  ·rw[t2 _ S (IM.2 (.inl (FJ.2 (.inr (.inr (.inr (.inl ⟨hc,rfl⟩)))))))];unfold tP;rw[B];rfl
 have w1:s0.1.Kind=kd:=by rw[←C];rfl
 have w2:s0.1.Mode=m.Mode:=by rw[←C];rfl
 have w3:s0.1.Aj=m.Aj:=by rw[←C];rfl
 have w4:s0.1.Ao=m.Ao:=by rw[←C];rfl
 have w5:s0.1.Data=[]:=by rw[←C];rfl
 have w6:s0.1.Extra=[]:=by rw[←C];rfl
 rw[w6,ye]at qe;generalize (lW m n ts).foldl Bi s0=r at *;obtain⟨⟨r1,r2,r3,r4,r5,r6,r7,r8,r9,r10,r11,r12,r13⟩,r14⟩:=r;dsimp only at *;subst e1;subst e2;subst e3;subst e4;subst e5;subst e6;subst e7;subst e8;subst qe;rw[q1,q2,q3,q4,q5,w1,w2,w3,w4,w5]
end Go.Av.L
