/-
  Several texts in one.
-/
import Derived.Test.YtlddjbgohnlihaaGreatDoorBkN
/-
 A part.
-/
section
namespace Go.Av.L
open Go.Av Go.Lib
set_option linter.unusedVariables false
set_option linter.unusedSimpArgs false
set_option maxRecDepth 10000
theorem MH{ρ:Type}{step:Int→Option (Int⊕(Unit⊕ρ))}{n:Nat}{c:Nat→Bool}{e:ρ}(D:step (n:Int)=some (.inr (.inl ())))(N:∀i:Nat,i<n→step (i:Int)=some (if c i=true then .inl ((i+1:Nat):Int)else .inr (.inr e))):
  loop step 0=some (if(List.range n).all c=true then .inl ()else .inr e):=by
 have key:∀(k i:Nat),i+k=n→(∀j,j<i→c j=true)→loop step (i:Int)=some (if(List.range n).all c=true then .inl ()else .inr e):=by
  intro k
  induction k with
  |zero=>
   intro i hi hc;obtain rfl:i=n:=by omega
   rw[Dn D,zm (by rw[zn];exact fun j S=>hc j (zO.1 S))]
  | succ k ih=>
   intro i hi hc;have h1:=N i (by omega);by_cases K:c i=true
   ·rw[zm K]at h1;rw[B7 h1];refine ih (i+1) (by omega) fun j S=>?_;by_cases e:j=i
    ·rw[e];exact K
    ·exact hc j (by omega)
   ·rw[zk K]at h1;rw[Dn h1,zk];intro V;rw[zn]at V;exact K (V i (zO.2 (by omega)))
 exact key n 0 (by omega) fun j S=>by omega
theorem Wv{α:Type}(a b:Bool)(x y:Option α):AX a x (AX b x y)=AX (a||b) x y:=by cases a<;>rfl
theorem VU(s:List UInt8)(c:UInt8):Bg s (c.toNat:Int)=some (idxOf s c):=by
 unfold Bg DC H3;have:=c.toNat_lt;rw[zm (by omega)];simp
def US:Pr:=⟨[],[]⟩
def C0(k:IH):Bool:=k==([103,105,100]:List UInt8)||(k==([117,105,100]:List UInt8)||(k==([115,105,122,101]:List UInt8)||(k==([103,110,97,109,101]:List UInt8)||(k==([117,110,97,109,101]:List UInt8)||(k==([112,97,116,104]:List UInt8)||(k==([108,105,110,107,112,97,116,104]:List UInt8)||k==([109,116,105,109,101]:List UInt8)))))))
def cX(l:List Pr)(i:Nat):Bool:= !(C0 (l.getD i US).Key||(((l.getD i US).Key==[]||(l.getD i US).Value==[])||(decide (idxOf (l.getD i US).Key 61≥0)||(decide (0<i)&& !(Op.bytesLess (l.getD (i - 1) US).Key (l.getD i US).Key)))))
theorem getD_at{l:List Pr}{i:Nat}(h:i<l.length):l.getD i US=l[i]:=by rw[zo,List.getElem?_eq_getElem h];rfl
theorem Um{l:List Pr}{i:Nat}(hi:i<l.length)(C:l.length≤1000000):Eh l (i:Int)=some (if cX l i=true then .inl ((i+1:Nat):Int)else .inr (.inr false)):=by
 unfold Eh;dsimp only;rw[zf (by omega),AQ,EH hi,za];simp only[Wv];rw[show(61:Int)=((61:UInt8).toNat:Int) from rfl,VU,za,DP (by omega)];have J:(AX (decide ((i:Int)>0)) ((G8 l (IntKind.i64.wrap ((i:Int) - 1))).bind fun x8=>some (!(Op.bytesLess x8.Key l[i].Key))) (some false):Option Bool)=some (decide (0<i)&& !(Op.bytesLess (l.getD (i - 1) US).Key l[i].Key)):=by
  by_cases E:0<i
  ·rw[zf (show(i:Int)>0 by omega),AQ,DK (by omega) (by omega),show(i:Int) - 1=((i - 1:Nat):Int) by omega,EH (by omega),za,getD_at (show i - 1<l.length by omega),zf E,yL]
  ·rw[zi (show ¬(i:Int)>0 by omega),AK,zi E,yX]
 rw[J,za];have hk:cX l i= !(C0 l[i].Key||((l[i].Key==[]||l[i].Value==[])||(decide (idxOf l[i].Key 61≥0)||(decide (0<i)&& !(Op.bytesLess (l.getD (i - 1) US).Key l[i].Key))))):=by unfold cX;rw[getD_at hi]
 rw[hk];generalize (decide (0<i)&& !(Op.bytesLess (l.getD (i - 1) US).Key l[i].Key))=e3;generalize decide (idxOf l[i].Key 61≥0)=e2;generalize (l[i].Key==([]:List UInt8)||l[i].Value==([]:List UInt8))=e1;unfold C0;generalize (l[i].Key==([103,105,100]:List UInt8))=k1;generalize (l[i].Key==([117,105,100]:List UInt8))=k2;generalize (l[i].Key==([115,105,122,101]:List UInt8))=k3;generalize (l[i].Key==([103,110,97,109,101]:List UInt8))=k4;generalize (l[i].Key==([117,110,97,109,101]:List UInt8))=k5;generalize (l[i].Key==([112,97,116,104]:List UInt8))=k6;generalize (l[i].Key==([108,105,110,107,112,97,116,104]:List UInt8))=k7;generalize (l[i].Key==([109,116,105,109,101]:List UInt8))=k8;generalize (k1||(k2||(k3||(k4||(k5||(k6||(k7||k8)))))))=e0;cases e0<;>cases e1<;>cases e2<;>cases e3<;>rfl
def Tg(l:List Pr):Bool:=(List.range l.length).all (cX l)
theorem Yb(l:List Pr)(C:l.length≤1000000):Gj l=some (Tg l):=by
 unfold Gj Tg;have D:Eh l (l.length:Int)=some (.inr (.inl ())):=by
  unfold Eh;dsimp only;rw[zi (by omega),AK]
 rw[MH D fun i hi=>Um hi C,za];by_cases h:(List.range l.length).all (cX l)=true
 ·rw[zm h,h]
 ·rw[zk h];have:(List.range l.length).all (cX l)=false:=by simpa using h
  rw[this]
theorem Nw(most:Int)(l:List Int)(C:l.length≤1000):Cz most l=some (l.all fun v=>decide (0≤v∧v<most)):=by
 unfold Cz;have D:Cl most l (l.length:Int)=some (.inr (.inl ())):=by
  unfold Cl;dsimp only;rw[zi (by omega),AK]
 have hst:∀i:Nat,i<l.length→Cl most l (i:Int)=some (if decide (0≤l.getD i 0∧l.getD i 0<most)=true then .inl ((i+1:Nat):Int)else .inr (.inr false)):=by
  intro i hi;unfold Cl;dsimp only;rw[zf (by omega),AQ,EH hi,za,DP (by omega),zo,List.getElem?_eq_getElem hi,zV];by_cases h:0≤l[i]∧l[i]<most
  ·rw[zm (zf h),show(decide (l[i]<0)||decide (l[i]≥most))=false from by rw[zH];exact⟨zi (by omega),zi (by omega)⟩,AK]
  ·rw[zk (by simpa using h),show(decide (l[i]<0)||decide (l[i]≥most))=true from by rw[yo,zD,zD];omega,AQ]
 rw[MH D hst,za];have e:(List.range l.length).all (fun i=>decide (0≤l.getD i 0∧l.getD i 0<most))=l.all fun v=>decide (0≤v∧v<most):=by
  rw[qj,zn,zn];constructor
  ·intro h v hv;obtain⟨i,hi,rfl⟩:=yA hv;have:=h i (zO.2 hi);rwa [zo,List.getElem?_eq_getElem hi]at this
  ·intro h i hi;have hi:=zO.1 hi;have:=h _ (zS hi);rwa [zo,List.getElem?_eq_getElem hi]
 rw[show(List.range l.length).all (fun i=>decide (0≤l.getD i 0∧l.getD i 0<most))=_ from e];by_cases h:(l.all fun v=>decide (0≤v∧v<most))=true
 ·rw[zm h,h]
 ·rw[zk h];have:(l.all fun v=>decide (0≤v∧v<most))=false:=by simpa using h
  rw[this]
def ON(t:Ap):Bool:=((decide (t.Bu≥(-9007199254740991))&&decide (t.Bu≤9007199254740991))&&decide (t.BG≥0))&&decide (t.BG<1000000000)
theorem VL(t:Ap):ON t=true↔Nu t:=by
 unfold ON Nu;simp only[zh,zD];omega
def Q5(m:AJ):Bool:=(decide (0≤m.BO∧m.BO<9007199254740992)&&decide (0≤m.BW∧m.BW<9007199254740992))&&((decide (0≤m.Mode∧m.Mode<2097152)&&(decide (0≤m.Aj∧m.Aj<2097152)&&decide (0≤m.Ao∧m.Ao<2097152)))&&ON m.Time)
def XQ(m:AJ):Bool:=EW m.Name||(EW m.Ah||(EW m.AZ||EW m.Ad))
def Gu(m:AJ):Int:=if XQ m=true then 2 else if(m.Name==[]|| !Tg m.Extra)=true then 2 else if Q5 m=true then 0 else 6
theorem Wg(m:AJ):loop (Hk m) 0=some (if XQ m=true then .inr 2 else .inl ()):=PW ⟨m.Name,m.Ah,0,0,0,0,0,0,m.AZ,m.Ad,0,0,0⟩
theorem S9(m:AJ)(C:m.Extra.length≤1000000):Fl m=some (Gu m):=by
 unfold Fl Gu;rw[Wg,za];by_cases B:XQ m=true
 ·rw[zm B,zm B]
 ·rw[zk B,zk B];dsimp only;rw[Yb _ C,Nw _ _ (by simp),Nw _ _ (by simp)];unfold Q5 Dw;rw[show(((decide (m.Time.Bu≥(-9007199254740991))&&decide (m.Time.Bu≤9007199254740991))&&decide (m.Time.BG≥0))&&decide (m.Time.BG<1000000000))=ON m.Time from rfl];simp only[za,zR,qv,qN];generalize (decide (0≤m.BO∧m.BO<9007199254740992)&&decide (0≤m.BW∧m.BW<9007199254740992))=b1;generalize (decide (0≤m.Mode∧m.Mode<2097152)&&(decide (0≤m.Aj∧m.Aj<2097152)&&decide (0≤m.Ao∧m.Ao<2097152)))=b2;generalize ON m.Time=b3;generalize Tg m.Extra=b4;generalize (m.Name==([]:List UInt8))=b5;cases b5<;>cases b4<;>cases b1<;>cases b2<;>cases b3<;>rfl
def Pn(m:AJ)(n:Int):Int:=if Gu m=0 then(if 0≤n∧n<9007199254740992 then 0 else 6)else Gu m
theorem TY(m:AJ)(n:Int)(C:m.Extra.length≤1000000):Fk m n=some (Pn m n):=by
 unfold Fk Pn;rw[S9 m C,za];by_cases h:Gu m=0
 ·rw[zm h,h,show((0:Int) !=0)=false from rfl,AK,Nw _ _ (by simp),za];simp only[zR,qv,qN];by_cases B:0≤n∧n<9007199254740992
  ·rw[zf B,zm B];rfl
  ·rw[zi B,zk B];rfl
 ·rw[zk h,bne_iff_ne.2 h,AQ]
def aQ(l:List Pr):Prop:=QM l∧∀p∈l,C0 p.Key=false∧p.Key≠[]∧p.Value≠[]∧(61:UInt8)∉p.Key
theorem WD:∀{l:List Pr},(∀i,(h:i+1<l.length)→l[i].Key<l[i+1].Key)→QM l
 |[],_=>.nil
 |a::l,h=>by
  refine yx.2 ⟨fun b Q=>?_,WD fun i hi=>h (i+1) (by simpa using hi)⟩;obtain⟨j,S,rfl⟩:=yA Q
  induction j with
  |zero=>exact h 0 (by simpa using S)
  |succ j ih=>exact xE (ih (by omega) (zS _)) (h (j+1) (by simpa using S))
theorem Wn{l:List Pr}(h:Tg l=true):aQ l:=by
 unfold Tg at h;rw[zn]at h;have at_:∀i (hi:i<l.length),C0 l[i].Key=false∧l[i].Key≠[]∧l[i].Value≠[]∧(61:UInt8)∉l[i].Key∧(0<i→Op.bytesLess (l.getD (i - 1) US).Key l[i].Key=true):=by
  intro i hi;have hc:=h i (zO.2 hi);unfold cX at hc;rw[getD_at hi]at hc;simp only[zK,zH,zL,zx,yb,qt]at hc;obtain⟨h1,⟨h2,G⟩,U,M⟩:=hc;refine⟨h1,h2,G,fun hm=>U ((MG _ _).2 hm),fun J=>?_⟩;rcases M with M|M
  ·exact absurd J M
  ·exact M
 refine⟨WD fun i hi=>?_,fun p J=>?_⟩
 ·have:=(at_ (i+1) hi).2.2.2.2 (by omega);rw[Nat.add_sub_cancel,getD_at (show i<l.length by omega),Go.Proofs.bytesLess_eq]at this;simpa using this
 ·obtain⟨i,hi,rfl⟩:=yA J;obtain⟨h1,h2,G,U,_⟩:=at_ i hi;exact⟨h1,h2,G,U⟩
structure Ho(m:AJ):Prop where
 nN:EW m.Name=false
 nL:EW m.Ah=false
 nU:EW m.AZ=false
 nG:EW m.Ad=false
 ne:m.Name≠[]
 ex:aQ m.Extra
 ui:0≤m.BO∧m.BO<9007199254740992
 gi:0≤m.BW∧m.BW<9007199254740992
 mo:0≤m.Mode∧m.Mode<2097152
 ma:0≤m.Aj∧m.Aj<2097152
 mi:0≤m.Ao∧m.Ao<2097152
 ti:Nu m.Time
theorem KK{m:AJ}(h:Gu m=0):Ho m:=by
 unfold Gu at h;split at h
 ·cases h
 split at h
 ·cases h
 split at h
 rotate_left
 ·cases h
 rename_i h1 h2 G;unfold XQ at h1;simp only[qf,zH,zL,qt]at h1 h2;unfold Q5 at G;simp only[zh,zD,VL]at G;obtain⟨n1,n2,n3,n4⟩:=h1;obtain⟨⟨g1,g2⟩,⟨g3,g4,g5⟩,g6⟩:=G;exact⟨n1,n2,n3,n4,h2.1,Wn h2.2,g1,g2,g3,g4,g5,g6⟩
structure JJ(h:AN):Prop where
 nN:EW h.Name=false
 nL:EW h.Ah=false
 nU:EW h.AZ=false
 nG:EW h.Ad=false
 pt:∃p q,JS h.Name (p,q,true)
 lk:h.Ah.length≤100
 un:h.AZ.length≤32
 gn:h.Ad.length≤32
 mo:0≤h.Mode∧h.Mode<2097152
 ui:0≤h.BO∧h.BO<2097152
 gi:0≤h.BW∧h.BW<2097152
 si:0≤h.B2∧h.B2<8589934592
 ti:0≤h.Time∧h.Time<8589934592
 ma:0≤h.Aj∧h.Aj<2097152
 mi:0≤h.Ao∧h.Ao<2097152
theorem Nh(h:AN):(Sn h).all NZ=true↔(0≤h.Mode∧h.Mode<2097152)∧(0≤h.BO∧h.BO<2097152)∧(0≤h.BW∧h.BW<2097152)∧(0≤h.B2∧h.B2<8589934592)∧(0≤h.Time∧h.Time<8589934592)∧(0≤h.Aj∧h.Aj<2097152)∧(0≤h.Ao∧h.Ao<2097152):=by
 unfold Sn NZ;simp
theorem Xz(h:AN)(B:h.Name.length≤1000000):∃e,BT h=some e∧(e=0↔JJ h):=by
 obtain⟨⟨p,q,b⟩,ep,I⟩:=O6 h.Name B;refine⟨NW h b,V2 ep I,fun E=>?_,fun F=>?_⟩
 ·unfold NW at E;split at E
  ·cases E
  split at E
  rotate_left
  ·cases E
  split at E
  rotate_left
  ·cases E
  rename_i h1 h2 G;unfold Tt at h1;simp only[qf,zH]at h1;unfold Rq at h2;simp only[zh,zD]at h2;rw[Nh]at G;obtain⟨rfl,t1,t2,t3⟩:=h2;obtain⟨n1,n2,n3,n4⟩:=h1;obtain⟨g1,g2,g3,g4,g5,g6,g7⟩:=G;exact⟨n1,n2,n3,n4,⟨p,q,I⟩,t1,t2,t3,g1,g2,g3,g4,g5,g6,g7⟩
 ·obtain⟨p',q',O⟩:=F.pt;have e:=I.uniq O;cases e;unfold NW
  rw[zk (by unfold Tt;rw[F.nN,F.nL,F.nU,F.nG];simp),zm (by unfold Rq;simp only[yL,zh,zD];exact⟨F.lk,F.un,F.gn⟩),
   zm ((Nh h).2 ⟨F.mo,F.ui,F.gi,F.si,F.ti,F.ma,F.mi⟩)]
theorem JJ.fit{h:AN}(F:JJ h)(B:h.Name.length≤1000000)(hk:0≤h.Kind∧h.Kind≤255):∃p q,Fit h p q:=by
 obtain⟨⟨p,q,b⟩,ep,I⟩:=O6 h.Name B;obtain⟨p',q',O⟩:=F.pt;have e:=I.uniq O;cases e;exact⟨p,q,ep,I,by unfold Tt;rw[F.nN,F.nL,F.nU,F.nG];rfl,⟨F.lk,F.un,F.gn⟩,(Nh h).2 ⟨F.mo,F.ui,F.gi,F.si,F.ti,F.ma,F.mi⟩,hk⟩
theorem Jh{h w:AN}{c:Prop}[Decidable c](hc:JJ w↔c)(B:w.Name.length≤1000000){k v:List UInt8}{l:List Pr}(C:l.length≤100):
  ((BT w).bind fun x2=>AX (x2==0) (some (w,l)) (Bn (MY 32 (l.length+([(⟨k,v⟩:AA)]:List AA).length))<|some (h,(l++([(⟨k,v⟩:AA)]:List AA)))))=some (if c then w else h,l++if c then[]else[⟨k,v⟩]):=by
 obtain⟨e,he,Z⟩:=Xz w B;rw[he,za,Lm];by_cases E:c
 ·rw[zm (Z.2 (hc.2 E)),zm E,zm E,yj]
 ·rw[zk (fun h=>E (hc.1 (Z.1 h))),zk E,zk E,GZ (by simp;omega) (by simp;omega),Ak]
end Go.Av.L
end
/-
 A part.
-/
section
namespace Go.Av.L
open Go.Av Go.Lib
set_option linter.unusedVariables false
set_option linter.unusedSimpArgs false
set_option maxRecDepth 10000
abbrev Mem:=AJ
def IA:IH:=[103,105,100]
def Hf:IH:=[117,105,100]
def Fe:IH:=[115,105,122,101]
def Dz:IH:=[103,110,97,109,101]
def EM:IH:=[117,110,97,109,101]
def E8:IH:=[112,97,116,104]
def E7:IH:=[108,105,110,107,112,97,116,104]
def FQ:IH:=[109,116,105,109,101]
noncomputable def UN(s:IH):Bool:=((D5 s).getD ([],[],false)).2.2
theorem N8{s:IH}(N:s.length≤1000000):(∃p q,JS s (p,q,true))↔UN s=true:=by
 obtain⟨⟨p,q,b⟩,e,I⟩:=O6 s N;unfold UN;rw[e];constructor
 ·rintro⟨p',q',h⟩;have:=I.uniq h;cases this;rfl
 ·intro Q;have Q:b=true:=Q;subst Q;exact⟨p,q,I⟩
abbrev c1(m:Mem):Prop:=0≤m.BW∧m.BW<2097152
abbrev c2(m:Mem):Prop:=m.Ad.length≤32
abbrev c3(m:Mem):Prop:=m.Ah.length≤100
abbrev c4(m:Mem):Prop:=m.Time.BG=0∧0≤m.Time.Bu∧m.Time.Bu<8589934592
abbrev c5(m:Mem):Prop:=UN m.Name=true
abbrev c6(n:Int):Prop:=0≤n∧n<8589934592
abbrev c7(m:Mem):Prop:=0≤m.BO∧m.BO<2097152
abbrev c8(m:Mem):Prop:=m.AZ.length≤32
noncomputable def hB(m:Mem)(n:Int):AN:=
 ⟨if c5 m then m.Name else[],if c3 m then m.Ah else[],m.Kind,m.Mode,if c7 m then m.BO else 0,if c1 m then m.BW else 0,if c6 n then n else 0,if c4 m then m.Time.Bu else 0,if c8 m then m.AZ else[],if c2 m then m.Ad else[],m.Aj,m.Ao,2⟩
noncomputable def lB(m:Mem)(n:Int)(ts:IH):List Pr:=
 ((((((([]++if c1 m then[]else[⟨IA,Lib.itoa m.BW⟩])++if c2 m then[]else[⟨Dz,m.Ad⟩])++if c3 m then[]else[⟨E7,m.Ah⟩])++if c4 m then[]else[⟨FQ,ts⟩])++if c5 m then[]else[⟨E8,m.Name⟩])++if c6 n then[]else[⟨Fe,Lib.itoa n⟩])++if c7 m then[]else[⟨Hf,Lib.itoa m.BO⟩])++if c8 m then[]else[⟨EM,m.AZ⟩]
theorem Ke{c:Prop}[Decidable c]{x:Pr}:(if c then[]else[x]:List Pr).length≤1:=by split<;>simp
section
variable {h:AN} {k v:IH} {l:List Pr} {m:Mem}
theorem s1(F:JJ h)(B:h.Name.length≤1000000)(C:l.length≤100):∃h',DE k v m h l=some (h',l++if c1 m then[]else[⟨k,v⟩])∧JJ h'∧h'={h with BW:=if c1 m then m.BW else h.BW}:=by
 refine⟨_,Jh (w:={h with BW:=m.BW}) (c:=c1 m) ⟨fun F'=>F'.gi,fun hc=>{F with gi:=hc}⟩ B C,?_,?_⟩
 ·split
  ·rename_i hc;exact {F with gi:=hc}
  ·exact F
 ·split<;>rfl
theorem s2(F:JJ h)(B:h.Name.length≤1000000)(C:l.length≤100)(H:EW m.Ad=false):∃h',Cc k v m h l=some (h',l++if c2 m then[]else[⟨k,v⟩])∧JJ h'∧h'={h with Ad:=if c2 m then m.Ad else h.Ad}:=by
 refine⟨_,Jh (w:={h with Ad:=m.Ad}) (c:=c2 m) ⟨fun F'=>F'.gn,fun hc=>{F with gn:=hc,nG:=H}⟩ B C,?_,?_⟩
 ·split
  ·rename_i hc;exact {F with gn:=hc,nG:=H}
  ·exact F
 ·split<;>rfl
theorem s3(F:JJ h)(B:h.Name.length≤1000000)(C:l.length≤100)(H:EW m.Ah=false):∃h',CX k v m h l=some (h',l++if c3 m then[]else[⟨k,v⟩])∧JJ h'∧h'={h with Ah:=if c3 m then m.Ah else h.Ah}:=by
 refine⟨_,Jh (w:={h with Ah:=m.Ah}) (c:=c3 m) ⟨fun F'=>F'.lk,fun hc=>{F with lk:=hc,nL:=H}⟩ B C,?_,?_⟩
 ·split
  ·rename_i hc;exact {F with lk:=hc,nL:=H}
  ·exact F
 ·split<;>rfl
theorem s4(F:JJ h)(B:h.Name.length≤1000000)(C:l.length≤100):∃h',Bw k v m h l=some (h',l++if c4 m then[]else[⟨k,v⟩])∧JJ h'∧h'={h with Time:=if c4 m then m.Time.Bu else h.Time}:=by
 have e:Em h m=some {h with Time:=if m.Time.BG=0 then m.Time.Bu else -1}:=by
  unfold Em;rw[Xn];split<;>rfl
 unfold Bw;rw[e,za];refine⟨_,Jh (w:={h with Time:=if m.Time.BG=0 then m.Time.Bu else -1}) (c:=c4 m) ⟨fun F'=>?_,fun hc=>{F with ti:=?_}⟩ B C,?_,?_⟩
 ·have:=F'.ti;dsimp only at this;split at this
  ·exact⟨by assumption,this⟩
  ·omega
 ·dsimp only;rw[zm hc.1];exact hc.2
 ·split
  ·rename_i hc;exact {F with ti:=by dsimp only;rw[zm hc.1];exact hc.2}
  ·exact F
 ·split
  ·rename_i hc;rw[zm hc.1]
  ·rfl
theorem s5(F:JJ h)(B:h.Name.length≤1000000)(C:l.length≤100)(H:EW m.Name=false)(hm:m.Name.length≤1000000):∃h',Cd k v m h l=some (h',l++if c5 m then[]else[⟨k,v⟩])∧JJ h'∧h'={h with Name:=if c5 m then m.Name else h.Name}:=by
 refine⟨_,Jh (w:={h with Name:=m.Name}) (c:=c5 m) ⟨fun F'=>(N8 hm).1 F'.pt,fun hc=>{F with pt:=(N8 hm).2 hc,nN:=H}⟩ hm C,?_,?_⟩
 ·split
  ·rename_i hc;exact {F with pt:=(N8 hm).2 hc,nN:=H}
  ·exact F
 ·split<;>rfl
theorem s6{n:Int}(F:JJ h)(B:h.Name.length≤1000000)(C:l.length≤100):∃h',CY k v n h l=some (h',l++if c6 n then[]else[⟨k,v⟩])∧JJ h'∧h'={h with B2:=if c6 n then n else h.B2}:=by
 refine⟨_,Jh (w:={h with B2:=n}) (c:=c6 n) ⟨fun F'=>F'.si,fun hc=>{F with si:=hc}⟩ B C,?_,?_⟩
 ·split
  ·rename_i hc;exact {F with si:=hc}
  ·exact F
 ·split<;>rfl
theorem s7(F:JJ h)(B:h.Name.length≤1000000)(C:l.length≤100):∃h',Cb k v m h l=some (h',l++if c7 m then[]else[⟨k,v⟩])∧JJ h'∧h'={h with BO:=if c7 m then m.BO else h.BO}:=by
 refine⟨_,Jh (w:={h with BO:=m.BO}) (c:=c7 m) ⟨fun F'=>F'.ui,fun hc=>{F with ui:=hc}⟩ B C,?_,?_⟩
 ·split
  ·rename_i hc;exact {F with ui:=hc}
  ·exact F
 ·split<;>rfl
theorem s8(F:JJ h)(B:h.Name.length≤1000000)(C:l.length≤100)(H:EW m.AZ=false):∃h',CZ k v m h l=some (h',l++if c8 m then[]else[⟨k,v⟩])∧JJ h'∧h'={h with AZ:=if c8 m then m.AZ else h.AZ}:=by
 refine⟨_,Jh (w:={h with AZ:=m.AZ}) (c:=c8 m) ⟨fun F'=>F'.un,fun hc=>{F with un:=hc,nU:=H}⟩ B C,?_,?_⟩
 ·split
  ·rename_i hc;exact {F with un:=hc,nU:=H}
  ·exact F
 ·split<;>rfl
end
theorem Vu{m:Mem}{n:Int}{ts:IH}(R:Ho m)(hm:m.Name.length≤1000000)(B:0≤n∧n<9007199254740992)(W:DO m.Time=some (ts,0)):GR m n=some (hB m n,lB m n ts)∧JJ (hB m n):=by
 have gi:=R.gi;have ui:=R.ui;have F0:JJ (⟨[],[],m.Kind,m.Mode,0,0,0,0,[],[],m.Aj,m.Ao,2⟩:AN):=
  ⟨rfl,rfl,rfl,rfl,⟨[],[],.inl ⟨by simp,rfl⟩⟩,by simp,by simp,by simp,R.mo,by simp,by simp,by simp,by simp,R.ma,R.mi⟩
 have ll:∀a b:List Pr,(a++b).length=a.length+b.length:=fun a b=>ze;unfold GR;rw[zf (by omega),Ak];obtain⟨h1,e1,F1,x1⟩:=s1 (k:=IA) (v:=Lib.itoa m.BW) (l:=[]) (m:=m) F0 (by simp) (by simp);rw[show DE ([103,105,100]:List UInt8) (Lib.itoa m.BW) m _ ([]:List AA)=_ from e1,za];dsimp only;have z1:([]++if c1 m then[]else[(⟨IA,Lib.itoa m.BW⟩:Pr)]).length≤1:=by rw[ll];have:=Ke (c:=c1 m) (x:=⟨IA,Lib.itoa m.BW⟩);simpa using this
 generalize hq1:([]++if c1 m then[]else[(⟨IA,Lib.itoa m.BW⟩:Pr)])=l1 at *;obtain⟨h2,e2,F2,x2⟩:=s2 (k:=Dz) (v:=m.Ad) (l:=l1) (m:=m) F1 (by rw[x1];simp) (by omega) R.nG;rw[show Cc ([103,110,97,109,101]:List UInt8) m.Ad m h1 l1=_ from e2,za];dsimp only;have z2:(l1++if c2 m then[]else[(⟨Dz,m.Ad⟩:Pr)]).length≤2:=by rw[ll];have:=Ke (c:=c2 m) (x:=⟨Dz,m.Ad⟩);omega
 generalize hq2:(l1++if c2 m then[]else[(⟨Dz,m.Ad⟩:Pr)])=l2 at *;obtain⟨G,e3,F3,x3⟩:=s3 (k:=E7) (v:=m.Ah) (l:=l2) (m:=m) F2 (by rw[x2,x1];simp) (by omega) R.nL;rw[show CX ([108,105,110,107,112,97,116,104]:List UInt8) m.Ah m h2 l2=_ from e3,za];dsimp only;have z3:(l2++if c3 m then[]else[(⟨E7,m.Ah⟩:Pr)]).length≤3:=by rw[ll];have:=Ke (c:=c3 m) (x:=⟨E7,m.Ah⟩);omega
 generalize hq3:(l2++if c3 m then[]else[(⟨E7,m.Ah⟩:Pr)])=l3 at *;rw[W,za];dsimp only;obtain⟨U,e4,F4,x4⟩:=s4 (k:=FQ) (v:=ts) (l:=l3) (m:=m) F3 (by rw[x3,x2,x1];simp) (by omega);rw[show Bw ([109,116,105,109,101]:List UInt8) ts m G l3=_ from e4,za];dsimp only;have z4:(l3++if c4 m then[]else[(⟨FQ,ts⟩:Pr)]).length≤4:=by rw[ll];have:=Ke (c:=c4 m) (x:=⟨FQ,ts⟩);omega
 generalize hq4:(l3++if c4 m then[]else[(⟨FQ,ts⟩:Pr)])=l4 at *;obtain⟨M,e5,F5,x5⟩:=s5 (k:=E8) (v:=m.Name) (l:=l4) (m:=m) F4 (by rw[x4,x3,x2,x1];simp) (by omega) R.nN hm;rw[show Cd ([112,97,116,104]:List UInt8) m.Name m U l4=_ from e5,za];dsimp only;have z5:(l4++if c5 m then[]else[(⟨E8,m.Name⟩:Pr)]).length≤5:=by rw[ll];have:=Ke (c:=c5 m) (x:=⟨E8,m.Name⟩);omega
 generalize hq5:(l4++if c5 m then[]else[(⟨E8,m.Name⟩:Pr)])=l5 at *;have P:M.Name.length≤1000000:=by rw[x5];dsimp only;split;exact hm;rw[x4,x3,x2,x1];simp
 rw[zf (by omega),Ak];obtain⟨h6,e6,F6,x6⟩:=s6 (k:=Fe) (v:=Lib.itoa n) (l:=l5) (n:=n) F5 P (by omega);rw[show CY ([115,105,122,101]:List UInt8) (Lib.itoa n) n M l5=_ from e6,za];dsimp only;have z6:(l5++if c6 n then[]else[(⟨Fe,Lib.itoa n⟩:Pr)]).length≤6:=by rw[ll];have:=Ke (c:=c6 n) (x:=⟨Fe,Lib.itoa n⟩);omega
 generalize hq6:(l5++if c6 n then[]else[(⟨Fe,Lib.itoa n⟩:Pr)])=l6 at *;rw[zf (by omega),Ak];obtain⟨h7,e7,F7,x7⟩:=s7 (k:=Hf) (v:=Lib.itoa m.BO) (l:=l6) (m:=m) F6 (by rw[x6];exact P) (by omega);rw[show Cb ([117,105,100]:List UInt8) (Lib.itoa m.BO) m h6 l6=_ from e7,za];dsimp only;have z7:(l6++if c7 m then[]else[(⟨Hf,Lib.itoa m.BO⟩:Pr)]).length≤7:=by rw[ll];have:=Ke (c:=c7 m) (x:=⟨Hf,Lib.itoa m.BO⟩);omega
 generalize hq7:(l6++if c7 m then[]else[(⟨Hf,Lib.itoa m.BO⟩:Pr)])=l7 at *;obtain⟨h8,e8,F8,x8⟩:=s8 (k:=EM) (v:=m.AZ) (l:=l7) (m:=m) F7 (by rw[x7,x6];exact P) (by omega) R.nU;rw[show CZ ([117,110,97,109,101]:List UInt8) m.AZ m h7 l7=_ from e8,za];dsimp only;have Y:h8=hB m n:=by
  rw[x8,x7,x6,x5,x4,x3,x2,x1];rfl
 have hlB:(l7++if c8 m then[]else[(⟨EM,m.AZ⟩:Pr)])=lB m n ts:=by
  rw[←hq7,←hq6,←hq5,←hq4,←hq3,←hq2,←hq1];rfl
 rw[hlB,Y];exact⟨rfl,by rw[←Y];exact F8⟩
theorem Zi{c:Prop}[Decidable c]{x p:Pr}:p∈(if c then[]else[x]:List Pr)↔¬c∧p=x:=by
 split
 ·rename_i h;simp[h]
 ·rename_i h;simp[h]
theorem FJ{m:Mem}{n:Int}{ts:IH}{p:Pr}:p∈lB m n ts↔(¬c1 m∧p=⟨IA,Lib.itoa m.BW⟩)∨(¬c2 m∧p=⟨Dz,m.Ad⟩)∨(¬c3 m∧p=⟨E7,m.Ah⟩)∨(¬c4 m∧p=⟨FQ,ts⟩)∨(¬c5 m∧p=⟨E8,m.Name⟩)∨(¬c6 n∧p=⟨Fe,Lib.itoa n⟩)∨(¬c7 m∧p=⟨Hf,Lib.itoa m.BO⟩)∨(¬c8 m∧p=⟨EM,m.AZ⟩):=by
 unfold lB;simp only[zB,Zi,yz,false_or,or_assoc]
def K8:List IH:=[IA,Dz,E7,FQ,E8,Fe,Hf,EM]
theorem Jk{c:Prop}[Decidable c]{k v:IH}:((if c then[]else[(⟨k,v⟩:Pr)]:List Pr).map AA.Key).Sublist [k]:=by
 split
 ·exact List.nil_sublist _
 ·exact List.Sublist.refl _
theorem NV(m:Mem)(n:Int)(ts:IH):((lB m n ts).map AA.Key).Nodup∧(lB m n ts).length≤8∧∀p∈lB m n ts,C0 p.Key=true:=by
 have N:((lB m n ts).map AA.Key).Sublist K8:=by
  unfold lB;simp only[yn,xg,ye,zw];exact Jk.append (Jk.append (Jk.append (Jk.append (Jk.append (Jk.append (Jk.append Jk))))))
 refine⟨N.nodup (by decide),by simpa[K8]using N.length_le,fun p J=>?_⟩;have hk:∀k∈K8,C0 k=true:=by decide
 exact hk _ (N.subset (List.mem_map_of_mem J))
theorem Vg:∀{l:List Pr},(l.map AA.Key).Nodup→Nj (l.map fun x=>((x.Key,x.Value):J8))=true
 |[],_=>rfl
 |x::l,h=>by
  rw[zU,yQ]at h;rw[zU,Nj,zh,zn];refine⟨fun y hy=>?_,Vg h.2⟩;obtain⟨z,H,rfl⟩:=zZ.1 hy;rw[qR];intro e;exact h.1 (by rw[←show z.Key=x.Key from e];exact List.mem_map_of_mem H)
noncomputable def lW(m:Mem)(n:Int)(ts:IH):List Pr:=(Gi ((lB m n ts++m.Extra).map fun x=>((x.Key,x.Value):J8))).map fun p=>(⟨p.1,p.2⟩:AA)
theorem WW{l:List Pr}(h:QM l):(l.map AA.Key).Nodup:=by
 rw[xy,qM];exact h.imp fun T e=>by rw[e]at T;exact absurd T (qo _)
theorem Sm{m:Mem}(R:Ho m)(n:Int)(ts:IH):((lB m n ts++m.Extra).map AA.Key).Nodup:=by
 obtain⟨k1,k2,k3⟩:=NV m n ts;rw[yn,yh];refine⟨k1,WW R.ex.1,fun a V b Q e=>?_⟩;obtain⟨p,J,rfl⟩:=zZ.1 V;obtain⟨q,I,rfl⟩:=zZ.1 Q;have h1:=k3 p J;have h2:=(R.ex.2 q I).1;rw[e,h2]at h1;cases h1
theorem Nc(m:Mem)(n:Int)(ts:IH):(lW m n ts).Perm (lB m n ts++m.Extra):=by
 unfold lW;refine((Hi _).map _).trans ?_;rw[xM];rw[show((fun p=>(⟨p.1,p.2⟩:AA))∘fun x:AA=>((x.Key,x.Value):J8))=id from rfl,List.map_id]
theorem SJ{m:Mem}(R:Ho m)(n:Int)(ts:IH):QM (lW m n ts):=by
 have h1:(lW m n ts).Pairwise fun a b=>a.Key≤b.Key:=by
  unfold lW;rw[qM];exact OQ _
 have h2:((lW m n ts).map AA.Key).Nodup:=((Nc m n ts).map _).nodup_iff.2 (Sm R n ts);rw[xy,qM]at h2;refine(h1.and h2).imp fun{a b} h=>?_;rcases q9.1 h.1 with G|G
 ·exact G
 ·exact absurd G h.2
theorem head_eq{m:Mem}{n:Int}{ts:IH}(X:Pn m n=0)(R:Ho m)(hm:m.Name.length≤1000000)(hx:m.Extra.length≤1000)(B:0≤n∧n<9007199254740992)(W:DO m.Time=some (ts,0)):HB m n=some (hB m n,0)∧Fz m n=some (lW m n ts,0):=by
 obtain⟨e,_⟩:=Vu R hm B W;obtain⟨k1,k2,k3⟩:=NV m n ts;constructor
 ·unfold HB;rw[TY m n (by omega),X,za,show((0:Int) !=0)=false from rfl,AK,e,za]
 ·unfold Fz;rw[TY m n (by omega),X,za,show((0:Int) !=0)=false from rfl,AK,e,za];dsimp only;rw[GZ (by omega) (by omega),Ak,Vg (Sm R n ts),Ak,zf (by rw[ze];omega),Ak];rfl
end Go.Av.L
end
