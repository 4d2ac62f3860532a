/-
  Several texts in one.
-/
import Derived.Test.YthhonebaoidfgaaGreatDoorBkB
set_option linter.unusedSimpArgs false
/-
 A part.
-/
section
namespace Go.Av.L
open Go.Av Go.Lib
set_option linter.unusedVariables false
set_option linter.unusedSimpArgs false
set_option maxRecDepth 10000
abbrev Mem:=AM
def Rk:Nf:=[103,105,100]
def Ru:Nf:=[117,105,100]
def Nx:Nf:=[115,105,122,101]
def Kt:Nf:=[103,110,97,109,101]
def MZ:Nf:=[117,110,97,109,101]
def NF:Nf:=[112,97,116,104]
def Ng:Nf:=[108,105,110,107,112,97,116,104]
def NJ:Nf:=[109,116,105,109,101]
noncomputable def aY(s:Nf):Bool:=((Fh s).getD ([],[],false)).2.2
theorem QW{s:Nf}(P:s.length<=1000000):(∃p q,L7 s (p,q,true))↔aY s=true:=by
 obtain⟨⟨p,q,b⟩,e,G⟩:=VJ s P;unfold aY;rw[e];constructor
 ·rintro⟨p',q',h⟩;have:=G.uniq h;cases this;rfl
 ·intro J;have J:b=true:=J;subst J;exact⟨p,q,G⟩
abbrev c1(m:Mem):Prop:=0<=m.Cy/\m.Cy<2097152
abbrev c2(m:Mem):Prop:=m.A7.length<=32
abbrev c3(m:Mem):Prop:=m.BG.length<=100
abbrev c4(m:Mem):Prop:=m.Time.CE=0/\0<=m.Time.DR/\m.Time.DR<8589934592
abbrev c5(m:Mem):Prop:=aY m.Name=true
abbrev c6(n:Int):Prop:=0<=n/\n<8589934592
abbrev c7(m:Mem):Prop:=0<=m.Cq/\m.Cq<2097152
abbrev c8(m:Mem):Prop:=m.A6.length<=32
noncomputable def hB(m:Mem)(n:Int):AO:=
 ⟨if c5 m then m.Name else[],if c3 m then m.BG else[],m.Kind,m.Mode,if c7 m then m.Cq else 0,if c1 m then m.Cy else 0,if c6 n then n else 0,if c4 m then m.Time.DR else 0,if c8 m then m.A6 else[],if c2 m then m.A7 else[],m.BY,m.Bi,2⟩
noncomputable def lB(m:Mem)(n:Int)(ts:Nf):List Pr:=
 ((((((([]++if c1 m then[]else[⟨Rk,Lib.itoa m.Cy⟩])++if c2 m then[]else[⟨Kt,m.A7⟩])++if c3 m then[]else[⟨Ng,m.BG⟩])++if c4 m then[]else[⟨NJ,ts⟩])++if c5 m then[]else[⟨NF,m.Name⟩])++if c6 n then[]else[⟨Nx,Lib.itoa n⟩])++if c7 m then[]else[⟨Ru,Lib.itoa m.Cq⟩])++if c8 m then[]else[⟨MZ,m.A6⟩]
theorem MS{c:Prop}[Decidable c]{x:Pr}:(if c then[]else[x]:List Pr).length<=1:=by split<;>simp
section
variable {h:AO} {k v:Nf} {l:List Pr} {m:Mem}
theorem s1(F:L9 h)(C:h.Name.length<=1000000)(B:l.length<=100):∃h',D4 k v m h l=some (h',l++if c1 m then[]else[⟨k,v⟩])/\L9 h'/\h'={h with Cy:=if c1 m then m.Cy else h.Cy}:=by
 refine⟨_,LD (w:={h with Cy:=m.Cy}) (c:=c1 m) ⟨λF'=>F'.gi,λhc=>{F with gi:=hc}⟩ C B,?_,?_⟩
 ·split
  ·rename_i hc;exact {F with gi:=hc}
  ·exact F
 ·split<;>rfl
theorem s2(F:L9 h)(C:h.Name.length<=1000000)(B:l.length<=100)(E:FM m.A7=false):∃h',DT k v m h l=some (h',l++if c2 m then[]else[⟨k,v⟩])/\L9 h'/\h'={h with A7:=if c2 m then m.A7 else h.A7}:=by
 refine⟨_,LD (w:={h with A7:=m.A7}) (c:=c2 m) ⟨λF'=>F'.gn,λhc=>{F with gn:=hc,nG:=E}⟩ C B,?_,?_⟩
 ·split
  ·rename_i hc;exact {F with gn:=hc,nG:=E}
  ·exact F
 ·split<;>rfl
theorem s3(F:L9 h)(C:h.Name.length<=1000000)(B:l.length<=100)(E:FM m.BG=false):∃h',DV k v m h l=some (h',l++if c3 m then[]else[⟨k,v⟩])/\L9 h'/\h'={h with BG:=if c3 m then m.BG else h.BG}:=by
 refine⟨_,LD (w:={h with BG:=m.BG}) (c:=c3 m) ⟨λF'=>F'.lk,λhc=>{F with lk:=hc,nL:=E}⟩ C B,?_,?_⟩
 ·split
  ·rename_i hc;exact {F with lk:=hc,nL:=E}
  ·exact F
 ·split<;>rfl
theorem s4(F:L9 h)(C:h.Name.length<=1000000)(B:l.length<=100):∃h',Cv k v m h l=some (h',l++if c4 m then[]else[⟨k,v⟩])/\L9 h'/\h'={h with Time:=if c4 m then m.Time.DR else h.Time}:=by
 have e:Fu h m=some {h with Time:=if m.Time.CE=0 then m.Time.DR else -1}:=by
  unfold Fu;rw[dZ];split<;>rfl
 unfold Cv;rw[e,za];refine⟨_,LD (w:={h with Time:=if m.Time.CE=0 then m.Time.DR else -1}) (c:=c4 m) ⟨λF'=>?_,λhc=>{F with ti:=?_}⟩ C B,?_,?_⟩
 ·have:=F'.ti;dsimp only at this;split at this
  ·exact⟨by assumption,this⟩
  ·omega
 ·dsimp only;rw[zl hc.1];exact hc.2
 ·split
  ·rename_i hc;exact {F with ti:=by dsimp only;rw[zl hc.1];exact hc.2}
  ·exact F
 ·split
  ·rename_i hc;rw[zl hc.1]
  ·rfl
theorem s5(F:L9 h)(C:h.Name.length<=1000000)(B:l.length<=100)(E:FM m.Name=false)(hm:m.Name.length<=1000000):∃h',DU k v m h l=some (h',l++if c5 m then[]else[⟨k,v⟩])/\L9 h'/\h'={h with Name:=if c5 m then m.Name else h.Name}:=by
 refine⟨_,LD (w:={h with Name:=m.Name}) (c:=c5 m) ⟨λF'=>(QW hm).1 F'.pt,λhc=>{F with pt:=(QW hm).2 hc,nN:=E}⟩ hm B,?_,?_⟩
 ·split
  ·rename_i hc;exact {F with pt:=(QW hm).2 hc,nN:=E}
  ·exact F
 ·split<;>rfl
theorem s6{n:Int}(F:L9 h)(C:h.Name.length<=1000000)(B:l.length<=100):∃h',DW k v n h l=some (h',l++if c6 n then[]else[⟨k,v⟩])/\L9 h'/\h'={h with B9:=if c6 n then n else h.B9}:=by
 refine⟨_,LD (w:={h with B9:=n}) (c:=c6 n) ⟨λF'=>F'.si,λhc=>{F with si:=hc}⟩ C B,?_,?_⟩
 ·split
  ·rename_i hc;exact {F with si:=hc}
  ·exact F
 ·split<;>rfl
theorem s7(F:L9 h)(C:h.Name.length<=1000000)(B:l.length<=100):∃h',DX k v m h l=some (h',l++if c7 m then[]else[⟨k,v⟩])/\L9 h'/\h'={h with Cq:=if c7 m then m.Cq else h.Cq}:=by
 refine⟨_,LD (w:={h with Cq:=m.Cq}) (c:=c7 m) ⟨λF'=>F'.ui,λhc=>{F with ui:=hc}⟩ C B,?_,?_⟩
 ·split
  ·rename_i hc;exact {F with ui:=hc}
  ·exact F
 ·split<;>rfl
theorem s8(F:L9 h)(C:h.Name.length<=1000000)(B:l.length<=100)(E:FM m.A6=false):∃h',DS k v m h l=some (h',l++if c8 m then[]else[⟨k,v⟩])/\L9 h'/\h'={h with A6:=if c8 m then m.A6 else h.A6}:=by
 refine⟨_,LD (w:={h with A6:=m.A6}) (c:=c8 m) ⟨λF'=>F'.un,λhc=>{F with un:=hc,nU:=E}⟩ C B,?_,?_⟩
 ·split
  ·rename_i hc;exact {F with un:=hc,nU:=E}
  ·exact F
 ·split<;>rfl
end
theorem ft{m:Mem}{n:Int}{ts:Nf}(R:Ul m)(hm:m.Name.length<=1000000)(C:0<=n/\n<9007199254740992)(Y:Gw m.Time=some (ts,0)):Ix m n=some (hB m n,lB m n ts)/\L9 (hB m n):=by
 have gi:=R.gi;have ui:=R.ui;have F0:L9 (⟨[],[],m.Kind,m.Mode,0,0,0,0,[],[],m.BY,m.Bi,2⟩:AO):=
  ⟨rfl,rfl,rfl,rfl,⟨[],[],.inl ⟨by simp,rfl⟩⟩,by simp,by simp,by simp,R.mo,by simp,by simp,by simp,by simp,R.ma,R.mi⟩
 have ll:∀a b:List Pr,(a++b).length=a.length+b.length:=λa b=>zi;unfold Ix;rw[zg om,BR];obtain⟨h1,e1,F1,x1⟩:=s1 (k:=Rk) (v:=Lib.itoa m.Cy) (l:=[]) (m:=m) F0 (by simp) (by simp);rw[show D4 ([103,105,100]:List UInt8) (Lib.itoa m.Cy) m _ ([]:List AB)=_ from e1,za];dsimp only;have z1:([]++if c1 m then[]else[(⟨Rk,Lib.itoa m.Cy⟩:Pr)]).length<=1:=by rw[ll];have:=MS (c:=c1 m) (x:=⟨Rk,Lib.itoa m.Cy⟩);simpa using this
 generalize hq1:([]++if c1 m then[]else[(⟨Rk,Lib.itoa m.Cy⟩:Pr)])=l1 at *;obtain⟨h2,e2,F2,x2⟩:=s2 (k:=Kt) (v:=m.A7) (l:=l1) (m:=m) F1 (by rw[x1];simp) om R.nG;rw[show DT ([103,110,97,109,101]:List UInt8) m.A7 m h1 l1=_ from e2,za];dsimp only;have z2:(l1++if c2 m then[]else[(⟨Kt,m.A7⟩:Pr)]).length<=2:=by rw[ll];have:=MS (c:=c2 m) (x:=⟨Kt,m.A7⟩);omega
 generalize hq2:(l1++if c2 m then[]else[(⟨Kt,m.A7⟩:Pr)])=l2 at *;obtain⟨H,e3,F3,x3⟩:=s3 (k:=Ng) (v:=m.BG) (l:=l2) (m:=m) F2 (by rw[x2,x1];simp) om R.nL;rw[show DV ([108,105,110,107,112,97,116,104]:List UInt8) m.BG m h2 l2=_ from e3,za];dsimp only;have z3:(l2++if c3 m then[]else[(⟨Ng,m.BG⟩:Pr)]).length<=3:=by rw[ll];have:=MS (c:=c3 m) (x:=⟨Ng,m.BG⟩);omega
 generalize hq3:(l2++if c3 m then[]else[(⟨Ng,m.BG⟩:Pr)])=l3 at *;rw[Y,za];dsimp only;obtain⟨D,e4,F4,x4⟩:=s4 (k:=NJ) (v:=ts) (l:=l3) (m:=m) F3 (by rw[x3,x2,x1];simp) om;rw[show Cv ([109,116,105,109,101]:List UInt8) ts m H l3=_ from e4,za];dsimp only;have z4:(l3++if c4 m then[]else[(⟨NJ,ts⟩:Pr)]).length<=4:=by rw[ll];have:=MS (c:=c4 m) (x:=⟨NJ,ts⟩);omega
 generalize hq4:(l3++if c4 m then[]else[(⟨NJ,ts⟩:Pr)])=l4 at *;obtain⟨T,e5,F5,x5⟩:=s5 (k:=NF) (v:=m.Name) (l:=l4) (m:=m) F4 (by rw[x4,x3,x2,x1];simp) om R.nN hm;rw[show DU ([112,97,116,104]:List UInt8) m.Name m D l4=_ from e5,za];dsimp only;have z5:(l4++if c5 m then[]else[(⟨NF,m.Name⟩:Pr)]).length<=5:=by rw[ll];have:=MS (c:=c5 m) (x:=⟨NF,m.Name⟩);omega
 generalize hq5:(l4++if c5 m then[]else[(⟨NF,m.Name⟩:Pr)])=l5 at *;have S:T.Name.length<=1000000:=by rw[x5];dsimp only;split;exact hm;rw[x4,x3,x2,x1];simp
 rw[zg om,BR];obtain⟨h6,e6,F6,x6⟩:=s6 (k:=Nx) (v:=Lib.itoa n) (l:=l5) (n:=n) F5 S om;rw[show DW ([115,105,122,101]:List UInt8) (Lib.itoa n) n T l5=_ from e6,za];dsimp only;have z6:(l5++if c6 n then[]else[(⟨Nx,Lib.itoa n⟩:Pr)]).length<=6:=by rw[ll];have:=MS (c:=c6 n) (x:=⟨Nx,Lib.itoa n⟩);omega
 generalize hq6:(l5++if c6 n then[]else[(⟨Nx,Lib.itoa n⟩:Pr)])=l6 at *;rw[zg om,BR];obtain⟨h7,e7,F7,x7⟩:=s7 (k:=Ru) (v:=Lib.itoa m.Cq) (l:=l6) (m:=m) F6 (by rw[x6];exact S) om;rw[show DX ([117,105,100]:List UInt8) (Lib.itoa m.Cq) m h6 l6=_ from e7,za];dsimp only;have z7:(l6++if c7 m then[]else[(⟨Ru,Lib.itoa m.Cq⟩:Pr)]).length<=7:=by rw[ll];have:=MS (c:=c7 m) (x:=⟨Ru,Lib.itoa m.Cq⟩);omega
 generalize hq7:(l6++if c7 m then[]else[(⟨Ru,Lib.itoa m.Cq⟩:Pr)])=l7 at *;obtain⟨h8,e8,F8,x8⟩:=s8 (k:=MZ) (v:=m.A6) (l:=l7) (m:=m) F7 (by rw[x7,x6];exact S) om R.nU;rw[show DS ([117,110,97,109,101]:List UInt8) m.A6 m h7 l7=_ from e8,za];dsimp only;have hh:h8=hB m n:=by
  rw[x8,x7,x6,x5,x4,x3,x2,x1];rfl
 have hlB:(l7++if c8 m then[]else[(⟨MZ,m.A6⟩:Pr)])=lB m n ts:=by
  rw[<-hq7,<-hq6,<-hq5,<-hq4,<-hq3,<-hq2,<-hq1];rfl
 rw[hlB,hh];exact⟨rfl,by rw[<-hh];exact F8⟩
def K8:List Nf:=[Rk,Kt,Ng,NJ,NF,Nx,Ru,MZ]
theorem K7{c:Prop}[Decidable c]{k v:Nf}:((if c then[]else[(⟨k,v⟩:Pr)]:List Pr).map AB.Key).Sublist [k]:=by
 split
 ·exact List.nil_sublist _
 ·exact List.Sublist.refl _
theorem Yf(m:Mem)(n:Int)(ts:Nf):((lB m n ts).map AB.Key).Nodup/\(lB m n ts).length<=8/\∀p∈lB m n ts,PB p.Key=true:=by
 have P:((lB m n ts).map AB.Key).Sublist K8:=by
  unfold lB;simp only[qc,xK,ye,zC];exact K7.append (K7.append (K7.append (K7.append (K7.append (K7.append (K7.append K7))))))
 refine⟨P.nodup (by decide),by simpa[K8]using P.length_le,λp I=>?_⟩;have hk:∀k∈K8,PB k=true:=by decide
 exact hk _ (P.subset (xf I))
theorem Yb:∀{l:List Pr},(l.map AB.Key).Nodup->Pf (l.map λx=>((x.Key,x.Value):K0))=true
 |[],_=>rfl
 |x::l,h=>by
  rw[zK,yR]at h;rw[zK,Pf,zf,zr];refine⟨λy hy=>?_,Yb h.2⟩;obtain⟨z,E,rfl⟩:=zZ.1 hy;rw[xi];intro e;exact h.1 (by rw[<-show z.Key=x.Key from e];exact xf E)
noncomputable def lW(m:Mem)(n:Int)(ts:Nf):List Pr:=(HO ((lB m n ts++m.Extra).map λx=>((x.Key,x.Value):K0))).map λp=>(⟨p.1,p.2⟩:AB)
theorem ZN{l:List Pr}(h:jQ l):(l.map AB.Key).Nodup:=by
 rw[List.nodup_iff_pairwise_ne,qL];exact h.imp λU e=>by rw[e]at U;exact absurd U (List.lt_irrefl _)
theorem bu{m:Mem}(R:Ul m)(n:Int)(ts:Nf):((lB m n ts++m.Extra).map AB.Key).Nodup:=by
 obtain⟨k1,k2,k3⟩:=Yf m n ts;rw[qc,yd];refine⟨k1,ZN R.ex.1,λa O b J e=>?_⟩;obtain⟨p,I,rfl⟩:=zZ.1 O;obtain⟨q,G,rfl⟩:=zZ.1 J;have h1:=k3 p I;have h2:=(R.ex.2 q G).1;rw[e,h2]at h1;cases h1
theorem fq(m:Mem)(n:Int)(ts:Nf):(lW m n ts).Perm (lB m n ts++m.Extra):=by
 unfold lW;refine((JI _).map _).trans ?_;rw[qV];rw[show((λp=>(⟨p.1,p.2⟩:AB))∘λx:AB=>((x.Key,x.Value):K0))=id from rfl,List.map_id]
theorem aN{m:Mem}{n:Int}{ts:Nf}(Z:SN m n=0)(R:Ul m)(hm:m.Name.length<=1000000)(M:m.Extra.length<=1000)(C:0<=n/\n<9007199254740992)(Y:Gw m.Time=some (ts,0)):HV m n=some (lW m n ts,0):=by
 obtain⟨e,_⟩:=ft R hm C Y;obtain⟨k1,k2,k3⟩:=Yf m n ts;unfold HV;rw[dB m n om,Z,za,show((0:Int) !=0)=false from rfl,AV,e,za];dsimp only;rw[JH om om,BR,Yb (bu R n ts),BR,zg (by rw[zi];omega),BR];rfl
end Go.Av.L
end
/-
 A part.
-/
section
namespace Go.Av.L
open Go.Av Go.Lib
set_option linter.unusedVariables false
set_option linter.unusedSimpArgs false
section
variable {K V:Type} [DecidableEq K]
theorem X1(m:List (K×V))(k:K)(v:V)(n:K):Eh (Cz m k v) n=if n=k then some v else Eh m n:=by
 induction m with
 |nil=>simp only[Cz,Eh]
 | cons p m ih=>
  obtain⟨k',v'⟩:=p;unfold Cz;by_cases h:k=k'
  ·subst h;rw[zl rfl];simp only[Eh];split<;>rfl
  ·rw[zj h];simp only[Eh,ih];by_cases h1:n=k'
   ·subst h1;simp[Ne.symm h]
   ·simp[h1]
theorem mem_keys{m:List (K×V)}{n:K}:n∈m.map Prod.fst↔(Eh m n).isSome=true:=by
 induction m with
 |nil=>simp[Eh]
 |cons p m ih=>
  obtain⟨k',v'⟩:=p;simp only[zK,zF,Eh,ih];by_cases h:n=k'<;>simp[h]
theorem UQ(m:List (K×V))(k:K)(v:V):(Cz m k v).map Prod.fst=if k∈m.map Prod.fst then m.map Prod.fst else m.map Prod.fst++[k]:=by
 induction m with
 |nil=>simp[Cz]
 | cons p m ih=>
  obtain⟨k',v'⟩:=p;unfold Cz;by_cases h:k=k'
  ·subst h;simp
  ·rw[zj h,zK,ih,zK];by_cases h1:k∈m.map Prod.fst
   ·rw[zl h1,zl (by simp[h1])]
   ·rw[zj h1,zj (by simp only[zF,not_or];exact⟨h,h1⟩)];rfl
theorem XY{m:List (K×V)}(h:(m.map Prod.fst).Nodup)(k:K)(v:V):((Cz m k v).map Prod.fst).Nodup:=by
 rw[UQ];split
 ·exact h
 ·rename_i hk;rw[yd];exact⟨h,by simp,λa O b J=>by simp only[zU]at J;subst J;exact λe=>hk (e ▸ O)⟩
end
abbrev Mp:=List (Nf×Nf)
def Lm(m:Mp)(p:Pr):Mp:=Cz m p.Key p.Value
def mapOf(l:List Pr):Mp:=l.foldl Lm []
def da(l:List Pr)(k:Nf):Option Nf:=Eh (mapOf l) k
theorem QK:∀(l:List Pr) (m:Mp),(m.map Prod.fst).Nodup->((l.foldl Lm m).map Prod.fst).Nodup/\(l.foldl Lm m).length<=m.length+l.length/\∀k∈(l.foldl Lm m).map Prod.fst,k∈m.map Prod.fst\/∃p∈l,p.Key=k
 |[],m,h=>⟨h,by simp,λk hk=>.inl hk⟩
 | p::l,m,h=>by
  obtain⟨h1,h2,H⟩:=QK l (Lm m p) (XY h _ _);have hk:=UQ m p.Key p.Value;have B:(Lm m p).length<=m.length+1:=by
   have:=congrArg List.length hk;rw[yo]at this;unfold Lm;rw[this];split<;>simp
  refine⟨h1,by simp only[zG];simp only[qd];omega,λk hk'=>?_⟩;rcases H k hk' with D|⟨q,G,D⟩
  ·have D:k∈(Cz m p.Key p.Value).map Prod.fst:=D;rw[hk]at D;split at D
   ·exact .inl D
   ·rcases zu.1 D with T|T
    ·exact .inl T
    ·exact .inr ⟨p,by simp,(zU.1 T).symm⟩
  ·exact .inr ⟨q,by simp[G],D⟩
structure Good(l r:List Pr):Prop where
 nO:jQ r
 mem:∀q,q∈r↔q.Value≠[]/\da l q.Key=some q.Value
 len:r.length<=l.length
def mC(l:List Pr):Prop:=l.length<=2000/\∀p∈l,p.Key.length<=2000000
def Yn(m:Mp)(k:Nf):Nf:=(Eh m k).getD []
def RU(m:Mp)(ks:List Nf):List Pr:=ks.flatMap λk=>if Yn m k=[]then[]else[⟨k,Yn m k⟩]
theorem Zq(m:Mp)(ks:List Nf)(k:Nf):RU m (ks++[k])=RU m ks++if Yn m k=[]then[]else[⟨k,Yn m k⟩]:=by
 unfold RU;rw[List.flatMap_append];simp
theorem W4{m:Mp}{ks:List Nf}{q:Pr}:q∈RU m ks↔q.Key∈ks/\q.Value=Yn m q.Key/\q.Value≠[]:=by
 unfold RU;rw[yU];constructor
 ·rintro⟨k,hk,G⟩;split at G
  ·simp at G
  ·rename_i X;rw[zU]at G;subst G;exact⟨hk,rfl,X⟩
 ·rintro⟨h1,h2,H⟩;refine⟨q.Key,h1,?_⟩;rw[zj (by rw[<-h2];exact H),<-h2];exact zU.2 rfl
theorem Vi{m:Mp}:∀{ks:List Nf},ks.Pairwise (·<·)->jQ (RU m ks)
 |[],_=>.nil
 |k::ks,h=>by
  obtain⟨h1,h2⟩:=ym.1 h;have ih:=Vi (m:=m) h2;show jQ ((if Yn m k=[]then[]else([⟨k,Yn m k⟩]:List Pr))++RU m ks);split
  ·exact ih
  ·exact ym.2 ⟨λq G=>h1 _ (W4.1 G).1,ih⟩
theorem Rp(m:Mp):∀ks:List Nf,(RU m ks).length<=ks.length
 |[]=>zw _
 |k::ks=>by
  have:=Rp m ks;show((if Yn m k=[]then[]else([⟨k,Yn m k⟩]:List Pr))++RU m ks).length<=_;rw[zi];split<;>simp<;>omega
theorem bZ(l:List Pr)(m:Mp)(B:l.length<=2000):loop (EZ l) (m,(0:Int))=some (l.foldl Lm m):=by
 refine W.eq (W.list (l:=l) (λ(x:Mp) (i:Nat)=>(x,(i:Int))) (λx i=>x=(l.take i).foldl Lm m) ?_ ?_ m rfl)
 ·intro x M;unfold EZ;refine Ce (λh=>by omega) λ_=>Ae ?_;rw[M,yr]
 ·intro x i hi M;unfold EZ;refine Ce (λ_=>?_) λh=>by omega
  try simp only[]
  rw[Fe hi,za];refine Ae ⟨_,by rw[IK om],?_⟩;rw[KI (List.getElem?_eq_getElem hi),qM,<-M];rfl
theorem iV(a b:List Pr)(O:a.length<=2000)(J:b.length<=2000):loop (Fk a b) (([]:Mp),(0:Int))=some (mapOf (a++b)):=by
 have e0:Fk a b (([]:Mp),(0:Int))=some (.inl (a.foldl Lm [],(1:Int))):=by
  show((loop (EZ a) (([]:Mp),(0:Int))).bind λx7=>some (Sum.inl (x7,IntKind.i64.wrap ((0:Int)+(1:Int))):(Mp×Int)⊕Mp))=_;rw[bZ a [] O];rfl
 have e1:Fk a b (a.foldl Lm [],(1:Int))=some (.inl (b.foldl Lm (a.foldl Lm []),(2:Int))):=by
  show((loop (EZ b) (a.foldl Lm [],(0:Int))).bind λx7=>some (Sum.inl (x7,IntKind.i64.wrap ((1:Int)+(1:Int))):(Mp×Int)⊕Mp))=_;rw[bZ b _ J];rfl
 have e2:Fk a b (b.foldl Lm (a.foldl Lm []),(2:Int))=some (.inr (b.foldl Lm (a.foldl Lm []))):=rfl;rw[Cm e0,Cm e1,Cl e2,mapOf,qM]
theorem fZ{l:List Pr}(h:mC l):QP ((mapOf l).map Prod.fst)=true:=by
 obtain⟨_,h2,H⟩:=QK l [] (by simp);have h2:(mapOf l).length<=0+l.length:=h2;unfold QP;rw[zf,zy,zr];refine⟨by rw[yo];have:=h.1;omega,λk hk=>zg ?_⟩;rcases H k hk with D|⟨p,I,rfl⟩
 ·simp at D
 ·have:=h.2 p I;omega
theorem Xu(a b:List Pr)(O:mC (a++b)):W (GP a b) (Good (a++b)):=by
 have B:=O.1;rw[zi]at B;unfold GP;rw[iV a b om om,za];refine E5 (fZ O) ?_;obtain⟨m,hm⟩:∃m,mapOf (a++b)=m:=⟨_,rfl⟩;obtain⟨n1,n2,n3⟩:=QK (a++b) [] (by simp);have n1:((mapOf (a++b)).map Prod.fst).Nodup:=n1;have n2:(mapOf (a++b)).length<=0+(a++b).length:=n2;rw[hm]at n1 n2⊢;obtain⟨ks,N⟩:∃ks,Gn (m.map Prod.fst)=ks:=⟨_,rfl⟩;have I:ks.Perm (m.map Prod.fst):=by rw[<-N];exact ML _
 have P:ks.Pairwise (·<·):=by
  have h1:ks.Pairwise λa b:List UInt8=>a<=b:=by rw[<-N];exact MB _
  have h2:ks.Pairwise (·≠·):=I.nodup_iff.2 n1;refine(h1.and h2).imp λ{x y} h=>?_;rcases List.le_iff_lt_or_eq.1 h.1 with H|H
  ·exact H
  ·exact absurd H h.2
 have hkl:ks.length<=(a++b).length:=by rw[I.length_eq,yo];omega
 rw[zi]at hkl;refine Aq (W.mono (W.list (l:=ks) (λ(x:List Pr) (i:Nat)=>(x,(i:Int))) (λx i=>x=RU m (ks.take i)) ?_ ?_ [] rfl (Q:=λr=>r=RU m ks)) ?_)
 ·intro x M;unfold Hg;rw[N];refine Ce (λh=>by omega) λ_=>Ae ?_;rw[M,yr]
 ·intro x i hi M;have hxl:x.length<=2000:=by
   have:=Rp m (ks.take i);rw[M];rw[zA]at this;omega
  unfold Hg;rw[N];refine Ce (λ_=>?_) λh=>by omega
  try simp only[]
  rw[Fe hi,za];have ev:∀k,(Eh m k).getD ([]:List UInt8)=Yn m k:=λ_=>rfl;simp only[ev];refine Aq (W.mono (Q:=λr=>r=RU m (ks.take (i+1))) ?_ λr Z=>Ae ⟨r,by rw[IK om],Z⟩);rw[KI (List.getElem?_eq_getElem hi),Zq,<-M];refine Bc (λh=>?_) λh=>Ae ?_
  ·have h0:Yn m ks[i]≠[]:=by simpa using h
   rw[zj h0];exact E5 (JH (by simp;omega) (by simp;omega)) (Ae rfl)
  ·have h0:Yn m ks[i]=[]:=by simpa using h
   rw[zl h0,zR]
 ·rintro _ rfl;refine Ae ⟨Vi P,λq=>?_,?_⟩
  ·rw[W4];unfold da;rw[hm];constructor
   ·rintro⟨h1,h2,H⟩;refine⟨H,?_⟩;have D:=mem_keys.1 (I.mem_iff.1 h1);obtain⟨v,X⟩:=qN.1 D;rw[h2,Yn,X];rfl
   ·rintro⟨h1,h2⟩;exact⟨I.mem_iff.2 (mem_keys.2 (by rw[h2];rfl)),by rw[Yn,h2];rfl,h1⟩
  ·have:=Rp m ks;rw[zi];omega
end Go.Av.L
end
