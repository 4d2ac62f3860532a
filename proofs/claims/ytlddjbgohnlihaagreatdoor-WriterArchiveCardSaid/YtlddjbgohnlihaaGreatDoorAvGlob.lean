/-
  Several texts in one.
-/
import Derived.Test.YtlddjbgohnlihaaGreatDoorWaS
/-
 A part.
-/
section
namespace Go.Av.L
open Go.Av Go.Lib
set_option linter.unusedVariables false
set_option linter.unusedSimpArgs false
set_option maxRecDepth 10000
theorem Rt:C3=some true:=by kernel_rfl
theorem Ty(l:List Pr)(F:l.length≤1000000):EU l l=some true:=by
 unfold EU;rw[show((l.length:Int) !=(l.length:Int))=false from by simp,AK];have hend:CT l l (l.length:Int)=some (.inr (.inl ())):=by
  unfold CT;dsimp only;rw[zi (by omega),AK]
 have hst:∀i:Nat,i<l.length→CT l l (i:Int)=some (if(true:Bool)=true then .inl ((i+1:Nat):Int)else .inr (.inr false)):=by
  intro i hi;unfold CT;dsimp only;rw[zf (by omega),AQ,EH hi,za,za,show ZK cfg.P _ [.str l[i].Key,.str l[i].Value] [.str l[i].Key,.str l[i].Value]=some true from UE (by kernel_rfl) (by kernel_rfl),za,DP (by omega)];rfl
 rw[MH (c:=fun _=>true) hend hst,za,zm (by simp)]
theorem UJ(m:Mem)(F:m.Extra.length≤1000000):EP m m=some true:=by
 unfold EP;simp only[xn,xa,AQ];rw[show ZK cfg.P _ [AB.int .i64 m.Time.Bu,AB.int .i64 m.Time.BG] [AB.int .i64 m.Time.Bu,AB.int .i64 m.Time.BG]=some true from UE (by kernel_rfl) (by kernel_rfl),za,za,AQ,Ty m.Extra F];rfl
theorem Wt(l:List Mem)(F:l.length≤1000)(C:∀m∈l,m.Extra.length≤1000000):DH l l=some true:=by
 unfold DH;rw[show((l.length:Int) !=(l.length:Int))=false from by simp,AK];have:loop (CJ l l) (0:Int)=some (.inl ()):=by
  refine W.eq (W.mono (W.list (l:=l) (fun(_:Unit) (i:Nat)=>(i:Int)) (fun _ _=>True) ?_ ?_ () trivial) fun r N=>N)
  ·intro _ _;unfold CJ;dsimp only;rw[zi (by omega),AK];exact W.ret rfl
  ·intro _ i hi _;unfold CJ;dsimp only;rw[zf (by omega),AQ,EH hi,za,za,UJ _ (C _ (zS hi)),za,zY,AK,DP (by omega)];exact W.ret ⟨(),rfl,trivial⟩
 rw[this,za]
theorem XY{cuts:List Int}(hc:∀c∈cuts,QU .u16 c)(hcl:cuts.length≤20){m:Mem}(hm:m.Data.length≤1099511627776){s:List UInt8}(hs:s.length≤100000000000000):
  loop (CC cuts m) (true,false,(m.Data.length:Int),(m.Data.length:Int),s,(0:Int),(0:Int))=some (.inl (true,false,(m.Data.length:Int),(0:Int),s++m.Data)):=by
 refine W.eq (W.mono (W.loop (fun u=>∃at_ i:Nat,at_≤m.Data.length∧i≤at_∧u=(true,false,(m.Data.length:Int),((m.Data.length - at_:Nat):Int),s++m.Data.take at_,(at_:Int),(i:Int))) (fun u=>(m.Data.length - u.2.2.2.2.2.1).toNat) ⟨0,0,by omega,by omega,by rw[y7,yj,xJ];rfl⟩ ?_) fun r N=>N);rintro _ ⟨n,i,h1,h2,rfl⟩;unfold CC;dsimp only;by_cases G:n<m.Data.length
 ·rw [zf (by omega),AQ];have hp:∃k:Nat,1≤k∧n+k≤m.Data.length∧(AX (decide ((cuts.length:Int)>0)) (Bn ((cuts.length:Int) !=0)<|(G8 cuts (Int.tmod (i:Int) (cuts.length:Int))).bind fun x44=>some (mn (IntKind.i64.wrap ((m.Data.length:Int) - (n:Int))) (IntKind.i64.wrap ((1:Int)+(IntKind.i64.wrap x44))))) (some (IntKind.i64.wrap ((m.Data.length:Int) - (n:Int)))):Option Int)=some (k:Int):=by
   rw[DK (x:=(m.Data.length:Int) - (n:Int)) (by omega) (by omega)];by_cases J:0<cuts.length
   ·have D:=qh i J;rw[zf (by omega),AQ,show((cuts.length:Int) !=0)=true from by rw[qR];omega,Ak,show Int.tmod (i:Int) (cuts.length:Int)=((i%cuts.length:Nat):Int) from rfl,EH D,za];have C:=hc _ (zS D);generalize cuts[i%cuts.length]=c at C;have h3:0≤c:=C.1;have h4:c≤65535:=C.2;rw[DK (x:=c) (by omega) (by omega),DK (by omega) (by omega)];have hmn:mn ((m.Data.length:Int) - (n:Int)) (1+c)=if(m.Data.length:Int) - (n:Int)≤1+c then(m.Data.length:Int) - (n:Int)else 1+c:=by
     unfold mn;split<;>split<;>omega
    rw[hmn];split
    ·exact⟨m.Data.length - n,by omega,by omega,by congr 1;omega⟩
    ·exact⟨(1+c).toNat,by omega,by omega,by congr 1;omega⟩
   ·rw[zi (by omega),AK];exact⟨m.Data.length - n,by omega,by omega,by congr 1;omega⟩
  obtain⟨k,k1,k2,hk⟩:=hp;rw[hk,za,DK (x:=(n:Int)+(k:Int)) (by omega) (by omega),show(n:Int)+(k:Int)=((n+k:Nat):Int) by omega,Iq (by omega) (by omega),za,ya];have hlen:((m.Data.drop n).take k).length=k:=by rw[zA,yd];omega
  unfold D4;dsimp only;rw[zY,AK,hlen,zi (by omega),AK,za];dsimp only;rw[show((0:Int) !=0)=false from rfl,AK,zf (by rw[ze,zA,hlen];omega),Ak,DK (by omega) (by omega),DP (by omega)];refine W.ret ⟨⟨n+k,i+1,k2,by omega,?_⟩,by dsimp only;omega⟩;rw[zw,←List.take_add,show((m.Data.length - n:Nat):Int) - (k:Int)=((m.Data.length - (n+k):Nat):Int) by omega]
 ·have G:n=m.Data.length:=by omega
  rw[zi (by omega),AK];refine W.ret ?_;rw[G,z8,yV];rfl
theorem Z8{z l:Int}{n:Nat}(M:z=(n:Int))(F:l≤0)(G:n≤1099511627776):DI ⟨true,false,z,l⟩=some (List.replicate ((512 - n%512)%512) 0,0,⟨false,false,z,l⟩):=by
 have hrest:GJ z=some ((((512 - n%512)%512:Nat):Int),0):=by
  unfold GJ Im G6;rw[M,zf (by omega),zf (by omega),za];have e:Int.tmod (IntKind.i64.wrap ((512:Int) - (Int.tmod (n:Int) (512:Int)))) (512:Int)=(((512 - n%512)%512:Nat):Int):=by
   rw[show(512:Int)=((512:Nat):Int) from rfl,Tl];have:=qh n (show 0<512 by decide);generalize n%512=r at *;rw[DK (by omega) (by omega),show((512:Nat):Int) - (r:Int)=((512 - r:Nat):Int) by omega,Tl]
  rw[e];rfl
 have D:=qh (512 - n%512) (show 0<512 by decide);unfold DI;dsimp only;rw[zY,AK,zi (by omega),AK,hrest,za];dsimp only;rw[show aX 1 ((((512 - n%512)%512:Nat):Int))=true from by unfold aX;exact zf (by omega),Ak,zN]
theorem cD:JK=some (List.replicate 1024 0):=by
 unfold JK;rw[show Pp ([0]:List UInt8) (1024:Int)=true from by unfold Pp;exact zf ⟨by omega,by omega,by decide⟩,Ak,VT];rfl
theorem UI(es:List (Mem×List UInt8))(e:Mem×List UInt8):Fu (es++[e])=Fu es++(e.2++E6 e.1.Data):=by
 unfold Fu;rw[yn,yP];simp
theorem OL(x0:List Mem){R0:Prop}(k0:R0)(x1:List Int)(k1:cL (QU .u16) x1):Cs x0 x1=some true:=by
 have hc:=k1.2;unfold Cs;refine W.eq ?_;rw[show HA=some (⟨false,false,0,0⟩:BB) from rfl,za];refine W.ite (fun _=>by rw[Rt,za];exact W.ret rfl) fun hb=>?_;rw[zH,zx,zx]at hb;have hlp:W (loop (Bl x0 x1) (([]:List AJ),false,false,(0:Int),(0:Int),([]:List UInt8),(0:Int))) fun r=>match r with
   | .inl (w,b,c,z,l,s)=>b=false∧c=false∧∃es:List (Mem×List UInt8),es.length≤6∧(∀e∈es,Z3 e)∧w=es.map Prod.fst∧s=Fu es
   | .inr y=>y=true:=by
  refine W.list (l:=x0) (fun(u:List Mem×Int×Int×List UInt8) (i:Nat)=>(u.1,false,false,u.2.1,u.2.2.1,u.2.2.2,(i:Int))) (fun u i=>∃es:List (Mem×List UInt8),es.length≤i∧(∀e∈es,Z3 e)∧u.1=es.map Prod.fst∧u.2.2.2=Fu es) ?_ ?_ ([],0,0,[]) ⟨[],by simp,by simp,rfl,rfl⟩
  ·rintro⟨w,z,l,s⟩ ⟨es,e1,e2,e3,e4⟩;unfold Bl;dsimp only;rw[zi (by omega),AK];exact W.ret ⟨rfl,rfl,es,by omega,e2,e3,e4⟩
  ·rintro⟨w,z,l,s⟩ i hi ⟨es,e1,e2,e3,e4⟩;dsimp only at e3 e4;have hbl:=Kr e2;unfold Bl;dsimp only;rw[zf (by omega),AQ,EH hi,za];generalize x0[i]=m;refine W.bind (W.mono (Q:=fun o=>match o with| .inl (w,b,c,z,l,s)=>b=false∧c=false∧∃es:List (Mem×List UInt8),es.length≤i+1∧(∀e∈es,Z3 e)∧w=es.map Prod.fst∧s=Fu es| .inr y=>y=true) ?_ ?_)
   ·refine W.bind ((ZT m).mono fun b hlong=>W.ite (fun _=>by rw[Rt,za];exact W.ret rfl) fun hb2=>?_);have B:=hlong hb2;unfold Dm;dsimp only;rw[yK,AK];obtain⟨⟨hd,e⟩,he,E⟩:=Xf (n:=(m.Data.length:Int)) B;rw[he,za];dsimp only at E⊢;by_cases J:e=0
    ·subst J;have H:=E rfl;have G:=H.nn;have hdl:=H.len;rw[show((0:Int) !=0)=false from rfl,AK,za];dsimp only;rw[show((0:Int) !=0)=false from rfl,AK,zf (by rw[e4];omega),Ak,XY hc (by omega) (by omega) (by rw[ze,e4];omega),za];dsimp only;rw[Z8 (n:=m.Data.length) rfl (by omega) (by omega),za];dsimp only;have hmod:=qh (512 - m.Data.length%512) (show 0<512 by decide);rw[show((0:Int) !=0)=false from rfl,AK,zf (by rw[ze,ze,zT,e4];omega),Ak];have hk:(AX (m.Kind==0) (some (48:Int)) (some m.Kind):Option ((Int)))=some (if m.Kind=0 then 48 else m.Kind):=by
      rw[Lm];split<;>rfl
     rw[hk,za];have hwl:w.length≤6:=by rw[e3,yy];omega
     rw[show MY 168 (w.length+([(⟨m.Name,m.Ah,if m.Kind=0 then 48 else m.Kind,m.Mode,m.BO,m.BW,m.AZ,m.Ad,m.Aj,m.Ao,m.Time,m.Extra,m.Data⟩:AJ)]:List AJ).length)=true from GZ (by simp;omega) (by simp;omega),Ak];refine W.ret ⟨rfl,rfl,es++[(km m (if m.Kind=0 then 48 else m.Kind),hd)],by rw[ze,qy];omega,?_,?_,?_⟩
     ·intro x C;rcases zB.1 C with C|C
      ·exact e2 x C
      ·rw[yT.1 C];exact⟨H⟩
     ·rw[yn,e3];rfl
     ·rw[UI,e4];show((Fu es++hd)++m.Data)++List.replicate ((512 - m.Data.length%512)%512) 0=Fu es++(hd++E6 m.Data);unfold E6;simp only[zw]
    ·rw[show(e !=0)=true from bne_iff_ne.2 J,AQ,za];dsimp only;rw[show(e !=0)=true from bne_iff_ne.2 J,AQ];exact W.ret ⟨rfl,rfl,es,by omega,e2,e3,e4⟩
   ·rintro(⟨w,b,c,z,l,s⟩|y) E
    ·obtain⟨rfl,rfl,es,k1,k2,k3,k4⟩:=E;refine W.ret ⟨(w,z,l,s),?_,es,k1,k2,k3,k4⟩;rw[DP (by omega)]
    ·exact W.ret E
 obtain⟨o,ho,E⟩:=hlp;rw[ho,za];rcases o with⟨w,b,c,z,l,s⟩|y
 ·obtain⟨rfl,rfl,es,e1,e2,e3,e4⟩:=E;have hbl:=Kr e2;dsimp only;unfold Dl;dsimp only;rw[yK,AK,cD,za,za];dsimp only;rw[zf (by rw[e4,zT];omega),Ak,e4,Y2 e2 (by omega),za];dsimp only
  rw[e3,Wt _ (by rw[yy];omega) (fun m hm=>by
   obtain⟨e,he,rfl⟩:=zZ.1 hm;have:=(e2 e he).hd.sh.x
   omega)]
  rw[Rt];exact W.ret rfl
 ·dsimp only at E⊢;rw[E];exact W.ret rfl
end Go.Av.L
end
/-
 A part.
-/
section
namespace Go.Av
open Go
theorem KN{P:Program}{x:String×DataW Unit}{r:List (String×DataW Unit)}{w:World}(h:laidMet P (x::r) w):laidMet P r w:=by
 obtain⟨ps,hv,hnd,hrows⟩:=h;obtain⟨n,d⟩:=x;obtain⟨g,t,cs,fuel,p,q,_,_,_,_,E,rfl⟩:=hv;exact⟨q,E,List.Nodup.sublist (List.sublist_append_right _ _) hnd,fun b off hm=>hrows b off (List.mem_append_right _ hm)⟩
def SP(W:World)(g:Nat)(cs:List AB):Prop:=
 g<W.heap.size∧∃cur e fz,W.heap[g]?=some (.cells cur e fz)∧(cs≠[]→cur.size=cs.length)∧∀(j:Nat) (a:AB),cs[j]?=some a→a.one=true∧Av.Ff a=true∧∃c,cur[j]?=some c∧VR ⟨fun _=>none,fun _ _=>none,fun _ _=>False⟩ a c
theorem JG{P:Program}{W:World}{name:String}{k:IntKind}{zs:List Int}{g:Nat}(hg:P.globalNamed name=some g)(h:Lib.TabIs P W name k zs):SP W g (zs.map fun z=>AB.int k z):=by
 unfold Lib.TabIs World.var? at h;rw[hg]at h;simp only[za]at h;split at h
 ·rename_i cs e fz hc;injection h with h;have D:g<W.heap.size:=by
   by_cases D:g<W.heap.size
   ·exact D
   ·rw[Array.getElem?_eq_none (by omega)]at hc;cases hc
  refine⟨D,cs,e,fz,hc,fun _=>by rw[h];simp,fun j a K=>?_⟩;rw[List.getElem?_map,zl]at K;obtain⟨z,M,rfl⟩:=K;refine⟨rfl,rfl,.int k z,?_,VR.int k z⟩;rw[h];simp[M]
 ·cases h
theorem NT{W:World}{g:Nat}{cs:List AB}{l:List (Nat×List AB)}(h:SP W g cs)(G:cs=[]→∃n:Int,W.cell? ⟨g,0,none⟩=some (.int .i64 n))(F:Bh (LP l) W):Bh (LP ((g,cs)::l)) W:=⟨fun g' cs' e=>by
 unfold LP at e;rw[Ik]at e;by_cases C:g=g'
 ·rw[zm C]at e;have:=zJ e;subst this;subst C;exact h
 ·rw[zk C]at e;exact F.1 g' cs' e,fun g' e=>by
 unfold LP at e;rw[Ik]at e;by_cases C:g=g'
 ·rw[zm C]at e;have:=zJ e;subst C;exact G this
 ·rw[zk C]at e
  exact F.2 g' e⟩
theorem LD{W:World}{g:Nat}{a:AB}{cs:List AB}{l:List (Nat×List AB)}(h:SP W g (a::cs))(F:Bh (LP l) W):Bh (LP ((g,a::cs)::l)) W:=NT h (fun h=>by cases h) F
theorem Uj{W:World}{g:Nat}{l:List (Nat×List AB)}(h:∃n:Int,W.cell? ⟨g,0,none⟩=some (.int .i64 n))(F:Bh (LP l) W):Bh (LP ((g,[])::l)) W:=by
 refine NT ?_ (fun _=>h) F;obtain⟨n,G⟩:=h;unfold World.cell? at G;split at G
 ·rename_i cs e fz hc;have I:W.heap[g]?=some (.cells cs e fz):=hc;refine⟨?_,cs,e,fz,I,fun h=>absurd rfl h,fun j a K=>by simp at K⟩;by_cases D:g<W.heap.size
  ·exact D
  ·rw[Array.getElem?_eq_none (by omega)]at I;cases I
 ·cases G
theorem Uu(W:World):Bh (LP []) W:=⟨fun g cs e=>(by cases e),fun g e=>(by cases e)⟩
end Go.Av
end
