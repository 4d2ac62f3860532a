/-
 A part.
-/
import Derived.Test.YthhonebaoidfgaaGreatDoorAvLib
set_option linter.unusedSimpArgs false
namespace Go.Av
open Go.RowKit
set_option linter.unusedVariables false
set_option linter.unusedSimpArgs false
theorem kK{P:Program}{w0:World}{m:Bk}{h:AF}{w:World}(r:Rel P w0 m h w){m1:Bk}{w1:World}{cs:List AD}(hm:m.ext h.size m1)(r1:Rel P w0 m1 (h.push (.cells none 2 cs)) w1)(hcs:∀x∈cs,∃y,VR m x y):
  ∃m4:Bk,m.ext h.size m4/\Rel P w0 m4 h w1/\(∀u,VR m1 (.ptr (some (h.size,0))) u->VR m4 (.Aw cs) u)/\(∀x y z,VR m x y->VR m1 x z->VR m4 x z):=by
 have hle:=r.Oi hm;have rb:=r.back hm (λid hid=>h.Ci _ hid) r1;cases hE:m1.i h.size with
 |none=>
  refine⟨m.with m1,⟨λ_ _=>rfl,hm.fz,hm.df⟩,rb,λu hu=>?_,λx y z h1 h2=>h1.back hle h2⟩;cases hu with
  |ptr _ _ E hh=>exact absurd (hE.symm.trans hh) (by simp)
 | some E=>
  have hg:(h.push (.cells none 2 cs)).get h.size=some (.cells none 2 cs):=h.C7 _;obtain⟨⟨_,U⟩,hc⟩:=r1.obj _ E _ hE hg;have hbase:=U rfl rfl;obtain⟨cur,e,z,p1,p2,p3,_⟩:=hc (by decide);have hno:∀j,m1.fz E.g j=none:=r1.K1 _ E _ hE hg rfl;have B:∀id F o,m.i id=some F->h.get id=some o->o.live=true->F.g≠E.g:=λid F o J D O e=>by
   have hid:=r.Q2 id F J;exact r1.sep h.size id E F _ o om hE (hle.i _ _ J) hg (by rw[h.Ci _ hid];exact D) rfl O e.symm
  obtain⟨m4,h4⟩:∃m4:Bk,m4=⟨m.i,λg o=>if g=E.g then cur[o]? else m1.fz g o,m1.df⟩:=⟨_,rfl⟩
  have hl4:(m.with m1).le m4:=⟨λi F J=>by rw[h4];exact J,λg o v N=>by
   rw[h4];simp only;by_cases e:g=E.g
   ·subst e;rw[show(m.with m1).fz E.g o=m1.fz E.g o from rfl,hno]at N;cases N
   ·rw[zj e];exact N⟩
  have mi:∀{i F},m4.i i=some F->m.i i=some F:=λJ=>by rw[h4]at J;exact J
  refine⟨m4,⟨λi hi=>by rw[h4],λg o v N=>hl4.fz g o v (hm.fz g o v N),λg x hg=>by rw[h4];exact hm.df g x hg⟩,?_,?_,λx y z h1 h2=>(h1.back hle h2).mono hl4⟩
  ·refine⟨rb.below,λid F J=>rb.Q2 id F (mi J),λid F o J D=>(rb.obj id F o (mi J) D).mono hl4 λ_=>rfl,λid F o J D hw=>rb.own id F o (mi J) D hw,λid id' F F' o o' B J hF' D ho' hw O=>rb.sep id id' F F' o o' B (mi J) (mi hF') D ho' hw O,λg o v N=>?_,λid F o J D hw j=>?_,λg x hg=>?_,λid F o J D O x hd=>?_⟩
   ·rw[h4]at N;simp only at N;split at N
    ·rename_i e';subst e';exact⟨cur,e,z,p1,N⟩
    ·exact rb.fz g o v N
   ·rw[h4];simp only;rw[zj (B id F o (mi J) D (Cs.Ha hw))];exact rb.K1 id F o (mi J) D hw j
   ·rw[h4]at hg;exact rb.df g x hg
   ·rw[h4]at hd;exact rb.Re id F o (mi J) D O x hd
  ·intro u hu;cases hu with
   | ptr _ _ E' hE'=>
    have:=hE.symm.trans hE';cases this;rw[hbase];refine .Aw _ _ _ (λi=>(cur[i]?).getD undef) (λi hi=>?_) λi x hx=>?_
    ·obtain⟨_,c,c1,_⟩:=p3 i _ (List.getElem?_eq_getElem hi);rw[hbase,yz]at c1;rw[h4];simp only[if_true,yQ,yz,c1,zV]
    ·obtain⟨_,c,c1,c2⟩:=p3 i x hx;rw[hbase,yz]at c1;obtain⟨y,hy⟩:=hcs x (zN hx);simp only[c1,zV];exact(hy.back hle c2).mono hl4
section
variable {C:Hv} {S:Self} {w0:World} {m:Bk} {h:AF} {w:World} {g:Gd}
theorem Qu (hS:HW C.P C.DC S) (hz:CH C.DC w0) {f:FuncId} {fn:Func} {i0:Nat} {ops0:Array Oper} {c2:Code} (Y:C.P.funcs[f]?=some fn) (hn:(fn.name=="runtime.NumGoroutine")=false)
  (U:fn.body=some (.seq (.region i0 ops0 false) (.seq c2 .ret))) {args:List AD} {cargs:Array Value} (r:Rel C.P w0 m h w) (N:DD m args cargs.toList) {fr0:Fr} (hfr0:fr0=args++List.replicate (fn.ntmps - args.length) (.tuple []))
  {tb tr tp:Nat} {z:AD} (hz0:∃y,VR m z y) (htp:tp<args.length) (hr0:Eb C S g ops0 ops0.toList fr0 h=some ((fr0.set tb (.ptr (some (h.size,0)))).set tr z,h.push (.cells none 2 [nth fr0 tp]))) (B:tb≠tr)
  {h2:AF} {fr2:Fr} {v:AD}
  (hc2:∀(m4:Bk) (a1:Act) (w1:World) (Q:Exit->Act->World->Prop),m.ext h.size m4->Rel C.P w0 m4 h w1->FR m4 ((fr0.set tb (.Aw [nth fr0 tp])).set tr z) a1->
   (∀m2 a2 w2,m.ext h.size m2->Rel C.P w0 m2 h2 w2->FR m2 fr2 a2->a2.defers=a1.defers->Q .normal a2 w2)->c2.wpIn (FW none) 0 C.P Q a1 w1)
  (Z:Dz C.P fn fr2 h2=some v):DP C.P f cargs w λv' w'=>∃m':Bk,(m.ext h.size m')/\Rel C.P w0 m' h2 w'/\VR m' v v':=by
 unfold DP;rw[HU Y hn U];simp only;have hlen:args.length=cargs.size:=by rw[N.1];simp
 have hf0:∀t,VR m (nth fr0 t) ((cargs++Array.replicate (fn.ntmps - cargs.size) undef).getD t undef):=by
  intro i;rw[hfr0,Ga,zo];simp only[zn];by_cases hi:i<args.length
  ·rw[List.getElem?_append_left hi,Array.getElem?_append_left om];rw[List.getElem?_eq_getElem hi,Array.getElem?_eq_getElem om];exact N.2 i _ _ (List.getElem?_eq_getElem hi) (by simp[<-hlen,hi])
  ·rw[List.getElem?_append_right om,Array.getElem?_append_right om];rw[List.getElem?_replicate,Array.getElem?_replicate,hlen];split
   ·exact VR.HN m
   ·exact VR.HN m
 refine(callsIn_wide (n:=0)).1 (callsIn_of_wp_marks Y U trivial (wpIn_seq (wpIn_region_list (G3 hS hz _ r ⟨?_,hf0⟩ hr0 (λm1 a1 w1 g1 g2 g3 g4=>?_) none))))
 ·rw[hfr0];simp[hlen]
 ·obtain⟨m4,k1,k2,k3,k4⟩:=kK r g1 g2 (λx hx=>by
   rw[zU]at hx
   exact⟨_,hx ▸ hf0 tp⟩)
  have hf4:FR m4 ((fr0.set tb (.Aw [nth fr0 tp])).set tr z) a1:=by
   refine⟨by have:=g3.1;simpa using this,λt=>?_⟩;have q:=g3.2 t;rw[G4]at q⊢;rw[yW]at q⊢;by_cases e1:tr=t/\tr<fr0.length
   ·rw[zl e1]at q⊢;obtain⟨y,hy⟩:=hz0;exact k4 _ _ _ hy q
   ·rw[zj e1]at q⊢;rw[G4]at q⊢;by_cases e2:tb=t/\tb<fr0.length
    ·rw[zl e2]at q⊢;exact k3 _ q
    ·rw[zj e2]at q⊢;exact k4 _ _ _ (hf0 t) q
  refine wpIn_seq (hc2 m4 a1 w1 _ k1 k2 hf4 (λm2 a2 w2 d1 d2 d3 d4=>?_));refine wpIn_ret ?_;have hde:a2.defers=[]:=by rw[d4,g4]
  show LeavesInM Fence.wide 0 C.P fn a2.tmps _ a2.defers .returning w2;rw[hde];refine It [] xz m2 w2 d2 (λr hr=>by cases hr) λm3 w3 s1 s2 s3 s4=>?_;have hle:m2.le m3:=⟨λid E hE=>by rw[s1];exact hE,λg o v N=>by rw[s2];exact N⟩;obtain⟨v',q1,q2⟩:=I1 s4 (d3.mono hle) Z;exact⟨v',q1,v',rfl,m3,⟨λid hid=>by rw[s1];exact d1.i id hid,λg o v N=>by rw[s2];exact d1.fz g o v N,λg x hg=>s3 g x (d1.df g x hg) (by simp)⟩,s4,q2⟩
end
def Lk(ops:Array Oper)(i:Nat):Oper:=CK ops [(i,[])] 0
theorem X6{ops:Array Oper}{i:Nat}(hi:i<ops.size):ops[i]?=some (Lk ops i):=by
 simp[Lk,CK,B8,zn,hi]
def Kc(tM:TypeId)(tm:Tmp):Op->Option (List UInt8×Operand)
 | .insert t (.tmp d) (.const (.string s)) x=>if t=tM/\d=tm then some (s.data.toList,x)else none
 |_=>none
theorem dF{tM:TypeId}{tm:Tmp}{op:Op}{s:List UInt8}{x:Operand}(h:Kc tM tm op=some (s,x)):op=.insert tM (.tmp tm) (.const (.string ⟨⟨s⟩⟩)) x:=by
 unfold Kc at h;split at h
 ·split at h
  ·rename_i hh;obtain⟨rfl,rfl⟩:=hh;cases h;rfl
  ·cases h
 ·cases h
def ij(tM:TypeId):Op->Bool
 | .makeMap t none=>Nat.beq t tM
 |_=>false
theorem fa{tM:TypeId}{op:Op}(h:ij tM op=true):op=.makeMap tM none:=by
 unfold ij at h;split at h
 ·rw[zt h]
 ·cases h
def gK:AD->Bool
 | .func _ _ _=>true
 |_=>false
def RC(ops:Array Oper)(t:Tmp):Option Nat:=(List.range ops.size).find? λi=>(Lk ops i).dst==some t
def bU(ops:Array Oper)(tM:TypeId)(tm:Tmp)(k0:Nat):Bool:=
 OE ops.toList 0&&Nat.blt k0 ops.size&&ij tM (Lk ops k0).op&&(Lk ops k0).dst==some tm&&
 (List.range ops.size).all λi=>
  (Lk ops i).guard.isNone&&
  (match(Lk ops i).dst with|some t=>RC ops t==some i|none=>true)&&
  ((Lk ops i).looksAt ops).all (λt=>match RC ops t with|none=>true|some j=>dep (closure ops.toList []) j i)&&
  (match Kc tM tm (Lk ops i).op with
   |some (s,_)=>(Lk ops i).dst.isNone&&dep (closure ops.toList []) k0 i&&(List.range ops.size).all (λj=>Nat.beq i j||match Kc tM tm (Lk ops j).op with|some (s',_)=>s !=s'|none=>true)
   |none=>true)
def Q9(ops:Array Oper)(tM:TypeId)(tm:Tmp)(val:Fr)(i:Nat):Option (AD×AD):=(Kc tM tm (Lk ops i).op).map λp=>(.str p.1,ev val p.2)
def MG(ops:Array Oper)(tM:TypeId)(tm:Tmp)(val:Fr)(listed:Nat->Bool):List (AD×AD):=(List.range ops.size).filterMap λi=>bif listed i then Q9 ops tM tm val i else none
def P3(h:AF)(b:Bool)(es:List (AD×AD)):AF:=bif b then h.push (.map 2 es)else h
def QA(ops:Array Oper)(fr val:Fr)(listed:Nat->Bool)(t:Tmp):AD:=match RC ops t with|some j=>bif listed j then nth val t else nth fr t|none=>nth fr t
abbrev got(listed:Array Bool)(i:Nat):Bool:=listed.getD i false
theorem J5{listed:Array Bool}{i:Nat}(hi:i<listed.size)(j:Nat):got (listed.setIfInBounds i true) j=(got listed j||decide (j=i)):=by
 unfold got;by_cases e:i=j
 ·subst e;simp[zn,hi]
 ·have e':¬j=i:=λh=>e h.symm;simp[zn,Array.getElem?_setIfInBounds_ne e,e']
theorem PW{β:Type}{f g:Nat->Option β}:∀{l:List Nat},(∀x∈l,f x=g x)->l.filterMap f=l.filterMap g
 |[],_=>rfl
 |a::l,h=>by
  have ih:=PW (f:=f) (g:=g) (l:=l) λx hx=>h x (.tail _ hx);have e:=h a (.head _);cases hg:g a with
  |none=>rw[y6 hg,y6 (e.trans hg),ih]
  |some b=>rw[y7 hg,y7 (e.trans hg),ih]
theorem UF{β:Type}{f f':Nat->Option β}{i:Nat}{e:β}(h1:f i=none)(h2:f' i=some e)(h3:∀j,j≠i->f' j=f j):∀(l:List Nat),l.Nodup->i∈l->(l.filterMap f').Perm (l.filterMap f++[e])
 |[],_,h=>by cases h
 | a::l,hn,hm=>by
  rw[yR]at hn;by_cases ea:a=i
  ·subst ea;rw[y7 h2,y6 h1];have:l.filterMap f'=l.filterMap f:=by
    refine PW λx hx=>h3 x λe=>hn.1 (e ▸ hx)
   rw[this];exact List.perm_append_singleton _ _|>.symm
  ·have hm':i∈l:=(zF.1 hm).resolve_left (λe=>ea e.symm);have ih:=UF h1 h2 h3 l hn.2 hm';cases hfa:f a with
   |none=>rw[y6 hfa,y6 ((h3 a ea).trans hfa)];exact ih
   |some b=>rw[y7 hfa,y7 ((h3 a ea).trans hfa)];exact ih.cons b
theorem Rel.loose{P:Program}{w0:World}{m:Bk}{h:AF}{w:World}{es es':List (AD×AD)}(r:Rel P w0 m (h.push (.map 2 es)) w)(hp:es.Perm es')(hs:es'.all Kr=true)(hn:(es'.map Prod.fst).Nodup):Rel P w0 m (h.push (.map 3 es')) w:=by
 have JY:∀{i o},(h.push (.map 3 es')).get i=some o->i≠h.size->(h.push (.map 2 es)).get i=some o:=λD B=>by
  rw[h.Ka,zj B]at D⊢;exact D
 have new:∀{o},(h.push (.map 3 es')).get h.size=some o->o=.map 3 es':=λD=>by
  rw[h.C7]at D;exact(zJ D).symm
 have new2:(h.push (.map 2 es)).get h.size=some (.map 2 es):=h.C7 _;refine⟨r.below,λid E hE=>by have:=r.Q2 id E hE;simpa using this,λi F o J D=>?_,λi F o J D hw=>?_,λi i' F F' o o' B J hF' D ho' hw O=>?_,r.fz,λi F o J D hw j=>?_,r.df,λi F o J D O=>?_⟩
 ·by_cases e:i=h.size
  ·subst e;obtain rfl:=new D;obtain⟨h1,h2⟩:=r.obj _ F _ J new2;exact⟨h1,λ_=>⟨es,⟨λh=>absurd rfl h,λ_=>⟨hp,hs,hn⟩⟩,M4.two (h2 (by decide)) (by decide)⟩⟩
  ·exact r.obj i F o J (JY D e)
 ·by_cases e:i=h.size
  ·subst e;obtain rfl:=new D;cases hw
  ·exact r.own i F o J (JY D e) hw
 ·by_cases e:i=h.size
  ·subst e;obtain rfl:=new D;cases hw
  ·by_cases e':i'=h.size
   ·subst e';exact r.sep i h.size F F' o _ B J hF' (JY D e) new2 hw rfl
   ·exact r.sep i i' F F' o o' B J hF' (JY D e) (JY ho' e') hw O
 ·by_cases e:i=h.size
  ·subst e;obtain rfl:=new D;cases hw
  ·exact r.K1 i F o J (JY D e) hw j
 ·by_cases e:i=h.size
  ·subst e;exact r.Re _ F _ J new2 rfl
  ·exact r.Re i F o J (JY D e) O
section
variable {C:Hv} {S:Self} {w0:World} {m:Bk} {h:AF} {ops:Array Oper} {fr val:Fr} {tM kt et:TypeId} {tm:Tmp} {k0:Nat}
abbrev cQ:Gd:=⟨0,[]⟩
structure Lit(C:Hv)(S:Self)(h:AF)(ops:Array Oper)(fr val:Fr)(tM kt et:TypeId)(tm:Tmp)(k0:Nat):Prop where
 ok:bU ops tM tm k0=true
 len:val.length=fr.length
 JY:∀t,RC ops t=none->nth val t=nth fr t
 mv:nth val tm=.map (some h.size)
 fn:∀i s x,i<ops.size->Kc tM tm (Lk ops i).op=some (s,x)->gK (ev val x)=true
 lj:∀i,i<ops.size->i≠k0->Kc tM tm (Lk ops i).op=none->∀H,∃v,Bv C S cQ H val (Lk ops i).op=some (v,H)/\∀t,(Lk ops i).dst=some t->v=nth val t
 jz:C.P.underlying tM=some (.map kt et)
 str:C.P.underlying kt=some .string
structure Vm(C:Hv)(h:AF)(ops:Array Oper)(fr val:Fr)(tM:TypeId)(tm:Tmp)(k0:Nat)(w0:World)(m:Bk)(d0:List Deferred)(listed:Array Bool)(a:Act)(w:World):Prop where
 sz:listed.size=ops.size
 closed:Closed ops listed
 defers:a.defers=d0
 tmps:a.tmps.size=fr.length
 rel:∃(m':Bk) (es:List (AD×AD)),m.ext h.size m'/\Rel C.P w0 m' (P3 h (got listed k0) es) w/\es.Perm (MG ops tM tm val (got listed))/\∀t,VR m' (QA ops fr val (got listed) t) (a.tmps.getD t undef)
theorem Lit.parts(L:Lit C S h ops fr val tM kt et tm k0):OE ops.toList 0=true/\k0<ops.size/\(Lk ops k0).op=.makeMap tM none/\(Lk ops k0).dst=some tm/\∀i,i<ops.size->(Lk ops i).guard=none/\
  (∀t,(Lk ops i).dst=some t->RC ops t=some i)/\(∀t∈(Lk ops i).looksAt ops,∀j,RC ops t=some j->dep (closure ops.toList []) j i=true)/\
  ∀s x,Kc tM tm (Lk ops i).op=some (s,x)->(Lk ops i).dst=none/\dep (closure ops.toList []) k0 i=true/\∀j,j<ops.size->j≠i->∀s' x',Kc tM tm (Lk ops j).op=some (s',x')->s≠s':=by
 have:=L.ok;unfold bU at this;simp only[zf,yH,yN]at this;obtain⟨⟨⟨⟨h1,h2⟩,h3⟩,h4⟩,h5⟩:=this;refine⟨h1,h2,fa h3,h4,λi hi=>?_⟩;have q:=zr.1 h5 i (zO.2 hi);simp only[zf,qJ]at q;obtain⟨⟨⟨q1,q2⟩,q3⟩,q4⟩:=q;refine⟨q1,λt T=>?_,λt T j I=>?_,λs x hs=>?_⟩
 ·rw[T]at q2;simpa using q2
 ·have:=zr.1 q3 t T;rw[I]at this;exact this
 ·rw[hs]at q4;simp only[zf,qJ]at q4;obtain⟨⟨p1,p2⟩,p3⟩:=q4;refine⟨p1,p2,λj I B s' x' hs'=>?_⟩;have:=zr.1 p3 j (zO.2 I);rw[hs']at this;simp only[yp,xi,ne_eq]at this;rcases this with e|e
  ·exact absurd (zt e).symm B
  ·exact e
theorem Tt{t:Tmp}{j:Nat}(h:RC ops t=some j):j<ops.size/\(Lk ops j).dst=some t:=by
 unfold RC at h;have h1:=List.mem_of_find?_eq_some h;have h2:=List.find?_some h;exact⟨zO.1 h1,by simpa using h2⟩
theorem Tw{P:Program}(hs:P.underlying kt=some .string){s:List UInt8}:∀(es:List (AD×AD)) (i:Nat),(∀p∈es,∃s',p.1=.str s'/\s'≠s)->EL P kt (.str s) es i=some none
 |[],i,_=>rfl
 | (k,v)::es,i,h=>by
  obtain⟨s',e,B⟩:=h _ (.head _);simp only at e;subst e;unfold EL;have:Il P 10000 kt (.str s) (.str s')=some false:=by
   show Il P (9999+1) kt _ _=_;unfold Il;rw[hs];simp only[zb,yu,ne_eq];exact λe=>B e.symm
  rw[this];exact Tw hs es (i+1) λp hp=>h p (.tail _ hp)
theorem Vm.step(L:Lit C S h ops fr val tM kt et tm k0)(hS:HW C.P C.DC S)(hz:CH C.DC w0){d0:List Deferred}{listed:Array Bool}{a:Act}{w:World}
  (inv:Vm C h ops fr val tM tm k0 w0 m d0 listed a w) {i:Nat} (hi:i∈Region.ready .any ops listed) {K:Act->World->Prop} {Q:Exit->Act->World->Prop}
  (hK:∀a' w',Vm C h ops fr val tM tm k0 w0 m d0 (listed.setIfInBounds i true) a' w'->K a' w') (rd:Option Nat):wpOpIn (FW rd) 0 C.P ops Q i K a w:=by
 obtain⟨R,hnl0,hpre⟩:i<ops.size/\listed.getD i true=false/\Lt ops listed i:=by
  simp only[Region.ready,yx,zO,zf,zH]at hi;refine⟨hi.1,hi.2.1,λo D e he U=>?_⟩;have:=hi.2.2;rw[D]at this;simp only[zh,zV]at this;rw[<-qP]at this;have:=zr.1 this e he;rw[U]at this;simpa using this
 obtain⟨hed,hk0,hmk,hmd,hops⟩:=L.parts;obtain⟨hgu,hwr,hlk,hins⟩:=hops i R;have X:i<listed.size:=by rw[inv.sz];exact R
 have hnl:got listed i=false:=by
  unfold got;simp only[zn,Array.getElem?_eq_getElem X,zV]at hnl0⊢;exact hnl0
 have hdep:∀j,dep (closure ops.toList []) j i=true->got listed j=true:=λj hd=>MO inv.closed i R hpre hd;obtain⟨m1,es,r1,r2,r3,r4⟩:=inv.rel;have D:=X6 R;unfold wpOpIn;rw[D];simp only;have hw:Region.wanted (Lk ops i) (yielded ops a.tmps)=true:=by
  unfold Region.wanted;rw[hgu]
 rw[zl hw];obtain⟨frS,hfrS⟩:∃frS:Fr,frS=(List.range fr.length).map (QA ops fr val (got listed)):=⟨_,rfl⟩;have hnth:∀t,nth frS t=QA ops fr val (got listed) t:=by
  intro t;rw[hfrS,Ga,zo,List.getElem?_map];by_cases T:t<fr.length
  ·rw[List.getElem?_range T];rfl
  ·rw[List.getElem?_eq_none (by simpa using T)];have e1:nth fr t=.tuple []:=by rw[Ga,zo,List.getElem?_eq_none om];rfl
   have e2:nth val t=.tuple []:=by rw[Ga,zo,List.getElem?_eq_none (by rw[L.len];omega)];rfl
   unfold QA;split
   ·rw[e1,e2];simp
   ·rw[e1];rfl
 have hfS:FR m1 frS a:=⟨by rw[hfrS];simp[inv.tmps],λt=>by rw[hnth];exact r4 t⟩;have hlooks:∀t∈(Lk ops i).looksAt ops,nth frS t=nth val t:=by
  intro t T;rw[hnth];unfold QA;cases I:RC ops t with
  |none=>exact(L.JY t I).symm
  |some j=>simp only;rw[hdep j (hlk t T j I)];rfl
 have same:=Ql (ops:=ops) hlooks;have hent:∀j,j≠i->(bif got (listed.setIfInBounds i true) j then Q9 ops tM tm val j else none)=bif got listed j then Q9 ops tM tm val j else none:=by
  intro j I;rw[J5 X,zm I,yY]
 have dr:∃v H',Bv C S cQ (P3 h (got listed k0) es) val (Lk ops i).op=some (v,H')/\(∀t,(Lk ops i).dst=some t->v=nth val t)/\
   ∀m2 w2,Rel C.P w0 m2 H' w2->∃es',Rel C.P w0 m2 (P3 h (got (listed.setIfInBounds i true) k0) es') w2/\es'.Perm (MG ops tM tm val (got (listed.setIfInBounds i true))):=by
  by_cases ek:i=k0
  ·subst ek;refine⟨.map (some h.size),h.push (.map 2 []),?_,λt T=>?_,λm2 w2 rr=>⟨[],?_,?_⟩⟩
   ·rw[hnl,hmk];rfl
   ·rw[hmd]at T;cases T;exact L.mv.symm
   ·rw[J5 X,zg rfl,xl];exact rr
   ·have:MG ops tM tm val (got (listed.setIfInBounds i true))=[]:=by
     refine qI.2 λj I=>?_;have I:=zO.1 I;by_cases e:j=i
     ·subst e;unfold Q9;rw[hmk];cases got (listed.setIfInBounds j true) j<;>rfl
     ·rw[hent j e];cases hgj:got listed j with
      |false=>rfl
      | true=>
       simp only[zL];cases M:Kc tM tm (Lk ops j).op with
       |none=>unfold Q9;rw[M];rfl
       |some p=>
        obtain⟨s,x⟩:=p;have hd:=((hops j I).2.2.2 s x M).2.1;have:=MO inv.closed j I (inv.closed j I hgj) hd;rw[show listed.getD i false=got listed i from rfl,hnl]at this;cases this
    rw[this]
  ·have hgk:got (listed.setIfInBounds i true) k0=got listed k0:=by
    rw[J5 X,zm (λe=>ek e.symm),yY]
   cases M:Kc tM tm (Lk ops i).op with
   | none=>
    obtain⟨v,e1,e2⟩:=L.lj i R ek M (P3 h (got listed k0) es);refine⟨v,_,e1,e2,λm2 w2 rr=>⟨es,?_,?_⟩⟩
    ·rw[hgk];exact rr
    ·have:MG ops tM tm val (got (listed.setIfInBounds i true))=MG ops tM tm val (got listed):=by
      refine PW λj I=>?_;by_cases e:j=i
      ·subst e;unfold Q9;rw[M];cases got (listed.setIfInBounds j true) j<;>cases got listed j<;>rfl
      ·exact hent j e
     rw[this];exact r3
   | some p=>
    obtain⟨s,x⟩:=p;obtain⟨p1,p2,p3⟩:=hins s x M;have hk:=hdep k0 p2;have Y:=L.fn i s x R M;rw[hk];have hnew:EL C.P kt (.str s) es 0=some none:=by
     refine Tw L.str es 0 λq hq=>?_;have hq:=r3.mem_iff.1 hq;obtain⟨j,I,W⟩:=qF.1 hq;have I:=zO.1 I;cases hgj:got listed j with
     |false=>rw[hgj]at W;cases W
     | true=>
      rw[hgj]at W;simp only[zL]at W;unfold Q9 at W;cases hin3:Kc tM tm (Lk ops j).op with
      |none=>rw[hin3]at W;cases W
      |some p'=>
       obtain⟨s',x'⟩:=p';rw[hin3]at W;cases W;refine⟨s',rfl,λe=>?_⟩;have B:j≠i:=λe=>by subst e;rw[hnl]at hgj;cases hgj
       exact p3 j I B s' x' hin3 e.symm
    have hget:(P3 h true es).get h.size=some (.map 2 es):=h.C7 _;refine⟨.tuple [],(P3 h true es).set h.size (.map 2 (es++[(.str s,ev val x)])),?_,λt T=>(by rw[p1]at T;cases T),λm2 w2 rr=>⟨es++[(.str s,ev val x)],?_,?_⟩⟩
    ·rw[dF M];show(Ho C.P cQ (P3 h true es) tM (nth val tm) (.str s) (ev val x)).map (λr=>(AD.tuple [],r))=_;rw[L.mv];unfold Ho;have hfz:KG cQ (P3 h true es) (ev val x)=some (ev val x,P3 h true es):=by
      cases he:ev val x<;>rw[he]at Y<;>first|rfl|cases Y
     rw[hfz];show(J8 C.P cQ (P3 h true es) tM (.map (some h.size)) (.str s) (ev val x)).map (λr=>(AD.tuple [],r))=_;unfold J8;rw[L.jz];simp only;have hkk:Gy C.P 20 kt (.str s)=true:=by unfold Gy;rw[L.str]
     rw[zl ⟨hkk,rfl⟩,hget];simp only;rw[hnew];rfl
    ·rw[hgk,hk];refine rr.same ?_ λj=>?_
     ·simp[P3]
     ·rw[AF.J6 _ _ _ _ ((P3 h true es).CA hget)];show(h.push _).get j=if _ then _ else(h.push _).get j
      rw[h.Ka,h.Ka];by_cases e:j=h.size
      ·subst e;simp
      ·rw[zj e,zj e,zj (λe'=>e (by first|exact e'|exact e'.symm))]
    ·refine(r3.append_right _).trans (UF (i:=i) ?_ ?_ hent _ xo (zO.2 R)).symm
     ·rw[hnl];rfl
     ·rw[J5 X,zg rfl,xl];unfold Q9;rw[M];rfl
 obtain⟨v,H',hs,N,haft⟩:=dr;refine LB hS hz r2 hfS (o:=Lk ops i) (by rw[TE same];exact hs) (λm2 v2 w2 e1 e2 e3=>hK _ _ ?_) rd;have hsz:h.size<=(P3 h (got listed k0) es).size:=by
  unfold P3;cases got listed k0<;>simp
 obtain⟨es',q1,q2⟩:=haft m2 w2 e2;have hle:m1.le m2:=r2.Oi e1;refine⟨by simp[inv.sz],λj I hgj=>?_,by rw[D7];exact inv.defers,by rw[size_put];exact inv.tmps,m2,es',r1.trans e1 hsz,q1,q2,λt=>?_⟩
 ·have hgj':(got listed j||decide (j=i))=true:=by rw[<-J5 X];exact hgj
  have hp:Lt ops listed j:=by
   rcases Bool.or_eq_true_iff.1 hgj' with e|e
   ·exact inv.closed j I e
   ·rw[of_decide_eq_true e];exact hpre
  intro o ho' e he U;have:=hp o ho' e he U;have g2:=J5 X e.on;unfold got at g2;rw[g2,this];rfl
 ·by_cases hd:(Lk ops i).dst=some t
  ·have e1':QA ops fr val (got (listed.setIfInBounds i true)) t=nth val t:=by
    unfold QA;rw[hwr t hd];simp only;rw[J5 X,zg rfl,xl];rfl
   rw[e1',hd];show VR m2 (nth val t) ((a.tmps.setIfInBounds t v2).getD t undef);by_cases T:t<a.tmps.size
   ·rw[<-N t hd];simpa[zn,T]using e3
   ·have h1:nth val t=.tuple []:=by rw[Ga,zo,List.getElem?_eq_none (by rw[L.len,<-inv.tmps];exact qx T)];rfl
    rw[h1];have:(a.tmps.setIfInBounds t v2).getD t undef=undef:=by simp[zn,T]
    rw[this];exact VR.HN m2
  ·have e1':QA ops fr val (got (listed.setIfInBounds i true)) t=QA ops fr val (got listed) t:=by
    unfold QA;cases I:RC ops t with
    |none=>rfl
    |some j=>
     have B:j≠i:=λe=>by subst e;exact hd (Tt I).2
     simp only;rw[J5 X,zm B,yY]
   rw[e1'];have:(a.put (Lk ops i).dst v2).tmps.getD t undef=a.tmps.getD t undef:=by
    cases hdd:(Lk ops i).dst with
    |none=>rfl
    |some d=>
     have B:d≠t:=λe=>hd (by rw[hdd,e]);simp[Act.put,zn,Array.getElem?_setIfInBounds_ne B]
   rw[this];exact(r4 t).mono hle
theorem Vm.any(L:Lit C S h ops fr val tM kt et tm k0)(hS:HW C.P C.DC S)(hz:CH C.DC w0){d0:List Deferred}{Q:Exit->Act->World->Prop}
  (hQ:∀listed a w,Vm C h ops fr val tM tm k0 w0 m d0 listed a w->(∀i,i<ops.size->got listed i=true)->Q .normal a w):
  ∀(fuel:Nat) (listed:Array Bool) (a:Act) (w:World),Vm C h ops fr val tM tm k0 w0 m d0 listed a w->((List.range ops.size).filter λi=> !got listed i).length<=fuel->∀rd:Option Nat,wpAnyIn (FW rd) 0 C.P .any ops Q fuel listed a w:=by
 intro fuel
 induction fuel with
 | zero=>
  intro listed a w inv hc rd;have V:∀i,i<ops.size->got listed i=true:=by
   intro i hi;cases O:got listed i with
   |true=>rfl
   |false=>
    have hm:i∈(List.range ops.size).filter λi=> !got listed i:=yx.2 ⟨by simpa using hi,by rw[O];rfl⟩;have:((List.range ops.size).filter λi=> !got listed i)=[]:=zx om;rw[this]at hm;cases hm
  refine⟨?_,hQ _ _ _ inv V⟩;apply xJ.2;intro i hi;have hi':i<ops.size:=by simpa using hi
  have:=V i hi';have h1:i<listed.size:=by rw[inv.sz];exact hi'
  unfold got at this;simp only[zn,Array.getElem?_eq_getElem h1,zV]at this⊢;simp[this]
 | succ fuel ih=>
  intro listed a w inv hc rd;refine⟨λhr=>hQ _ _ _ inv ?_,λi hi=>?_⟩
  ·-- nothing is ready:all is done
   have key:∀i,i<ops.size->got listed i=true:=by
    intro i
    induction i using Nat.strongRecOn with
    | _ i ihi=>
     intro R;cases O:got listed i with
     |true=>rfl
     | false=>
      exfalso;have hready:i∈Region.ready .any ops listed:=by
       simp only[Region.ready,yx,zO,zf,zH];refine⟨R,?_,?_⟩
       ·have h1:i<listed.size:=by rw[inv.sz];exact R
        unfold got at O;simp only[zn,Array.getElem?_eq_getElem h1,zV]at O⊢;exact O
       ·rw[X6 R];simp only[zh,zV];rw[<-qP];refine zr.2 λe he=>?_;cases U:Region.binds .any e with
        |false=>rfl
        |true=>
         simp only[yg,yX];have hon:=O9 L.parts.1 (k:=i) (o:=Lk ops i) (by simpa using X6 R) he U;exact ihi e.on om om
      rw[hr]at hready;cases hready
   exact key
  ·refine Vm.step L hS hz inv hi (λa' w' inv'=>ih _ a' w' inv' ?_ rd) rd;have hi2:i<ops.size/\listed.getD i true=false:=by
    simp only[Region.ready,yx,zO,zf,zH]at hi;exact⟨hi.1,hi.2.1⟩
   have h1:i<listed.size:=by rw[inv.sz];exact hi2.1
   have hgs:=J5 (listed:=listed) h1
   have:=NM (List.range ops.size) (λj=> !got listed j) (λj=> !got (listed.setIfInBounds i true) j) (λj I=>by
    simp only[hgs]at I;cases hg:got listed j with
    |false=>rfl
    |true=>rw[hg]at I;simp at I)
    ⟨i,by simpa using hi2.1,by
     have:=hi2.2;unfold got;simp only[zn,Array.getElem?_eq_getElem h1,zV]at this⊢
     simp[this],by simp[hgs]⟩
   omega
theorem aD(hmix:C.P.follows .mixedOrders=true)(L:Lit C S h ops fr val tM kt et tm k0)(hS:HW C.P C.DC S)(hz:CH C.DC w0){w:World}{a:Act}{id:Nat}{Q:Exit->Act->World->Prop}{es:List (AD×AD)}
  (he:MG ops tM tm val (λ_=>true)=es) (hk:es.all Kr=true) (hn:(es.map Prod.fst).Nodup)
  (r:Rel C.P w0 m h w) (hf:FR m fr a) (hQ:∀m' a' w',m.ext h.size m'->Rel C.P w0 m' (h.push (.map 3 es)) w'->FR m' val a'->a'.defers=a.defers->Q .normal a' w'):∀rd:Option Nat,(Code.region id ops true).wpIn (FW rd) 0 C.P Q a w:=by
 intro rd;refine wpIn_region_any hmix ?_;have O:∀i,got (Array.replicate ops.size false) i=false:=λi=>by
  simp only[got,zn,Array.getElem?_replicate];split<;>rfl
 refine Vm.any L hS hz (m:=m) (d0:=a.defers) (λlisted a' w' inv V=>?_) ops.size _ a _ ⟨by simp,(λi _ h=>by rw[show(Array.replicate ops.size false).getD i false=got (Array.replicate ops.size false) i from rfl,O]at h;cases h),rfl,hf.1.symm,m,[],Bk.ext.refl _ _,?_,?_,λt=>?_⟩ (z8 (xM _ _) (by simp)) rd
 ·obtain⟨m',es',r1,r2,r3,r4⟩:=inv.rel;rw[V k0 L.parts.2.1]at r2;have e1:MG ops tM tm val (got listed)=es:=by
   rw[<-he];refine PW λj I=>?_;rw[V j (zO.1 I)]
  rw[e1]at r3;refine hQ m' a' w' r1 (r2.loose r3 hk hn) ⟨by rw[L.len];exact inv.tmps.symm,λt=>?_⟩ inv.defers;have:=r4 t;unfold QA at this;cases I:RC ops t with
  |none=>rw[I]at this;rw[L.JY t I];exact this
  |some j=>
   rw[I]at this;simp only at this;rw[V j (Tt I).1]at this;exact this
 ·rw[O];exact r.drew
 ·have:MG ops tM tm val (got (Array.replicate ops.size false))=[]:=qI.2 λj _=>by rw[O];rfl
  rw[this]
 ·have:QA ops fr val (got (Array.replicate ops.size false)) t=nth fr t:=by
   unfold QA;split
   ·rw[O];rfl
   ·rfl
  rw[this];exact hf.2 t
end
abbrev pA(r:Nat×Nat):AD:=.ptr (some r)
abbrev Xf(args:List AD)(n:Nat):Fr:=args++List.replicate (n - args.length) (.tuple [])
abbrev cO(fr:Fr)(tb tr:Nat)(b z:AD):Fr:=(fr.set tb b).set tr z
def eD(mk:List (FuncId×FuncId)):Self:=⟨λ_ h f args=>match mk.lookup f,args with|some cl,[.ptr (some r)]=>some (.func (.func cl) [] [.Aw [.ptr (some r)]],h)|_,_=>none,λ_ _ _ _ _=>none,λ_ _ _ _=>none⟩
section
variable {C:Hv}
def Yk(P:Program)(G:Nat->Option (List AD))(f cl:FuncId):Prop:=∀(w0:World) (m:Bk) (h:AF) (w:World) (cargs:Array Value) (r:Nat×Nat),CH G w0->Rel P w0 m h w->DD m [.ptr (some r)] cargs.toList->
  DP P f cargs w λv' w'=>∃m':Bk,(m.ext h.size m')/\Rel P w0 m' h w'/\VR m' (.func (.func cl) [] [.Aw [.ptr (some r)]]) v'
theorem Rv{α:Type}{f:Nat}{c:α}:∀{l:List (Nat×α)},l.lookup f=some c->(f,c)∈l
 |[],h=>by cases h
 | (a,b)::l,h=>by
  rw[List.lookup_cons]at h;split at h
  ·rename_i e;cases h;rw[eq_of_beq e];exact .head _
  ·exact .tail _ (Rv h)
theorem VG{G:Nat->Option (List AD)}{P:Program}{mk:List (FuncId×FuncId)}(hmk:∀p∈mk,Yk P G p.1 p.2):HW P G (eD mk):=by
 refine⟨λg h f args v h' hc=>?_,λg h l args v h' hc=>by cases hc⟩;unfold eD at hc;simp only at hc;split at hc
 ·rename_i cl r O;cases hc;exact⟨Bh.refl _ _,λw0 m w cargs hz rr N=>hmk _ (Rv O) w0 m _ w cargs r hz rr N⟩
 ·cases hc
theorem Vr {S:Self} (hS:HW C.P C.DC S) {f cl:FuncId} {fn:Func} {i0 i1:Nat} {ops0 ops1:Array Oper} (Y:C.P.funcs[f]?=some fn) (hn:(fn.name=="runtime.NumGoroutine")=false)
  (U:fn.body=some (.seq (.region i0 ops0 false) (.seq (.region i1 ops1 false) .ret))) {tb tr:Nat} {z:AD} (hz0:∀m,∃y,VR m z y) (B:tb≠tr) {fr2:Nat×Nat->Fr}
  (hr0:∀r h,Eb C S cQ ops0 ops0.toList (Xf [pA r] fn.ntmps) h=some (cO (Xf [pA r] fn.ntmps) tb tr (.ptr (some (h.size,0))) z,h.push (.cells none 2 [.ptr (some r)])))
  (hr1:∀r h,Eb C S cQ ops1 ops1.toList (cO (Xf [pA r] fn.ntmps) tb tr (.Aw [pA r]) z) h=some (fr2 r,h))
  (Z:∀r h,Dz C.P fn (fr2 r) h=some (.func (.func cl) [] [.Aw [.ptr (some r)]]))
  :Yk C.P C.DC f cl:=by
 intro w0 m h w cargs r hz rr N;refine Qu (g:=cQ) hS hz Y hn U rr N rfl (tb:=tb) (tr:=tr) (tp:=0) (hz0 m) (by simp) (hr0 r h) B (h2:=h) (fr2:=fr2 r) (λm4 a1 w1 Q k1 k2 k3 hQ=>?_) (Z r h);refine wpIn_region_list (G3 hS hz _ k2 k3 (hr1 r h) (λm' a' w' g1 g2 g3 g4=>hQ m' a' w' (k1.trans g1 (zw _)) g2 g3 g4) none)
def jn(C:Hv)(S:Self)(ops:Array Oper)(tM:TypeId)(tm:Tmp)(k0:Nat)(val:Fr)(H:AF)(i:Nat):Option (AD×AF):=
 bif Nat.beq i k0 then none else match Kc tM tm (Lk ops i).op with|some _=>none|none=>Bv C S cQ H val (Lk ops i).op
def j9(ops:Array Oper)(tM:TypeId)(tm:Tmp)(k0:Nat)(val:Fr)(H:AF)(i:Nat):Option (AD×AF):=
 bif Nat.beq i k0 then none else match Kc tM tm (Lk ops i).op with|some _=>none|none=>some (match(Lk ops i).dst with|some t=>nth val t|none=>.tuple [],H)
def gz(ops:Array Oper)(v:Fr)(t:Tmp):AD:=match RC ops t with|none=>nth v t|some _=>.undef
theorem ah{α:Type}{f g:Nat->α}{n:Nat}(h:(List.range n).map f=(List.range n).map g){i:Nat}(hi:i<n):f i=g i:=by
 have:=congrArg (λl=>l[i]?) h;simpa[hi]using this
theorem Lit.of{S:Self}{h:AF}{ops:Array Oper}{fr val:Fr}{tM kt et:TypeId}{tm:Tmp}{k0:Nat}(ok:bU ops tM tm k0=true)(len:val.length=fr.length)(JY:(List.range fr.length).map (gz ops val)=(List.range fr.length).map (gz ops fr))
  (mv:nth val tm=.map (some h.size)) (fn:(List.range ops.size).all (λi=>match Kc tM tm (Lk ops i).op with|some (_,x)=>gK (ev val x)|none=>true)=true)
  (lj:∀H,(List.range ops.size).map (jn C S ops tM tm k0 val H)=(List.range ops.size).map (j9 ops tM tm k0 val H)) (jz:C.P.underlying tM=some (.map kt et)) (str:C.P.underlying kt=some .string):Lit C S h ops fr val tM kt et tm k0:=by
 refine⟨ok,len,λt T=>?_,mv,λi s x hi hs=>?_,λi hi hk hs H=>?_,jz,str⟩
 ·by_cases O:t<fr.length
  ·have:=ah JY O;unfold gz at this;rw[T]at this;exact this
  ·rw[Ga,Ga,zo,zo,List.getElem?_eq_none (qx O),List.getElem?_eq_none (by rw[len];exact qx O)]
 ·have:=zr.1 fn i (zO.2 hi);rw[hs]at this;exact this
 ·have:=ah (lj H) hi;unfold jn j9 at this;have U:Nat.beq i k0=false:=by
   cases e:Nat.beq i k0 with
   |false=>rfl
   |true=>exact absurd (zt e) hk
  rw[U,hs]at this;refine⟨_,this,λt T=>?_⟩;rw[T]
def Xd(fn:Func)(k:Nat):Array Oper:=match fn.body with|some (.seq (.region _ a _) (.seq (.region _ b _) .ret))=>bif Nat.beq k 0 then a else b|_=>#[]
theorem XR{es:List (AD×AD)}{ks:List (List UInt8)}(h:es.map Prod.fst=ks.map AD.str)(hd:ks.Nodup):(es.map Prod.fst).Nodup:=by
 rw[h,List.Nodup,qL];exact hd.imp λB e=>B (AD.str.inj e)
theorem ar{args:List AD}(hn:args.length=2)(hp:args.all T4=true):∃r s,args=[.ptr (some r),.ptr (some s)]:=by
 match args,hn,hp with
 | [a,b],_,hp=>
  simp only[ya,qt,qp,zf]at hp;obtain⟨ha,U⟩:=hp;unfold T4 at ha U;split at ha
  ·split at U
   ·exact⟨_,_,rfl⟩
   ·cases U
  ·cases ha
theorem bI (hmix:C.P.follows .mixedOrders=true) {S:Self} (hS:HW C.P C.DC S) {f:FuncId} {fn:Func} {i0 i1:Nat} {ops0 ops:Array Oper} (Y:C.P.funcs[f]?=some fn) (hn:(fn.name=="runtime.NumGoroutine")=false)
  (U:fn.body=some (.seq (.region i0 ops0 false) (.seq (.region i1 ops true) .ret))) {tb tr:Nat} {z:AD} (hz0:∀m,∃y,VR m z y) (B:tb≠tr) {tM kt et:TypeId} {tm k0:Nat} {es:List (AD×AD)}
  {val:Nat×Nat->Nat×Nat->Nat->Fr} {es':Nat×Nat->Nat×Nat->List (AD×AD)}
  (hr0:∀r s h,Eb C S cQ ops0 ops0.toList (Xf [pA r,pA s] fn.ntmps) h=some (cO (Xf [pA r,pA s] fn.ntmps) tb tr (.ptr (some (h.size,0))) z,h.push (.cells none 2 [.ptr (some r)])))
  (hL:∀r s h,Lit C S h ops (cO (Xf [pA r,pA s] fn.ntmps) tb tr (.Aw [pA r]) z) (val r s h.size) tM kt et tm k0)
  (he:∀r s n,MG ops tM tm (val r s n) (λ_=>true)=es' r s) (hk:∀r s,(es' r s).all Kr=true) (hd:∀r s,((es' r s).map Prod.fst).Nodup) (hren:∀r s,dJ [.ptr (some r),.ptr (some s)] es=some (es' r s))
  (Z:∀r s h H,Dz C.P fn (val r s h) H=some (.map (some h))):Gs C.P C.DC f λ_ h args=>T2 es 2 h args:=by
 intro g h f' args v h' hc;dsimp only at hc;split at hc
 ·rename_i e;subst e;unfold T2 at hc;cases hbq:(Nat.beq args.length 2&&args.all T4)with
  |false=>rw[hbq]at hc;cases hc
  |true=>
   rw[hbq]at hc;simp only[zf]at hbq;obtain⟨r,s,rfl⟩:=ar (zt hbq.1) hbq.2;rw[hren]at hc;simp only[zL,zh,zb,ze]at hc;obtain⟨rfl,rfl⟩:=hc;refine⟨Bh.push _ _ _,λw0 m w cargs hz rr N=>?_⟩;refine Qu (g:=cQ) hS hz Y hn U rr N rfl (tb:=tb) (tr:=tr) (tp:=0) (hz0 m) (by simp) (hr0 r s h) B (fr2:=val r s h.size) (λm4 a1 w1 Q k1 k2 k3 hQ=>?_) (Z r s h.size _);exact aD hmix (hL r s h) hS hz (he r s h.size) (hk r s) (hd r s) k2 k3 (λm' a' w' g1 g2 g3 g4=>hQ m' a' w' (k1.trans g1 (zw _)) g2 g3 g4) none
 ·cases hc
theorem Gs.nil{P:Program}{G:Nat->Option (List AD)}{f:FuncId}{ext:Gd->AF->List AD->Option (AD×AF)}(H:Gs P (λ_=>none) f ext):Gs P G f ext:=
 λg h f' args v h' hc=>⟨(H g h f' args v h' hc).1,λw0 m w cargs _ r N=>(H g h f' args v h' hc).2 w0 m w cargs (CH.none w0) r N⟩
end
end Go.Av
