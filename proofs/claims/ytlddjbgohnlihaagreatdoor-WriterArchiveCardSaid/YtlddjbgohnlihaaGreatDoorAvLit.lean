/-
 A part.
-/
import Derived.Test.YtlddjbgohnlihaaGreatDoorAvLib
namespace Go.Av
open Go.RowKit
set_option linter.unusedVariables false
set_option linter.unusedSimpArgs false
theorem dU{P:Program}{w0:World}{m:BD}{h:AI}{w:World}(r:Rel P w0 m h w){m1:BD}{w1:World}{cs:List AB}(hm:m.ext h.size m1)(r1:Rel P w0 m1 (h.push (.cells none 2 cs)) w1)(hcs:∀x∈cs,∃y,VR m x y):
  ∃m4:BD,m.ext h.size m4∧Rel P w0 m4 h w1∧(∀u,VR m1 (.ptr (some (h.size,0))) u→VR m4 (.A0 cs) u)∧(∀x y z,VR m x y→VR m1 x z→VR m4 x z):=by
 have hle:=r.Mi hm;have rb:=r.back hm (fun id hid=>h.Bz _ hid) r1;cases hE:m1.i h.size with
 |none=>
  refine⟨m.with m1,⟨fun _ _=>rfl,hm.fz,hm.df⟩,rb,fun u hu=>?_,fun x y z h1 h2=>h1.back hle h2⟩;cases hu with
  |ptr _ _ E hh=>exact absurd (hE.symm.trans hh) (by simp)
 | some E=>
  have hg:(h.push (.cells none 2 cs)).get h.size=some (.cells none 2 cs):=h.Ct _;obtain⟨⟨_,U⟩,hc⟩:=r1.obj _ E _ hE hg;have hbase:=U rfl rfl;obtain⟨cur,e,z,p1,p2,p3,_⟩:=hc (by decide);have hno:∀j,m1.fz E.g j=none:=r1.JZ _ E _ hE hg rfl;have B:∀id F o,m.i id=some F→h.get id=some o→o.live=true→F.g≠E.g:=fun id F o J D O e=>by
   have hid:=r.OX id F J;exact r1.sep h.size id E F _ o (by omega) hE (hle.i _ _ J) hg (by rw[h.Bz _ hid];exact D) rfl O e.symm
  obtain⟨m4,h4⟩:∃m4:BD,m4=⟨m.i,fun g o=>if g=E.g then cur[o]? else m1.fz g o,m1.df⟩:=⟨_,rfl⟩
  have hl4:(m.with m1).le m4:=⟨fun i F J=>by rw[h4];exact J,fun g o v N=>by
   rw[h4];simp only;by_cases e:g=E.g
   ·subst e;rw[show(m.with m1).fz E.g o=m1.fz E.g o from rfl,hno]at N;cases N
   ·rw[zk e];exact N⟩
  have mi:∀{i F},m4.i i=some F→m.i i=some F:=fun J=>by rw[h4]at J;exact J
  refine⟨m4,⟨fun i hi=>by rw[h4],fun g o v N=>hl4.fz g o v (hm.fz g o v N),fun g x hg=>by rw[h4];exact hm.df g x hg⟩,?_,?_,fun x y z h1 h2=>(h1.back hle h2).mono hl4⟩
  ·refine⟨rb.below,fun id F J=>rb.OX id F (mi J),fun id F o J D=>(rb.obj id F o (mi J) D).mono hl4 fun _=>rfl,fun id F o J D hw=>rb.own id F o (mi J) D hw,fun id id' F F' o o' B J hF' D ho' hw O=>rb.sep id id' F F' o o' B (mi J) (mi hF') D ho' hw O,fun g o v N=>?_,fun id F o J D hw j=>?_,fun g x hg=>?_,fun id F o J D O x hd=>?_⟩
   ·rw[h4]at N;simp only at N;split at N
    ·rename_i e';subst e';exact⟨cur,e,z,p1,N⟩
    ·exact rb.fz g o v N
   ·rw[h4];simp only;rw[zk (B id F o (mi J) D (B0.GC hw))];exact rb.JZ id F o (mi J) D hw j
   ·rw[h4]at hg;exact rb.df g x hg
   ·rw[h4]at hd;exact rb.PA id F o (mi J) D O x hd
  ·intro u hu;cases hu with
   | ptr _ _ E' hE'=>
    have:=hE.symm.trans hE';cases this;rw[hbase];refine .A0 _ _ _ (fun i=>(cur[i]?).getD undef) (fun i hi=>?_) fun i x hx=>?_
    ·obtain⟨_,c,c1,_⟩:=p3 i _ (List.getElem?_eq_getElem hi);rw[hbase,yq]at c1;rw[h4];simp only[if_true,yU,yq,c1,zV]
    ·obtain⟨_,c,c1,c2⟩:=p3 i x hx;rw[hbase,yq]at c1;obtain⟨y,hy⟩:=hcs x (zQ hx);simp only[c1,zV];exact(hy.back hle c2).mono hl4
section
variable {C:Gp} {S:Self} {w0:World} {m:BD} {h:AI} {w:World} {g:Gd}
theorem Oi (hS:GK C.P C.Cx S) (hz:Bh C.Cx w0) {f:FuncId} {fn:Func} {i0:Nat} {ops0:Array Oper} {c2:Code} (Y:C.P.funcs[f]?=some fn) (hn:(fn.name=="runtime.NumGoroutine")=false)
  (U:fn.body=some (.seq (.region i0 ops0 false) (.seq c2 .ret))) {args:List AB} {cargs:Array Value} (r:Rel C.P w0 m h w) (N:CM m args cargs.toList) {fr0:Fr} (hfr0:fr0=args++List.replicate (fn.ntmps - args.length) (.tuple []))
  {tb tr tp:Nat} {z:AB} (hz0:∃y,VR m z y) (htp:tp<args.length) (hr0:D3 C S g ops0 ops0.toList fr0 h=some ((fr0.set tb (.ptr (some (h.size,0)))).set tr z,h.push (.cells none 2 [nth fr0 tp]))) (B:tb≠tr)
  {h2:AI} {fr2:Fr} {v:AB}
  (hc2:∀(m4:BD) (a1:Act) (w1:World) (Q:Exit→Act→World→Prop),m.ext h.size m4→Rel C.P w0 m4 h w1→FR m4 ((fr0.set tb (.A0 [nth fr0 tp])).set tr z) a1→
   (∀m2 a2 w2,m.ext h.size m2→Rel C.P w0 m2 h2 w2→FR m2 fr2 a2→a2.defers=a1.defers→Q .normal a2 w2)→c2.wpIn (FW none) 0 C.P Q a1 w1)
  (Z:Ek C.P fn fr2 h2=some v):DX C.P f cargs w fun v' w'=>∃m':BD,(m.ext h.size m')∧Rel C.P w0 m' h2 w'∧VR m' v v':=by
 unfold DX;rw[HG Y hn U];simp only;have hlen:args.length=cargs.size:=by rw[N.1];simp
 have hf0:∀t,VR m (nth fr0 t) ((cargs++Array.replicate (fn.ntmps - cargs.size) undef).getD t undef):=by
  intro i;rw[hfr0,FZ,zo];simp only[zr];by_cases hi:i<args.length
  ·rw[List.getElem?_append_left hi,Array.getElem?_append_left (by omega)];rw[List.getElem?_eq_getElem hi,Array.getElem?_eq_getElem (by omega)];exact N.2 i _ _ (List.getElem?_eq_getElem hi) (by simp[←hlen,hi])
  ·rw[List.getElem?_append_right (by omega),Array.getElem?_append_right (by omega)];rw[List.getElem?_replicate,Array.getElem?_replicate,hlen];split
   ·exact VR.Gs m
   ·exact VR.Gs m
 refine(callsIn_wide (n:=0)).1 (callsIn_of_wp_marks Y U trivial (wpIn_seq (wpIn_region_list (GQ hS hz _ r ⟨?_,hf0⟩ hr0 (fun m1 a1 w1 g1 g2 g3 g4=>?_) none))))
 ·rw[hfr0];simp[hlen]
 ·obtain⟨m4,k1,k2,k3,k4⟩:=dU r g1 g2 (fun x hx=>by
   rw[yT]at hx
   exact⟨_,hx ▸ hf0 tp⟩)
  have hf4:FR m4 ((fr0.set tb (.A0 [nth fr0 tp])).set tr z) a1:=by
   refine⟨by have:=g3.1;simpa using this,fun t=>?_⟩;have q:=g3.2 t;rw[FY]at q⊢;rw[yp]at q⊢;by_cases e1:tr=t∧tr<fr0.length
   ·rw[zm e1]at q⊢;obtain⟨y,hy⟩:=hz0;exact k4 _ _ _ hy q
   ·rw[zk e1]at q⊢;rw[FY]at q⊢;by_cases e2:tb=t∧tb<fr0.length
    ·rw[zm e2]at q⊢;exact k3 _ q
    ·rw[zk e2]at q⊢;exact k4 _ _ _ (hf0 t) q
  refine wpIn_seq (hc2 m4 a1 w1 _ k1 k2 hf4 (fun m2 a2 w2 d1 d2 d3 d4=>?_));refine wpIn_ret ?_;have hde:a2.defers=[]:=by rw[d4,g4]
  show LeavesInM Fence.wide 0 C.P fn a2.tmps _ a2.defers .returning w2;rw[hde];refine Ip [] xw m2 w2 d2 (fun r hr=>by cases hr) fun m3 w3 s1 s2 s3 s4=>?_;have hle:m2.le m3:=⟨fun id E hE=>by rw[s1];exact hE,fun g o v N=>by rw[s2];exact N⟩;obtain⟨v',q1,q2⟩:=JR s4 (d3.mono hle) Z;exact⟨v',q1,v',rfl,m3,⟨fun id hid=>by rw[s1];exact d1.i id hid,fun g o v N=>by rw[s2];exact d1.fz g o v N,fun g x hg=>s3 g x (d1.df g x hg) (by simp)⟩,s4,q2⟩
end
def KA(ops:Array Oper)(i:Nat):Oper:=BV ops [(i,[])] 0
theorem VK{ops:Array Oper}{i:Nat}(hi:i<ops.size):ops[i]?=some (KA ops i):=by
 simp[KA,BV,BK,zr,hi]
def I4(tM:TypeId)(tm:Tmp):Op→Option (List UInt8×Operand)
 | .insert t (.tmp d) (.const (.string s)) x=>if t=tM∧d=tm then some (s.data.toList,x)else none
 |_=>none
theorem XX{tM:TypeId}{tm:Tmp}{op:Op}{s:List UInt8}{x:Operand}(h:I4 tM tm op=some (s,x)):op=.insert tM (.tmp tm) (.const (.string ⟨⟨s⟩⟩)) x:=by
 unfold I4 at h;split at h
 ·split at h
  ·rename_i hh;obtain⟨rfl,rfl⟩:=hh;cases h;rfl
  ·cases h
 ·cases h
def b8(tM:TypeId):Op→Bool
 | .makeMap t none=>Nat.beq t tM
 |_=>false
theorem Zp{tM:TypeId}{op:Op}(h:b8 tM op=true):op=.makeMap tM none:=by
 unfold b8 at h;split at h
 ·rw[zu h]
 ·cases h
def af:AB→Bool
 | .func _ _ _=>true
 |_=>false
def Ox(ops:Array Oper)(t:Tmp):Option Nat:=(List.range ops.size).find? fun i=>(KA ops i).dst==some t
def XF(ops:Array Oper)(tM:TypeId)(tm:Tmp)(k0:Nat):Bool:=
 MA ops.toList 0&&Nat.blt k0 ops.size&&b8 tM (KA ops k0).op&&(KA ops k0).dst==some tm&&
 (List.range ops.size).all fun i=>
  (KA ops i).guard.isNone&&
  (match(KA ops i).dst with|some t=>Ox ops t==some i|none=>true)&&
  ((KA ops i).looksAt ops).all (fun t=>match Ox ops t with|none=>true|some j=>dep (closure ops.toList []) j i)&&
  (match I4 tM tm (KA ops i).op with
   |some (s,_)=>(KA ops i).dst.isNone&&dep (closure ops.toList []) k0 i&&(List.range ops.size).all (fun j=>Nat.beq i j||match I4 tM tm (KA ops j).op with|some (s',_)=>s !=s'|none=>true)
   |none=>true)
def OV(ops:Array Oper)(tM:TypeId)(tm:Tmp)(val:Fr)(i:Nat):Option (AB×AB):=(I4 tM tm (KA ops i).op).map fun p=>(.str p.1,ev val p.2)
def Kf(ops:Array Oper)(tM:TypeId)(tm:Tmp)(val:Fr)(listed:Nat→Bool):List (AB×AB):=(List.range ops.size).filterMap fun i=>bif listed i then OV ops tM tm val i else none
def NM(h:AI)(b:Bool)(es:List (AB×AB)):AI:=bif b then h.push (.map 2 es)else h
def N9(ops:Array Oper)(fr val:Fr)(listed:Nat→Bool)(t:Tmp):AB:=match Ox ops t with|some j=>bif listed j then nth val t else nth fr t|none=>nth fr t
abbrev got(listed:Array Bool)(i:Nat):Bool:=listed.getD i false
theorem IY{listed:Array Bool}{i:Nat}(hi:i<listed.size)(j:Nat):got (listed.setIfInBounds i true) j=(got listed j||decide (j=i)):=by
 unfold got;by_cases e:i=j
 ·subst e;simp[zr,hi]
 ·have e':¬j=i:=fun h=>e h.symm;simp[zr,Array.getElem?_setIfInBounds_ne e,e']
theorem NP{β:Type}{f g:Nat→Option β}:∀{l:List Nat},(∀x∈l,f x=g x)→l.filterMap f=l.filterMap g
 |[],_=>rfl
 |a::l,h=>by
  have ih:=NP (f:=f) (g:=g) (l:=l) fun x hx=>h x (.tail _ hx);have e:=h a (.head _);cases hg:g a with
  |none=>rw[qa hg,qa (e.trans hg),ih]
  |some b=>rw[qb hg,qb (e.trans hg),ih]
theorem Q7{β:Type}{f f':Nat→Option β}{i:Nat}{e:β}(h1:f i=none)(h2:f' i=some e)(h3:∀j,j≠i→f' j=f j):∀(l:List Nat),l.Nodup→i∈l→(l.filterMap f').Perm (l.filterMap f++[e])
 |[],_,h=>by cases h
 | a::l,hn,hm=>by
  rw[yQ]at hn;by_cases ea:a=i
  ·subst ea;rw[qb h2,qa h1];have:l.filterMap f'=l.filterMap f:=by
    refine NP fun x hx=>h3 x fun e=>hn.1 (e ▸ hx)
   rw[this];exact List.perm_append_singleton _ _|>.symm
  ·have hm':i∈l:=(zF.1 hm).resolve_left (fun e=>ea e.symm);have ih:=Q7 h1 h2 h3 l hn.2 hm';cases hfa:f a with
   |none=>rw[qa hfa,qa ((h3 a ea).trans hfa)];exact ih
   |some b=>rw[qb hfa,qb ((h3 a ea).trans hfa)];exact ih.cons b
theorem Rel.loose{P:Program}{w0:World}{m:BD}{h:AI}{w:World}{es es':List (AB×AB)}(r:Rel P w0 m (h.push (.map 2 es)) w)(hp:es.Perm es')(hs:es'.all JD=true)(hn:(es'.map Prod.fst).Nodup):Rel P w0 m (h.push (.map 3 es')) w:=by
 have Hr:∀{i o},(h.push (.map 3 es')).get i=some o→i≠h.size→(h.push (.map 2 es)).get i=some o:=fun D B=>by
  rw[h.I0,zk B]at D⊢;exact D
 have new:∀{o},(h.push (.map 3 es')).get h.size=some o→o=.map 3 es':=fun D=>by
  rw[h.Ct]at D;exact(zJ D).symm
 have new2:(h.push (.map 2 es)).get h.size=some (.map 2 es):=h.Ct _;refine⟨r.below,fun id E hE=>by have:=r.OX id E hE;simpa using this,fun i F o J D=>?_,fun i F o J D hw=>?_,fun i i' F F' o o' B J hF' D ho' hw O=>?_,r.fz,fun i F o J D hw j=>?_,r.df,fun i F o J D O=>?_⟩
 ·by_cases e:i=h.size
  ·subst e;obtain rfl:=new D;obtain⟨h1,h2⟩:=r.obj _ F _ J new2;exact⟨h1,fun _=>⟨es,⟨fun h=>absurd rfl h,fun _=>⟨hp,hs,hn⟩⟩,MQ.two (h2 (by decide)) (by decide)⟩⟩
  ·exact r.obj i F o J (Hr D e)
 ·by_cases e:i=h.size
  ·subst e;obtain rfl:=new D;cases hw
  ·exact r.own i F o J (Hr D e) hw
 ·by_cases e:i=h.size
  ·subst e;obtain rfl:=new D;cases hw
  ·by_cases e':i'=h.size
   ·subst e';exact r.sep i h.size F F' o _ B J hF' (Hr D e) new2 hw rfl
   ·exact r.sep i i' F F' o o' B J hF' (Hr D e) (Hr ho' e') hw O
 ·by_cases e:i=h.size
  ·subst e;obtain rfl:=new D;cases hw
  ·exact r.JZ i F o J (Hr D e) hw j
 ·by_cases e:i=h.size
  ·subst e;exact r.PA _ F _ J new2 rfl
  ·exact r.PA i F o J (Hr D e) O
section
variable {C:Gp} {S:Self} {w0:World} {m:BD} {h:AI} {ops:Array Oper} {fr val:Fr} {tM kt et:TypeId} {tm:Tmp} {k0:Nat}
abbrev YS:Gd:=⟨0,[]⟩
structure Lit(C:Gp)(S:Self)(h:AI)(ops:Array Oper)(fr val:Fr)(tM kt et:TypeId)(tm:Tmp)(k0:Nat):Prop where
 ok:XF ops tM tm k0=true
 len:val.length=fr.length
 Hr:∀t,Ox ops t=none→nth val t=nth fr t
 mv:nth val tm=.map (some h.size)
 fn:∀i s x,i<ops.size→I4 tM tm (KA ops i).op=some (s,x)→af (ev val x)=true
 dz:∀i,i<ops.size→i≠k0→I4 tM tm (KA ops i).op=none→∀H,∃v,BC C S YS H val (KA ops i).op=some (v,H)∧∀t,(KA ops i).dst=some t→v=nth val t
 cZ:C.P.underlying tM=some (.map kt et)
 str:C.P.underlying kt=some .string
structure TX(C:Gp)(h:AI)(ops:Array Oper)(fr val:Fr)(tM:TypeId)(tm:Tmp)(k0:Nat)(w0:World)(m:BD)(d0:List Deferred)(listed:Array Bool)(a:Act)(w:World):Prop where
 sz:listed.size=ops.size
 closed:Closed ops listed
 defers:a.defers=d0
 tmps:a.tmps.size=fr.length
 rel:∃(m':BD) (es:List (AB×AB)),m.ext h.size m'∧Rel C.P w0 m' (NM h (got listed k0) es) w∧es.Perm (Kf ops tM tm val (got listed))∧∀t,VR m' (N9 ops fr val (got listed) t) (a.tmps.getD t undef)
theorem Lit.parts(L:Lit C S h ops fr val tM kt et tm k0):MA ops.toList 0=true∧k0<ops.size∧(KA ops k0).op=.makeMap tM none∧(KA ops k0).dst=some tm∧∀i,i<ops.size→(KA ops i).guard=none∧
  (∀t,(KA ops i).dst=some t→Ox ops t=some i)∧(∀t∈(KA ops i).looksAt ops,∀j,Ox ops t=some j→dep (closure ops.toList []) j i=true)∧
  ∀s x,I4 tM tm (KA ops i).op=some (s,x)→(KA ops i).dst=none∧dep (closure ops.toList []) k0 i=true∧∀j,j<ops.size→j≠i→∀s' x',I4 tM tm (KA ops j).op=some (s',x')→s≠s':=by
 have:=L.ok;unfold XF at this;simp only[zh,yY,yM]at this;obtain⟨⟨⟨⟨h1,h2⟩,h3⟩,h4⟩,h5⟩:=this;refine⟨h1,h2,Zp h3,h4,fun i hi=>?_⟩;have q:=zn.1 h5 i (zO.2 hi);simp only[zh,qK]at q;obtain⟨⟨⟨q1,q2⟩,q3⟩,q4⟩:=q;refine⟨q1,fun t T=>?_,fun t T j I=>?_,fun s x hs=>?_⟩
 ·rw[T]at q2;simpa using q2
 ·have:=zn.1 q3 t T;rw[I]at this;exact this
 ·rw[hs]at q4;simp only[zh,qK]at q4;obtain⟨⟨p1,p2⟩,p3⟩:=q4;refine⟨p1,p2,fun j I B s' x' hs'=>?_⟩;have:=zn.1 p3 j (zO.2 I);rw[hs']at this;simp only[yo,qR,ne_eq]at this;rcases this with e|e
  ·exact absurd (zu e).symm B
  ·exact e
theorem RZ{t:Tmp}{j:Nat}(h:Ox ops t=some j):j<ops.size∧(KA ops j).dst=some t:=by
 unfold Ox at h;have h1:=List.mem_of_find?_eq_some h;have h2:=List.find?_some h;exact⟨zO.1 h1,by simpa using h2⟩
theorem RB{P:Program}(hs:P.underlying kt=some .string){s:List UInt8}:∀(es:List (AB×AB)) (i:Nat),(∀p∈es,∃s',p.1=.str s'∧s'≠s)→Dd P kt (.str s) es i=some none
 |[],i,_=>rfl
 | (k,v)::es,i,h=>by
  obtain⟨s',e,B⟩:=h _ (.head _);simp only at e;subst e;unfold Dd;have:HT P 10000 kt (.str s) (.str s')=some false:=by
   show HT P (9999+1) kt _ _=_;unfold HT;rw[hs];simp only[zd,zL,ne_eq];exact fun e=>B e.symm
  rw[this];exact RB hs es (i+1) fun p hp=>h p (.tail _ hp)
theorem TX.step(L:Lit C S h ops fr val tM kt et tm k0)(hS:GK C.P C.Cx S)(hz:Bh C.Cx w0){d0:List Deferred}{listed:Array Bool}{a:Act}{w:World}
  (inv:TX C h ops fr val tM tm k0 w0 m d0 listed a w) {i:Nat} (hi:i∈Region.ready .any ops listed) {K:Act→World→Prop} {Q:Exit→Act→World→Prop}
  (hK:∀a' w',TX C h ops fr val tM tm k0 w0 m d0 (listed.setIfInBounds i true) a' w'→K a' w') (rd:Option Nat):wpOpIn (FW rd) 0 C.P ops Q i K a w:=by
 obtain⟨R,hnl0,hpre⟩:i<ops.size∧listed.getD i true=false∧KD ops listed i:=by
  simp only[Region.ready,yf,zO,zh,zK]at hi;refine⟨hi.1,hi.2.1,fun o D e he U=>?_⟩;have:=hi.2.2;rw[D]at this;simp only[zj,zV]at this;rw[←qQ]at this;have:=zn.1 this e he;rw[U]at this;simpa using this
 obtain⟨hed,hk0,hmk,hmd,hops⟩:=L.parts;obtain⟨hgu,hwr,hlk,hins⟩:=hops i R;have X:i<listed.size:=by rw[inv.sz];exact R
 have hnl:got listed i=false:=by
  unfold got;simp only[zr,Array.getElem?_eq_getElem X,zV]at hnl0⊢;exact hnl0
 have hdep:∀j,dep (closure ops.toList []) j i=true→got listed j=true:=fun j hd=>KY inv.closed i R hpre hd;obtain⟨m1,es,r1,r2,r3,r4⟩:=inv.rel;have D:=VK R;unfold wpOpIn;rw[D];simp only;have hw:Region.wanted (KA ops i) (yielded ops a.tmps)=true:=by
  unfold Region.wanted;rw[hgu]
 rw[zm hw];obtain⟨frS,hfrS⟩:∃frS:Fr,frS=(List.range fr.length).map (N9 ops fr val (got listed)):=⟨_,rfl⟩;have hnth:∀t,nth frS t=N9 ops fr val (got listed) t:=by
  intro t;rw[hfrS,FZ,zo,List.getElem?_map];by_cases T:t<fr.length
  ·rw[List.getElem?_range T];rfl
  ·rw[List.getElem?_eq_none (by simpa using T)];have e1:nth fr t=.tuple []:=by rw[FZ,zo,List.getElem?_eq_none (by omega)];rfl
   have e2:nth val t=.tuple []:=by rw[FZ,zo,List.getElem?_eq_none (by rw[L.len];omega)];rfl
   unfold N9;split
   ·rw[e1,e2];simp
   ·rw[e1];rfl
 have hfS:FR m1 frS a:=⟨by rw[hfrS];simp[inv.tmps],fun t=>by rw[hnth];exact r4 t⟩;have hlooks:∀t∈(KA ops i).looksAt ops,nth frS t=nth val t:=by
  intro t T;rw[hnth];unfold N9;cases I:Ox ops t with
  |none=>exact(L.Hr t I).symm
  |some j=>simp only;rw[hdep j (hlk t T j I)];rfl
 have same:=OR (ops:=ops) hlooks;have hent:∀j,j≠i→(bif got (listed.setIfInBounds i true) j then OV ops tM tm val j else none)=bif got listed j then OV ops tM tm val j else none:=by
  intro j I;rw[IY X,zi I,yK]
 have stp:∃v H',BC C S YS (NM h (got listed k0) es) val (KA ops i).op=some (v,H')∧(∀t,(KA ops i).dst=some t→v=nth val t)∧
   ∀m2 w2,Rel C.P w0 m2 H' w2→∃es',Rel C.P w0 m2 (NM h (got (listed.setIfInBounds i true) k0) es') w2∧es'.Perm (Kf ops tM tm val (got (listed.setIfInBounds i true))):=by
  by_cases ek:i=k0
  ·subst ek;refine⟨.map (some h.size),h.push (.map 2 []),?_,fun t T=>?_,fun m2 w2 rr=>⟨[],?_,?_⟩⟩
   ·rw[hnl,hmk];rfl
   ·rw[hmd]at T;cases T;exact L.mv.symm
   ·rw[IY X,zf rfl,xh];exact rr
   ·have:Kf ops tM tm val (got (listed.setIfInBounds i true))=[]:=by
     refine qJ.2 fun j I=>?_;have I:=zO.1 I;by_cases e:j=i
     ·subst e;unfold OV;rw[hmk];cases got (listed.setIfInBounds j true) j<;>rfl
     ·rw[hent j e];cases hgj:got listed j with
      |false=>rfl
      | true=>
       simp only[zW];cases M:I4 tM tm (KA ops j).op with
       |none=>unfold OV;rw[M];rfl
       |some p=>
        obtain⟨s,x⟩:=p;have hd:=((hops j I).2.2.2 s x M).2.1;have:=KY inv.closed j I (inv.closed j I hgj) hd;rw[show listed.getD i false=got listed i from rfl,hnl]at this;cases this
    rw[this]
  ·have hgk:got (listed.setIfInBounds i true) k0=got listed k0:=by
    rw[IY X,zi (fun e=>ek e.symm),yK]
   cases M:I4 tM tm (KA ops i).op with
   | none=>
    obtain⟨v,e1,e2⟩:=L.dz i R ek M (NM h (got listed k0) es);refine⟨v,_,e1,e2,fun m2 w2 rr=>⟨es,?_,?_⟩⟩
    ·rw[hgk];exact rr
    ·have:Kf ops tM tm val (got (listed.setIfInBounds i true))=Kf ops tM tm val (got listed):=by
      refine NP fun j I=>?_;by_cases e:j=i
      ·subst e;unfold OV;rw[M];cases got (listed.setIfInBounds j true) j<;>cases got listed j<;>rfl
      ·exact hent j e
     rw[this];exact r3
   | some p=>
    obtain⟨s,x⟩:=p;obtain⟨p1,p2,p3⟩:=hins s x M;have hk:=hdep k0 p2;have Y:=L.fn i s x R M;rw[hk];have hnew:Dd C.P kt (.str s) es 0=some none:=by
     refine RB L.str es 0 fun q hq=>?_;have hq:=r3.mem_iff.1 hq;obtain⟨j,I,W⟩:=qG.1 hq;have I:=zO.1 I;cases hgj:got listed j with
     |false=>rw[hgj]at W;cases W
     | true=>
      rw[hgj]at W;simp only[zW]at W;unfold OV at W;cases hin3:I4 tM tm (KA ops j).op with
      |none=>rw[hin3]at W;cases W
      |some p'=>
       obtain⟨s',x'⟩:=p';rw[hin3]at W;cases W;refine⟨s',rfl,fun e=>?_⟩;have B:j≠i:=fun e=>by subst e;rw[hnl]at hgj;cases hgj
       exact p3 j I B s' x' hin3 e.symm
    have hget:(NM h true es).get h.size=some (.map 2 es):=h.Ct _;refine⟨.tuple [],(NM h true es).set h.size (.map 2 (es++[(.str s,ev val x)])),?_,fun t T=>(by rw[p1]at T;cases T),fun m2 w2 rr=>⟨es++[(.str s,ev val x)],?_,?_⟩⟩
    ·rw[XX M];show(GO C.P YS (NM h true es) tM (nth val tm) (.str s) (ev val x)).map (fun r=>(AB.tuple [],r))=_;rw[L.mv];unfold GO;have hfz:Ig YS (NM h true es) (ev val x)=some (ev val x,NM h true es):=by
      cases he:ev val x<;>rw[he]at Y<;>first|rfl|cases Y
     rw[hfz];show(Ib C.P YS (NM h true es) tM (.map (some h.size)) (.str s) (ev val x)).map (fun r=>(AB.tuple [],r))=_;unfold Ib;rw[L.cZ];simp only;have hkk:Fp C.P 20 kt (.str s)=true:=by unfold Fp;rw[L.str]
     rw[zm ⟨hkk,rfl⟩,hget];simp only;rw[hnew];rfl
    ·rw[hgk,hk];refine rr.same ?_ fun j=>?_
     ·simp[NM]
     ·rw[AI.Ii _ _ _ _ ((NM h true es).BN hget)];show(h.push _).get j=if _ then _ else(h.push _).get j
      rw[h.I0,h.I0];by_cases e:j=h.size
      ·subst e;simp
      ·rw[zk e,zk e,zk (fun e'=>e (by first|exact e'|exact e'.symm))]
    ·refine(r3.append_right _).trans (Q7 (i:=i) ?_ ?_ hent _ xk (zO.2 R)).symm
     ·rw[hnl];rfl
     ·rw[IY X,zf rfl,xh];unfold OV;rw[M];rfl
 obtain⟨v,H',hs,N,haft⟩:=stp;refine Jc hS hz r2 hfS (o:=KA ops i) (by rw[Pj same];exact hs) (fun m2 v2 w2 e1 e2 e3=>hK _ _ ?_) rd;have hsz:h.size≤(NM h (got listed k0) es).size:=by
  unfold NM;cases got listed k0<;>simp
 obtain⟨es',q1,q2⟩:=haft m2 w2 e2;have hle:m1.le m2:=r2.Mi e1;refine⟨by simp[inv.sz],fun j I hgj=>?_,by rw[DQ];exact inv.defers,by rw[size_put];exact inv.tmps,m2,es',r1.trans e1 hsz,q1,q2,fun t=>?_⟩
 ·have hgj':(got listed j||decide (j=i))=true:=by rw[←IY X];exact hgj
  have hp:KD ops listed j:=by
   rcases Bool.or_eq_true_iff.1 hgj' with e|e
   ·exact inv.closed j I e
   ·rw[of_decide_eq_true e];exact hpre
  intro o ho' e he U;have:=hp o ho' e he U;have g2:=IY X e.on;unfold got at g2;rw[g2,this];rfl
 ·by_cases hd:(KA ops i).dst=some t
  ·have e1':N9 ops fr val (got (listed.setIfInBounds i true)) t=nth val t:=by
    unfold N9;rw[hwr t hd];simp only;rw[IY X,zf rfl,xh];rfl
   rw[e1',hd];show VR m2 (nth val t) ((a.tmps.setIfInBounds t v2).getD t undef);by_cases T:t<a.tmps.size
   ·rw[←N t hd];simpa[zr,T]using e3
   ·have h1:nth val t=.tuple []:=by rw[FZ,zo,List.getElem?_eq_none (by rw[L.len,←inv.tmps];exact qz T)];rfl
    rw[h1];have:(a.tmps.setIfInBounds t v2).getD t undef=undef:=by simp[zr,T]
    rw[this];exact VR.Gs m2
  ·have e1':N9 ops fr val (got (listed.setIfInBounds i true)) t=N9 ops fr val (got listed) t:=by
    unfold N9;cases I:Ox ops t with
    |none=>rfl
    |some j=>
     have B:j≠i:=fun e=>by subst e;exact hd (RZ I).2
     simp only;rw[IY X,zi B,yK]
   rw[e1'];have:(a.put (KA ops i).dst v2).tmps.getD t undef=a.tmps.getD t undef:=by
    cases hdd:(KA ops i).dst with
    |none=>rfl
    |some d=>
     have B:d≠t:=fun e=>hd (by rw[hdd,e]);simp[Act.put,zr,Array.getElem?_setIfInBounds_ne B]
   rw[this];exact(r4 t).mono hle
theorem TX.any(L:Lit C S h ops fr val tM kt et tm k0)(hS:GK C.P C.Cx S)(hz:Bh C.Cx w0){d0:List Deferred}{Q:Exit→Act→World→Prop}
  (hQ:∀listed a w,TX C h ops fr val tM tm k0 w0 m d0 listed a w→(∀i,i<ops.size→got listed i=true)→Q .normal a w):
  ∀(fuel:Nat) (listed:Array Bool) (a:Act) (w:World),TX C h ops fr val tM tm k0 w0 m d0 listed a w→((List.range ops.size).filter fun i=> !got listed i).length≤fuel→∀rd:Option Nat,wpAnyIn (FW rd) 0 C.P .any ops Q fuel listed a w:=by
 intro fuel
 induction fuel with
 | zero=>
  intro listed a w inv hc rd;have V:∀i,i<ops.size→got listed i=true:=by
   intro i hi;cases O:got listed i with
   |true=>rfl
   |false=>
    have hm:i∈(List.range ops.size).filter fun i=> !got listed i:=yf.2 ⟨by simpa using hi,by rw[O];rfl⟩;have:((List.range ops.size).filter fun i=> !got listed i)=[]:=zy (by omega);rw[this]at hm;cases hm
  refine⟨?_,hQ _ _ _ inv V⟩;apply xK.2;intro i hi;have hi':i<ops.size:=by simpa using hi
  have:=V i hi';have h1:i<listed.size:=by rw[inv.sz];exact hi'
  unfold got at this;simp only[zr,Array.getElem?_eq_getElem h1,zV]at this⊢;simp[this]
 | succ fuel ih=>
  intro listed a w inv hc rd;refine⟨fun hr=>hQ _ _ _ inv ?_,fun i hi=>?_⟩
  ·-- nothing is ready:all is done
   have key:∀i,i<ops.size→got listed i=true:=by
    intro i
    induction i using Nat.strongRecOn with
    | _ i ihi=>
     intro R;cases O:got listed i with
     |true=>rfl
     | false=>
      exfalso;have hready:i∈Region.ready .any ops listed:=by
       simp only[Region.ready,yf,zO,zh,zK];refine⟨R,?_,?_⟩
       ·have h1:i<listed.size:=by rw[inv.sz];exact R
        unfold got at O;simp only[zr,Array.getElem?_eq_getElem h1,zV]at O⊢;exact O
       ·rw[VK R];simp only[zj,zV];rw[←qQ];refine zn.2 fun e he=>?_;cases U:Region.binds .any e with
        |false=>rfl
        |true=>
         simp only[zY,yJ];have hon:=M3 L.parts.1 (k:=i) (o:=KA ops i) (by simpa using VK R) he U;exact ihi e.on (by omega) (by omega)
      rw[hr]at hready;cases hready
   exact key
  ·refine TX.step L hS hz inv hi (fun a' w' inv'=>ih _ a' w' inv' ?_ rd) rd;have hi2:i<ops.size∧listed.getD i true=false:=by
    simp only[Region.ready,yf,zO,zh,zK]at hi;exact⟨hi.1,hi.2.1⟩
   have h1:i<listed.size:=by rw[inv.sz];exact hi2.1
   have hgs:=IY (listed:=listed) h1
   have:=Lx (List.range ops.size) (fun j=> !got listed j) (fun j=> !got (listed.setIfInBounds i true) j) (fun j I=>by
    simp only[hgs]at I;cases hg:got listed j with
    |false=>rfl
    |true=>rw[hg]at I;simp at I)
    ⟨i,by simpa using hi2.1,by
     have:=hi2.2;unfold got;simp only[zr,Array.getElem?_eq_getElem h1,zV]at this⊢
     simp[this],by simp[hgs]⟩
   omega
theorem Wx(hmix:C.P.follows .mixedOrders=true)(L:Lit C S h ops fr val tM kt et tm k0)(hS:GK C.P C.Cx S)(hz:Bh C.Cx w0){w:World}{a:Act}{id:Nat}{Q:Exit→Act→World→Prop}{es:List (AB×AB)}
  (he:Kf ops tM tm val (fun _=>true)=es) (hk:es.all JD=true) (hn:(es.map Prod.fst).Nodup)
  (r:Rel C.P w0 m h w) (hf:FR m fr a) (hQ:∀m' a' w',m.ext h.size m'→Rel C.P w0 m' (h.push (.map 3 es)) w'→FR m' val a'→a'.defers=a.defers→Q .normal a' w'):∀rd:Option Nat,(Code.region id ops true).wpIn (FW rd) 0 C.P Q a w:=by
 intro rd;refine wpIn_region_any hmix ?_;have O:∀i,got (Array.replicate ops.size false) i=false:=fun i=>by
  simp only[got,zr,Array.getElem?_replicate];split<;>rfl
 refine TX.any L hS hz (m:=m) (d0:=a.defers) (fun listed a' w' inv V=>?_) ops.size _ a _ ⟨by simp,(fun i _ h=>by rw[show(Array.replicate ops.size false).getD i false=got (Array.replicate ops.size false) i from rfl,O]at h;cases h),rfl,hf.1.symm,m,[],BD.ext.refl _ _,?_,?_,fun t=>?_⟩ (y8 (qw _ _) (by simp)) rd
 ·obtain⟨m',es',r1,r2,r3,r4⟩:=inv.rel;rw[V k0 L.parts.2.1]at r2;have e1:Kf ops tM tm val (got listed)=es:=by
   rw[←he];refine NP fun j I=>?_;rw[V j (zO.1 I)]
  rw[e1]at r3;refine hQ m' a' w' r1 (r2.loose r3 hk hn) ⟨by rw[L.len];exact inv.tmps.symm,fun t=>?_⟩ inv.defers;have:=r4 t;unfold N9 at this;cases I:Ox ops t with
  |none=>rw[I]at this;rw[L.Hr t I];exact this
  |some j=>
   rw[I]at this;simp only at this;rw[V j (RZ I).1]at this;exact this
 ·rw[O];exact r.drew
 ·have:Kf ops tM tm val (got (Array.replicate ops.size false))=[]:=qJ.2 fun j _=>by rw[O];rfl
  rw[this]
 ·have:N9 ops fr val (got (Array.replicate ops.size false)) t=nth fr t:=by
   unfold N9;split
   ·rw[O];rfl
   ·rfl
  rw[this];exact hf.2 t
end
abbrev pA(r:Nat×Nat):AB:=.ptr (some r)
abbrev UY(args:List AB)(n:Nat):Fr:=args++List.replicate (n - args.length) (.tuple [])
abbrev X6(fr:Fr)(tb tr:Nat)(b z:AB):Fr:=(fr.set tb b).set tr z
def Zh(mk:List (FuncId×FuncId)):Self:=⟨fun _ h f args=>match mk.lookup f,args with|some cl,[.ptr (some r)]=>some (.func (.func cl) [] [.A0 [.ptr (some r)]],h)|_,_=>none,fun _ _ _ _ _=>none,fun _ _ _ _=>none⟩
section
variable {C:Gp}
def WA(P:Program)(G:Nat→Option (List AB))(f cl:FuncId):Prop:=∀(w0:World) (m:BD) (h:AI) (w:World) (cargs:Array Value) (r:Nat×Nat),Bh G w0→Rel P w0 m h w→CM m [.ptr (some r)] cargs.toList→
  DX P f cargs w fun v' w'=>∃m':BD,(m.ext h.size m')∧Rel P w0 m' h w'∧VR m' (.func (.func cl) [] [.A0 [.ptr (some r)]]) v'
theorem PR{α:Type}{f:Nat}{c:α}:∀{l:List (Nat×α)},l.lookup f=some c→(f,c)∈l
 |[],h=>by cases h
 | (a,b)::l,h=>by
  rw[List.lookup_cons]at h;split at h
  ·rename_i e;cases h;rw[eq_of_beq e];exact .head _
  ·exact .tail _ (PR h)
theorem Rj{G:Nat→Option (List AB)}{P:Program}{mk:List (FuncId×FuncId)}(hmk:∀p∈mk,WA P G p.1 p.2):GK P G (Zh mk):=by
 refine⟨fun g h f args v h' hc=>?_,fun g h l args v h' hc=>by cases hc⟩;unfold Zh at hc;simp only at hc;split at hc
 ·rename_i cl r O;cases hc;exact⟨BE.refl _ _,fun w0 m w cargs hz rr N=>hmk _ (PR O) w0 m _ w cargs r hz rr N⟩
 ·cases hc
theorem Tf {S:Self} (hS:GK C.P C.Cx S) {f cl:FuncId} {fn:Func} {i0 i1:Nat} {ops0 ops1:Array Oper} (Y:C.P.funcs[f]?=some fn) (hn:(fn.name=="runtime.NumGoroutine")=false)
  (U:fn.body=some (.seq (.region i0 ops0 false) (.seq (.region i1 ops1 false) .ret))) {tb tr:Nat} {z:AB} (hz0:∀m,∃y,VR m z y) (B:tb≠tr) {fr2:Nat×Nat→Fr}
  (hr0:∀r h,D3 C S YS ops0 ops0.toList (UY [pA r] fn.ntmps) h=some (X6 (UY [pA r] fn.ntmps) tb tr (.ptr (some (h.size,0))) z,h.push (.cells none 2 [.ptr (some r)])))
  (hr1:∀r h,D3 C S YS ops1 ops1.toList (X6 (UY [pA r] fn.ntmps) tb tr (.A0 [pA r]) z) h=some (fr2 r,h))
  (Z:∀r h,Ek C.P fn (fr2 r) h=some (.func (.func cl) [] [.A0 [.ptr (some r)]]))
  :WA C.P C.Cx f cl:=by
 intro w0 m h w cargs r hz rr N;refine Oi (g:=YS) hS hz Y hn U rr N rfl (tb:=tb) (tr:=tr) (tp:=0) (hz0 m) (by simp) (hr0 r h) B (h2:=h) (fr2:=fr2 r) (fun m4 a1 w1 Q k1 k2 k3 hQ=>?_) (Z r h);refine wpIn_region_list (GQ hS hz _ k2 k3 (hr1 r h) (fun m' a' w' g1 g2 g3 g4=>hQ m' a' w' (k1.trans g1 (zC _)) g2 g3 g4) none)
def cR(C:Gp)(S:Self)(ops:Array Oper)(tM:TypeId)(tm:Tmp)(k0:Nat)(val:Fr)(H:AI)(i:Nat):Option (AB×AI):=
 bif Nat.beq i k0 then none else match I4 tM tm (KA ops i).op with|some _=>none|none=>BC C S YS H val (KA ops i).op
def cn(ops:Array Oper)(tM:TypeId)(tm:Tmp)(k0:Nat)(val:Fr)(H:AI)(i:Nat):Option (AB×AI):=
 bif Nat.beq i k0 then none else match I4 tM tm (KA ops i).op with|some _=>none|none=>some (match(KA ops i).dst with|some t=>nth val t|none=>.tuple [],H)
def bM(ops:Array Oper)(v:Fr)(t:Tmp):AB:=match Ox ops t with|none=>nth v t|some _=>.undef
theorem YV{α:Type}{f g:Nat→α}{n:Nat}(h:(List.range n).map f=(List.range n).map g){i:Nat}(hi:i<n):f i=g i:=by
 have:=congrArg (fun l=>l[i]?) h;simpa[hi]using this
theorem Lit.of{S:Self}{h:AI}{ops:Array Oper}{fr val:Fr}{tM kt et:TypeId}{tm:Tmp}{k0:Nat}(ok:XF ops tM tm k0=true)(len:val.length=fr.length)(Hr:(List.range fr.length).map (bM ops val)=(List.range fr.length).map (bM ops fr))
  (mv:nth val tm=.map (some h.size)) (fn:(List.range ops.size).all (fun i=>match I4 tM tm (KA ops i).op with|some (_,x)=>af (ev val x)|none=>true)=true)
  (dz:∀H,(List.range ops.size).map (cR C S ops tM tm k0 val H)=(List.range ops.size).map (cn ops tM tm k0 val H)) (cZ:C.P.underlying tM=some (.map kt et)) (str:C.P.underlying kt=some .string):Lit C S h ops fr val tM kt et tm k0:=by
 refine⟨ok,len,fun t T=>?_,mv,fun i s x hi hs=>?_,fun i hi hk hs H=>?_,cZ,str⟩
 ·by_cases O:t<fr.length
  ·have:=YV Hr O;unfold bM at this;rw[T]at this;exact this
  ·rw[FZ,FZ,zo,zo,List.getElem?_eq_none (qz O),List.getElem?_eq_none (by rw[len];exact qz O)]
 ·have:=zn.1 fn i (zO.2 hi);rw[hs]at this;exact this
 ·have:=YV (dz H) hi;unfold cR cn at this;have U:Nat.beq i k0=false:=by
   cases e:Nat.beq i k0 with
   |false=>rfl
   |true=>exact absurd (zu e) hk
  rw[U,hs]at this;refine⟨_,this,fun t T=>?_⟩;rw[T]
def UZ(fn:Func)(k:Nat):Array Oper:=match fn.body with|some (.seq (.region _ a _) (.seq (.region _ b _) .ret))=>bif Nat.beq k 0 then a else b|_=>#[]
theorem Uz{es:List (AB×AB)}{ks:List (List UInt8)}(h:es.map Prod.fst=ks.map AB.str)(hd:ks.Nodup):(es.map Prod.fst).Nodup:=by
 rw[h,List.Nodup,qM];exact hd.imp fun B e=>B (AB.str.inj e)
theorem YN{args:List AB}(hn:args.length=2)(hp:args.all RD=true):∃r s,args=[.ptr (some r),.ptr (some s)]:=by
 match args,hn,hp with
 | [a,b],_,hp=>
  simp only[zR,qv,qN,zh]at hp;obtain⟨ha,U⟩:=hp;unfold RD at ha U;split at ha
  ·split at U
   ·exact⟨_,_,rfl⟩
   ·cases U
  ·cases ha
theorem YA (hmix:C.P.follows .mixedOrders=true) {S:Self} (hS:GK C.P C.Cx S) {f:FuncId} {fn:Func} {i0 i1:Nat} {ops0 ops:Array Oper} (Y:C.P.funcs[f]?=some fn) (hn:(fn.name=="runtime.NumGoroutine")=false)
  (U:fn.body=some (.seq (.region i0 ops0 false) (.seq (.region i1 ops true) .ret))) {tb tr:Nat} {z:AB} (hz0:∀m,∃y,VR m z y) (B:tb≠tr) {tM kt et:TypeId} {tm k0:Nat} {es:List (AB×AB)}
  {val:Nat×Nat→Nat×Nat→Nat→Fr} {es':Nat×Nat→Nat×Nat→List (AB×AB)}
  (hr0:∀r s h,D3 C S YS ops0 ops0.toList (UY [pA r,pA s] fn.ntmps) h=some (X6 (UY [pA r,pA s] fn.ntmps) tb tr (.ptr (some (h.size,0))) z,h.push (.cells none 2 [.ptr (some r)])))
  (hL:∀r s h,Lit C S h ops (X6 (UY [pA r,pA s] fn.ntmps) tb tr (.A0 [pA r]) z) (val r s h.size) tM kt et tm k0)
  (he:∀r s n,Kf ops tM tm (val r s n) (fun _=>true)=es' r s) (hk:∀r s,(es' r s).all JD=true) (hd:∀r s,((es' r s).map Prod.fst).Nodup) (hren:∀r s,Yw [.ptr (some r),.ptr (some s)] es=some (es' r s))
  (Z:∀r s h H,Ek C.P fn (val r s h) H=some (.map (some h))):Fw C.P C.Cx f fun _ h args=>RJ es 2 h args:=by
 intro g h f' args v h' hc;dsimp only at hc;split at hc
 ·rename_i e;subst e;unfold RJ at hc;cases hbq:(Nat.beq args.length 2&&args.all RD)with
  |false=>rw[hbq]at hc;cases hc
  |true=>
   rw[hbq]at hc;simp only[zh]at hbq;obtain⟨r,s,rfl⟩:=YN (zu hbq.1) hbq.2;rw[hren]at hc;simp only[zW,zj,zd,zg]at hc;obtain⟨rfl,rfl⟩:=hc;refine⟨BE.push _ _ _,fun w0 m w cargs hz rr N=>?_⟩;refine Oi (g:=YS) hS hz Y hn U rr N rfl (tb:=tb) (tr:=tr) (tp:=0) (hz0 m) (by simp) (hr0 r s h) B (fr2:=val r s h.size) (fun m4 a1 w1 Q k1 k2 k3 hQ=>?_) (Z r s h.size _);exact Wx hmix (hL r s h) hS hz (he r s h.size) (hk r s) (hd r s) k2 k3 (fun m' a' w' g1 g2 g3 g4=>hQ m' a' w' (k1.trans g1 (zC _)) g2 g3 g4) none
 ·cases hc
theorem Fw.nil{P:Program}{G:Nat→Option (List AB)}{f:FuncId}{ext:Gd→AI→List AB→Option (AB×AI)}(H:Fw P (fun _=>none) f ext):Fw P G f ext:=
 fun g h f' args v h' hc=>⟨(H g h f' args v h' hc).1,fun w0 m w cargs _ r N=>(H g h f' args v h' hc).2 w0 m w cargs (Bh.none w0) r N⟩
end
end Go.Av
