/-
 A part.
-/
import Derived.Test.YtlddjbgohnlihaaGreatDoorAvOpP
set_option linter.unusedSimpArgs false
namespace Go.Av
open Go.RowKit
section
variable {P:Program} {w0:World} {m:BD} {h:AI} {w:World}
theorem Rel.cells(r:Rel P w0 m h w){id o n:Nat}{E:Mb}{cs:List AB}(U:m id=some E)(hc:Cf (h.get id) o n=some cs):
  ∃ds:List Value,ds.length=n∧CM m cs ds∧(∀(j:Nat) (v:Value),ds[j]?=some v→w.cell? ((⟨E.g,E.base+o,none⟩:Addr).add j)=some v)∧(∀a∈cs,a.one=true):=by
 unfold Cf at hc;split at hc
 ·rename_i gr st l X;split at hc
  ·rename_i J;injection hc with hc;subst hc;obtain⟨_,W⟩:=r.obj id E _ U X;obtain⟨cur,e,fz,h1,h2,I,_⟩:=W J.1;have hlen:∀j,j<l.length→E.base+j<cur.size:=fun j O=>by
    obtain⟨_,c,hc,_⟩:=I j _ (List.getElem?_eq_getElem O);exact(Array.getElem?_eq_some_iff.1 hc).1
   have key:∀j,j<n→(cur.toList.drop (E.base+o))[j]?=cur[E.base+(o+j)]?:=fun j O=>by
    rw[List.getElem?_drop,yI];simp
   refine⟨(cur.toList.drop (E.base+o)).take n,?_,⟨?_,?_⟩,?_,?_⟩
   ·rcases yv n with h0|h0
    ·simp[h0]
    ·have:=hlen (o+n - 1) (by omega);simp;omega
   ·have:n≤cur.size - (E.base+o):=by
     rcases yv n with h0|h0
     ·omega
     ·have:=hlen (o+n - 1) (by omega);omega
    simp;omega
   ·intro j x y F V;rw[List.getElem?_take]at F V;split at F
    ·rename_i O;rw[zm O,key j O]at V;rw[List.getElem?_drop]at F;obtain⟨_,c,hc,H⟩:=I (o+j) x F;rw[hc]at V;injection V with V;subst V;exact H
    ·cases F
   ·intro j v H;rw[List.getElem?_take]at H;split at H
    ·rename_i O;rw[key j O]at H;rw[Addr.add_lit,cell_of_row w E.g _ cur e fz h1,←H,yI]
    ·cases H
   ·intro a L;obtain⟨j,O⟩:=qW.1 L;rw[List.getElem?_take]at O;split at O
    ·rw[List.getElem?_drop]at O;exact(I _ a O).1
    ·cases O
  ·cases hc
 ·cases hc
theorem Q0{ob:Option B0}{A:Addr}{o:Nat}{t:TypeId}{v:AB}(hcl:∀n cs,Cf ob o n=some cs→∃ds:List Value,ds.length=n∧CM m cs ds∧(∀(j:Nat) (v:Value),ds[j]?=some v→w.cell? (A.add j)=some v))(B:Ha P ob t o=some v):
  ∃v',(loadVar t A).run P w=.ok v' w∧VR m v v':=by
 unfold Ha at B;split at B
 ·rename_i L;cases M:CP P t with
  |none=>simp[M]at B
  | some n=>
   simp only[M,za]at B;cases hc:Cf ob o n with
   |none=>simp[hc]at B
   |some cs=>
    simp only[hc,zj,zd]at B;subst B;obtain⟨ds,h1,h2,I⟩:=hcl _ _ hc;subst h1;refine⟨.agg ds.toArray,?_,CM.agg (by simpa using h2)⟩;simp[loadVar,MF w L,run_sizeOf w M,run_loadCells_list w A ds I]
 ·rename_i L;split at B
  ·rename_i x hc;injection B with B;subst B;obtain⟨ds,h1,h2,I⟩:=hcl _ _ hc
   match ds,h1 with
   |[d],_=>
    refine⟨d,?_,h2.2 0 x d rfl rfl⟩;have:=I 0 d rfl;simp only[Addr.add_zero']at this;simp[loadVar,MF w L,this]
  ·cases B
 ·cases B
theorem Lz(r:Rel P w0 m h w){id o:Nat}{t:TypeId}{E:Mb}{v:AB}(U:m id=some E)(B:Ha P (h.get id) t o=some v):
  ∃v',(loadVar t ⟨E.g,E.base+o,none⟩).run P w=.ok v' w∧VR m v v':=
 Q0 (fun n cs hc=>by obtain⟨ds,h1,h2,I,_⟩:=r.cells U hc;exact⟨ds,h1,h2,I⟩) B
theorem Rel.P7(r:Rel P w0 m h w){g o:Nat}{a:List AB}{c:Nat→Value}(D:∀i,i<a.length→m.fz g (o+i)=some (c i))(H:∀(i:Nat) (x:AB),a[i]?=some x→VR m x (c i)):
  ∃ds:List Value,ds.length=a.length∧CM m a ds∧(∀(j:Nat) (v:Value),ds[j]?=some v→w.cell? ((⟨g,o,none⟩:Addr).add j)=some v):=by
 refine⟨(List.range a.length).map c,by simp,⟨by simp,fun i x y F V=>?_⟩,fun j v O=>?_⟩
 ·rw[List.getElem?_map]at V;have hi:=(List.getElem?_eq_some_iff.1 F).1;rw[List.getElem?_range hi]at V;simp only[zj,zd]at V;subst V;exact H i x F
 ·rw[List.getElem?_map]at O;by_cases hi:j<a.length
  ·rw[List.getElem?_range hi]at O;simp only[zj,zd]at O;subst O;obtain⟨cur,e,z,h1,h2⟩:=r.fz g (o+j) _ (D j hi);rw[Addr.add_lit,cell_of_row w g _ cur e z h1,h2]
  ·rw[List.getElem?_eq_none (by simpa using hi)]at O;cases O
theorem Uk(r:Rel P w0 m h w){t:TypeId}{g o:Nat}{a:List AB}{c:Nat→Value}{v:AB}(D:∀i,i<a.length→m.fz g (o+i)=some (c i))(H:∀(i:Nat) (x:AB),a[i]?=some x→VR m x (c i))
  (B:Ha P (some (.cells none 1 a)) t 0=some v):∃v',(loadVar t ⟨g,o,none⟩).run P w=.ok v' w∧VR m v v':=by
 refine Q0 (fun n cs hc=>?_) B;unfold Cf at hc;simp only at hc;split at hc
 ·rename_i J;injection hc with hc;subst hc;obtain⟨ds,h1,h2,I⟩:=r.P7 D H;refine⟨ds.take n,by rw[zA];omega,by rw[yl];exact h2.take n,fun j v O=>I j v ?_⟩;rw[List.getElem?_take]at O;split at O
  ·exact O
  ·cases O
 ·cases hc
theorem J6:∀(cs:List AB) (ds:List Value) (s:List UInt8),CM m cs ds→bytesOf cs=some s→
  (∀d∈ds,∃n,d=.int .u8 n)∧s=ds.map (fun d=>UInt8.ofNat (match d with| .int _ n=>n.toNat|_=>0))
 |[],ds,s,H,J=>by
  have:ds=[]:=zy (by simpa using H.1.symm);subst this;simp[bytesOf]at J;subst J;simp
 |c::cs,[],s,H,_=>by simp[CM]at H
 | c::cs,d::ds,s,H,J=>by
  have hc:=H.2 0 c d rfl rfl;have hv':CM m cs ds:=⟨by simpa using H.1,fun i x y F V=>H.2 (i+1) x y (by simpa using F) (by simpa using V)⟩;unfold bytesOf at J;split at J
  ·rename_i heq;cases heq
  ·rename_i n r heq;injection heq with e1 e2;subst e1;subst e2;have:=hc.B1;subst this;cases C:bytesOf cs with
   |none=>simp[C]at J
   |some s'=>
    simp only[C,zj,zd]at J;subst J;obtain⟨h1,h2⟩:=J6 cs ds s' hv' C;refine⟨fun x F=>?_,by simp[h2]⟩;cases F with
    |head=>exact⟨n,rfl⟩
    |tail _ F=>exact h1 x F
  ·cases J
theorem Mn(w:World):∀(ds:List Value) (acc:ByteArray),(∀d∈ds,∃n,d=.int .u8 n)→
  (forIn (m:=Sem) ds acc fun c s=>match c with
   | .int .u8 n=>pure (.yield (s.push (UInt8.ofNat n.toNat)))
   |_=>do
    stuck "bytesToString: byte expected"
    pure (.yield s)).run P w=.ok ⟨acc.data++(ds.map (fun d=>UInt8.ofNat (match d with| .int _ n=>n.toNat|_=>0))).toArray⟩ w
 |[],acc,_=>by simp
 |d::ds,acc,hd=>by
  obtain⟨n,rfl⟩:=hd d (by simp);have ih:=Mn w ds (acc.push (UInt8.ofNat n.toNat)) fun x F=>hd x (by simp[F]);simp only[xr,Sem.run_bind,Sem.run_pure,Result.andThen_ok];refine ih.trans ?_;congr 2;apply Array.ext';simp[ByteArray.push]
theorem Sg(r:Rel P w0 m h w){src dst:TypeId}{x:AB}{x':Value}{v:AB}(F:VR m x x')
  (B:RU P ((E4 x).bind h.get) src dst x=some v):∃v',(convert src dst x').run P w=.ok v' w∧VR m v v':=by
 unfold RU at B;split at B
 ·rename_i e rr n S hd;split at B
  ·rename_i he;split at B
   ·injection B with B;subst B;refine⟨.string .empty,?_,.str .empty⟩;cases F<;>simp[convert,Al w S,Al w hd,Al w he,Conv.bytesToString,loadCells,loadCellsFrom]
   ·rename_i id o;cases F with
    | slice _ _ _ cap E a U hle hc=>
     split at B
     ·rename_i M;subst M;injection B with B;subst B;refine⟨.string .empty,?_,.str .empty⟩;simp[convert,Al w S,Al w hd,Al w he,Conv.bytesToString,loadCells,loadCellsFrom]
     ·rename_i M;obtain⟨L,_⟩:=hc (by omega);subst L;simp only[E4,za]at B;cases hcs:Cf (h.get id) o n with
      |none=>simp[hcs]at B
      | some cs=>
       simp only[hcs,za]at B;cases J:bytesOf cs with
       |none=>simp[J]at B
       |some s=>
        simp only[J,zj,zd]at B;subst B;obtain⟨ds,h1,h2,I,_⟩:=r.cells U hcs;subst h1;obtain⟨g1,g2⟩:=J6 cs ds s h2 J;refine⟨.string ⟨⟨s⟩⟩,?_,.str ⟨⟨s⟩⟩⟩;have K:=Mn (P:=P) w ds ByteArray.empty g1;simp only[convert,Sem.run_bind,Al w S,Al w hd,Al w he,Result.andThen_ok,Conv.bytesToString,run_loadCells_list w ⟨E.g,E.base+o,none⟩ ds I];rw[←xc];refine(congrArg (fun x=>Result.andThen x fun a w'=>Sem.run P (pure (Value.string a)) w') K).trans ?_;rw[g2];simp only[Result.andThen_ok,Sem.run_pure];congr 2;apply ByteArray.ext;apply Array.ext';simp
  ·cases B
 ·rename_i e n cs S hd;split at B
  ·rename_i he;split at B
   ·rename_i M;cases J:bytesOf cs with
    |none=>simp[J]at B
    | some s=>
     simp only[J,zj,zd]at B;subst B;have main:∀(A:Option Addr) (cap:Nat) (ds:List Value),ds.length=n→CM m cs ds→(∀A',A=some A'→∀(j:Nat) (v:Value),ds[j]?=some v→w.cell? (A'.add j)=some v)→(A=none→ds=[])→
       ∃v',(convert src dst (.slice A n cap)).run P w=.ok v' w∧VR m (.str s) v':=by
      intro A cap ds h1 h2 I h4;subst h1;obtain⟨g1,g2⟩:=J6 cs ds s h2 J;refine⟨.string ⟨⟨s⟩⟩,?_,.str ⟨⟨s⟩⟩⟩;cases A with
      |none=>
       have:=h4 rfl;subst this;simp at g2;subst g2;simp[convert,Al w S,Al w hd,Al w he,Conv.bytesToString];rfl
      |some A'=>
       have K:=Mn (P:=P) w ds ByteArray.empty g1;simp only[convert,Sem.run_bind,Al w S,Al w hd,Al w he,Result.andThen_ok,Conv.bytesToString,run_loadCells_list w A' ds (I A' rfl)];rw[←xc];refine(congrArg (fun x=>Result.andThen x fun a w'=>Sem.run P (pure (Value.string a)) w') K).trans ?_;rw[g2];simp only[Result.andThen_ok,Sem.run_pure];congr 2;apply ByteArray.ext;apply Array.ext';simp
     cases F with
     |KQ A cap=>exact main A cap [] rfl (CM.nil m) (fun A' _ j v O=>by simp at O) (fun _=>rfl)
     |HU _ cap g o _ c hc D H=>
      obtain⟨ds,h1,h2,I⟩:=r.P7 D H;exact main _ cap ds (by omega) h2 (fun A' hA'=>by injection hA' with hA';subst hA';exact I) (fun h=>by cases h)
   ·cases B
  ·cases B
 ·cases B
theorem SN(r:Rel P w0 m h w){t:TypeId}{x:AB}{x':Value}{lo hi:Option AB}{lo' Z:Option Value}{v:AB}(F:VR m x x')(hlo:b9 m lo lo')(hhi:b9 m hi Z)
  (B:Mq P ((E4 x).bind h.get) t x lo hi=some v):
  ∃v',(Instr.sliceAt t x' lo' Z none).run P w=.ok v' w∧VR m v v':=by
 unfold Mq at B;split at B
 ·-- an array behind a pointer
  rename_i n e id o hu;simp only[E4,za]at B;cases F with
  | ptr _ _ E U=>
   split at B
   ·rename_i st cs X;cases N:CP P e with
    |none=>simp[N]at B
    | some z=>
     simp only[N,za]at B;cases J:FA n lo hi with
     |none=>simp[J]at B
     |some lu=>
      obtain⟨l,u⟩:=lu;simp only[J,zj,zd]at B;subst B;obtain⟨T,h1,h2⟩:=Fm (P:=P) w (c:=n) false hlo hhi (zC _) J;have R:E.V8=0:=(r.obj id E _ U X).1.1.1;refine⟨.slice (some (if n=l then⟨E.g,E.base+o,none⟩else⟨E.g,E.base+(o+l*z),none⟩)) (u - l) (n - l),?_,.slice id (o+l*z) (u - l) (n - l) E _ U (by omega) (fun hne=>⟨by rw[zk (by omega)],fun h=>absurd R h⟩)⟩;simp[Instr.sliceAt,Al w hu,Instr.sureAddr,T,run_sizeOf w N,Addr.add_lit,yI]
   ·cases B
 ·-- a nil slice
  rename_i e hu;obtain⟨A,rfl⟩:∃A:Option Addr,x'=.slice A 0 0:=by
   cases F with
   |Ep=>exact⟨none,rfl⟩
   |FH a=>exact⟨some a,rfl⟩
  cases N:CP P e with
  |none=>simp[N]at B
  | some z=>
   simp only[N,za]at B;cases J:FA 0 lo hi with
   |none=>simp[J]at B
   |some lu=>
    obtain⟨l,u⟩:=lu;simp only[J,zj,zd]at B;subst B;obtain⟨T,h1,h2⟩:=Fm (P:=P) w (c:=0) true hlo hhi (zC _) J;have hu0:u=0:=by omega
    have hl0:l=0:=by omega
    subst hu0;subst hl0;refine⟨.slice A 0 0,?_,by cases A with|none=>exact .Ep|some a=>exact .FH a⟩;cases A<;>simp[Instr.sliceAt,Instr.slice,Al w hu,T,run_sizeOf w N]
 ·-- a still one
  rename_i e n cs hu;cases N:CP P e with
  |none=>simp[N]at B
  | some z=>
   simp only[N,za]at B;split at B
   ·rename_i hlen;cases J:FA n lo hi with
    |none=>simp[J]at B
    | some lu=>
     obtain⟨l,u⟩:=lu;simp only[J,zj,zd]at B;subst B;cases F with
     |KQ A cap=>
      obtain⟨T,h1,h2⟩:=Fm (P:=P) w (c:=cap) true hlo hhi (yB _) J;have hu0:u=0:=by omega
      have hl0:l=0:=by omega
      subst hu0;subst hl0;refine⟨.slice (if cap=0 then A else A.map (·.add (0*z))) 0 cap,?_,?_⟩
      ·cases A<;>simp only[Instr.sliceAt,Instr.slice,Sem.run_bind,Al w hu,Result.andThen_ok,T,run_sizeOf w N,Sem.run_pure]<;>by_cases e:cap=0<;>simp[e]
      ·simpa using VR.KQ _ _
     | HU _ cap g o _ c hc D H=>
      obtain⟨T,h1,h2⟩:=Fm (P:=P) w (c:=cap) true hlo hhi hc J;by_cases he:cap=l
      ·have hu0:u=l:=by omega
       subst hu0;refine⟨.slice (some ⟨g,o,none⟩) 0 0,?_,?_⟩
       ·simp only[Instr.sliceAt,Instr.slice,Sem.run_bind,Al w hu,Result.andThen_ok,T,run_sizeOf w N,Sem.run_pure];simp[he]
       ·simpa using VR.KQ _ _
      ·refine⟨.slice (some ⟨g,o+l*z,none⟩) (u - l) (cap - l),?_,?_⟩
       ·simp only[Instr.sliceAt,Instr.slice,Sem.run_bind,Al w hu,Result.andThen_ok,T,run_sizeOf w N,Sem.run_pure];simp[he,Addr.add_lit]
       ·have hd:=VR.Q1 (VR.L8 D H (l*z)) ((u - l)*z);cases hd with
        |A0 _ _ _ c' hf' hv'=>exact .HU _ _ _ _ _ c' (by omega) hf' hv'
   ·cases B
 ·-- a slice
  rename_i e id o n hu;simp only[E4,za]at B;cases F with
  | slice _ _ _ cap E a U hle hc=>
   have main:∀z,CP P e=some z→(E.V8≠0→E.V8=z)→∀l u,FA n lo hi=some (l,u)→
     ∃v',(Instr.sliceAt t (.slice (some a) n cap) lo' Z none).run P w=.ok v' w∧VR m (.slice (some (id,o+l*z)) (u - l)) v':=by
    intro z N R l u J;obtain⟨T,h1,h2⟩:=Fm (P:=P) w (c:=cap) true hlo hhi hle J;refine⟨.slice (some (if cap=l then a else a.add (l*z))) (u - l) (cap - l),?_,.slice id (o+l*z) (u - l) (cap - l) E _ U (by omega) (fun hne=>?_)⟩
    ·simp only[Instr.sliceAt,Instr.slice,Sem.run_bind,Al w hu,Result.andThen_ok,T,run_sizeOf w N,Sem.run_pure];by_cases e:cap=l<;>simp[e]
    ·obtain⟨L,hbd⟩:=hc (by omega);subst L;rw[zk (by omega),Addr.add_lit];refine⟨by rw[yI],fun hz0=>?_⟩;have I:=hbd hz0;have h4:=R hz0;rw[←h4];have:l*E.V8+(cap - l)*E.V8=cap*E.V8:=by rw[←yC];congr 1;omega
     omega
   split at B
   ·rename_i st cs z X N;have R:E.V8=0:=(r.obj id E _ U X).1.1.1;cases J:FA n lo hi with
    |none=>simp[J]at B
    |some lu=>
     obtain⟨l,u⟩:=lu;simp only[J,zj,zd]at B;subst B;exact main z N (fun h=>absurd R h) l u J
   ·rename_i e' st cs z X N;have R:E.V8=P.cellsOf e':=(r.obj id E _ U X).1.1.1;split at B
    ·rename_i hz';cases J:FA n lo hi with
     |none=>simp[J]at B
     |some lu=>
      obtain⟨l,u⟩:=lu;simp only[J,zj,zd]at B;subst B;refine main z N (fun _=>?_) l u J;rw[R];unfold CP at hz';unfold Program.cellsOf;rw[hz'];rfl
    ·cases B
   ·cases B
 ·cases B
theorem Ui(r:Rel P w0 m h w){ts:Array TypeId}{ty:TypeId}{x:AB}{x':Value}{v:AB}(F:VR m x x')
  (B:bG P ((E4 x).bind h.get) ts x=some v):∃v',(Builtin.len_ ts ty #[x']).run P w=.ok v' w∧VR m v v':=by
 unfold bG at B;split at B
 ·cases B
 ·rename_i t ht;split at B
  ·rename_i k e hu;injection B with B;subst B;cases F;exact⟨_,by simp[Builtin.len_,ht,Al w hu,goInt],.int _ _⟩
  ·rename_i k e id hu;simp only[E4,za]at B;cases F with
   | map _ E U=>
    split at B
    ·rename_i st es X;split at B
     ·rename_i hst;injection B with B;subst B;obtain⟨_,W⟩:=r.obj id E _ U X;obtain⟨es',h0,ents,clock,h1,h2,_⟩:=W hst;rw[h0.len]at h2;exact⟨.int .i64 es.length,by simp[Builtin.len_,ht,Al w hu,goInt,getObj,Sem.run,h1,h2],.int _ _⟩
     ·cases B
    ·cases B
  ·rename_i dir e id hu;simp only[E4,za]at B;cases F with
   | chan _ E U=>
    split at B
    ·rename_i cap buf X;injection B with B;subst B;obtain⟨bs,sn,rc,h1,h2⟩:=r.obj id E _ U X;exact⟨.int .i64 buf.length,by simp[Builtin.len_,ht,Al w hu,goInt,getObj,Sem.run,h1,h2.1],.int _ _⟩
    ·cases B
  ·cases B
theorem Ji:∀(d d':Nat) (t:TypeId) (k:AB) (k':Value) (e:Bool),d≤d'→VR m k k'→Fp P d t k=true→(Instr.checkKey e d' t k').run P w=.ok () w
 |0,_,_,_,_,_,_,_,hk=>by simp[Fp]at hk
 |d+1,0,_,_,_,_,hd,_,_=>by omega
 | d +1,d'+1,t,k,k',e,hd,H,hk=>by
  have ih:=fun t k k'=>Ji d d' t k k' e (by omega);unfold Fp at hk;split at hk
  ·rename_i hu;have:=H.B1;subst this;simp[Instr.checkKey,Al w hu]
  ·rename_i hu;have:=H.EZ;subst this;simp[Instr.checkKey,Al w hu]
  ·rename_i hu;have:=H.KT;subst this;simp[Instr.checkKey,Al w hu]
  ·rename_i fs cs hu;obtain⟨ds,rfl,vd⟩:=H.GS;simp only[Instr.checkKey,Sem.run_bind,Al w hu,Result.andThen_ok];rw[←xc];generalize fs.toList=l at hk
   induction l with
   |nil=>simp
   | cons f l ihl=>
    simp only[zR,zh]at hk;obtain⟨⟨M,K⟩,C⟩:=hk;have hn':f.name≠"_":=by simpa using M
    cases Y:E9 P f.type cs f.offset with
    |none=>simp[Y]at K
    |some x=>
     simp only[Y]at K;obtain⟨y,r1,vy⟩:=Hy (P:=P) w vd Y;have:=ih f.type x y vy K;have I:=ihl C;simp only[xr,Sem.run_bind];rw[zm hn'];simp only[Sem.run_bind,r1,this,Result.andThen_ok,Sem.run_pure];simpa using I
  ·rename_i n el cs hu;obtain⟨ds,rfl,vd⟩:=H.GS;split at hk
   ·rename_i z N;simp only[Instr.checkKey,Sem.run_bind,Al w hu,Result.andThen_ok];simp only[Std.Legacy.Range.forIn_eq_forIn_range',Std.Legacy.Range.size,xJ,Nat.add_one_sub_one,xo,List.range_eq_range']at hk⊢;generalize List.range' 0 n=l at hk
    induction l with
    |nil=>simp
    | cons j l ihl=>
     simp only[zR,zh]at hk;obtain⟨K,C⟩:=hk;cases Y:E9 P el cs (j*z)with
     |none=>simp[Y]at K
     |some x=>
      simp only[Y]at K;obtain⟨y,r1,vy⟩:=Hy (P:=P) w vd Y;have:=ih el x y vy K;have I:=ihl C;simp only[xr,Sem.run_bind,run_sizeOf w N,Result.andThen_ok,r1,this,Sem.run_pure];simpa using I
   ·cases hk
  ·cases hk
def Mj(m:BD)(lo hi:Nat):Option (Nat×AB)→Option (Nat×Value)→Prop
 |none,none=>True
 |some (j,v),some (j',v')=>j=j'∧lo≤j∧j<hi∧VR m v v'
 |_,_=>False
theorem Mj.weaken{lo lo' hi Z:Nat}(h1:lo'≤lo)(h2:hi≤Z):∀{x:Option (Nat×AB)} {y:Option (Nat×Value)},Mj m lo hi x y→Mj m lo' Z x y
 |none,none,_=>trivial
 |some (_,_),some (_,_),h=>⟨h.1,y8 h1 h.2.1,zX h.2.2.1 h2,h.2.2.2⟩
theorem MZ{kt:TypeId}{k a:AB}{k' a':Value}{d:TypeDesc}{b:Bool}(hk:VR m k k')(L:VR m a a')(hd:P.underlying kt=some d)(he:HT P 10000 kt k a=some b)(w:World):
  Instr.sameNow d k' a'=none∨Instr.sameNow d k' a'=some b:=by
 have hrun:=Jo (P:=P) w 10000 kt k a k' a' b hk L he;unfold Instr.sameNow;split
 ·rename_i kk n k2 n2;by_cases hkk:kk=k2
  ·subst hkk;have e:=hrun.symm.trans (run_equalIn_int w 9999 kt kk _ n n2 hd);injection e with e;right;simp[e]
  ·left;simp[hkk]
 ·rename_i s1 s2;have e:=hrun.symm.trans (run_equalIn_string w 9999 kt s1 s2 hd);injection e with e;right;rw[e,beq_toListBytes]
 ·rename_i b1 b2;have e:=hrun.symm.trans (run_equalIn_bool w 9999 kt b1 b2 hd);injection e with e;right;rw[e]
 ·exact .inl rfl
theorem Oc{kt:TypeId}{k:AB}{k':Value}(hk:VR m k k'):∀(es:List (AB×AB)) (ents:List MapEntry) (i:Nat) (res:Option (Nat×AB)),
  es.length=ents.length→(∀(j:Nat) (a b:AB) (e:MapEntry),es[j]?=some (a,b)→ents[j]?=some e→VR m a e.key∧VR m b e.val)→Dd P kt k es i=some res→
  (∃res',(Instr.findAsking kt k' ents i).run P w=.ok res' w∧Mj m i (i+es.length) res res')∧
   (∀d,P.underlying kt=some d→Instr.findNow d k' ents i=none∨∃res',Instr.findNow d k' ents i=some res'∧Mj m i (i+es.length) res res')
 |[],ents,i,res,B,_,D=>by
  have:ents=[]:=zy B.symm;subst this;simp[Dd]at D;subst D;exact⟨⟨none,by simp[Instr.findAsking],trivial⟩,fun d _=>.inr ⟨none,rfl,trivial⟩⟩
 |(a,b)::es,[],_,_,B,_,_=>by simp at B
 | (a,b)::es,e::ents,i,res,B,K,D=>by
  obtain⟨va,vb⟩:=K 0 a b e rfl rfl;have hp':∀(j:Nat) (a b:AB) (e:MapEntry),es[j]?=some (a,b)→ents[j]?=some e→VR m a e.key∧VR m b e.val:=fun j a b e' h1 h2=>K (j+1) a b e' (by simpa using h1) (by simpa using h2);unfold Dd at D;split at D
  ·rename_i he;injection D with D;subst D;have hfr:Mj m i (i+((a,b)::es).length) (some (i,b)) (some (i,e.val)):=⟨rfl,zC _,by simp,vb⟩;refine⟨⟨some (i,e.val),?_,hfr⟩,fun d hd=>?_⟩
   ·have:=Jo (P:=P) w 10000 kt k a k' e.key true hk va he;simp[Instr.findAsking,Op.equal,Op.maxDepth,this]
   ·rcases MZ hk va hd he w with M|M
    ·left;simp[Instr.findNow,M]
    ·right;exact⟨some (i,e.val),by simp[Instr.findNow,M],hfr⟩
  ·rename_i he;obtain⟨⟨res',h1,h2⟩,I⟩:=Oc hk es ents (i+1) res (by simpa using B) hp' D;have wk:i+1+es.length≤i+((a,b)::es).length:=by simp;omega
   refine⟨⟨res',?_,h2.weaken (by omega) wk⟩,fun d hd=>?_⟩
   ·have:=Jo (P:=P) w 10000 kt k a k' e.key false hk va he;simp[Instr.findAsking,Op.equal,Op.maxDepth,this,h1]
   ·rcases MZ hk va hd he w with M|M
    ·left;simp[Instr.findNow,M]
    ·rcases I d hd with h4|⟨res2,h4,h5⟩
     ·left;simp[Instr.findNow,M,h4]
     ·right;exact⟨res2,by simp[Instr.findNow,M,h4],h5.weaken (by omega) wk⟩
  ·cases D
theorem Fi{kt:TypeId}{k:AB}{k':Value}(hk:VR m k k'){es:List (AB×AB)}{ents:List MapEntry}{res:Option (Nat×AB)}{d:TypeDesc}(hd:P.underlying kt=some d)
  (B:es.length=ents.length) (K:∀(j:Nat) (a b:AB) (e:MapEntry),es[j]?=some (a,b)→ents[j]?=some e→VR m a e.key∧VR m b e.val) (D:Dd P kt k es 0=some res):
  ∃res',(Instr.findKey kt k' ents).run P w=.ok res' w∧Mj m 0 es.length res res':=by
 obtain⟨⟨r1,h1,h2⟩,I⟩:=Oc (w:=w) hk es ents 0 res B K D;rcases I d hd with M|⟨r2,M,h4⟩
 ·exact⟨r1,by simp[Instr.findKey,Al w hd,M,h1],h2.weaken (zC _) (by omega)⟩
 ·exact⟨r2,by simp[Instr.findKey,Al w hd,M],h4.weaken (zC _) (by omega)⟩
theorem Kd{kt:TypeId}{k:AB}{n:Nat}(hk:Fp P n kt k=true):∃d,P.underlying kt=some d:=by
 cases n with
 |zero=>simp[Fp]at hk
 |succ n=>
  cases hd:P.underlying kt with
  |some d=>exact⟨d,rfl⟩
  |none=>simp[Fp,hd]at hk
def OA(es es':List (AB×AB)):Prop:=es'=es∨(es'.Perm es∧es.all JD=true∧(es.map Prod.fst).Nodup)
theorem La.find{st:Nat}{es es':List (AB×AB)}(h:La st es es'):OA es es':=by
 by_cases e:st=3
 ·exact .inr (h.perm e)
 ·exact .inl (h.same e)
theorem aL{t:TypeId}{k:AB}{s':List UInt8}{b:Bool}(e:HT P 10000 t k (.str s')=some b):∃s,∀s',HT P 10000 t k (.str s')=some (s==s'):=by
 change HT P (9999+1) t k (.str s')=some b at e;show ∃s,∀s',HT P (9999+1) t k (.str s')=some (s==s');cases hu:P.underlying t with
 |none=>unfold HT at e;rw[hu]at e;cases k<;>cases e
 | some d=>
  cases k with
  |str s0=>
   cases d with
   |string=>exact⟨s0,fun s2=>by unfold HT;rw[hu]⟩
   |_=>unfold HT at e;rw[hu]at e;cases e
  |ptr r=>unfold HT at e;rw[hu]at e;cases r<;>cases d<;>cases e
  |map r=>unfold HT at e;rw[hu]at e;cases r<;>cases d<;>cases e
  |_=>unfold HT at e;rw[hu]at e;cases d<;>cases e
theorem KG{t:TypeId}{k:AB}:∀(es:List (AB×AB)) (i:Nat) {r:Option (Nat×AB)},es.all JD=true→Dd P t k es i=some r→
  (es=[]∧r=none)∨∃s,(∀s',HT P 10000 t k (.str s')=some (s==s'))∧((r=none∧∀p∈es,p.1≠.str s)∨∃j v,r=some (j,v)∧(AB.str s,v)∈es)
 |[],i,r,_,h=>by
  simp only[Dd,zd]at h;exact .inl ⟨rfl,h.symm⟩
 | (k',v)::es,i,r,L,h=>by
  simp only[zR,zh]at L;right;have hk':∃s',k'=.str s':=by
   have:=L.1;unfold JD at this;split at this
   ·rename_i s' _ e;exact⟨s',by cases e;rfl⟩
   ·cases this
  obtain⟨s',rfl⟩:=hk';have S:∃s,∀s',HT P 10000 t k (.str s')=some (s==s'):=by
   unfold Dd at h;cases e:HT P 10000 t k (.str s')with
   |none=>rw[e]at h;cases h
   |some b=>exact aL e
  obtain⟨s,S⟩:=S;refine⟨s,S,?_⟩;unfold Dd at h;rw[S s']at h;by_cases e:(s==s')=true
  ·rw[e]at h;simp only[zd]at h;have e':s=s':=by simpa using e
   exact .inr ⟨i,v,h.symm,by rw[e'];exact .head _⟩
  ·have e:(s==s')=false:=by simpa using e
   rw[e]at h;simp only at h;have hne:(AB.str s')≠.str s:=fun q=>by
    injection q with q;rw[q]at e;simp at e
   rcases KG es (i+1) L.2 h with⟨rfl,rfl⟩|⟨s2,h2,I⟩
   ·exact .inl ⟨rfl,fun p K=>by simp only[yT]at K;rw[K];exact hne⟩
   ·have e2:s2=s:=by
     have a:=S s;rw[h2 s]at a;simpa using a
    subst e2;rcases I with⟨rfl,I⟩|⟨j,u,rfl,I⟩
    ·refine .inl ⟨rfl,fun p K=>?_⟩;rcases zF.1 K with rfl|K
     ·exact hne
     ·exact I p K
    ·exact .inr ⟨j,u,rfl,.tail _ I⟩
theorem Ld{t:TypeId}{k:AB}{s:List UInt8}(S:∀s',HT P 10000 t k (.str s')=some (s==s')):∀(es:List (AB×AB)) (i:Nat),es.all JD=true→∃r,Dd P t k es i=some r
 |[],i,_=>⟨none,rfl⟩
 | (k',v)::es,i,L=>by
  simp only[zR,zh]at L;have hk':∃s',k'=.str s':=by
   have:=L.1;unfold JD at this;split at this
   ·rename_i s' _ e;exact⟨s',by cases e;rfl⟩
   ·cases this
  obtain⟨s',rfl⟩:=hk';unfold Dd;rw[S s'];cases s==s' with
  |true=>exact⟨_,rfl⟩
  |false=>exact Ld S es (i+1) L.2
theorem OA.hit{es es':List (AB×AB)}(h:OA es es'){t:TypeId}{k v:AB}{j:Nat}(D:Dd P t k es 0=some (some (j,v))):∃j2,Dd P t k es' 0=some (some (j2,v)):=by
 rcases h with rfl|⟨K,L,M⟩
 ·exact⟨j,D⟩
 ·have ha':es'.all JD=true:=by
   rw[zn]at L⊢;exact fun x F=>L x (K.mem_iff.1 F)
  rcases KG es 0 L D with⟨_,h⟩|⟨s,S,⟨h,_⟩|⟨j',v',h,hm⟩⟩
  ·cases h
  ·cases h
  ·cases h;obtain⟨r,C⟩:=Ld S es' 0 ha';rcases KG es' 0 ha' C with⟨e,_⟩|⟨s2,h2,I⟩
   ·rw[e]at K;have:=K.symm.eq_nil;rw[this]at hm;cases hm
   ·have e2:s2=s:=by
     have a:=S s;rw[h2 s]at a;simpa using a
    subst e2;rcases I with⟨_,I⟩|⟨j3,u,rfl,I⟩
    ·exact absurd rfl (I _ (K.mem_iff.2 hm))
    ·rw[RC M hm (K.mem_iff.1 I)];exact⟨j3,C⟩
theorem OA.FU{es es':List (AB×AB)}(h:OA es es'){t:TypeId}{k:AB}(D:Dd P t k es 0=some none):Dd P t k es' 0=some none:=by
 rcases h with rfl|⟨K,L,M⟩
 ·exact D
 ·have ha':es'.all JD=true:=by
   rw[zn]at L⊢;exact fun x F=>L x (K.mem_iff.1 F)
  rcases KG es 0 L D with⟨rfl,_⟩|⟨s,S,⟨_,hm⟩|⟨j',v',h,hm⟩⟩
  ·rw[K.eq_nil];rfl
  ·obtain⟨r,C⟩:=Ld S es' 0 ha';rcases KG es' 0 ha' C with⟨rfl,e⟩|⟨s2,h2,I⟩
   ·rfl
   ·have e2:s2=s:=by
     have a:=S s;rw[h2 s]at a;simpa using a
    subst e2;rcases I with⟨e,_⟩|⟨j3,u,rfl,I⟩
    ·rw[e]at C;exact C
    ·exact absurd rfl (hm _ (K.mem_iff.1 I))
  ·cases h
theorem Qi(r:Rel P w0 m h w){t:TypeId}{x k:AB}{x' k':Value}{ok:Bool}{v:AB}(F:VR m x x')(hk:VR m k k')
  (B:L1 P ((E4 x).bind h.get) t x k ok=some v):∃v',(Instr.lookup t x' k' ok).run P w=.ok v' w∧VR m v v':=by
 unfold L1 at B;split at B
 ·rename_i kt et rr hu;split at B
  ·rename_i hkey;obtain⟨d,hd⟩:=Kd hkey;have ents:∀es,(match rr with|none=>some []|some _=>match(E4 (.map rr)).bind h.get with|some (.map st es)=>if st≠0 then some es else none|_=>none)=some es→
     ∃en:Array MapEntry,((x'=.map none∧en=#[])∨∃g clock,x'=.map (some g)∧w.heap[g]?=some (.map en clock))∧∃es',OA es es'∧es'.length=en.toList.length∧∀(j:Nat) (a b:AB) (e:MapEntry),es'[j]?=some (a,b)→en.toList[j]?=some e→VR m a e.key∧VR m b e.val:=by
    intro es Q;cases rr with
    |none=>
     simp at Q;subst Q;cases F;exact⟨#[],.inl ⟨rfl,rfl⟩,[],.inl rfl,rfl,fun j a b e h=>by simp at h⟩
    | some id=>
     cases F with
     | map _ E U=>
      simp only[E4,za]at Q;split at Q
      ·rename_i st es' X;split at Q
       ·rename_i hst;injection Q with Q;subst Q;obtain⟨_,W⟩:=r.obj id E _ U X;obtain⟨es2,h0,en,clock,h1,h2,I,_⟩:=W hst;exact⟨en,.inr ⟨E.g,clock,rfl,h1⟩,es2,h0.find,by simpa using h2,fun j a b e L he=>I j a b e L (by simpa using he)⟩
       ·cases Q
      ·cases Q
   split at B
   ·rename_i es Q;obtain⟨en,g1,es',hfa,g2,g3⟩:=ents es Q;have hck:∀e,(Instr.checkKey e 10000 kt k').run P w=.ok () w:=fun e=>Ji 20 10000 kt k k' e (by omega) hk hkey;split at B
    ·rename_i j v0 D;injection B with B;subst B;obtain⟨j2,D⟩:=hfa.hit D;obtain⟨res',f1,f2⟩:=Fi (w:=w) hk hd g2 g3 D;cases res' with
     |none=>exact f2.elim
     | some p=>
      obtain⟨j',v'⟩:=p;obtain⟨_,_,_,H⟩:=f2;refine⟨if ok then .tuple #[v',.bool true]else v',?_,?_⟩
      ·rcases g1 with⟨rfl,rfl⟩|⟨g,clock,rfl,X⟩
       ·simp[Instr.lookup,Al w hu,hck,f1]
       ·simp[Instr.lookup,Al w hu,getObj,Sem.run,X,hck,f1]
      ·cases ok
       ·simpa using H
       ·simpa using CM.tuple (c:=#[v',.bool true]) (.cons H (.cons (.bool true) (.nil m)))
    ·rename_i D;cases N:JE P et with
     |none=>simp[N]at B
     | some z=>
      simp only[N,zj,zd]at B;subst B;obtain⟨res',f1,f2⟩:=Fi (w:=w) hk hd g2 g3 (hfa.FU D);cases res' with
      |some p=>exact f2.elim
      | none=>
       obtain⟨i,zz,hi,hiz,hvz⟩:=IF (m:=m) N;have hzv:(zeroValue et).run P w=.ok zz w:=by simp[zeroValue,typeInfo,hi,hiz]
       refine⟨if ok then .tuple #[zz,.bool false]else zz,?_,?_⟩
       ·rcases g1 with⟨rfl,rfl⟩|⟨g,clock,rfl,X⟩
        ·simp[Instr.lookup,Al w hu,hck,f1,hzv]
        ·simp[Instr.lookup,Al w hu,getObj,Sem.run,X,hck,f1,hzv]
       ·cases ok
        ·simpa using hvz
        ·simpa using CM.tuple (c:=#[zz,.bool false]) (.cons hvz (.cons (.bool false) (.nil m)))
    ·cases B
   ·cases B
  ·cases B
 ·cases B
theorem Uw{t:TypeId}{o:Nat}:Ha P none t o=none:=by
 unfold Ha;split
 ·cases CP P t<;>rfl
 ·rfl
 ·rfl
theorem U3{t:TypeId}{o:Nat}{cs:List AB}{v:AB}(D:∀a∈cs,Av.Ff a=true)(B:Ha P (some (.cells none 1 cs)) t o=some v):Av.I5 v=true:=by
 unfold Ha at B;split at B
 ·cases M:CP P t with
  |none=>simp[M]at B
  | some n=>
   simp only[M,za,Cf]at B;split at B
   ·simp only[zj,zd]at B;subst B;unfold Av.I5;rw[zn];intro a L;exact D a (qB (yE L))
   ·simp at B
 ·split at B
  ·rename_i x hc;injection B with B;subst B;simp only[Cf]at hc;split at hc
   ·injection hc with hc;have F:Av.Ff x=true:=D x (qB (yE (by rw[hc];simp)));cases x<;>simp_all[Av.I5,Av.Ff]
   ·cases hc
  ·cases B
 ·cases B
theorem Qq{G:Nat→Option (List AB)}(N:Bh G w0)(r:Rel P w0 m h w){fr:Fr}{a:Act}(D:FR m fr a){o:Oper}{v:AB}(C:Kx P G fr ((Dg fr o.op).bind h.get) o.op=some v):
  ∃v',(execOp a.eval o).run P w=.ok (.value v') w∧VR m v v':=by
 obtain⟨dst,op,ty,pos,aft,gd⟩:=o;simp only at C;have lift:∀{s:Sem Value} {u:AB},(∃v',s.run P w=.ok v' w∧VR m u v')→∃v',(do pure (.value (←s)):Sem Next).run P w=.ok (.value v') w∧VR m u v':=by
  rintro s u ⟨v',h1,h2⟩;exact⟨v',by simp[h1],h2⟩
 cases op with
 | load t x=>
  simp only[Kx,Dg]at C;split at C
  ·rename_i id o F;rw[F]at C;simp only[E4,za]at C;have H:=D.ev x;rw[F]at H;generalize V:a.eval x=y at H;cases H with
   |ptr _ _ E U=>
    obtain⟨v',h1,h2⟩:=Lz r U C;exact lift ⟨v',by simp[Instr.loadAt,Instr.sureAddr,V,h1],h2⟩
  ·rename_i gl o F;have H:=D.ev x;rw[F]at H;generalize V:a.eval x=y at H;cases H with
   | Jw _ _=>
    cases hG:G gl with
    |none=>rw[hG]at C;simp only[Option.map_none]at C;rw[Uw]at C;cases C
    |some cs=>
     rw[hG]at C;simp only[zj]at C;obtain⟨tot,r',hfl⟩:=N.rel (P:=P) r.below hG;obtain⟨v',h1,h2⟩:=Lz (id:=0) (o:=o) (E:=⟨gl,0,0,tot⟩) r' (by simp) (by rw[AI.Ct];exact C);refine lift ⟨v',by simp only[yq]at h1;simp[Instr.loadAt,Instr.sureAddr,V,h1],?_⟩;exact h2.I5 (U3 hfl C)
  ·rename_i cs F;have H:=D.ev x;rw[F]at H;generalize V:a.eval x=y at H;cases H with
   |A0 g o _ c hf1 hv1=>
    obtain⟨v',h1,h2⟩:=Uk r hf1 hv1 C;exact lift ⟨v',by simp[Instr.loadAt,Instr.sureAddr,V,h1],h2⟩
  ·cases C
 |slice t x lo hi mx=>
  cases mx with
  |some y=>simp[Kx]at C
  |none=>simp only[Kx,Dg]at C;exact lift (SN r (D.ev x) (Vl D lo) (Vl D hi) C)
 |convert s d x=>simp only[Kx,Dg]at C;exact lift (Sg r (D.ev x) C)
 |lookup t x k ok=>simp only[Kx,Dg]at C;exact lift (Qi r (D.ev x) (D.ev k) C)
 | call c=>
  obtain⟨callee,as,ts⟩:=c;cases callee with
  |value f=>simp[Kx]at C
  |invoke r mth=>simp[Kx]at C
  | builtin b=>
   cases b<;>simp only[Kx]at C<;>try (cases C;done)
   simp only[Dg]at C;split at C
   ·rename_i x heq;have has:as=#[x]:=Array.ext' (by simpa using heq);subst has;obtain⟨v',h1,h2⟩:=Ui (P:=P) r (ty:=ty) (D.ev x) C;have res:∀(w:World),(resolve a.eval {callee:=.builtin .len,args:=#[x],argTypes:=ts} ty).run P w=.ok {target:=.builtin .len ts ty (#[x].map fun| .const _=>true|_=>false),args:=#[x].map a.eval} w:=fun w=>rfl;exact⟨v',by simp[execOp,res,invoke,builtin,h1],h2⟩
   ·cases C
 |_=>simp[Kx]at C
end
end Go.Av
