/-
 A part.
-/
import Derived.Test.YtgkbpgefomapgaaGreatDoorAvOpP
set_option linter.unusedSimpArgs false
namespace Go.Av
open Go.RowKit
section
variable {P:Program} {w0:World} {m:CU} {h:AS} {w:World}
theorem Rel.cells(r:Rel P w0 m h w){id o n:Nat}{E:NQ}{cs:List AE}(W:m id=some E)(hc:Dy (h.get id) o n=some cs):
  ∃ds:List Value,ds.length=n/\Dt m cs ds/\(∀(j:Nat) (v:Value),ds[j]?=some v->w.cell? ((⟨E.g,E.base+o,none⟩:Addr).add j)=some v)/\(∀a∈cs,a.one=true):=by
 unfold Dy at hc;split at hc
 ·rename_i gr st l Z;split at hc
  ·rename_i K;injection hc with hc;subst hc;obtain⟨_,Y⟩:=r.obj id E _ W Z;obtain⟨cur,e,fz,h1,C,J,_⟩:=Y K.1;have hlen:∀j,j<l.length->E.base+j<cur.size:=λj R=>by
    obtain⟨_,c,hc,_⟩:=J j _ (List.getElem?_eq_getElem R);exact(Array.getElem?_eq_some_iff.1 hc).1
   have key:∀j,j<n->(cur.toList.drop (E.base+o))[j]?=cur[E.base+(o+j)]?:=λj R=>by
    rw[List.getElem?_drop,zZ];simp
   refine⟨(cur.toList.drop (E.base+o)).take n,?_,⟨?_,?_⟩,?_,?_⟩
   ·rcases yK n with h0|h0
    ·simp[h0]
    ·have:=hlen (o+n - 1) (by omega);simp;omega
   ·have:n<=cur.size - (E.base+o):=by
     rcases yK n with h0|h0
     ·omega
     ·have:=hlen (o+n - 1) (by omega);omega
    simp;omega
   ·intro j x y H X;rw[List.getElem?_take]at H X;split at H
    ·rename_i R;rw[zk R,key j R]at X;rw[List.getElem?_drop]at H;obtain⟨_,c,hc,I⟩:=J (o+j) x H;rw[hc]at X;injection X with X;subst X;exact I
    ·cases H
   ·intro j v I;rw[List.getElem?_take]at I;split at I
    ·rename_i R;rw[key j R]at I;rw[Addr.add_lit,cell_of_row w E.g _ cur e fz h1,<-I,zZ]
    ·cases I
   ·intro a N;obtain⟨j,R⟩:=qi.1 N;rw[List.getElem?_take]at R;split at R
    ·rw[List.getElem?_drop]at R;exact(J _ a R).1
    ·cases R
  ·cases hc
 ·cases hc
theorem Rp{ob:Option Dc}{A:Addr}{o:Nat}{t:TypeId}{v:AE}(hcl:∀n cs,Dy ob o n=some cs->∃ds:List Value,ds.length=n/\Dt m cs ds/\(∀(j:Nat) (v:Value),ds[j]?=some v->w.cell? (A.add j)=some v))(B:Im P ob t o=some v):
  ∃v',(loadVar t A).run P w=.ok v' w/\VR m v v':=by
 unfold Im at B;split at B
 ·rename_i N;cases O:Dn P t with
  |none=>simp[O]at B
  | some n=>
   simp only[O,za]at B;cases hc:Dy ob o n with
   |none=>simp[hc]at B
   |some cs=>
    simp only[hc,zf,zd]at B;subst B;obtain⟨ds,h1,C,J⟩:=hcl _ _ hc;subst h1;refine⟨.agg ds.toArray,?_,Dt.agg (by simpa using C)⟩;simp[loadVar,Mz w N,run_sizeOf w O,run_loadCells_list w A ds J]
 ·rename_i N;split at B
  ·rename_i x hc;injection B with B;subst B;obtain⟨ds,h1,C,J⟩:=hcl _ _ hc
   match ds,h1 with
   |[d],_=>
    refine⟨d,?_,C.2 0 x d rfl rfl⟩;have:=J 0 d rfl;simp only[Addr.add_zero']at this;simp[loadVar,Mz w N,this]
  ·cases B
 ·cases B
theorem Mx(r:Rel P w0 m h w){id o:Nat}{t:TypeId}{E:NQ}{v:AE}(W:m id=some E)(B:Im P (h.get id) t o=some v):
  ∃v',(loadVar t ⟨E.g,E.base+o,none⟩).run P w=.ok v' w/\VR m v v':=
 Rp (λn cs hc=>by obtain⟨ds,h1,C,J,_⟩:=r.cells W hc;exact⟨ds,h1,C,J⟩) B
theorem Rel.PF(r:Rel P w0 m h w){g o:Nat}{a:List AE}{c:Nat->Value}(F:∀i,i<a.length->m.fz g (o+i)=some (c i))(I:∀(i:Nat) (x:AE),a[i]?=some x->VR m x (c i)):
  ∃ds:List Value,ds.length=a.length/\Dt m a ds/\(∀(j:Nat) (v:Value),ds[j]?=some v->w.cell? ((⟨g,o,none⟩:Addr).add j)=some v):=by
 refine⟨(List.range a.length).map c,by simp,⟨by simp,λi x y H X=>?_⟩,λj v R=>?_⟩
 ·rw[List.getElem?_map]at X;have hi:=(List.getElem?_eq_some_iff.1 H).1;rw[List.getElem?_range hi]at X;simp only[zf,zd]at X;subst X;exact I i x H
 ·rw[List.getElem?_map]at R;by_cases hi:j<a.length
  ·rw[List.getElem?_range hi]at R;simp only[zf,zd]at R;subst R;obtain⟨cur,e,z,h1,C⟩:=r.fz g (o+j) _ (F j hi);rw[Addr.add_lit,cell_of_row w g _ cur e z h1,C]
  ·rw[List.getElem?_eq_none (by simpa using hi)]at R;cases R
theorem US(r:Rel P w0 m h w){t:TypeId}{g o:Nat}{a:List AE}{c:Nat->Value}{v:AE}(F:∀i,i<a.length->m.fz g (o+i)=some (c i))(I:∀(i:Nat) (x:AE),a[i]?=some x->VR m x (c i))
  (B:Im P (some (.cells none 1 a)) t 0=some v):∃v',(loadVar t ⟨g,o,none⟩).run P w=.ok v' w/\VR m v v':=by
 refine Rp (λn cs hc=>?_) B;unfold Dy at hc;simp only at hc;split at hc
 ·rename_i K;injection hc with hc;subst hc;obtain⟨ds,h1,C,J⟩:=r.PF F I;refine⟨ds.take n,by rw[zP];omega,by rw[yn];exact C.take n,λj v R=>J j v ?_⟩;rw[List.getElem?_take]at R;split at R
  ·exact R
  ·cases R
 ·cases hc
theorem K1:∀(cs:List AE) (ds:List Value) (s:List UInt8),Dt m cs ds->bytesOf cs=some s->
  (∀d∈ds,∃n,d=.int .u8 n)/\s=ds.map (λd=>UInt8.ofNat (match d with| .int _ n=>n.toNat|_=>0))
 |[],ds,s,I,K=>by
  have:ds=[]:=zt (by simpa using I.1.symm);subst this;simp[bytesOf]at K;subst K;simp
 |c::cs,[],s,I,_=>by simp[Dt]at I
 | c::cs,d::ds,s,I,K=>by
  have hc:=I.2 0 c d rfl rfl;have hv':Dt m cs ds:=⟨by simpa using I.1,λi x y H X=>I.2 (i+1) x y (by simpa using H) (by simpa using X)⟩;unfold bytesOf at K;split at K
  ·rename_i heq;cases heq
  ·rename_i n r heq;injection heq with e1 e2;subst e1;subst e2;have:=hc.EN;subst this;cases D:bytesOf cs with
   |none=>simp[D]at K
   |some s'=>
    simp only[D,zf,zd]at K;subst K;obtain⟨h1,C⟩:=K1 cs ds s' hv' D;refine⟨λx H=>?_,by simp[C]⟩;cases H with
    |head=>exact⟨n,rfl⟩
    |tail _ H=>exact h1 x H
  ·cases K
theorem Nd(w:World):∀(ds:List Value) (acc:ByteArray),(∀d∈ds,∃n,d=.int .u8 n)->
  (forIn (m:=Sem) ds acc λc s=>match c with
   | .int .u8 n=>pure (.yield (s.push (UInt8.ofNat n.toNat)))
   |_=>do
    stuck "bytesToString: byte expected"
    pure (.yield s)).run P w=.ok ⟨acc.data++(ds.map (λd=>UInt8.ofNat (match d with| .int _ n=>n.toNat|_=>0))).toArray⟩ w
 |[],acc,_=>by simp
 |d::ds,acc,hd=>by
  obtain⟨n,rfl⟩:=hd d (by simp);have ih:=Nd w ds (acc.push (UInt8.ofNat n.toNat)) λx H=>hd x (by simp[H]);simp only[qF,Sem.run_bind,Sem.run_pure,Result.andThen_ok];refine ih.trans ?_;congr 2;apply Array.ext';simp[ByteArray.push]
theorem TD(r:Rel P w0 m h w){src dst:TypeId}{x:AE}{x':Value}{v:AE}(H:VR m x x')
  (B:R7 P ((Gb x).bind h.get) src dst x=some v):∃v',(convert src dst x').run P w=.ok v' w/\VR m v v':=by
 unfold R7 at B;split at B
 ·rename_i e rr n U hd;split at B
  ·rename_i he;split at B
   ·injection B with B;subst B;refine⟨.string .empty,?_,.str .empty⟩;cases H<;>simp[convert,BJ w U,BJ w hd,BJ w he,Conv.bytesToString,loadCells,loadCellsFrom]
   ·rename_i id o;cases H with
    | slice _ _ _ cap E a W hle hc=>
     split at B
     ·rename_i O;subst O;injection B with B;subst B;refine⟨.string .empty,?_,.str .empty⟩;simp[convert,BJ w U,BJ w hd,BJ w he,Conv.bytesToString,loadCells,loadCellsFrom]
     ·rename_i O;obtain⟨N,_⟩:=hc (by omega);subst N;simp only[Gb,za]at B;cases hcs:Dy (h.get id) o n with
      |none=>simp[hcs]at B
      | some cs=>
       simp only[hcs,za]at B;cases K:bytesOf cs with
       |none=>simp[K]at B
       |some s=>
        simp only[K,zf,zd]at B;subst B;obtain⟨ds,h1,C,J,_⟩:=r.cells W hcs;subst h1;obtain⟨g1,g2⟩:=K1 cs ds s C K;refine⟨.string ⟨⟨s⟩⟩,?_,.str ⟨⟨s⟩⟩⟩;have L:=Nd (P:=P) w ds ByteArray.empty g1;simp only[convert,Sem.run_bind,BJ w U,BJ w hd,BJ w he,Result.andThen_ok,Conv.bytesToString,run_loadCells_list w ⟨E.g,E.base+o,none⟩ ds J];rw[<-qs];refine(congrArg (λx=>Result.andThen x λa w'=>Sem.run P (pure (Value.string a)) w') L).trans ?_;rw[g2];simp only[Result.andThen_ok,Sem.run_pure];congr 2;apply ByteArray.ext;apply Array.ext';simp
  ·cases B
 ·rename_i e n cs U hd;split at B
  ·rename_i he;split at B
   ·rename_i O;cases K:bytesOf cs with
    |none=>simp[K]at B
    | some s=>
     simp only[K,zf,zd]at B;subst B;have main:∀(A:Option Addr) (cap:Nat) (ds:List Value),ds.length=n->Dt m cs ds->(∀A',A=some A'->∀(j:Nat) (v:Value),ds[j]?=some v->w.cell? (A'.add j)=some v)->(A=none->ds=[])->
       ∃v',(convert src dst (.slice A n cap)).run P w=.ok v' w/\VR m (.str s) v':=by
      intro A cap ds h1 C J h4;subst h1;obtain⟨g1,g2⟩:=K1 cs ds s C K;refine⟨.string ⟨⟨s⟩⟩,?_,.str ⟨⟨s⟩⟩⟩;cases A with
      |none=>
       have:=h4 rfl;subst this;simp at g2;subst g2;simp[convert,BJ w U,BJ w hd,BJ w he,Conv.bytesToString];rfl
      |some A'=>
       have L:=Nd (P:=P) w ds ByteArray.empty g1;simp only[convert,Sem.run_bind,BJ w U,BJ w hd,BJ w he,Result.andThen_ok,Conv.bytesToString,run_loadCells_list w A' ds (J A' rfl)];rw[<-qs];refine(congrArg (λx=>Result.andThen x λa w'=>Sem.run P (pure (Value.string a)) w') L).trans ?_;rw[g2];simp only[Result.andThen_ok,Sem.run_pure];congr 2;apply ByteArray.ext;apply Array.ext';simp
     cases H with
     |ND A cap=>exact main A cap [] rfl (Dt.nil m) (λA' _ j v R=>by simp at R) (λ_=>rfl)
     |Jd _ cap g o _ c hc F I=>
      obtain⟨ds,h1,C,J⟩:=r.PF F I;exact main _ cap ds (by omega) C (λA' hA'=>by injection hA' with hA';subst hA';exact J) (λh=>by cases h)
   ·cases B
  ·cases B
 ·cases B
theorem SU(r:Rel P w0 m h w){t:TypeId}{x:AE}{x':Value}{lo hi:Option AE}{lo' hi':Option Value}{v:AE}(H:VR m x x')(hlo:Zd m lo lo')(hhi:Zd m hi hi')
  (B:QJ P ((Gb x).bind h.get) t x lo hi=some v):
  ∃v',(Instr.sliceAt t x' lo' hi' none).run P w=.ok v' w/\VR m v v':=by
 unfold QJ at B;split at B
 ·-- an array behind a pointer
  rename_i n e id o hu;simp only[Gb,za]at B;cases H with
  | ptr _ _ E W=>
   split at B
   ·rename_i st cs Z;cases Q:Dn P e with
    |none=>simp[Q]at B
    | some z=>
     simp only[Q,za]at B;cases K:Fg n lo hi with
     |none=>simp[K]at B
     |some lu=>
      obtain⟨l,u⟩:=lu;simp only[K,zf,zd]at B;subst B;obtain⟨V,h1,C⟩:=HE (P:=P) w (c:=n) false hlo hhi (zo _) K;have T:E.VX=0:=(r.obj id E _ W Z).1.1.1;refine⟨.slice (some (if n=l then⟨E.g,E.base+o,none⟩else⟨E.g,E.base+(o+l*z),none⟩)) (u - l) (n - l),?_,.slice id (o+l*z) (u - l) (n - l) E _ W (by omega) (λhne=>⟨by rw[zm (by omega)],λh=>absurd T h⟩)⟩;simp[Instr.sliceAt,BJ w hu,Instr.sureAddr,V,run_sizeOf w Q,Addr.add_lit,zZ]
   ·cases B
 ·-- a nil slice
  rename_i e hu;obtain⟨A,rfl⟩:∃A:Option Addr,x'=.slice A 0 0:=by
   cases H with
   |GI=>exact⟨none,rfl⟩
   |G8 a=>exact⟨some a,rfl⟩
  cases Q:Dn P e with
  |none=>simp[Q]at B
  | some z=>
   simp only[Q,za]at B;cases K:Fg 0 lo hi with
   |none=>simp[K]at B
   |some lu=>
    obtain⟨l,u⟩:=lu;simp only[K,zf,zd]at B;subst B;obtain⟨V,h1,C⟩:=HE (P:=P) w (c:=0) true hlo hhi (zo _) K;have hu0:u=0:=by omega
    have hl0:l=0:=by omega
    subst hu0;subst hl0;refine⟨.slice A 0 0,?_,by cases A with|none=>exact .GI|some a=>exact .G8 a⟩;cases A<;>simp[Instr.sliceAt,Instr.slice,BJ w hu,V,run_sizeOf w Q]
 ·-- a still one
  rename_i e n cs hu;cases Q:Dn P e with
  |none=>simp[Q]at B
  | some z=>
   simp only[Q,za]at B;split at B
   ·rename_i hlen;cases K:Fg n lo hi with
    |none=>simp[K]at B
    | some lu=>
     obtain⟨l,u⟩:=lu;simp only[K,zf,zd]at B;subst B;cases H with
     |ND A cap=>
      obtain⟨V,h1,C⟩:=HE (P:=P) w (c:=cap) true hlo hhi (zS _) K;have hu0:u=0:=by omega
      have hl0:l=0:=by omega
      subst hu0;subst hl0;refine⟨.slice (if cap=0 then A else A.map (·.add (0*z))) 0 cap,?_,?_⟩
      ·cases A<;>simp only[Instr.sliceAt,Instr.slice,Sem.run_bind,BJ w hu,Result.andThen_ok,V,run_sizeOf w Q,Sem.run_pure]<;>by_cases e:cap=0<;>simp[e]
      ·simpa using VR.ND _ _
     | Jd _ cap g o _ c hc F I=>
      obtain⟨V,h1,C⟩:=HE (P:=P) w (c:=cap) true hlo hhi hc K;by_cases he:cap=l
      ·have hu0:u=l:=by omega
       subst hu0;refine⟨.slice (some ⟨g,o,none⟩) 0 0,?_,?_⟩
       ·simp only[Instr.sliceAt,Instr.slice,Sem.run_bind,BJ w hu,Result.andThen_ok,V,run_sizeOf w Q,Sem.run_pure];simp[he]
       ·simpa using VR.ND _ _
      ·refine⟨.slice (some ⟨g,o+l*z,none⟩) (u - l) (cap - l),?_,?_⟩
       ·simp only[Instr.sliceAt,Instr.slice,Sem.run_bind,BJ w hu,Result.andThen_ok,V,run_sizeOf w Q,Sem.run_pure];simp[he,Addr.add_lit]
       ·have hd:=VR.R5 (VR.M8 F I (l*z)) ((u - l)*z);cases hd with
        |BL _ _ _ c' hf' hv'=>exact .Jd _ _ _ _ _ c' (by omega) hf' hv'
   ·cases B
 ·-- a slice
  rename_i e id o n hu;simp only[Gb,za]at B;cases H with
  | slice _ _ _ cap E a W hle hc=>
   have main:∀z,Dn P e=some z->(E.VX≠0->E.VX=z)->∀l u,Fg n lo hi=some (l,u)->
     ∃v',(Instr.sliceAt t (.slice (some a) n cap) lo' hi' none).run P w=.ok v' w/\VR m (.slice (some (id,o+l*z)) (u - l)) v':=by
    intro z Q T l u K;obtain⟨V,h1,C⟩:=HE (P:=P) w (c:=cap) true hlo hhi hle K;refine⟨.slice (some (if cap=l then a else a.add (l*z))) (u - l) (cap - l),?_,.slice id (o+l*z) (u - l) (cap - l) E _ W (by omega) (λhne=>?_)⟩
    ·simp only[Instr.sliceAt,Instr.slice,Sem.run_bind,BJ w hu,Result.andThen_ok,V,run_sizeOf w Q,Sem.run_pure];by_cases e:cap=l<;>simp[e]
    ·obtain⟨N,hbd⟩:=hc (by omega);subst N;rw[zm (by omega),Addr.add_lit];refine⟨by rw[zZ],λhz0=>?_⟩;have J:=hbd hz0;have h4:=T hz0;rw[<-h4];have:l*E.VX+(cap - l)*E.VX=cap*E.VX:=by rw[<-yh];congr 1;omega
     omega
   split at B
   ·rename_i st cs z Z Q;have T:E.VX=0:=(r.obj id E _ W Z).1.1.1;cases K:Fg n lo hi with
    |none=>simp[K]at B
    |some lu=>
     obtain⟨l,u⟩:=lu;simp only[K,zf,zd]at B;subst B;exact main z Q (λh=>absurd T h) l u K
   ·rename_i e' st cs z Z Q;have T:E.VX=P.cellsOf e':=(r.obj id E _ W Z).1.1.1;split at B
    ·rename_i hz';cases K:Fg n lo hi with
     |none=>simp[K]at B
     |some lu=>
      obtain⟨l,u⟩:=lu;simp only[K,zf,zd]at B;subst B;refine main z Q (λ_=>?_) l u K;rw[T];unfold Dn at hz';unfold Program.cellsOf;rw[hz'];rfl
    ·cases B
   ·cases B
 ·cases B
theorem Uc(r:Rel P w0 m h w){ts:Array TypeId}{ty:TypeId}{x:AE}{x':Value}{v:AE}(H:VR m x x')
  (B:Zn P ((Gb x).bind h.get) ts x=some v):∃v',(Builtin.len_ ts ty #[x']).run P w=.ok v' w/\VR m v v':=by
 unfold Zn at B;split at B
 ·cases B
 ·rename_i t ht;split at B
  ·rename_i k e hu;injection B with B;subst B;cases H;exact⟨_,by simp[Builtin.len_,ht,BJ w hu,goInt],.int _ _⟩
  ·rename_i k e id hu;simp only[Gb,za]at B;cases H with
   | map _ E W=>
    split at B
    ·rename_i st es Z;split at B
     ·rename_i hst;injection B with B;subst B;obtain⟨_,Y⟩:=r.obj id E _ W Z;obtain⟨es',h0,ents,clock,h1,C,_⟩:=Y hst;rw[h0.len]at C;exact⟨.int .i64 es.length,by simp[Builtin.len_,ht,BJ w hu,goInt,getObj,Sem.run,h1,C],.int _ _⟩
     ·cases B
    ·cases B
  ·rename_i dir e id hu;simp only[Gb,za]at B;cases H with
   | chan _ E W=>
    split at B
    ·rename_i cap buf Z;injection B with B;subst B;obtain⟨bs,sn,rc,h1,C⟩:=r.obj id E _ W Z;exact⟨.int .i64 buf.length,by simp[Builtin.len_,ht,BJ w hu,goInt,getObj,Sem.run,h1,C.1],.int _ _⟩
    ·cases B
  ·cases B
theorem Kq:∀(d d':Nat) (t:TypeId) (k:AE) (k':Value) (e:Bool),d<=d'->VR m k k'->HM P d t k=true->(Instr.checkKey e d' t k').run P w=.ok () w
 |0,_,_,_,_,_,_,_,M=>by simp[HM]at M
 |d+1,0,_,_,_,_,hd,_,_=>by omega
 | d +1,d'+1,t,k,k',e,hd,I,M=>by
  have ih:=λt k k'=>Kq d d' t k k' e (by omega);unfold HM at M;split at M
  ·rename_i hu;have:=I.EN;subst this;simp[Instr.checkKey,BJ w hu]
  ·rename_i hu;have:=I.Ff;subst this;simp[Instr.checkKey,BJ w hu]
  ·rename_i hu;have:=I.K6;subst this;simp[Instr.checkKey,BJ w hu]
  ·rename_i fs cs hu;obtain⟨ds,rfl,vd⟩:=I.Hn;simp only[Instr.checkKey,Sem.run_bind,BJ w hu,Result.andThen_ok];rw[<-qs];generalize fs.toList=l at M
   induction l with
   |nil=>simp
   | cons f l ihl=>
    simp only[yF,zj]at M;obtain⟨⟨O,L⟩,D⟩:=M;have hn':f.name≠"_":=by simpa using O
    cases hpa:IN P f.type cs f.offset with
    |none=>simp[hpa]at L
    |some x=>
     simp only[hpa]at L;obtain⟨y,r1,vy⟩:=JZ (P:=P) w vd hpa;have:=ih f.type x y vy L;have J:=ihl D;simp only[qF,Sem.run_bind];rw[zk hn'];simp only[Sem.run_bind,r1,this,Result.andThen_ok,Sem.run_pure];simpa using J
  ·rename_i n el cs hu;obtain⟨ds,rfl,vd⟩:=I.Hn;split at M
   ·rename_i z Q;simp only[Instr.checkKey,Sem.run_bind,BJ w hu,Result.andThen_ok];simp only[Std.Legacy.Range.forIn_eq_forIn_range',Std.Legacy.Range.size,qw,Nat.add_one_sub_one,Nat.div_one,List.range_eq_range']at M⊢;generalize List.range' 0 n=l at M
    induction l with
    |nil=>simp
    | cons j l ihl=>
     simp only[yF,zj]at M;obtain⟨L,D⟩:=M;cases hpa:IN P el cs (j*z)with
     |none=>simp[hpa]at L
     |some x=>
      simp only[hpa]at L;obtain⟨y,r1,vy⟩:=JZ (P:=P) w vd hpa;have:=ih el x y vy L;have J:=ihl D;simp only[qF,Sem.run_bind,run_sizeOf w Q,Result.andThen_ok,r1,this,Sem.run_pure];simpa using J
   ·cases M
  ·cases M
def Nf(m:CU)(lo hi:Nat):Option (Nat×AE)->Option (Nat×Value)->Prop
 |none,none=>True
 |some (j,v),some (j',v')=>j=j'/\lo<=j/\j<hi/\VR m v v'
 |_,_=>False
theorem Nf.weaken{lo lo' hi hi':Nat}(h1:lo'<=lo)(C:hi<=hi'):∀{x:Option (Nat×AE)} {y:Option (Nat×Value)},Nf m lo hi x y->Nf m lo' hi' x y
 |none,none,_=>trivial
 |some (_,_),some (_,_),h=>⟨h.1,zV h1 h.2.1,zR h.2.2.1 C,h.2.2.2⟩
theorem NP{kt:TypeId}{k a:AE}{k' a':Value}{d:TypeDesc}{b:Bool}(M:VR m k k')(N:VR m a a')(hd:P.underlying kt=some d)(he:Jc P 10000 kt k a=some b)(w:World):
  Instr.sameNow d k' a'=none\/Instr.sameNow d k' a'=some b:=by
 have hrun:=Ka (P:=P) w 10000 kt k a k' a' b M N he;unfold Instr.sameNow;split
 ·rename_i kk n k2 n2;by_cases hkk:kk=k2
  ·subst hkk;have e:=hrun.symm.trans (run_equalIn_int w 9999 kt kk _ n n2 hd);injection e with e;right;simp[e]
  ·left;simp[hkk]
 ·rename_i s1 s2;have e:=hrun.symm.trans (run_equalIn_string w 9999 kt s1 s2 hd);injection e with e;right;rw[e,beq_toListBytes]
 ·rename_i b1 b2;have e:=hrun.symm.trans (run_equalIn_bool w 9999 kt b1 b2 hd);injection e with e;right;rw[e]
 ·exact .inl rfl
theorem PV{kt:TypeId}{k:AE}{k':Value}(M:VR m k k'):∀(es:List (AE×AE)) (ents:List MapEntry) (i:Nat) (res:Option (Nat×AE)),
  es.length=ents.length->(∀(j:Nat) (a b:AE) (e:MapEntry),es[j]?=some (a,b)->ents[j]?=some e->VR m a e.key/\VR m b e.val)->Eo P kt k es i=some res->
  (∃res',(Instr.findAsking kt k' ents i).run P w=.ok res' w/\Nf m i (i+es.length) res res')/\
   (∀d,P.underlying kt=some d->Instr.findNow d k' ents i=none\/∃res',Instr.findNow d k' ents i=some res'/\Nf m i (i+es.length) res res')
 |[],ents,i,res,B,_,F=>by
  have:ents=[]:=zt B.symm;subst this;simp[Eo]at F;subst F;exact⟨⟨none,by simp[Instr.findAsking],trivial⟩,λd _=>.inr ⟨none,rfl,trivial⟩⟩
 |(a,b)::es,[],_,_,B,_,_=>by simp at B
 | (a,b)::es,e::ents,i,res,B,L,F=>by
  obtain⟨va,vb⟩:=L 0 a b e rfl rfl;have hp':∀(j:Nat) (a b:AE) (e:MapEntry),es[j]?=some (a,b)->ents[j]?=some e->VR m a e.key/\VR m b e.val:=λj a b e' h1 C=>L (j+1) a b e' (by simpa using h1) (by simpa using C);unfold Eo at F;split at F
  ·rename_i he;injection F with F;subst F;have hfr:Nf m i (i+((a,b)::es).length) (some (i,b)) (some (i,e.val)):=⟨rfl,zo _,by simp,vb⟩;refine⟨⟨some (i,e.val),?_,hfr⟩,λd hd=>?_⟩
   ·have:=Ka (P:=P) w 10000 kt k a k' e.key true M va he;simp[Instr.findAsking,Op.equal,Op.maxDepth,this]
   ·rcases NP M va hd he w with O|O
    ·left;simp[Instr.findNow,O]
    ·right;exact⟨some (i,e.val),by simp[Instr.findNow,O],hfr⟩
  ·rename_i he;obtain⟨⟨res',h1,C⟩,J⟩:=PV M es ents (i+1) res (by simpa using B) hp' F;have wk:i+1+es.length<=i+((a,b)::es).length:=by simp;omega
   refine⟨⟨res',?_,C.weaken (by omega) wk⟩,λd hd=>?_⟩
   ·have:=Ka (P:=P) w 10000 kt k a k' e.key false M va he;simp[Instr.findAsking,Op.equal,Op.maxDepth,this,h1]
   ·rcases NP M va hd he w with O|O
    ·left;simp[Instr.findNow,O]
    ·rcases J d hd with h4|⟨res2,h4,h5⟩
     ·left;simp[Instr.findNow,O,h4]
     ·right;exact⟨res2,by simp[Instr.findNow,O,h4],h5.weaken (by omega) wk⟩
  ·cases F
theorem HI{kt:TypeId}{k:AE}{k':Value}(M:VR m k k'){es:List (AE×AE)}{ents:List MapEntry}{res:Option (Nat×AE)}{d:TypeDesc}(hd:P.underlying kt=some d)
  (B:es.length=ents.length) (L:∀(j:Nat) (a b:AE) (e:MapEntry),es[j]?=some (a,b)->ents[j]?=some e->VR m a e.key/\VR m b e.val) (F:Eo P kt k es 0=some res):
  ∃res',(Instr.findKey kt k' ents).run P w=.ok res' w/\Nf m 0 es.length res res':=by
 obtain⟨⟨r1,h1,C⟩,J⟩:=PV (w:=w) M es ents 0 res B L F;rcases J d hd with O|⟨r2,O,h4⟩
 ·exact⟨r1,by simp[Instr.findKey,BJ w hd,O,h1],C.weaken (zo _) (by omega)⟩
 ·exact⟨r2,by simp[Instr.findKey,BJ w hd,O],h4.weaken (zo _) (by omega)⟩
theorem Ll{kt:TypeId}{k:AE}{n:Nat}(M:HM P n kt k=true):∃d,P.underlying kt=some d:=by
 cases n with
 |zero=>simp[HM]at M
 |succ n=>
  cases hd:P.underlying kt with
  |some d=>exact⟨d,rfl⟩
  |none=>simp[HM,hd]at M
def Ol(es es':List (AE×AE)):Prop:=es'=es\/(es'.Perm es/\es.all Mc=true/\(es.map Prod.fst).Nodup)
theorem OD.find{st:Nat}{es es':List (AE×AE)}(h:OD st es es'):Ol es es':=by
 by_cases e:st=3
 ·exact .inr (h.perm e)
 ·exact .inl (h.same e)
theorem Yi{t:TypeId}{k:AE}{s':List UInt8}{b:Bool}(e:Jc P 10000 t k (.str s')=some b):∃s,∀s',Jc P 10000 t k (.str s')=some (s==s'):=by
 change Jc P (9999+1) t k (.str s')=some b at e;show ∃s,∀s',Jc P (9999+1) t k (.str s')=some (s==s');cases hu:P.underlying t with
 |none=>unfold Jc at e;rw[hu]at e;cases k<;>cases e
 | some d=>
  cases k with
  |str s0=>
   cases d with
   |string=>exact⟨s0,λs2=>by unfold Jc;rw[hu]⟩
   |_=>unfold Jc at e;rw[hu]at e;cases e
  |ptr r=>unfold Jc at e;rw[hu]at e;cases r<;>cases d<;>cases e
  |map r=>unfold Jc at e;rw[hu]at e;cases r<;>cases d<;>cases e
  |_=>unfold Jc at e;rw[hu]at e;cases d<;>cases e
theorem LV{t:TypeId}{k:AE}:∀(es:List (AE×AE)) (i:Nat) {r:Option (Nat×AE)},es.all Mc=true->Eo P t k es i=some r->
  (es=[]/\r=none)\/∃s,(∀s',Jc P 10000 t k (.str s')=some (s==s'))/\((r=none/\∀p∈es,p.1≠.str s)\/∃j v,r=some (j,v)/\(AE.str s,v)∈es)
 |[],i,r,_,h=>by
  simp only[Eo,zd]at h;exact .inl ⟨rfl,h.symm⟩
 | (k',v)::es,i,r,N,h=>by
  simp only[yF,zj]at N;right;have hk':∃s',k'=.str s':=by
   have:=N.1;unfold Mc at this;split at this
   ·rename_i s' _ e;exact⟨s',by cases e;rfl⟩
   ·cases this
  obtain⟨s',rfl⟩:=hk';have U:∃s,∀s',Jc P 10000 t k (.str s')=some (s==s'):=by
   unfold Eo at h;cases e:Jc P 10000 t k (.str s')with
   |none=>rw[e]at h;cases h
   |some b=>exact Yi e
  obtain⟨s,U⟩:=U;refine⟨s,U,?_⟩;unfold Eo at h;rw[U s']at h;by_cases e:(s==s')=true
  ·rw[e]at h;simp only[zd]at h;have e':s=s':=by simpa using e
   exact .inr ⟨i,v,h.symm,by rw[e'];exact .head _⟩
  ·have e:(s==s')=false:=by simpa using e
   rw[e]at h;simp only at h;have hne:(AE.str s')≠.str s:=λq=>by
    injection q with q;rw[q]at e;simp at e
   rcases LV es (i+1) N.2 h with⟨rfl,rfl⟩|⟨s2,C,J⟩
   ·exact .inl ⟨rfl,λp L=>by simp only[zH]at L;rw[L];exact hne⟩
   ·have e2:s2=s:=by
     have a:=U s;rw[C s]at a;simpa using a
    subst e2;rcases J with⟨rfl,J⟩|⟨j,u,rfl,J⟩
    ·refine .inl ⟨rfl,λp L=>?_⟩;rcases zT.1 L with rfl|L
     ·exact hne
     ·exact J p L
    ·exact .inr ⟨j,u,rfl,.tail _ J⟩
theorem Md{t:TypeId}{k:AE}{s:List UInt8}(U:∀s',Jc P 10000 t k (.str s')=some (s==s')):∀(es:List (AE×AE)) (i:Nat),es.all Mc=true->∃r,Eo P t k es i=some r
 |[],i,_=>⟨none,rfl⟩
 | (k',v)::es,i,N=>by
  simp only[yF,zj]at N;have hk':∃s',k'=.str s':=by
   have:=N.1;unfold Mc at this;split at this
   ·rename_i s' _ e;exact⟨s',by cases e;rfl⟩
   ·cases this
  obtain⟨s',rfl⟩:=hk';unfold Eo;rw[U s'];cases s==s' with
  |true=>exact⟨_,rfl⟩
  |false=>exact Md U es (i+1) N.2
theorem Ol.hit{es es':List (AE×AE)}(h:Ol es es'){t:TypeId}{k v:AE}{j:Nat}(F:Eo P t k es 0=some (some (j,v))):∃j2,Eo P t k es' 0=some (some (j2,v)):=by
 rcases h with rfl|⟨L,N,O⟩
 ·exact⟨j,F⟩
 ·have ha':es'.all Mc=true:=by
   rw[zF]at N⊢;exact λx H=>N x (L.mem_iff.1 H)
  rcases LV es 0 N F with⟨_,h⟩|⟨s,U,⟨h,_⟩|⟨j',v',h,hm⟩⟩
  ·cases h
  ·cases h
  ·cases h;obtain⟨r,D⟩:=Md U es' 0 ha';rcases LV es' 0 ha' D with⟨e,_⟩|⟨s2,C,J⟩
   ·rw[e]at L;have:=L.symm.eq_nil;rw[this]at hm;cases hm
   ·have e2:s2=s:=by
     have a:=U s;rw[C s]at a;simpa using a
    subst e2;rcases J with⟨_,J⟩|⟨j3,u,rfl,J⟩
    ·exact absurd rfl (J _ (L.mem_iff.2 hm))
    ·rw[SC O hm (L.mem_iff.1 J)];exact⟨j3,D⟩
theorem Ol.WX{es es':List (AE×AE)}(h:Ol es es'){t:TypeId}{k:AE}(F:Eo P t k es 0=some none):Eo P t k es' 0=some none:=by
 rcases h with rfl|⟨L,N,O⟩
 ·exact F
 ·have ha':es'.all Mc=true:=by
   rw[zF]at N⊢;exact λx H=>N x (L.mem_iff.1 H)
  rcases LV es 0 N F with⟨rfl,_⟩|⟨s,U,⟨_,hm⟩|⟨j',v',h,hm⟩⟩
  ·rw[L.eq_nil];rfl
  ·obtain⟨r,D⟩:=Md U es' 0 ha';rcases LV es' 0 ha' D with⟨rfl,e⟩|⟨s2,C,J⟩
   ·rfl
   ·have e2:s2=s:=by
     have a:=U s;rw[C s]at a;simpa using a
    subst e2;rcases J with⟨e,_⟩|⟨j3,u,rfl,J⟩
    ·rw[e]at D;exact D
    ·exact absurd rfl (hm _ (L.mem_iff.1 J))
  ·cases h
theorem RJ(r:Rel P w0 m h w){t:TypeId}{x k:AE}{x' k':Value}{ok:Bool}{v:AE}(H:VR m x x')(M:VR m k k')
  (B:M3 P ((Gb x).bind h.get) t x k ok=some v):∃v',(Instr.lookup t x' k' ok).run P w=.ok v' w/\VR m v v':=by
 unfold M3 at B;split at B
 ·rename_i kt et rr hu;split at B
  ·rename_i hkey;obtain⟨d,hd⟩:=Ll hkey;have ents:∀es,(match rr with|none=>some []|some _=>match(Gb (.map rr)).bind h.get with|some (.map st es)=>if st≠0 then some es else none|_=>none)=some es->
     ∃en:Array MapEntry,((x'=.map none/\en=#[])\/∃g clock,x'=.map (some g)/\w.heap[g]?=some (.map en clock))/\∃es',Ol es es'/\es'.length=en.toList.length/\∀(j:Nat) (a b:AE) (e:MapEntry),es'[j]?=some (a,b)->en.toList[j]?=some e->VR m a e.key/\VR m b e.val:=by
    intro es S;cases rr with
    |none=>
     simp at S;subst S;cases H;exact⟨#[],.inl ⟨rfl,rfl⟩,[],.inl rfl,rfl,λj a b e h=>by simp at h⟩
    | some id=>
     cases H with
     | map _ E W=>
      simp only[Gb,za]at S;split at S
      ·rename_i st es' Z;split at S
       ·rename_i hst;injection S with S;subst S;obtain⟨_,Y⟩:=r.obj id E _ W Z;obtain⟨es2,h0,en,clock,h1,C,J,_⟩:=Y hst;exact⟨en,.inr ⟨E.g,clock,rfl,h1⟩,es2,h0.find,by simpa using C,λj a b e N he=>J j a b e N (by simpa using he)⟩
       ·cases S
      ·cases S
   split at B
   ·rename_i es S;obtain⟨en,g1,es',hfa,g2,g3⟩:=ents es S;have hck:∀e,(Instr.checkKey e 10000 kt k').run P w=.ok () w:=λe=>Kq 20 10000 kt k k' e (by omega) M hkey;split at B
    ·rename_i j v0 F;injection B with B;subst B;obtain⟨j2,F⟩:=hfa.hit F;obtain⟨res',f1,f2⟩:=HI (w:=w) M hd g2 g3 F;cases res' with
     |none=>exact f2.elim
     | some p=>
      obtain⟨j',v'⟩:=p;obtain⟨_,_,_,I⟩:=f2;refine⟨if ok then .tuple #[v',.bool true]else v',?_,?_⟩
      ·rcases g1 with⟨rfl,rfl⟩|⟨g,clock,rfl,Z⟩
       ·simp[Instr.lookup,BJ w hu,hck,f1]
       ·simp[Instr.lookup,BJ w hu,getObj,Sem.run,Z,hck,f1]
      ·cases ok
       ·simpa using I
       ·simpa using Dt.tuple (c:=#[v',.bool true]) (.cons I (.cons (.bool true) (.nil m)))
    ·rename_i F;cases Q:I2 P et with
     |none=>simp[Q]at B
     | some z=>
      simp only[Q,zf,zd]at B;subst B;obtain⟨res',f1,f2⟩:=HI (w:=w) M hd g2 g3 (hfa.WX F);cases res' with
      |some p=>exact f2.elim
      | none=>
       obtain⟨i,zz,hi,hiz,hvz⟩:=JS (m:=m) Q;have hzv:(zeroValue et).run P w=.ok zz w:=by simp[zeroValue,typeInfo,hi,hiz]
       refine⟨if ok then .tuple #[zz,.bool false]else zz,?_,?_⟩
       ·rcases g1 with⟨rfl,rfl⟩|⟨g,clock,rfl,Z⟩
        ·simp[Instr.lookup,BJ w hu,hck,f1,hzv]
        ·simp[Instr.lookup,BJ w hu,getObj,Sem.run,Z,hck,f1,hzv]
       ·cases ok
        ·simpa using hvz
        ·simpa using Dt.tuple (c:=#[zz,.bool false]) (.cons hvz (.cons (.bool false) (.nil m)))
    ·cases B
   ·cases B
  ·cases B
 ·cases B
theorem Uf{t:TypeId}{o:Nat}:Im P none t o=none:=by
 unfold Im;split
 ·cases Dn P t<;>rfl
 ·rfl
 ·rfl
theorem Uz{t:TypeId}{o:Nat}{cs:List AE}{v:AE}(F:∀a∈cs,Av.KT a=true)(B:Im P (some (.cells none 1 cs)) t o=some v):Av.QP v=true:=by
 unfold Im at B;split at B
 ·cases O:Dn P t with
  |none=>simp[O]at B
  | some n=>
   simp only[O,za,Dy]at B;split at B
   ·simp only[zf,zd]at B;subst B;unfold Av.QP;rw[zF];intro a N;exact F a (List.mem_of_mem_drop (yP N))
   ·simp at B
 ·split at B
  ·rename_i x hc;injection B with B;subst B;simp only[Dy]at hc;split at hc
   ·injection hc with hc;have H:Av.KT x=true:=F x (List.mem_of_mem_drop (yP (by rw[hc];simp)));cases x<;>simp_all[Av.QP,Av.KT]
   ·cases hc
  ·cases B
 ·cases B
theorem Rr{G:Nat->Option (List AE)}(Q:EF G w0)(r:Rel P w0 m h w){fr:Fr}{a:Act}(F:FR m fr a){o:Oper}{v:AE}(D:MJ P G fr ((Es fr o.op).bind h.get) o.op=some v):
  ∃v',(execOp a.eval o).run P w=.ok (.value v') w/\VR m v v':=by
 obtain⟨dst,op,ty,pos,P4,gd⟩:=o;simp only at D;have lift:∀{s:Sem Value} {u:AE},(∃v',s.run P w=.ok v' w/\VR m u v')->∃v',(do pure (.value (<-s)):Sem Next).run P w=.ok (.value v') w/\VR m u v':=by
  rintro s u ⟨v',h1,C⟩;exact⟨v',by simp[h1],C⟩
 cases op with
 | load t x=>
  simp only[MJ,Es]at D;split at D
  ·rename_i id o H;rw[H]at D;simp only[Gb,za]at D;have I:=F.ev x;rw[H]at I;generalize X:a.eval x=y at I;cases I with
   |ptr _ _ E W=>
    obtain⟨v',h1,C⟩:=Mx r W D;exact lift ⟨v',by simp[Instr.loadAt,Instr.sureAddr,X,h1],C⟩
  ·rename_i gl o H;have I:=F.ev x;rw[H]at I;generalize X:a.eval x=y at I;cases I with
   | L1 _ _=>
    cases hG:G gl with
    |none=>rw[hG]at D;simp only[Option.map_none]at D;rw[Uf]at D;cases D
    |some cs=>
     rw[hG]at D;simp only[zf]at D;obtain⟨tot,r',hfl⟩:=Q.rel (P:=P) r.below hG;obtain⟨v',h1,C⟩:=Mx (id:=0) (o:=o) (E:=⟨gl,0,0,tot⟩) r' (by simp) (by rw[AS.ES];exact D);refine lift ⟨v',by simp only[qx]at h1;simp[Instr.loadAt,Instr.sureAddr,X,h1],?_⟩;exact C.QP (Uz hfl D)
  ·rename_i cs H;have I:=F.ev x;rw[H]at I;generalize X:a.eval x=y at I;cases I with
   |BL g o _ c hf1 hv1=>
    obtain⟨v',h1,C⟩:=US r hf1 hv1 D;exact lift ⟨v',by simp[Instr.loadAt,Instr.sureAddr,X,h1],C⟩
  ·cases D
 |slice t x lo hi mx=>
  cases mx with
  |some y=>simp[MJ]at D
  |none=>simp only[MJ,Es]at D;exact lift (SU r (F.ev x) (Vz F lo) (Vz F hi) D)
 |convert s d x=>simp only[MJ,Es]at D;exact lift (TD r (F.ev x) D)
 |lookup t x k ok=>simp only[MJ,Es]at D;exact lift (RJ r (F.ev x) (F.ev k) D)
 | call c=>
  obtain⟨callee,as,ts⟩:=c;cases callee with
  |value f=>simp[MJ]at D
  |invoke r mth=>simp[MJ]at D
  | builtin b=>
   cases b<;>simp only[MJ]at D<;>try (cases D;done)
   simp only[Es]at D;split at D
   ·rename_i x heq;have has:as=#[x]:=Array.ext' (by simpa using heq);subst has;obtain⟨v',h1,C⟩:=Uc (P:=P) r (ty:=ty) (F.ev x) D;have res:∀(w:World),(resolve a.eval {callee:=.builtin .len,args:=#[x],argTypes:=ts} ty).run P w=.ok {target:=.builtin .len ts ty (#[x].map fun| .const _=>true|_=>false),args:=#[x].map a.eval} w:=λw=>rfl;exact⟨v',by simp[execOp,res,invoke,builtin,h1],C⟩
   ·cases D
 |_=>simp[MJ]at D
end
end Go.Av
