/-
 A part.
-/
import Derived.Test.YthhonebaoidfgaaGreatDoorAvOpP
set_option linter.unusedSimpArgs false
namespace Go.Av
open Go.RowKit
section
variable {P:Program} {w0:World} {m:Bk} {h:AF} {w:World}
theorem Rel.cells(r:Rel P w0 m h w){id o n:Nat}{E:OR}{cs:List AD}(U:m id=some E)(hc:DG (h.get id) o n=some cs):
  ∃ds:List Value,ds.length=n/\DD m cs ds/\(∀(j:Nat) (v:Value),ds[j]?=some v->w.cell? ((⟨E.g,E.base+o,none⟩:Addr).add j)=some v)/\(∀a∈cs,a.one=true):=by
 unfold DG at hc;split at hc
 ·rename_i gr st l X;split at hc
  ·rename_i J;injection hc with hc;subst hc;obtain⟨_,W⟩:=r.obj id E _ U X;obtain⟨cur,e,fz,h1,h2,I,_⟩:=W J.1;have hlen:∀j,j<l.length->E.base+j<cur.size:=λj O=>by
    obtain⟨_,c,hc,_⟩:=I j _ (List.getElem?_eq_getElem O);exact(Array.getElem?_eq_some_iff.1 hc).1
   have key:∀j,j<n->(cur.toList.drop (E.base+o))[j]?=cur[E.base+(o+j)]?:=λj O=>by
    rw[List.getElem?_drop,yG];simp
   refine⟨(cur.toList.drop (E.base+o)).take n,?_,⟨?_,?_⟩,?_,?_⟩
   ·rcases qa n with h0|h0
    ·simp[h0]
    ·have:=hlen (o+n - 1) om;simp;omega
   ·have:n<=cur.size - (E.base+o):=by
     rcases qa n with h0|h0
     ·omega
     ·have:=hlen (o+n - 1) om;omega
    simp;omega
   ·intro j x y F V;rw[List.getElem?_take]at F V;split at F
    ·rename_i O;rw[zl O,key j O]at V;rw[List.getElem?_drop]at F;obtain⟨_,c,hc,H⟩:=I (o+j) x F;rw[hc]at V;injection V with V;subst V;exact H
    ·cases F
   ·intro j v H;rw[List.getElem?_take]at H;split at H
    ·rename_i O;rw[key j O]at H;rw[Addr.add_lit,cell_of_row w E.g _ cur e fz h1,<-H,yG]
    ·cases H
   ·intro a L;obtain⟨j,O⟩:=q9.1 L;rw[List.getElem?_take]at O;split at O
    ·rw[List.getElem?_drop]at O;exact(I _ a O).1
    ·cases O
  ·cases hc
 ·cases hc
theorem Tq{ob:Option Cs}{A:Addr}{o:Nat}{t:TypeId}{v:AD}(hcl:∀n cs,DG ob o n=some cs->∃ds:List Value,ds.length=n/\DD m cs ds/\(∀(j:Nat) (v:Value),ds[j]?=some v->w.cell? (A.add j)=some v))(B:JD P ob t o=some v):
  ∃v',(loadVar t A).run P w=.ok v' w/\VR m v v':=by
 unfold JD at B;split at B
 ·rename_i L;cases M:DK P t with
  |none=>simp[M]at B
  | some n=>
   simp only[M,za]at B;cases hc:DG ob o n with
   |none=>simp[hc]at B
   |some cs=>
    simp only[hc,zh,zb]at B;subst B;obtain⟨ds,h1,h2,I⟩:=hcl _ _ hc;subst h1;refine⟨.agg ds.toArray,?_,DD.agg (by simpa using h2)⟩;simp[loadVar,N7 w L,run_sizeOf w M,run_loadCells_list w A ds I]
 ·rename_i L;split at B
  ·rename_i x hc;injection B with B;subst B;obtain⟨ds,h1,h2,I⟩:=hcl _ _ hc
   match ds,h1 with
   |[d],_=>
    refine⟨d,?_,h2.2 0 x d rfl rfl⟩;have:=I 0 d rfl;simp only[Addr.add_zero']at this;simp[loadVar,N7 w L,this]
  ·cases B
 ·cases B
theorem NA(r:Rel P w0 m h w){id o:Nat}{t:TypeId}{E:OR}{v:AD}(U:m id=some E)(B:JD P (h.get id) t o=some v):
  ∃v',(loadVar t ⟨E.g,E.base+o,none⟩).run P w=.ok v' w/\VR m v v':=
 Tq (λn cs hc=>by obtain⟨ds,h1,h2,I,_⟩:=r.cells U hc;exact⟨ds,h1,h2,I⟩) B
theorem Rel.SY(r:Rel P w0 m h w){g o:Nat}{a:List AD}{c:Nat->Value}(D:∀i,i<a.length->m.fz g (o+i)=some (c i))(H:∀(i:Nat) (x:AD),a[i]?=some x->VR m x (c i)):
  ∃ds:List Value,ds.length=a.length/\DD m a ds/\(∀(j:Nat) (v:Value),ds[j]?=some v->w.cell? ((⟨g,o,none⟩:Addr).add j)=some v):=by
 refine⟨(List.range a.length).map c,by simp,⟨by simp,λi x y F V=>?_⟩,λj v O=>?_⟩
 ·rw[List.getElem?_map]at V;have hi:=(List.getElem?_eq_some_iff.1 F).1;rw[List.getElem?_range hi]at V;simp only[zh,zb]at V;subst V;exact H i x F
 ·rw[List.getElem?_map]at O;by_cases hi:j<a.length
  ·rw[List.getElem?_range hi]at O;simp only[zh,zb]at O;subst O;obtain⟨cur,e,z,h1,h2⟩:=r.fz g (o+j) _ (D j hi);rw[Addr.add_lit,cell_of_row w g _ cur e z h1,h2]
  ·rw[List.getElem?_eq_none (by simpa using hi)]at O;cases O
theorem XN(r:Rel P w0 m h w){t:TypeId}{g o:Nat}{a:List AD}{c:Nat->Value}{v:AD}(D:∀i,i<a.length->m.fz g (o+i)=some (c i))(H:∀(i:Nat) (x:AD),a[i]?=some x->VR m x (c i))
  (B:JD P (some (.cells none 1 a)) t 0=some v):∃v',(loadVar t ⟨g,o,none⟩).run P w=.ok v' w/\VR m v v':=by
 refine Tq (λn cs hc=>?_) B;unfold DG at hc;simp only at hc;split at hc
 ·rename_i J;injection hc with hc;subst hc;obtain⟨ds,h1,h2,I⟩:=r.SY D H;refine⟨ds.take n,by rw[zA];omega,by rw[yn];exact h2.take n,λj v O=>I j v ?_⟩;rw[List.getElem?_take]at O;split at O
  ·exact O
  ·cases O
 ·cases hc
theorem LW:∀(cs:List AD) (ds:List Value) (s:List UInt8),DD m cs ds->bytesOf cs=some s->
  (∀d∈ds,∃n,d=.int .u8 n)/\s=ds.map (λd=>UInt8.ofNat (match d with| .int _ n=>n.toNat|_=>0))
 |[],ds,s,H,J=>by
  have:ds=[]:=zx (by simpa using H.1.symm);subst this;simp[bytesOf]at J;subst J;simp
 |c::cs,[],s,H,_=>by simp[DD]at H
 | c::cs,d::ds,s,H,J=>by
  have hc:=H.2 0 c d rfl rfl;have hv':DD m cs ds:=⟨by simpa using H.1,λi x y F V=>H.2 (i+1) x y (by simpa using F) (by simpa using V)⟩;unfold bytesOf at J;split at J
  ·rename_i heq;cases heq
  ·rename_i n r heq;injection heq with e1 e2;subst e1;subst e2;have:=hc.C9;subst this;cases C:bytesOf cs with
   |none=>simp[C]at J
   |some s'=>
    simp only[C,zh,zb]at J;subst J;obtain⟨h1,h2⟩:=LW cs ds s' hv' C;refine⟨λx F=>?_,by simp[h2]⟩;cases F with
    |head=>exact⟨n,rfl⟩
    |tail _ F=>exact h1 x F
  ·cases J
theorem Ov(w:World):∀(ds:List Value) (acc:ByteArray),(∀d∈ds,∃n,d=.int .u8 n)->
  (forIn (m:=Sem) ds acc λc s=>match c with
   | .int .u8 n=>pure (.yield (s.push (UInt8.ofNat n.toNat)))
   |_=>do
    stuck "bytesToString: byte expected"
    pure (.yield s)).run P w=.ok ⟨acc.data++(ds.map (λd=>UInt8.ofNat (match d with| .int _ n=>n.toNat|_=>0))).toArray⟩ w
 |[],acc,_=>by simp
 |d::ds,acc,hd=>by
  obtain⟨n,rfl⟩:=hd d (by simp);have ih:=Ov w ds (acc.push (UInt8.ofNat n.toNat)) λx F=>hd x (by simp[F]);simp only[xu,Sem.run_bind,Sem.run_pure,Result.andThen_ok];refine ih.trans ?_;congr 2;apply Array.ext';simp[ByteArray.push]
theorem WC(r:Rel P w0 m h w){src dst:TypeId}{x:AD}{x':Value}{v:AD}(F:VR m x x')
  (B:SG P ((GG x).bind h.get) src dst x=some v):∃v',(convert src dst x').run P w=.ok v' w/\VR m v v':=by
 unfold SG at B;split at B
 ·rename_i e rr n S hd;split at B
  ·rename_i he;split at B
   ·injection B with B;subst B;refine⟨.string .empty,?_,.str .empty⟩;cases F<;>simp[convert,BE w S,BE w hd,BE w he,Conv.bytesToString,loadCells,loadCellsFrom]
   ·rename_i id o;cases F with
    | slice _ _ _ cap E a U hle hc=>
     split at B
     ·rename_i M;subst M;injection B with B;subst B;refine⟨.string .empty,?_,.str .empty⟩;simp[convert,BE w S,BE w hd,BE w he,Conv.bytesToString,loadCells,loadCellsFrom]
     ·rename_i M;obtain⟨L,_⟩:=hc om;subst L;simp only[GG,za]at B;cases hcs:DG (h.get id) o n with
      |none=>simp[hcs]at B
      | some cs=>
       simp only[hcs,za]at B;cases J:bytesOf cs with
       |none=>simp[J]at B
       |some s=>
        simp only[J,zh,zb]at B;subst B;obtain⟨ds,h1,h2,I,_⟩:=r.cells U hcs;subst h1;obtain⟨g1,g2⟩:=LW cs ds s h2 J;refine⟨.string ⟨⟨s⟩⟩,?_,.str ⟨⟨s⟩⟩⟩;have K:=Ov (P:=P) w ds ByteArray.empty g1;simp only[convert,Sem.run_bind,BE w S,BE w hd,BE w he,Result.andThen_ok,Conv.bytesToString,run_loadCells_list w ⟨E.g,E.base+o,none⟩ ds I];rw[<-xh];refine(congrArg (λx=>Result.andThen x λa w'=>Sem.run P (pure (Value.string a)) w') K).trans ?_;rw[g2];simp only[Result.andThen_ok,Sem.run_pure];congr 2;apply ByteArray.ext;apply Array.ext';simp
  ·cases B
 ·rename_i e n cs S hd;split at B
  ·rename_i he;split at B
   ·rename_i M;cases J:bytesOf cs with
    |none=>simp[J]at B
    | some s=>
     simp only[J,zh,zb]at B;subst B;have main:∀(A:Option Addr) (cap:Nat) (ds:List Value),ds.length=n->DD m cs ds->(∀A',A=some A'->∀(j:Nat) (v:Value),ds[j]?=some v->w.cell? (A'.add j)=some v)->(A=none->ds=[])->
       ∃v',(convert src dst (.slice A n cap)).run P w=.ok v' w/\VR m (.str s) v':=by
      intro A cap ds h1 h2 I h4;subst h1;obtain⟨g1,g2⟩:=LW cs ds s h2 J;refine⟨.string ⟨⟨s⟩⟩,?_,.str ⟨⟨s⟩⟩⟩;cases A with
      |none=>
       have:=h4 rfl;subst this;simp at g2;subst g2;simp[convert,BE w S,BE w hd,BE w he,Conv.bytesToString];rfl
      |some A'=>
       have K:=Ov (P:=P) w ds ByteArray.empty g1;simp only[convert,Sem.run_bind,BE w S,BE w hd,BE w he,Result.andThen_ok,Conv.bytesToString,run_loadCells_list w A' ds (I A' rfl)];rw[<-xh];refine(congrArg (λx=>Result.andThen x λa w'=>Sem.run P (pure (Value.string a)) w') K).trans ?_;rw[g2];simp only[Result.andThen_ok,Sem.run_pure];congr 2;apply ByteArray.ext;apply Array.ext';simp
     cases F with
     |L0 A cap=>exact main A cap [] rfl (DD.nil m) (λA' _ j v O=>by simp at O) (λ_=>rfl)
     |Im _ cap g o _ c hc D H=>
      obtain⟨ds,h1,h2,I⟩:=r.SY D H;exact main _ cap ds om h2 (λA' hA'=>by injection hA' with hA';subst hA';exact I) (λh=>by cases h)
   ·cases B
  ·cases B
 ·cases B
theorem Va(r:Rel P w0 m h w){t:TypeId}{x:AD}{x':Value}{lo hi:Option AD}{lo' Z:Option Value}{v:AD}(F:VR m x x')(hlo:iE m lo lo')(hhi:iE m hi Z)
  (B:TA P ((GG x).bind h.get) t x lo hi=some v):
  ∃v',(Instr.sliceAt t x' lo' Z none).run P w=.ok v' w/\VR m v v':=by
 unfold TA at B;split at B
 ·-- an array behind a pointer
  rename_i n e id o hu;simp only[GG,za]at B;cases F with
  | ptr _ _ E U=>
   split at B
   ·rename_i st cs X;cases N:DK P e with
    |none=>simp[N]at B
    | some z=>
     simp only[N,za]at B;cases J:GW n lo hi with
     |none=>simp[J]at B
     |some lu=>
      obtain⟨l,u⟩:=lu;simp only[J,zh,zb]at B;subst B;obtain⟨T,h1,h2⟩:=HF (P:=P) w (c:=n) false hlo hhi (zw _) J;have R:E.Y7=0:=(r.obj id E _ U X).1.1.1;refine⟨.slice (some (if n=l then⟨E.g,E.base+o,none⟩else⟨E.g,E.base+(o+l*z),none⟩)) (u - l) (n - l),?_,.slice id (o+l*z) (u - l) (n - l) E _ U om (λhne=>⟨by rw[zj om],λh=>absurd R h⟩)⟩;simp[Instr.sliceAt,BE w hu,Instr.sureAddr,T,run_sizeOf w N,Addr.add_lit,yG]
   ·cases B
 ·-- a nil slice
  rename_i e hu;obtain⟨A,rfl⟩:∃A:Option Addr,x'=.slice A 0 0:=by
   cases F with
   |Eu=>exact⟨none,rfl⟩
   |GY a=>exact⟨some a,rfl⟩
  cases N:DK P e with
  |none=>simp[N]at B
  | some z=>
   simp only[N,za]at B;cases J:GW 0 lo hi with
   |none=>simp[J]at B
   |some lu=>
    obtain⟨l,u⟩:=lu;simp only[J,zh,zb]at B;subst B;obtain⟨T,h1,h2⟩:=HF (P:=P) w (c:=0) true hlo hhi (zw _) J;have hu0:u=0:=by omega
    have hl0:l=0:=by omega
    subst hu0;subst hl0;refine⟨.slice A 0 0,?_,by cases A with|none=>exact .Eu|some a=>exact .GY a⟩;cases A<;>simp[Instr.sliceAt,Instr.slice,BE w hu,T,run_sizeOf w N]
 ·-- a still one
  rename_i e n cs hu;cases N:DK P e with
  |none=>simp[N]at B
  | some z=>
   simp only[N,za]at B;split at B
   ·rename_i hlen;cases J:GW n lo hi with
    |none=>simp[J]at B
    | some lu=>
     obtain⟨l,u⟩:=lu;simp only[J,zh,zb]at B;subst B;cases F with
     |L0 A cap=>
      obtain⟨T,h1,h2⟩:=HF (P:=P) w (c:=cap) true hlo hhi (yf _) J;have hu0:u=0:=by omega
      have hl0:l=0:=by omega
      subst hu0;subst hl0;refine⟨.slice (if cap=0 then A else A.map (·.add (0*z))) 0 cap,?_,?_⟩
      ·cases A<;>simp only[Instr.sliceAt,Instr.slice,Sem.run_bind,BE w hu,Result.andThen_ok,T,run_sizeOf w N,Sem.run_pure]<;>by_cases e:cap=0<;>simp[e]
      ·simpa using VR.L0 _ _
     | Im _ cap g o _ c hc D H=>
      obtain⟨T,h1,h2⟩:=HF (P:=P) w (c:=cap) true hlo hhi hc J;by_cases he:cap=l
      ·have hu0:u=l:=by omega
       subst hu0;refine⟨.slice (some ⟨g,o,none⟩) 0 0,?_,?_⟩
       ·simp only[Instr.sliceAt,Instr.slice,Sem.run_bind,BE w hu,Result.andThen_ok,T,run_sizeOf w N,Sem.run_pure];simp[he]
       ·simpa using VR.L0 _ _
      ·refine⟨.slice (some ⟨g,o+l*z,none⟩) (u - l) (cap - l),?_,?_⟩
       ·simp only[Instr.sliceAt,Instr.slice,Sem.run_bind,BE w hu,Result.andThen_ok,T,run_sizeOf w N,Sem.run_pure];simp[he,Addr.add_lit]
       ·have hd:=VR.UM (VR.OJ D H (l*z)) ((u - l)*z);cases hd with
        |Aw _ _ _ c' hf' hv'=>exact .Im _ _ _ _ _ c' om hf' hv'
   ·cases B
 ·-- a slice
  rename_i e id o n hu;simp only[GG,za]at B;cases F with
  | slice _ _ _ cap E a U hle hc=>
   have main:∀z,DK P e=some z->(E.Y7≠0->E.Y7=z)->∀l u,GW n lo hi=some (l,u)->
     ∃v',(Instr.sliceAt t (.slice (some a) n cap) lo' Z none).run P w=.ok v' w/\VR m (.slice (some (id,o+l*z)) (u - l)) v':=by
    intro z N R l u J;obtain⟨T,h1,h2⟩:=HF (P:=P) w (c:=cap) true hlo hhi hle J;refine⟨.slice (some (if cap=l then a else a.add (l*z))) (u - l) (cap - l),?_,.slice id (o+l*z) (u - l) (cap - l) E _ U om (λhne=>?_)⟩
    ·simp only[Instr.sliceAt,Instr.slice,Sem.run_bind,BE w hu,Result.andThen_ok,T,run_sizeOf w N,Sem.run_pure];by_cases e:cap=l<;>simp[e]
    ·obtain⟨L,hbd⟩:=hc om;subst L;rw[zj om,Addr.add_lit];refine⟨by rw[yG],λhz0=>?_⟩;have I:=hbd hz0;have h4:=R hz0;rw[<-h4];have:l*E.Y7+(cap - l)*E.Y7=cap*E.Y7:=by rw[<-yC];congr 1;omega
     omega
   split at B
   ·rename_i st cs z X N;have R:E.Y7=0:=(r.obj id E _ U X).1.1.1;cases J:GW n lo hi with
    |none=>simp[J]at B
    |some lu=>
     obtain⟨l,u⟩:=lu;simp only[J,zh,zb]at B;subst B;exact main z N (λh=>absurd R h) l u J
   ·rename_i e' st cs z X N;have R:E.Y7=P.cellsOf e':=(r.obj id E _ U X).1.1.1;split at B
    ·rename_i hz';cases J:GW n lo hi with
     |none=>simp[J]at B
     |some lu=>
      obtain⟨l,u⟩:=lu;simp only[J,zh,zb]at B;subst B;refine main z N (λ_=>?_) l u J;rw[R];unfold DK at hz';unfold Program.cellsOf;rw[hz'];rfl
    ·cases B
   ·cases B
 ·cases B
theorem XD(r:Rel P w0 m h w){ts:Array TypeId}{ty:TypeId}{x:AD}{x':Value}{v:AD}(F:VR m x x')
  (B:fg P ((GG x).bind h.get) ts x=some v):∃v',(Builtin.len_ ts ty #[x']).run P w=.ok v' w/\VR m v v':=by
 unfold fg at B;split at B
 ·cases B
 ·rename_i t ht;split at B
  ·rename_i k e hu;injection B with B;subst B;cases F;exact⟨_,by simp[Builtin.len_,ht,BE w hu,goInt],.int _ _⟩
  ·rename_i k e id hu;simp only[GG,za]at B;cases F with
   | map _ E U=>
    split at B
    ·rename_i st es X;split at B
     ·rename_i hst;injection B with B;subst B;obtain⟨_,W⟩:=r.obj id E _ U X;obtain⟨es',h0,ents,clock,h1,h2,_⟩:=W hst;rw[h0.len]at h2;exact⟨.int .i64 es.length,by simp[Builtin.len_,ht,BE w hu,goInt,getObj,Sem.run,h1,h2],.int _ _⟩
     ·cases B
    ·cases B
  ·rename_i dir e id hu;simp only[GG,za]at B;cases F with
   | chan _ E U=>
    split at B
    ·rename_i cap buf X;injection B with B;subst B;obtain⟨bs,sn,rc,h1,h2⟩:=r.obj id E _ U X;exact⟨.int .i64 buf.length,by simp[Builtin.len_,ht,BE w hu,goInt,getObj,Sem.run,h1,h2.1],.int _ _⟩
    ·cases B
  ·cases B
theorem LC:∀(d d':Nat) (t:TypeId) (k:AD) (k':Value) (e:Bool),d<=d'->VR m k k'->Gy P d t k=true->(Instr.checkKey e d' t k').run P w=.ok () w
 |0,_,_,_,_,_,_,_,hk=>by simp[Gy]at hk
 |d+1,0,_,_,_,_,hd,_,_=>by omega
 | d +1,d'+1,t,k,k',e,hd,H,hk=>by
  have ih:=λt k k'=>LC d d' t k k' e om;unfold Gy at hk;split at hk
  ·rename_i hu;have:=H.C9;subst this;simp[Instr.checkKey,BE w hu]
  ·rename_i hu;have:=H.Em;subst this;simp[Instr.checkKey,BE w hu]
  ·rename_i hu;have:=H.Ll;subst this;simp[Instr.checkKey,BE w hu]
  ·rename_i fs cs hu;obtain⟨ds,rfl,vd⟩:=H.Hf;simp only[Instr.checkKey,Sem.run_bind,BE w hu,Result.andThen_ok];rw[<-xh];generalize fs.toList=l at hk
   induction l with
   |nil=>simp
   | cons f l ihl=>
    simp only[ya,zf]at hk;obtain⟨⟨M,K⟩,C⟩:=hk;have hn':f.name≠"_":=by simpa using M
    cases Y:GU P f.type cs f.offset with
    |none=>simp[Y]at K
    |some x=>
     simp only[Y]at K;obtain⟨y,r1,vy⟩:=Ja (P:=P) w vd Y;have:=ih f.type x y vy K;have I:=ihl C;simp only[xu,Sem.run_bind];rw[zl hn'];simp only[Sem.run_bind,r1,this,Result.andThen_ok,Sem.run_pure];simpa using I
  ·rename_i n el cs hu;obtain⟨ds,rfl,vd⟩:=H.Hf;split at hk
   ·rename_i z N;simp only[Instr.checkKey,Sem.run_bind,BE w hu,Result.andThen_ok];simp only[Std.Legacy.Range.forIn_eq_forIn_range',Std.Legacy.Range.size,Nat.sub_zero,Nat.add_one_sub_one,Nat.div_one,List.range_eq_range']at hk⊢;generalize List.range' 0 n=l at hk
    induction l with
    |nil=>simp
    | cons j l ihl=>
     simp only[ya,zf]at hk;obtain⟨K,C⟩:=hk;cases Y:GU P el cs (j*z)with
     |none=>simp[Y]at K
     |some x=>
      simp only[Y]at K;obtain⟨y,r1,vy⟩:=Ja (P:=P) w vd Y;have:=ih el x y vy K;have I:=ihl C;simp only[xu,Sem.run_bind,run_sizeOf w N,Result.andThen_ok,r1,this,Sem.run_pure];simpa using I
   ·cases hk
  ·cases hk
def Oy(m:Bk)(lo hi:Nat):Option (Nat×AD)->Option (Nat×Value)->Prop
 |none,none=>True
 |some (j,v),some (j',v')=>j=j'/\lo<=j/\j<hi/\VR m v v'
 |_,_=>False
theorem Oy.weaken{lo lo' hi Z:Nat}(h1:lo'<=lo)(h2:hi<=Z):∀{x:Option (Nat×AD)} {y:Option (Nat×Value)},Oy m lo hi x y->Oy m lo' Z x y
 |none,none,_=>trivial
 |some (_,_),some (_,_),h=>⟨h.1,z8 h1 h.2.1,zX h.2.2.1 h2,h.2.2.2⟩
theorem Oc{kt:TypeId}{k a:AD}{k' a':Value}{d:TypeDesc}{b:Bool}(hk:VR m k k')(L:VR m a a')(hd:P.underlying kt=some d)(he:Il P 10000 kt k a=some b)(w:World):
  Instr.sameNow d k' a'=none\/Instr.sameNow d k' a'=some b:=by
 have hrun:=LA (P:=P) w 10000 kt k a k' a' b hk L he;unfold Instr.sameNow;split
 ·rename_i kk n k2 n2;by_cases hkk:kk=k2
  ·subst hkk;have e:=hrun.symm.trans (run_equalIn_int w 9999 kt kk _ n n2 hd);injection e with e;right;simp[e]
  ·left;simp[hkk]
 ·rename_i s1 s2;have e:=hrun.symm.trans (run_equalIn_string w 9999 kt s1 s2 hd);injection e with e;right;rw[e,beq_toListBytes]
 ·rename_i b1 b2;have e:=hrun.symm.trans (run_equalIn_bool w 9999 kt b1 b2 hd);injection e with e;right;rw[e]
 ·exact .inl rfl
theorem Qq{kt:TypeId}{k:AD}{k':Value}(hk:VR m k k'):∀(es:List (AD×AD)) (ents:List MapEntry) (i:Nat) (res:Option (Nat×AD)),
  es.length=ents.length->(∀(j:Nat) (a b:AD) (e:MapEntry),es[j]?=some (a,b)->ents[j]?=some e->VR m a e.key/\VR m b e.val)->EL P kt k es i=some res->
  (∃res',(Instr.findAsking kt k' ents i).run P w=.ok res' w/\Oy m i (i+es.length) res res')/\
   (∀d,P.underlying kt=some d->Instr.findNow d k' ents i=none\/∃res',Instr.findNow d k' ents i=some res'/\Oy m i (i+es.length) res res')
 |[],ents,i,res,B,_,D=>by
  have:ents=[]:=zx B.symm;subst this;simp[EL]at D;subst D;exact⟨⟨none,by simp[Instr.findAsking],trivial⟩,λd _=>.inr ⟨none,rfl,trivial⟩⟩
 |(a,b)::es,[],_,_,B,_,_=>by simp at B
 | (a,b)::es,e::ents,i,res,B,K,D=>by
  obtain⟨va,vb⟩:=K 0 a b e rfl rfl;have hp':∀(j:Nat) (a b:AD) (e:MapEntry),es[j]?=some (a,b)->ents[j]?=some e->VR m a e.key/\VR m b e.val:=λj a b e' h1 h2=>K (j+1) a b e' (by simpa using h1) (by simpa using h2);unfold EL at D;split at D
  ·rename_i he;injection D with D;subst D;have hfr:Oy m i (i+((a,b)::es).length) (some (i,b)) (some (i,e.val)):=⟨rfl,zw _,by simp,vb⟩;refine⟨⟨some (i,e.val),?_,hfr⟩,λd hd=>?_⟩
   ·have:=LA (P:=P) w 10000 kt k a k' e.key true hk va he;simp[Instr.findAsking,Op.equal,Op.maxDepth,this]
   ·rcases Oc hk va hd he w with M|M
    ·left;simp[Instr.findNow,M]
    ·right;exact⟨some (i,e.val),by simp[Instr.findNow,M],hfr⟩
  ·rename_i he;obtain⟨⟨res',h1,h2⟩,I⟩:=Qq hk es ents (i+1) res (by simpa using B) hp' D;have wk:i+1+es.length<=i+((a,b)::es).length:=by simp;omega
   refine⟨⟨res',?_,h2.weaken om wk⟩,λd hd=>?_⟩
   ·have:=LA (P:=P) w 10000 kt k a k' e.key false hk va he;simp[Instr.findAsking,Op.equal,Op.maxDepth,this,h1]
   ·rcases Oc hk va hd he w with M|M
    ·left;simp[Instr.findNow,M]
    ·rcases I d hd with h4|⟨res2,h4,h5⟩
     ·left;simp[Instr.findNow,M,h4]
     ·right;exact⟨res2,by simp[Instr.findNow,M,h4],h5.weaken om wk⟩
  ·cases D
theorem HC{kt:TypeId}{k:AD}{k':Value}(hk:VR m k k'){es:List (AD×AD)}{ents:List MapEntry}{res:Option (Nat×AD)}{d:TypeDesc}(hd:P.underlying kt=some d)
  (B:es.length=ents.length) (K:∀(j:Nat) (a b:AD) (e:MapEntry),es[j]?=some (a,b)->ents[j]?=some e->VR m a e.key/\VR m b e.val) (D:EL P kt k es 0=some res):
  ∃res',(Instr.findKey kt k' ents).run P w=.ok res' w/\Oy m 0 es.length res res':=by
 obtain⟨⟨r1,h1,h2⟩,I⟩:=Qq (w:=w) hk es ents 0 res B K D;rcases I d hd with M|⟨r2,M,h4⟩
 ·exact⟨r1,by simp[Instr.findKey,BE w hd,M,h1],h2.weaken (zw _) om⟩
 ·exact⟨r2,by simp[Instr.findKey,BE w hd,M],h4.weaken (zw _) om⟩
theorem ME{kt:TypeId}{k:AD}{n:Nat}(hk:Gy P n kt k=true):∃d,P.underlying kt=some d:=by
 cases n with
 |zero=>simp[Gy]at hk
 |succ n=>
  cases hd:P.underlying kt with
  |some d=>exact⟨d,rfl⟩
  |none=>simp[Gy,hd]at hk
def QX(es es':List (AD×AD)):Prop:=es'=es\/(es'.Perm es/\es.all Kr=true/\(es.map Prod.fst).Nodup)
theorem Nc.find{st:Nat}{es es':List (AD×AD)}(h:Nc st es es'):QX es es':=by
 by_cases e:st=3
 ·exact .inr (h.perm e)
 ·exact .inl (h.same e)
theorem fQ{t:TypeId}{k:AD}{s':List UInt8}{b:Bool}(e:Il P 10000 t k (.str s')=some b):∃s,∀s',Il P 10000 t k (.str s')=some (s==s'):=by
 change Il P (9999+1) t k (.str s')=some b at e;show ∃s,∀s',Il P (9999+1) t k (.str s')=some (s==s');cases hu:P.underlying t with
 |none=>unfold Il at e;rw[hu]at e;cases k<;>cases e
 | some d=>
  cases k with
  |str s0=>
   cases d with
   |string=>exact⟨s0,λs2=>by unfold Il;rw[hu]⟩
   |_=>unfold Il at e;rw[hu]at e;cases e
  |ptr r=>unfold Il at e;rw[hu]at e;cases r<;>cases d<;>cases e
  |map r=>unfold Il at e;rw[hu]at e;cases r<;>cases d<;>cases e
  |_=>unfold Il at e;rw[hu]at e;cases d<;>cases e
theorem L3{t:TypeId}{k:AD}:∀(es:List (AD×AD)) (i:Nat) {r:Option (Nat×AD)},es.all Kr=true->EL P t k es i=some r->
  (es=[]/\r=none)\/∃s,(∀s',Il P 10000 t k (.str s')=some (s==s'))/\((r=none/\∀p∈es,p.1≠.str s)\/∃j v,r=some (j,v)/\(AD.str s,v)∈es)
 |[],i,r,_,h=>by
  simp only[EL,zb]at h;exact .inl ⟨rfl,h.symm⟩
 | (k',v)::es,i,r,L,h=>by
  simp only[ya,zf]at L;right;have hk':∃s',k'=.str s':=by
   have:=L.1;unfold Kr at this;split at this
   ·rename_i s' _ e;exact⟨s',by cases e;rfl⟩
   ·cases this
  obtain⟨s',rfl⟩:=hk';have S:∃s,∀s',Il P 10000 t k (.str s')=some (s==s'):=by
   unfold EL at h;cases e:Il P 10000 t k (.str s')with
   |none=>rw[e]at h;cases h
   |some b=>exact fQ e
  obtain⟨s,S⟩:=S;refine⟨s,S,?_⟩;unfold EL at h;rw[S s']at h;by_cases e:(s==s')=true
  ·rw[e]at h;simp only[zb]at h;have e':s=s':=by simpa using e
   exact .inr ⟨i,v,h.symm,by rw[e'];exact .head _⟩
  ·have e:(s==s')=false:=by simpa using e
   rw[e]at h;simp only at h;have hne:(AD.str s')≠.str s:=λq=>by
    injection q with q;rw[q]at e;simp at e
   rcases L3 es (i+1) L.2 h with⟨rfl,rfl⟩|⟨s2,h2,I⟩
   ·exact .inl ⟨rfl,λp K=>by simp only[zU]at K;rw[K];exact hne⟩
   ·have e2:s2=s:=by
     have a:=S s;rw[h2 s]at a;simpa using a
    subst e2;rcases I with⟨rfl,I⟩|⟨j,u,rfl,I⟩
    ·refine .inl ⟨rfl,λp K=>?_⟩;rcases zF.1 K with rfl|K
     ·exact hne
     ·exact I p K
    ·exact .inr ⟨j,u,rfl,.tail _ I⟩
theorem NL{t:TypeId}{k:AD}{s:List UInt8}(S:∀s',Il P 10000 t k (.str s')=some (s==s')):∀(es:List (AD×AD)) (i:Nat),es.all Kr=true->∃r,EL P t k es i=some r
 |[],i,_=>⟨none,rfl⟩
 | (k',v)::es,i,L=>by
  simp only[ya,zf]at L;have hk':∃s',k'=.str s':=by
   have:=L.1;unfold Kr at this;split at this
   ·rename_i s' _ e;exact⟨s',by cases e;rfl⟩
   ·cases this
  obtain⟨s',rfl⟩:=hk';unfold EL;rw[S s'];cases s==s' with
  |true=>exact⟨_,rfl⟩
  |false=>exact NL S es (i+1) L.2
theorem QX.hit{es es':List (AD×AD)}(h:QX es es'){t:TypeId}{k v:AD}{j:Nat}(D:EL P t k es 0=some (some (j,v))):∃j2,EL P t k es' 0=some (some (j2,v)):=by
 rcases h with rfl|⟨K,L,M⟩
 ·exact⟨j,D⟩
 ·have ha':es'.all Kr=true:=by
   rw[zr]at L⊢;exact λx F=>L x (K.mem_iff.1 F)
  rcases L3 es 0 L D with⟨_,h⟩|⟨s,S,⟨h,_⟩|⟨j',v',h,hm⟩⟩
  ·cases h
  ·cases h
  ·cases h;obtain⟨r,C⟩:=NL S es' 0 ha';rcases L3 es' 0 ha' C with⟨e,_⟩|⟨s2,h2,I⟩
   ·rw[e]at K;have:=K.symm.eq_nil;rw[this]at hm;cases hm
   ·have e2:s2=s:=by
     have a:=S s;rw[h2 s]at a;simpa using a
    subst e2;rcases I with⟨_,I⟩|⟨j3,u,rfl,I⟩
    ·exact absurd rfl (I _ (K.mem_iff.2 hm))
    ·rw[UA M hm (K.mem_iff.1 I)];exact⟨j3,C⟩
theorem QX.C4{es es':List (AD×AD)}(h:QX es es'){t:TypeId}{k:AD}(D:EL P t k es 0=some none):EL P t k es' 0=some none:=by
 rcases h with rfl|⟨K,L,M⟩
 ·exact D
 ·have ha':es'.all Kr=true:=by
   rw[zr]at L⊢;exact λx F=>L x (K.mem_iff.1 F)
  rcases L3 es 0 L D with⟨rfl,_⟩|⟨s,S,⟨_,hm⟩|⟨j',v',h,hm⟩⟩
  ·rw[K.eq_nil];rfl
  ·obtain⟨r,C⟩:=NL S es' 0 ha';rcases L3 es' 0 ha' C with⟨rfl,e⟩|⟨s2,h2,I⟩
   ·rfl
   ·have e2:s2=s:=by
     have a:=S s;rw[h2 s]at a;simpa using a
    subst e2;rcases I with⟨e,_⟩|⟨j3,u,rfl,I⟩
    ·rw[e]at C;exact C
    ·exact absurd rfl (hm _ (K.mem_iff.1 I))
  ·cases h
theorem Tg(r:Rel P w0 m h w){t:TypeId}{x k:AD}{x' k':Value}{ok:Bool}{v:AD}(F:VR m x x')(hk:VR m k k')
  (B:N8 P ((GG x).bind h.get) t x k ok=some v):∃v',(Instr.lookup t x' k' ok).run P w=.ok v' w/\VR m v v':=by
 unfold N8 at B;split at B
 ·rename_i kt et rr hu;split at B
  ·rename_i hkey;obtain⟨d,hd⟩:=ME hkey;have ents:∀es,(match rr with|none=>some []|some _=>match(GG (.map rr)).bind h.get with|some (.map st es)=>if st≠0 then some es else none|_=>none)=some es->
     ∃en:Array MapEntry,((x'=.map none/\en=#[])\/∃g clock,x'=.map (some g)/\w.heap[g]?=some (.map en clock))/\∃es',QX es es'/\es'.length=en.toList.length/\∀(j:Nat) (a b:AD) (e:MapEntry),es'[j]?=some (a,b)->en.toList[j]?=some e->VR m a e.key/\VR m b e.val:=by
    intro es Q;cases rr with
    |none=>
     simp at Q;subst Q;cases F;exact⟨#[],.inl ⟨rfl,rfl⟩,[],.inl rfl,rfl,λj a b e h=>by simp at h⟩
    | some id=>
     cases F with
     | map _ E U=>
      simp only[GG,za]at Q;split at Q
      ·rename_i st es' X;split at Q
       ·rename_i hst;injection Q with Q;subst Q;obtain⟨_,W⟩:=r.obj id E _ U X;obtain⟨es2,h0,en,clock,h1,h2,I,_⟩:=W hst;exact⟨en,.inr ⟨E.g,clock,rfl,h1⟩,es2,h0.find,by simpa using h2,λj a b e L he=>I j a b e L (by simpa using he)⟩
       ·cases Q
      ·cases Q
   split at B
   ·rename_i es Q;obtain⟨en,g1,es',hfa,g2,g3⟩:=ents es Q;have hck:∀e,(Instr.checkKey e 10000 kt k').run P w=.ok () w:=λe=>LC 20 10000 kt k k' e om hk hkey;split at B
    ·rename_i j v0 D;injection B with B;subst B;obtain⟨j2,D⟩:=hfa.hit D;obtain⟨res',f1,f2⟩:=HC (w:=w) hk hd g2 g3 D;cases res' with
     |none=>exact f2.elim
     | some p=>
      obtain⟨j',v'⟩:=p;obtain⟨_,_,_,H⟩:=f2;refine⟨if ok then .tuple #[v',.bool true]else v',?_,?_⟩
      ·rcases g1 with⟨rfl,rfl⟩|⟨g,clock,rfl,X⟩
       ·simp[Instr.lookup,BE w hu,hck,f1]
       ·simp[Instr.lookup,BE w hu,getObj,Sem.run,X,hck,f1]
      ·cases ok
       ·simpa using H
       ·simpa using DD.tuple (c:=#[v',.bool true]) (.cons H (.cons (.bool true) (.nil m)))
    ·rename_i D;cases N:Is P et with
     |none=>simp[N]at B
     | some z=>
      simp only[N,zh,zb]at B;subst B;obtain⟨res',f1,f2⟩:=HC (w:=w) hk hd g2 g3 (hfa.C4 D);cases res' with
      |some p=>exact f2.elim
      | none=>
       obtain⟨i,zz,hi,hiz,hvz⟩:=Ie (m:=m) N;have hzv:(zeroValue et).run P w=.ok zz w:=by simp[zeroValue,typeInfo,hi,hiz]
       refine⟨if ok then .tuple #[zz,.bool false]else zz,?_,?_⟩
       ·rcases g1 with⟨rfl,rfl⟩|⟨g,clock,rfl,X⟩
        ·simp[Instr.lookup,BE w hu,hck,f1,hzv]
        ·simp[Instr.lookup,BE w hu,getObj,Sem.run,X,hck,f1,hzv]
       ·cases ok
        ·simpa using hvz
        ·simpa using DD.tuple (c:=#[zz,.bool false]) (.cons hvz (.cons (.bool false) (.nil m)))
    ·cases B
   ·cases B
  ·cases B
 ·cases B
theorem X4{t:TypeId}{o:Nat}:JD P none t o=none:=by
 unfold JD;split
 ·cases DK P t<;>rfl
 ·rfl
 ·rfl
theorem Xw{t:TypeId}{o:Nat}{cs:List AD}{v:AD}(D:∀a∈cs,Av.G9 a=true)(B:JD P (some (.cells none 1 cs)) t o=some v):Av.Ko v=true:=by
 unfold JD at B;split at B
 ·cases M:DK P t with
  |none=>simp[M]at B
  | some n=>
   simp only[M,za,DG]at B;split at B
   ·simp only[zh,zb]at B;subst B;unfold Av.Ko;rw[zr];intro a L;exact D a (xa (qi L))
   ·simp at B
 ·split at B
  ·rename_i x hc;injection B with B;subst B;simp only[DG]at hc;split at hc
   ·injection hc with hc;have F:Av.G9 x=true:=D x (xa (qi (by rw[hc];simp)));cases x<;>simp_all[Av.Ko,Av.G9]
   ·cases hc
  ·cases B
 ·cases B
theorem UR{G:Nat->Option (List AD)}(N:CH G w0)(r:Rel P w0 m h w){fr:Fr}{a:Act}(D:FR m fr a){o:Oper}{v:AD}(C:Mh P G fr ((EN fr o.op).bind h.get) o.op=some v):
  ∃v',(execOp a.eval o).run P w=.ok (.value v') w/\VR m v v':=by
 obtain⟨dst,op,ty,pos,aft,gd⟩:=o;simp only at C;have lift:∀{s:Sem Value} {u:AD},(∃v',s.run P w=.ok v' w/\VR m u v')->∃v',(do pure (.value (<-s)):Sem Next).run P w=.ok (.value v') w/\VR m u v':=by
  rintro s u ⟨v',h1,h2⟩;exact⟨v',by simp[h1],h2⟩
 cases op with
 | load t x=>
  simp only[Mh,EN]at C;split at C
  ·rename_i id o F;rw[F]at C;simp only[GG,za]at C;have H:=D.ev x;rw[F]at H;generalize V:a.eval x=y at H;cases H with
   |ptr _ _ E U=>
    obtain⟨v',h1,h2⟩:=NA r U C;exact lift ⟨v',by simp[Instr.loadAt,Instr.sureAddr,V,h1],h2⟩
  ·rename_i gl o F;have H:=D.ev x;rw[F]at H;generalize V:a.eval x=y at H;cases H with
   | LV _ _=>
    cases hG:G gl with
    |none=>rw[hG]at C;simp only[Option.map_none]at C;rw[X4]at C;cases C
    |some cs=>
     rw[hG]at C;simp only[zh]at C;obtain⟨fY,r',hfl⟩:=N.rel (P:=P) r.below hG;obtain⟨v',h1,h2⟩:=NA (id:=0) (o:=o) (E:=⟨gl,0,0,fY⟩) r' (by simp) (by rw[AF.C7];exact C);refine lift ⟨v',by simp only[yz]at h1;simp[Instr.loadAt,Instr.sureAddr,V,h1],?_⟩;exact h2.Ko (Xw hfl C)
  ·rename_i cs F;have H:=D.ev x;rw[F]at H;generalize V:a.eval x=y at H;cases H with
   |Aw g o _ c hf1 hv1=>
    obtain⟨v',h1,h2⟩:=XN r hf1 hv1 C;exact lift ⟨v',by simp[Instr.loadAt,Instr.sureAddr,V,h1],h2⟩
  ·cases C
 |slice t x lo hi mx=>
  cases mx with
  |some y=>simp[Mh]at C
  |none=>simp only[Mh,EN]at C;exact lift (Va r (D.ev x) (Yu D lo) (Yu D hi) C)
 |convert s d x=>simp only[Mh,EN]at C;exact lift (WC r (D.ev x) C)
 |lookup t x k ok=>simp only[Mh,EN]at C;exact lift (Tg r (D.ev x) (D.ev k) C)
 | call c=>
  obtain⟨callee,asE9,ts⟩:=c;cases callee with
  |value f=>simp[Mh]at C
  |invoke r mth=>simp[Mh]at C
  | builtin b=>
   cases b<;>simp only[Mh]at C<;>try (cases C;done)
   simp only[EN]at C;split at C
   ·rename_i x heq;have has:asE9=#[x]:=Array.ext' (by simpa using heq);subst has;obtain⟨v',h1,h2⟩:=XD (P:=P) r (ty:=ty) (D.ev x) C;have res:∀(w:World),(resolve a.eval {callee:=.builtin .len,args:=#[x],argTypes:=ts} ty).run P w=.ok {target:=.builtin .len ts ty (#[x].map fun| .const _=>true|_=>false),args:=#[x].map a.eval} w:=λw=>rfl;exact⟨v',by simp[execOp,res,invoke,builtin,h1],h2⟩
   ·cases C
 |_=>simp[Mh]at C
end
end Go.Av
