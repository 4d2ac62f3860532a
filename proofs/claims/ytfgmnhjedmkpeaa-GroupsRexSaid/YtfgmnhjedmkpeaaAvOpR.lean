/-
 A part.
-/
import Derived.Test.YtfgmnhjedmkpeaaAvOpP
set_option linter.unusedSimpArgs false
namespace Go.Av
open Go.RowKit
section
variable {P:Program} {w0:World} {m:BU} {h:AE} {w:World}
theorem Rel.cells(r:Rel P w0 m h w){id o n:Nat}{E:Ii}{cs:List AD}(hE:m id=some E)(hc:B2 (h.get id) o n=some cs):
  ∃ds:List Value,ds.length=n/\B5 m cs ds/\(∀(j:Nat) (v:Value),ds[j]?=some v->w.cell? ((⟨E.g,E.base+o,none⟩:Addr).add j)=some v)/\(∀a∈cs,a.one=true):=by
 unfold B2 at hc;split at hc
 ·rename_i gr st l Z;split at hc
  ·rename_i K;injection hc with hc;subst hc;obtain⟨_,Y⟩:=r.obj id E _ hE Z;obtain⟨cur,e,fz,h1,C,J,_⟩:=Y K.1;have hlen:∀j,j<l.length->E.base+j<cur.size:=λj S=>by
    obtain⟨_,c,hc,_⟩:=J j _ (List.getElem?_eq_getElem S);exact(Array.getElem?_eq_some_iff.1 hc).1
   have key:∀j,j<n->(cur.toList.drop (E.base+o))[j]?=cur[E.base+(o+j)]?:=λj S=>by
    rw[List.getElem?_drop,yo];simp
   refine⟨(cur.toList.drop (E.base+o)).take n,?_,⟨?_,?_⟩,?_,?_⟩
   ·rcases yJ n with h0|h0
    ·simp[h0]
    ·have:=hlen (o+n - 1) (by omega);simp;omega
   ·have:n<=cur.size - (E.base+o):=by
     rcases yJ n with h0|h0
     ·omega
     ·have:=hlen (o+n - 1) (by omega);omega
    simp;omega
   ·intro j x y H X;rw[List.getElem?_take]at H X;split at H
    ·rename_i S;rw[zj S,key j S]at X;rw[List.getElem?_drop]at H;obtain⟨_,c,hc,I⟩:=J (o+j) x H;rw[hc]at X;injection X with X;subst X;exact I
    ·cases H
   ·intro j v I;rw[List.getElem?_take]at I;split at I
    ·rename_i S;rw[key j S]at I;rw[Addr.add_lit,cell_of_row w E.g _ cur e fz h1,<-I,yo]
    ·cases I
   ·intro a O;obtain⟨j,S⟩:=yM.1 O;rw[List.getElem?_take]at S;split at S
    ·rw[List.getElem?_drop]at S;exact(J _ a S).1
    ·cases S
  ·cases hc
 ·cases hc
theorem Pt{ob:Option Br}{A:Addr}{o:Nat}{t:TypeId}{v:AD}(hcl:∀n cs,B2 ob o n=some cs->∃ds:List Value,ds.length=n/\B5 m cs ds/\(∀(j:Nat) (v:Value),ds[j]?=some v->w.cell? (A.add j)=some v))(B:Fi P ob t o=some v):
  ∃v',(loadVar t A).run P w=.ok v' w/\VR m v v':=by
 unfold Fi at B;split at B
 ·rename_i O;cases Q:B9 P t with
  |none=>simp[Q]at B
  | some n=>
   simp only[Q,za]at B;cases hc:B2 ob o n with
   |none=>simp[hc]at B
   |some cs=>
    simp only[hc,zf,zd]at B;subst B;obtain⟨ds,h1,C,J⟩:=hcl _ _ hc;subst h1;refine⟨.agg ds.toArray,?_,B5.agg (by simpa using C)⟩;simp[loadVar,HZ w O,run_sizeOf w Q,run_loadCells_list w A ds J]
 ·rename_i O;split at B
  ·rename_i x hc;injection B with B;subst B;obtain⟨ds,h1,C,J⟩:=hcl _ _ hc
   match ds,h1 with
   |[d],_=>
    refine⟨d,?_,C.2 0 x d rfl rfl⟩;have:=J 0 d rfl;simp only[Addr.add_zero']at this;simp[loadVar,HZ w O,this]
  ·cases B
 ·cases B
theorem HC(r:Rel P w0 m h w){id o:Nat}{t:TypeId}{E:Ii}{v:AD}(hE:m id=some E)(B:Fi P (h.get id) t o=some v):
  ∃v',(loadVar t ⟨E.g,E.base+o,none⟩).run P w=.ok v' w/\VR m v v':=
 Pt (λn cs hc=>by obtain⟨ds,h1,C,J,_⟩:=r.cells hE hc;exact⟨ds,h1,C,J⟩) B
theorem Rel.OP(r:Rel P w0 m h w){g o:Nat}{a:List AD}{c:Nat->Value}(F:∀i,i<a.length->m.fz g (o+i)=some (c i))(I:∀(i:Nat) (x:AD),a[i]?=some x->VR m x (c i)):
  ∃ds:List Value,ds.length=a.length/\B5 m a ds/\(∀(j:Nat) (v:Value),ds[j]?=some v->w.cell? ((⟨g,o,none⟩:Addr).add j)=some v):=by
 refine⟨(List.range a.length).map c,by simp,⟨by simp,λi x y H X=>?_⟩,λj v S=>?_⟩
 ·rw[List.getElem?_map]at X;have hi:=(List.getElem?_eq_some_iff.1 H).1;rw[List.getElem?_range hi]at X;simp only[zf,zd]at X;subst X;exact I i x H
 ·rw[List.getElem?_map]at S;by_cases hi:j<a.length
  ·rw[List.getElem?_range hi]at S;simp only[zf,zd]at S;subst S;obtain⟨cur,e,z,h1,C⟩:=r.fz g (o+j) _ (F j hi);rw[Addr.add_lit,cell_of_row w g _ cur e z h1,C]
  ·rw[List.getElem?_eq_none (by simpa using hi)]at S;cases S
theorem RZ(r:Rel P w0 m h w){t:TypeId}{g o:Nat}{a:List AD}{c:Nat->Value}{v:AD}(F:∀i,i<a.length->m.fz g (o+i)=some (c i))(I:∀(i:Nat) (x:AD),a[i]?=some x->VR m x (c i))
  (B:Fi P (some (.cells none 1 a)) t 0=some v):∃v',(loadVar t ⟨g,o,none⟩).run P w=.ok v' w/\VR m v v':=by
 refine Pt (λn cs hc=>?_) B;unfold B2 at hc;simp only at hc;split at hc
 ·rename_i K;injection hc with hc;subst hc;obtain⟨ds,h1,C,J⟩:=r.OP F I;refine⟨ds.take n,by rw[yp];omega,by rw[yw];exact C.take n,λj v S=>J j v ?_⟩;rw[List.getElem?_take]at S;split at S
  ·exact S
  ·cases S
 ·cases hc
theorem Kg:∀(cs:List AD) (ds:List Value) (s:List UInt8),B5 m cs ds->bytesOf cs=some s->
  (∀d∈ds,∃n,d=.int .u8 n)/\s=ds.map (λd=>UInt8.ofNat (match d with| .int _ n=>n.toNat|_=>0))
 |[],ds,s,I,K=>by
  have:ds=[]:=zw (by simpa using I.1.symm);subst this;simp[bytesOf]at K;subst K;simp
 |c::cs,[],s,I,_=>by simp[B5]at I
 | c::cs,d::ds,s,I,K=>by
  have hc:=I.2 0 c d rfl rfl;have hv':B5 m cs ds:=⟨by simpa using I.1,λi x y H X=>I.2 (i+1) x y (by simpa using H) (by simpa using X)⟩;unfold bytesOf at K;split at K
  ·rename_i heq;cases heq
  ·rename_i n r heq;injection heq with e1 e2;subst e1;subst e2;have:=hc.CG;subst this;cases D:bytesOf cs with
   |none=>simp[D]at K
   |some s'=>
    simp only[D,zf,zd]at K;subst K;obtain⟨h1,C⟩:=Kg cs ds s' hv' D;refine⟨λx H=>?_,by simp[C]⟩;cases H with
    |head=>exact⟨n,rfl⟩
    |tail _ H=>exact h1 x H
  ·cases K
theorem My(w:World):∀(ds:List Value) (acc:ByteArray),(∀d∈ds,∃n,d=.int .u8 n)->
  (forIn (m:=Sem) ds acc λc s=>match c with
   | .int .u8 n=>pure (.yield (s.push (UInt8.ofNat n.toNat)))
   |_=>do
    stuck "bytesToString: byte expected"
    pure (.yield s)).run P w=.ok ⟨acc.data++(ds.map (λd=>UInt8.ofNat (match d with| .int _ n=>n.toNat|_=>0))).toArray⟩ w
 |[],acc,_=>by simp
 |d::ds,acc,N=>by
  obtain⟨n,rfl⟩:=N d (by simp);have ih:=My w ds (acc.push (UInt8.ofNat n.toNat)) λx H=>N x (by simp[H]);simp only[qB,Sem.run_bind,Sem.run_pure,Result.andThen_ok];refine ih.trans ?_;congr 2;apply Array.ext';simp[ByteArray.push]
theorem RO(r:Rel P w0 m h w){src dst:TypeId}{x:AD}{x':Value}{v:AD}(H:VR m x x')
  (B:PH P ((EN x).bind h.get) src dst x=some v):∃v',(convert src dst x').run P w=.ok v' w/\VR m v v':=by
 unfold PH at B;split at B
 ·rename_i e rr n V N;split at B
  ·rename_i he;split at B
   ·injection B with B;subst B;refine⟨.string .empty,?_,.str .empty⟩;cases H<;>simp[convert,Ah w V,Ah w N,Ah w he,Conv.bytesToString,loadCells,loadCellsFrom]
   ·rename_i id o;cases H with
    | slice _ _ _ cap E a hE hle hc=>
     split at B
     ·rename_i Q;subst Q;injection B with B;subst B;refine⟨.string .empty,?_,.str .empty⟩;simp[convert,Ah w V,Ah w N,Ah w he,Conv.bytesToString,loadCells,loadCellsFrom]
     ·rename_i Q;obtain⟨O,_⟩:=hc (by omega);subst O;simp only[EN,za]at B;cases hcs:B2 (h.get id) o n with
      |none=>simp[hcs]at B
      | some cs=>
       simp only[hcs,za]at B;cases K:bytesOf cs with
       |none=>simp[K]at B
       |some s=>
        simp only[K,zf,zd]at B;subst B;obtain⟨ds,h1,C,J,_⟩:=r.cells hE hcs;subst h1;obtain⟨g1,g2⟩:=Kg cs ds s C K;refine⟨.string ⟨⟨s⟩⟩,?_,.str ⟨⟨s⟩⟩⟩;have L:=My (P:=P) w ds ByteArray.empty g1;simp only[convert,Sem.run_bind,Ah w V,Ah w N,Ah w he,Result.andThen_ok,Conv.bytesToString,run_loadCells_list w ⟨E.g,E.base+o,none⟩ ds J];rw[<-qm];refine(congrArg (λx=>Result.andThen x λa w'=>Sem.run P (pure (Value.string a)) w') L).trans ?_;rw[g2];simp only[Result.andThen_ok,Sem.run_pure];congr 2;apply ByteArray.ext;apply Array.ext';simp
  ·cases B
 ·rename_i e n cs V N;split at B
  ·rename_i he;split at B
   ·rename_i Q;cases K:bytesOf cs with
    |none=>simp[K]at B
    | some s=>
     simp only[K,zf,zd]at B;subst B;have main:∀(A:Option Addr) (cap:Nat) (ds:List Value),ds.length=n->B5 m cs ds->(∀A',A=some A'->∀(j:Nat) (v:Value),ds[j]?=some v->w.cell? (A'.add j)=some v)->(A=none->ds=[])->
       ∃v',(convert src dst (.slice A n cap)).run P w=.ok v' w/\VR m (.str s) v':=by
      intro A cap ds h1 C J h4;subst h1;obtain⟨g1,g2⟩:=Kg cs ds s C K;refine⟨.string ⟨⟨s⟩⟩,?_,.str ⟨⟨s⟩⟩⟩;cases A with
      |none=>
       have:=h4 rfl;subst this;simp at g2;subst g2;simp[convert,Ah w V,Ah w N,Ah w he,Conv.bytesToString];rfl
      |some A'=>
       have L:=My (P:=P) w ds ByteArray.empty g1;simp only[convert,Sem.run_bind,Ah w V,Ah w N,Ah w he,Result.andThen_ok,Conv.bytesToString,run_loadCells_list w A' ds (J A' rfl)];rw[<-qm];refine(congrArg (λx=>Result.andThen x λa w'=>Sem.run P (pure (Value.string a)) w') L).trans ?_;rw[g2];simp only[Result.andThen_ok,Sem.run_pure];congr 2;apply ByteArray.ext;apply Array.ext';simp
     cases H with
     |N0 A cap=>exact main A cap [] rfl (B5.nil m) (λA' _ j v S=>by simp at S) (λ_=>rfl)
     |JV _ cap g o _ c hc F I=>
      obtain⟨ds,h1,C,J⟩:=r.OP F I;exact main _ cap ds (by omega) C (λA' hA'=>by injection hA' with hA';subst hA';exact J) (λh=>by cases h)
   ·cases B
  ·cases B
 ·cases B
theorem QQ(r:Rel P w0 m h w){t:TypeId}{x:AD}{x':Value}{lo hi:Option AD}{lo' hi':Option Value}{v:AD}(H:VR m x x')(hlo:Wv m lo lo')(hhi:Wv m hi hi')
  (B:OG P ((EN x).bind h.get) t x lo hi=some v):
  ∃v',(Instr.sliceAt t x' lo' hi' none).run P w=.ok v' w/\VR m v v':=by
 unfold OG at B;split at B
 ·-- an array behind a pointer
  rename_i n e id o hu;simp only[EN,za]at B;cases H with
  | ptr _ _ E hE=>
   split at B
   ·rename_i st cs Z;cases R:B9 P e with
    |none=>simp[R]at B
    | some z=>
     simp only[R,za]at B;cases K:Di n lo hi with
     |none=>simp[K]at B
     |some lu=>
      obtain⟨l,u⟩:=lu;simp only[K,zf,zd]at B;subst B;obtain⟨W,h1,C⟩:=Gs (P:=P) w (c:=n) false hlo hhi (zq _) K;have U:E.QG=0:=(r.obj id E _ hE Z).1.1.1;refine⟨.slice (some (if n=l then⟨E.g,E.base+o,none⟩else⟨E.g,E.base+(o+l*z),none⟩)) (u - l) (n - l),?_,.slice id (o+l*z) (u - l) (n - l) E _ hE (by omega) (λhne=>⟨by rw[zk (by omega)],λh=>absurd U h⟩)⟩;simp[Instr.sliceAt,Ah w hu,Instr.sureAddr,W,run_sizeOf w R,Addr.add_lit,yo]
   ·cases B
 ·-- a nil slice
  rename_i e hu;obtain⟨A,rfl⟩:∃A:Option Addr,x'=.slice A 0 0:=by
   cases H with
   |Db=>exact⟨none,rfl⟩
   |HL a=>exact⟨some a,rfl⟩
  cases R:B9 P e with
  |none=>simp[R]at B
  | some z=>
   simp only[R,za]at B;cases K:Di 0 lo hi with
   |none=>simp[K]at B
   |some lu=>
    obtain⟨l,u⟩:=lu;simp only[K,zf,zd]at B;subst B;obtain⟨W,h1,C⟩:=Gs (P:=P) w (c:=0) true hlo hhi (zq _) K;have hu0:u=0:=by omega
    have hl0:l=0:=by omega
    subst hu0;subst hl0;refine⟨.slice A 0 0,?_,by cases A with|none=>exact .Db|some a=>exact .HL a⟩;cases A<;>simp[Instr.sliceAt,Instr.slice,Ah w hu,W,run_sizeOf w R]
 ·-- a still one
  rename_i e n cs hu;cases R:B9 P e with
  |none=>simp[R]at B
  | some z=>
   simp only[R,za]at B;split at B
   ·rename_i hlen;cases K:Di n lo hi with
    |none=>simp[K]at B
    | some lu=>
     obtain⟨l,u⟩:=lu;simp only[K,zf,zd]at B;subst B;cases H with
     |N0 A cap=>
      obtain⟨W,h1,C⟩:=Gs (P:=P) w (c:=cap) true hlo hhi (yb _) K;have hu0:u=0:=by omega
      have hl0:l=0:=by omega
      subst hu0;subst hl0;refine⟨.slice (if cap=0 then A else A.map (·.add (0*z))) 0 cap,?_,?_⟩
      ·cases A<;>simp only[Instr.sliceAt,Instr.slice,Sem.run_bind,Ah w hu,Result.andThen_ok,W,run_sizeOf w R,Sem.run_pure]<;>by_cases e:cap=0<;>simp[e]
      ·simpa using VR.N0 _ _
     | JV _ cap g o _ c hc F I=>
      obtain⟨W,h1,C⟩:=Gs (P:=P) w (c:=cap) true hlo hhi hc K;by_cases he:cap=l
      ·have hu0:u=l:=by omega
       subst hu0;refine⟨.slice (some ⟨g,o,none⟩) 0 0,?_,?_⟩
       ·simp only[Instr.sliceAt,Instr.slice,Sem.run_bind,Ah w hu,Result.andThen_ok,W,run_sizeOf w R,Sem.run_pure];simp[he]
       ·simpa using VR.N0 _ _
      ·refine⟨.slice (some ⟨g,o+l*z,none⟩) (u - l) (cap - l),?_,?_⟩
       ·simp only[Instr.sliceAt,Instr.slice,Sem.run_bind,Ah w hu,Result.andThen_ok,W,run_sizeOf w R,Sem.run_pure];simp[he,Addr.add_lit]
       ·have N:=VR.Pu (VR.MZ F I (l*z)) ((u - l)*z);cases N with
        |Ee _ _ _ c' hf' hv'=>exact .JV _ _ _ _ _ c' (by omega) hf' hv'
   ·cases B
 ·-- a slice
  rename_i e id o n hu;simp only[EN,za]at B;cases H with
  | slice _ _ _ cap E a hE hle hc=>
   have main:∀z,B9 P e=some z->(E.QG≠0->E.QG=z)->∀l u,Di n lo hi=some (l,u)->
     ∃v',(Instr.sliceAt t (.slice (some a) n cap) lo' hi' none).run P w=.ok v' w/\VR m (.slice (some (id,o+l*z)) (u - l)) v':=by
    intro z R U l u K;obtain⟨W,h1,C⟩:=Gs (P:=P) w (c:=cap) true hlo hhi hle K;refine⟨.slice (some (if cap=l then a else a.add (l*z))) (u - l) (cap - l),?_,.slice id (o+l*z) (u - l) (cap - l) E _ hE (by omega) (λhne=>?_)⟩
    ·simp only[Instr.sliceAt,Instr.slice,Sem.run_bind,Ah w hu,Result.andThen_ok,W,run_sizeOf w R,Sem.run_pure];by_cases e:cap=l<;>simp[e]
    ·obtain⟨O,hbd⟩:=hc (by omega);subst O;rw[zk (by omega),Addr.add_lit];refine⟨by rw[yo],λhz0=>?_⟩;have J:=hbd hz0;have h4:=U hz0;rw[<-h4];have:l*E.QG+(cap - l)*E.QG=cap*E.QG:=by rw[<-yj];congr 1;omega
     omega
   split at B
   ·rename_i st cs z Z R;have U:E.QG=0:=(r.obj id E _ hE Z).1.1.1;cases K:Di n lo hi with
    |none=>simp[K]at B
    |some lu=>
     obtain⟨l,u⟩:=lu;simp only[K,zf,zd]at B;subst B;exact main z R (λh=>absurd U h) l u K
   ·rename_i e' st cs z Z R;have U:E.QG=P.cellsOf e':=(r.obj id E _ hE Z).1.1.1;split at B
    ·rename_i hz';cases K:Di n lo hi with
     |none=>simp[K]at B
     |some lu=>
      obtain⟨l,u⟩:=lu;simp only[K,zf,zd]at B;subst B;refine main z R (λ_=>?_) l u K;rw[U];unfold B9 at hz';unfold Program.cellsOf;rw[hz'];rfl
    ·cases B
   ·cases B
 ·cases B
theorem NC(r:Rel P w0 m h w){ts:Array TypeId}{ty:TypeId}{x:AD}{x':Value}{v:AD}(H:VR m x x')
  (B:Rh P ((EN x).bind h.get) ts x=some v):∃v',(Builtin.len_ ts ty #[x']).run P w=.ok v' w/\VR m v v':=by
 unfold Rh at B;split at B
 ·cases B
 ·rename_i t ht;split at B
  ·rename_i k e hu;injection B with B;subst B;cases H;exact⟨_,by simp[Builtin.len_,ht,Ah w hu,goInt],.int _ _⟩
  ·rename_i k e id hu;simp only[EN,za]at B;cases H with
   | map _ E hE=>
    split at B
    ·rename_i st es Z;split at B
     ·rename_i hst;injection B with B;subst B;obtain⟨_,Y⟩:=r.obj id E _ hE Z;obtain⟨es',h0,ents,clock,h1,C,_⟩:=Y hst;rw[h0.len]at C;exact⟨.int .i64 es.length,by simp[Builtin.len_,ht,Ah w hu,goInt,getObj,Sem.run,h1,C],.int _ _⟩
     ·cases B
    ·cases B
  ·rename_i dir e id hu;simp only[EN,za]at B;cases H with
   | chan _ E hE=>
    split at B
    ·rename_i cap buf Z;injection B with B;subst B;obtain⟨bs,sn,rc,h1,C⟩:=r.obj id E _ hE Z;exact⟨.int .i64 buf.length,by simp[Builtin.len_,ht,Ah w hu,goInt,getObj,Sem.run,h1,C.1],.int _ _⟩
    ·cases B
  ·cases B
theorem KO:∀(d d':Nat) (t:TypeId) (k:AD) (k':Value) (e:Bool),d<=d'->VR m k k'->G8 P d t k=true->(Instr.checkKey e d' t k').run P w=.ok () w
 |0,_,_,_,_,_,_,_,M=>by simp[G8]at M
 |d+1,0,_,_,_,_,N,_,_=>by omega
 | d +1,d'+1,t,k,k',e,N,I,M=>by
  have ih:=λt k k'=>KO d d' t k k' e (by omega);unfold G8 at M;split at M
  ·rename_i hu;have:=I.CG;subst this;simp[Instr.checkKey,Ah w hu]
  ·rename_i hu;have:=I.C3;subst this;simp[Instr.checkKey,Ah w hu]
  ·rename_i hu;have:=I.Gl;subst this;simp[Instr.checkKey,Ah w hu]
  ·rename_i fs cs hu;obtain⟨ds,rfl,vd⟩:=I.D1;simp only[Instr.checkKey,Sem.run_bind,Ah w hu,Result.andThen_ok];rw[<-qm];generalize fs.toList=l at M
   induction l with
   |nil=>simp
   | cons f l ihl=>
    simp only[yG,zg]at M;obtain⟨⟨Q,L⟩,D⟩:=M;have hn':f.name≠"_":=by simpa using Q
    cases hpa:EV P f.type cs f.offset with
    |none=>simp[hpa]at L
    |some x=>
     simp only[hpa]at L;obtain⟨y,r1,vy⟩:=FL (P:=P) w vd hpa;have:=ih f.type x y vy L;have J:=ihl D;simp only[qB,Sem.run_bind];rw[zj hn'];simp only[Sem.run_bind,r1,this,Result.andThen_ok,Sem.run_pure];simpa using J
  ·rename_i n el cs hu;obtain⟨ds,rfl,vd⟩:=I.D1;split at M
   ·rename_i z R;simp only[Instr.checkKey,Sem.run_bind,Ah w hu,Result.andThen_ok];simp only[Std.Legacy.Range.forIn_eq_forIn_range',Std.Legacy.Range.size,qr,Nat.add_one_sub_one,Nat.div_one,List.range_eq_range']at M⊢;generalize List.range' 0 n=l at M
    induction l with
    |nil=>simp
    | cons j l ihl=>
     simp only[yG,zg]at M;obtain⟨L,D⟩:=M;cases hpa:EV P el cs (j*z)with
     |none=>simp[hpa]at L
     |some x=>
      simp only[hpa]at L;obtain⟨y,r1,vy⟩:=FL (P:=P) w vd hpa;have:=ih el x y vy L;have J:=ihl D;simp only[qB,Sem.run_bind,run_sizeOf w R,Result.andThen_ok,r1,this,Sem.run_pure];simpa using J
   ·cases M
  ·cases M
def ND(m:BU)(lo hi:Nat):Option (Nat×AD)->Option (Nat×Value)->Prop
 |none,none=>True
 |some (j,v),some (j',v')=>j=j'/\lo<=j/\j<hi/\VR m v v'
 |_,_=>False
theorem ND.weaken{lo lo' hi hi':Nat}(h1:lo'<=lo)(C:hi<=hi'):∀{x:Option (Nat×AD)} {y:Option (Nat×Value)},ND m lo hi x y->ND m lo' hi' x y
 |none,none,_=>trivial
 |some (_,_),some (_,_),h=>⟨h.1,yu h1 h.2.1,zL h.2.2.1 C,h.2.2.2⟩
theorem Mn{kt:TypeId}{k a:AD}{k' a':Value}{d:TypeDesc}{b:Bool}(M:VR m k k')(O:VR m a a')(N:P.underlying kt=some d)(he:Hb P 10000 kt k a=some b)(w:World):
  Instr.sameNow d k' a'=none\/Instr.sameNow d k' a'=some b:=by
 have hrun:=G2 (P:=P) w 10000 kt k a k' a' b M O he;unfold Instr.sameNow;split
 ·rename_i kk n k2 n2;by_cases hkk:kk=k2
  ·subst hkk;have e:=hrun.symm.trans (run_equalIn_int w 9999 kt kk _ n n2 N);injection e with e;right;simp[e]
  ·left;simp[hkk]
 ·rename_i s1 s2;have e:=hrun.symm.trans (run_equalIn_string w 9999 kt s1 s2 N);injection e with e;right;rw[e,beq_toListBytes]
 ·rename_i b1 b2;have e:=hrun.symm.trans (run_equalIn_bool w 9999 kt b1 b2 N);injection e with e;right;rw[e]
 ·exact .inl rfl
theorem Oa{kt:TypeId}{k:AD}{k':Value}(M:VR m k k'):∀(es:List (AD×AD)) (ents:List MapEntry) (i:Nat) (res:Option (Nat×AD)),
  es.length=ents.length->(∀(j:Nat) (a b:AD) (e:MapEntry),es[j]?=some (a,b)->ents[j]?=some e->VR m a e.key/\VR m b e.val)->FN P kt k es i=some res->
  (∃res',(Instr.findAsking kt k' ents i).run P w=.ok res' w/\ND m i (i+es.length) res res')/\
   (∀d,P.underlying kt=some d->Instr.findNow d k' ents i=none\/∃res',Instr.findNow d k' ents i=some res'/\ND m i (i+es.length) res res')
 |[],ents,i,res,B,_,F=>by
  have:ents=[]:=zw B.symm;subst this;simp[FN]at F;subst F;exact⟨⟨none,by simp[Instr.findAsking],trivial⟩,λd _=>.inr ⟨none,rfl,trivial⟩⟩
 |(a,b)::es,[],_,_,B,_,_=>by simp at B
 | (a,b)::es,e::ents,i,res,B,L,F=>by
  obtain⟨va,vb⟩:=L 0 a b e rfl rfl;have hp':∀(j:Nat) (a b:AD) (e:MapEntry),es[j]?=some (a,b)->ents[j]?=some e->VR m a e.key/\VR m b e.val:=λj a b e' h1 C=>L (j+1) a b e' (by simpa using h1) (by simpa using C);unfold FN at F;split at F
  ·rename_i he;injection F with F;subst F;have hfr:ND m i (i+((a,b)::es).length) (some (i,b)) (some (i,e.val)):=⟨rfl,zq _,by simp,vb⟩;refine⟨⟨some (i,e.val),?_,hfr⟩,λd N=>?_⟩
   ·have:=G2 (P:=P) w 10000 kt k a k' e.key true M va he;simp[Instr.findAsking,Op.equal,Op.maxDepth,this]
   ·rcases Mn M va N he w with Q|Q
    ·left;simp[Instr.findNow,Q]
    ·right;exact⟨some (i,e.val),by simp[Instr.findNow,Q],hfr⟩
  ·rename_i he;obtain⟨⟨res',h1,C⟩,J⟩:=Oa M es ents (i+1) res (by simpa using B) hp' F;have wk:i+1+es.length<=i+((a,b)::es).length:=by simp;omega
   refine⟨⟨res',?_,C.weaken (by omega) wk⟩,λd N=>?_⟩
   ·have:=G2 (P:=P) w 10000 kt k a k' e.key false M va he;simp[Instr.findAsking,Op.equal,Op.maxDepth,this,h1]
   ·rcases Mn M va N he w with Q|Q
    ·left;simp[Instr.findNow,Q]
    ·rcases J d N with h4|⟨res2,h4,h5⟩
     ·left;simp[Instr.findNow,Q,h4]
     ·right;exact⟨res2,by simp[Instr.findNow,Q,h4],h5.weaken (by omega) wk⟩
  ·cases F
theorem Gt{kt:TypeId}{k:AD}{k':Value}(M:VR m k k'){es:List (AD×AD)}{ents:List MapEntry}{res:Option (Nat×AD)}{d:TypeDesc}(N:P.underlying kt=some d)
  (B:es.length=ents.length) (L:∀(j:Nat) (a b:AD) (e:MapEntry),es[j]?=some (a,b)->ents[j]?=some e->VR m a e.key/\VR m b e.val) (F:FN P kt k es 0=some res):
  ∃res',(Instr.findKey kt k' ents).run P w=.ok res' w/\ND m 0 es.length res res':=by
 obtain⟨⟨r1,h1,C⟩,J⟩:=Oa (w:=w) M es ents 0 res B L F;rcases J d N with Q|⟨r2,Q,h4⟩
 ·exact⟨r1,by simp[Instr.findKey,Ah w N,Q,h1],C.weaken (zq _) (by omega)⟩
 ·exact⟨r2,by simp[Instr.findKey,Ah w N,Q],h4.weaken (zq _) (by omega)⟩
theorem LK{kt:TypeId}{k:AD}{n:Nat}(M:G8 P n kt k=true):∃d,P.underlying kt=some d:=by
 cases n with
 |zero=>simp[G8]at M
 |succ n=>
  cases N:P.underlying kt with
  |some d=>exact⟨d,rfl⟩
  |none=>simp[G8,N]at M
def OS(es es':List (AD×AD)):Prop:=es'=es\/(es'.Perm es/\es.all MS=true/\(es.map Prod.fst).Nodup)
theorem NT.find{st:Nat}{es es':List (AD×AD)}(h:NT st es es'):OS es es':=by
 by_cases e:st=3
 ·exact .inr (h.perm e)
 ·exact .inl (h.same e)
theorem VS{t:TypeId}{k:AD}{s':List UInt8}{b:Bool}(e:Hb P 10000 t k (.str s')=some b):∃s,∀s',Hb P 10000 t k (.str s')=some (s==s'):=by
 change Hb P (9999+1) t k (.str s')=some b at e;show ∃s,∀s',Hb P (9999+1) t k (.str s')=some (s==s');cases hu:P.underlying t with
 |none=>unfold Hb at e;rw[hu]at e;cases k<;>cases e
 | some d=>
  cases k with
  |str s0=>
   cases d with
   |string=>exact⟨s0,λs2=>by unfold Hb;rw[hu]⟩
   |_=>unfold Hb at e;rw[hu]at e;cases e
  |ptr r=>unfold Hb at e;rw[hu]at e;cases r<;>cases d<;>cases e
  |map r=>unfold Hb at e;rw[hu]at e;cases r<;>cases d<;>cases e
  |_=>unfold Hb at e;rw[hu]at e;cases d<;>cases e
theorem Kt{t:TypeId}{k:AD}:∀(es:List (AD×AD)) (i:Nat) {r:Option (Nat×AD)},es.all MS=true->FN P t k es i=some r->
  (es=[]/\r=none)\/∃s,(∀s',Hb P 10000 t k (.str s')=some (s==s'))/\((r=none/\∀p∈es,p.1≠.str s)\/∃j v,r=some (j,v)/\(AD.str s,v)∈es)
 |[],i,r,_,h=>by
  simp only[FN,zd]at h;exact .inl ⟨rfl,h.symm⟩
 | (k',v)::es,i,r,O,h=>by
  simp only[yG,zg]at O;right;have hk':∃s',k'=.str s':=by
   have:=O.1;unfold MS at this;split at this
   ·rename_i s' _ e;exact⟨s',by cases e;rfl⟩
   ·cases this
  obtain⟨s',rfl⟩:=hk';have V:∃s,∀s',Hb P 10000 t k (.str s')=some (s==s'):=by
   unfold FN at h;cases e:Hb P 10000 t k (.str s')with
   |none=>rw[e]at h;cases h
   |some b=>exact VS e
  obtain⟨s,V⟩:=V;refine⟨s,V,?_⟩;unfold FN at h;rw[V s']at h;by_cases e:(s==s')=true
  ·rw[e]at h;simp only[zd]at h;have e':s=s':=by simpa using e
   exact .inr ⟨i,v,h.symm,by rw[e'];exact .head _⟩
  ·have e:(s==s')=false:=by simpa using e
   rw[e]at h;simp only at h;have hne:(AD.str s')≠.str s:=λq=>by
    injection q with q;rw[q]at e;simp at e
   rcases Kt es (i+1) O.2 h with⟨rfl,rfl⟩|⟨s2,C,J⟩
   ·exact .inl ⟨rfl,λp L=>by simp only[qn]at L;rw[L];exact hne⟩
   ·have e2:s2=s:=by
     have a:=V s;rw[C s]at a;simpa using a
    subst e2;rcases J with⟨rfl,J⟩|⟨j,u,rfl,J⟩
    ·refine .inl ⟨rfl,λp L=>?_⟩;rcases ye.1 L with rfl|L
     ·exact hne
     ·exact J p L
    ·exact .inr ⟨j,u,rfl,.tail _ J⟩
theorem MK{t:TypeId}{k:AD}{s:List UInt8}(V:∀s',Hb P 10000 t k (.str s')=some (s==s')):∀(es:List (AD×AD)) (i:Nat),es.all MS=true->∃r,FN P t k es i=some r
 |[],i,_=>⟨none,rfl⟩
 | (k',v)::es,i,O=>by
  simp only[yG,zg]at O;have hk':∃s',k'=.str s':=by
   have:=O.1;unfold MS at this;split at this
   ·rename_i s' _ e;exact⟨s',by cases e;rfl⟩
   ·cases this
  obtain⟨s',rfl⟩:=hk';unfold FN;rw[V s'];cases s==s' with
  |true=>exact⟨_,rfl⟩
  |false=>exact MK V es (i+1) O.2
theorem OS.hit{es es':List (AD×AD)}(h:OS es es'){t:TypeId}{k v:AD}{j:Nat}(F:FN P t k es 0=some (some (j,v))):∃j2,FN P t k es' 0=some (some (j2,v)):=by
 rcases h with rfl|⟨L,O,Q⟩
 ·exact⟨j,F⟩
 ·have ha':es'.all MS=true:=by
   rw[zC]at O⊢;exact λx H=>O x (L.mem_iff.1 H)
  rcases Kt es 0 O F with⟨_,h⟩|⟨s,V,⟨h,_⟩|⟨j',v',h,hm⟩⟩
  ·cases h
  ·cases h
  ·cases h;obtain⟨r,D⟩:=MK V es' 0 ha';rcases Kt es' 0 ha' D with⟨e,_⟩|⟨s2,C,J⟩
   ·rw[e]at L;have:=L.symm.eq_nil;rw[this]at hm;cases hm
   ·have e2:s2=s:=by
     have a:=V s;rw[C s]at a;simpa using a
    subst e2;rcases J with⟨_,J⟩|⟨j3,u,rfl,J⟩
    ·exact absurd rfl (J _ (L.mem_iff.2 hm))
    ·rw[Px Q hm (L.mem_iff.1 J)];exact⟨j3,D⟩
theorem OS.YE{es es':List (AD×AD)}(h:OS es es'){t:TypeId}{k:AD}(F:FN P t k es 0=some none):FN P t k es' 0=some none:=by
 rcases h with rfl|⟨L,O,Q⟩
 ·exact F
 ·have ha':es'.all MS=true:=by
   rw[zC]at O⊢;exact λx H=>O x (L.mem_iff.1 H)
  rcases Kt es 0 O F with⟨rfl,_⟩|⟨s,V,⟨_,hm⟩|⟨j',v',h,hm⟩⟩
  ·rw[L.eq_nil];rfl
  ·obtain⟨r,D⟩:=MK V es' 0 ha';rcases Kt es' 0 ha' D with⟨rfl,e⟩|⟨s2,C,J⟩
   ·rfl
   ·have e2:s2=s:=by
     have a:=V s;rw[C s]at a;simpa using a
    subst e2;rcases J with⟨e,_⟩|⟨j3,u,rfl,J⟩
    ·rw[e]at D;exact D
    ·exact absurd rfl (hm _ (L.mem_iff.1 J))
  ·cases h
theorem Po(r:Rel P w0 m h w){t:TypeId}{x k:AD}{x' k':Value}{ok:Bool}{v:AD}(H:VR m x x')(M:VR m k k')
  (B:Lc P ((EN x).bind h.get) t x k ok=some v):∃v',(Instr.lookup t x' k' ok).run P w=.ok v' w/\VR m v v':=by
 unfold Lc at B;split at B
 ·rename_i kt et rr hu;split at B
  ·rename_i hkey;obtain⟨d,N⟩:=LK hkey;have ents:∀es,(match rr with|none=>some []|some _=>match(EN (.map rr)).bind h.get with|some (.map st es)=>if st≠0 then some es else none|_=>none)=some es->
     ∃en:Array MapEntry,((x'=.map none/\en=#[])\/∃g clock,x'=.map (some g)/\w.heap[g]?=some (.map en clock))/\∃es',OS es es'/\es'.length=en.toList.length/\∀(j:Nat) (a b:AD) (e:MapEntry),es'[j]?=some (a,b)->en.toList[j]?=some e->VR m a e.key/\VR m b e.val:=by
    intro es T;cases rr with
    |none=>
     simp at T;subst T;cases H;exact⟨#[],.inl ⟨rfl,rfl⟩,[],.inl rfl,rfl,λj a b e h=>by simp at h⟩
    | some id=>
     cases H with
     | map _ E hE=>
      simp only[EN,za]at T;split at T
      ·rename_i st es' Z;split at T
       ·rename_i hst;injection T with T;subst T;obtain⟨_,Y⟩:=r.obj id E _ hE Z;obtain⟨es2,h0,en,clock,h1,C,J,_⟩:=Y hst;exact⟨en,.inr ⟨E.g,clock,rfl,h1⟩,es2,h0.find,by simpa using C,λj a b e O he=>J j a b e O (by simpa using he)⟩
       ·cases T
      ·cases T
   split at B
   ·rename_i es T;obtain⟨en,g1,es',hfa,g2,g3⟩:=ents es T;have hck:∀e,(Instr.checkKey e 10000 kt k').run P w=.ok () w:=λe=>KO 20 10000 kt k k' e (by omega) M hkey;split at B
    ·rename_i j v0 F;injection B with B;subst B;obtain⟨j2,F⟩:=hfa.hit F;obtain⟨res',f1,f2⟩:=Gt (w:=w) M N g2 g3 F;cases res' with
     |none=>exact f2.elim
     | some p=>
      obtain⟨j',v'⟩:=p;obtain⟨_,_,_,I⟩:=f2;refine⟨if ok then .tuple #[v',.bool true]else v',?_,?_⟩
      ·rcases g1 with⟨rfl,rfl⟩|⟨g,clock,rfl,Z⟩
       ·simp[Instr.lookup,Ah w hu,hck,f1]
       ·simp[Instr.lookup,Ah w hu,getObj,Sem.run,Z,hck,f1]
      ·cases ok
       ·simpa using I
       ·simpa using B5.tuple (c:=#[v',.bool true]) (.cons I (.cons (.bool true) (.nil m)))
    ·rename_i F;cases R:GN P et with
     |none=>simp[R]at B
     | some z=>
      simp only[R,zf,zd]at B;subst B;obtain⟨res',f1,f2⟩:=Gt (w:=w) M N g2 g3 (hfa.YE F);cases res' with
      |some p=>exact f2.elim
      | none=>
       obtain⟨i,zz,hi,hiz,hvz⟩:=Fp (m:=m) R;have hzv:(zeroValue et).run P w=.ok zz w:=by simp[zeroValue,typeInfo,hi,hiz]
       refine⟨if ok then .tuple #[zz,.bool false]else zz,?_,?_⟩
       ·rcases g1 with⟨rfl,rfl⟩|⟨g,clock,rfl,Z⟩
        ·simp[Instr.lookup,Ah w hu,hck,f1,hzv]
        ·simp[Instr.lookup,Ah w hu,getObj,Sem.run,Z,hck,f1,hzv]
       ·cases ok
        ·simpa using hvz
        ·simpa using B5.tuple (c:=#[zz,.bool false]) (.cons hvz (.cons (.bool false) (.nil m)))
    ·cases B
   ·cases B
  ·cases B
 ·cases B
theorem M8{t:TypeId}{o:Nat}:Fi P none t o=none:=by
 unfold Fi;split
 ·cases B9 P t<;>rfl
 ·rfl
 ·rfl
theorem M6{t:TypeId}{o:Nat}{cs:List AD}{v:AD}(F:∀a∈cs,Av.Fq a=true)(B:Fi P (some (.cells none 1 cs)) t o=some v):Av.HS v=true:=by
 unfold Fi at B;split at B
 ·cases Q:B9 P t with
  |none=>simp[Q]at B
  | some n=>
   simp only[Q,za,B2]at B;split at B
   ·simp only[zf,zd]at B;subst B;unfold Av.HS;rw[zC];intro a O;exact F a (List.mem_of_mem_drop (qf O))
   ·simp at B
 ·split at B
  ·rename_i x hc;injection B with B;subst B;simp only[B2]at hc;split at hc
   ·injection hc with hc;have H:Av.Fq x=true:=F x (List.mem_of_mem_drop (qf (by rw[hc];simp)));cases x<;>simp_all[Av.HS,Av.Fq]
   ·cases hc
  ·cases B
 ·cases B
theorem K5{G:Nat->Option (List AD)}(R:CL G w0)(r:Rel P w0 m h w){fr:Fr}{a:Act}(F:FR m fr a){o:Oper}{v:AD}(D:Iq P G fr ((Cm fr o.op).bind h.get) o.op=some v):
  ∃v',(execOp a.eval o).run P w=.ok (.value v') w/\VR m v v':=by
 obtain⟨dst,op,ty,pos,aft,gd⟩:=o;simp only at D;have lift:∀{s:Sem Value} {u:AD},(∃v',s.run P w=.ok v' w/\VR m u v')->∃v',(do pure (.value (<-s)):Sem Next).run P w=.ok (.value v') w/\VR m u v':=by
  rintro s u ⟨v',h1,C⟩;exact⟨v',by simp[h1],C⟩
 cases op with
 | load t x=>
  simp only[Iq,Cm]at D;split at D
  ·rename_i id o H;rw[H]at D;simp only[EN,za]at D;have I:=F.ev x;rw[H]at I;generalize X:a.eval x=y at I;cases I with
   |ptr _ _ E hE=>
    obtain⟨v',h1,C⟩:=HC r hE D;exact lift ⟨v',by simp[Instr.loadAt,Instr.sureAddr,X,h1],C⟩
  ·rename_i gl o H;have I:=F.ev x;rw[H]at I;generalize X:a.eval x=y at I;cases I with
   | GM _ _=>
    cases hG:G gl with
    |none=>rw[hG]at D;simp only[Option.map_none]at D;rw[M8]at D;cases D
    |some cs=>
     rw[hG]at D;simp only[zf]at D;obtain⟨tot,r',hfl⟩:=R.rel (P:=P) r.below hG;obtain⟨v',h1,C⟩:=HC (id:=0) (o:=o) (E:=⟨gl,0,0,tot⟩) r' (by simp) (by rw[AE.Bh];exact D);refine lift ⟨v',by simp only[qt]at h1;simp[Instr.loadAt,Instr.sureAddr,X,h1],?_⟩;exact C.HS (M6 hfl D)
  ·rename_i cs H;have I:=F.ev x;rw[H]at I;generalize X:a.eval x=y at I;cases I with
   |Ee g o _ c hf1 hv1=>
    obtain⟨v',h1,C⟩:=RZ r hf1 hv1 D;exact lift ⟨v',by simp[Instr.loadAt,Instr.sureAddr,X,h1],C⟩
  ·cases D
 |slice t x lo hi mx=>
  cases mx with
  |some y=>simp[Iq]at D
  |none=>simp only[Iq,Cm]at D;exact lift (QQ r (F.ev x) (SS F lo) (SS F hi) D)
 |convert s d x=>simp only[Iq,Cm]at D;exact lift (RO r (F.ev x) D)
 |lookup t x k ok=>simp only[Iq,Cm]at D;exact lift (Po r (F.ev x) (F.ev k) D)
 | call c=>
  obtain⟨callee,asE9,ts⟩:=c;cases callee with
  |value f=>simp[Iq]at D
  |invoke r mth=>simp[Iq]at D
  | builtin b=>
   cases b<;>simp only[Iq]at D<;>try (cases D;done)
   simp only[Cm]at D;split at D
   ·rename_i x heq;have has:asE9=#[x]:=Array.ext' (by simpa using heq);subst has;obtain⟨v',h1,C⟩:=NC (P:=P) r (ty:=ty) (F.ev x) D;have res:∀(w:World),(resolve a.eval {callee:=.builtin .len,args:=#[x],argTypes:=ts} ty).run P w=.ok {target:=.builtin .len ts ty (#[x].map fun| .const _=>true|_=>false),args:=#[x].map a.eval} w:=λw=>rfl;exact⟨v',by simp[execOp,res,invoke,builtin,h1],C⟩
   ·cases D
 |_=>simp[Iq]at D
end
end Go.Av
