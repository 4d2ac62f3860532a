/-
 A part.
-/
import Derived.Test.YtfgmnhjedmkpeaaAvOpP
set_option linter.unusedSimpArgs false
namespace Go.Av
open Go.RowKit
section
variable {P:Program} {w0:World} {m:Aj} {h:AB} {w:World}
theorem Rel.cells(r:Rel P w0 m h w){id o n:Nat}{E:Gg}{cs:List AA}(hE:m id=some E)(hc:BQ (h.get id) o n=some cs):
  ∃ds:List Value,ds.length=n/\BT m cs ds/\(∀(j:Nat) (v:Value),ds[j]?=some v->w.cell? ((⟨E.g,E.base+o,none⟩:Addr).add j)=some v)/\(∀a∈cs,a.one=true):=by
 unfold BQ at hc;split at hc
 ·rename_i gr st l hg;split at hc
  ·rename_i K;injection hc with hc;subst hc;obtain⟨_,Z⟩:=r.obj id E _ hE hg;obtain⟨cur,e,fz,h1,C,J,_⟩:=Z K.1;have hlen:∀j,j<l.length->E.base+j<cur.size:=λj S=>by
    obtain⟨_,c,hc,_⟩:=J j _ (List.getElem?_eq_getElem S);exact(Array.getElem?_eq_some_iff.1 hc).1
   have key:∀j,j<n->(cur.toList.drop (E.base+o))[j]?=cur[E.base+(o+j)]?:=λj S=>by
    rw[List.getElem?_drop,yq];simp
   refine⟨(cur.toList.drop (E.base+o)).take n,?_,⟨?_,?_⟩,?_,?_⟩
   ·rcases yA n with h0|h0
    ·simp[h0]
    ·have:=hlen (o+n - 1) (by omega);simp;omega
   ·have:n<=cur.size - (E.base+o):=by
     rcases yA n with h0|h0
     ·omega
     ·have:=hlen (o+n - 1) (by omega);omega
    simp;omega
   ·intro j x y H Y;rw[List.getElem?_take]at H Y;split at H
    ·rename_i S;rw[zk S,key j S]at Y;rw[List.getElem?_drop]at H;obtain⟨_,c,hc,I⟩:=J (o+j) x H;rw[hc]at Y;injection Y with Y;subst Y;exact I
    ·cases H
   ·intro j v I;rw[List.getElem?_take]at I;split at I
    ·rename_i S;rw[key j S]at I;rw[Addr.add_lit,cell_of_row w E.g _ cur e fz h1,<-I,yq]
    ·cases I
   ·intro a O;obtain⟨j,S⟩:=qf.1 O;rw[List.getElem?_take]at S;split at S
    ·rw[List.getElem?_drop]at S;exact(J _ a S).1
    ·cases S
  ·cases hc
 ·cases hc
theorem Nw{ob:Option Ay}{A:Addr}{o:Nat}{t:TypeId}{v:AA}(hcl:∀n cs,BQ ob o n=some cs->∃ds:List Value,ds.length=n/\BT m cs ds/\(∀(j:Nat) (v:Value),ds[j]?=some v->w.cell? (A.add j)=some v))(B:DT P ob t o=some v):
  ∃v',(loadVar t A).run P w=.ok v' w/\VR m v v':=by
 unfold DT at B;split at B
 ·rename_i O;cases Q:BK P t with
  |none=>simp[Q]at B
  | some n=>
   simp only[Q,zd]at B;cases hc:BQ ob o n with
   |none=>simp[hc]at B
   |some cs=>
    simp only[hc,ze,za]at B;subst B;obtain⟨ds,h1,C,J⟩:=hcl _ _ hc;subst h1;refine⟨.agg ds.toArray,?_,BT.agg (by simpa using C)⟩;simp[loadVar,F7 w O,run_sizeOf w Q,run_loadCells_list w A ds J]
 ·rename_i O;split at B
  ·rename_i x hc;injection B with B;subst B;obtain⟨ds,h1,C,J⟩:=hcl _ _ hc
   match ds,h1 with
   |[d],_=>
    refine⟨d,?_,C.2 0 x d rfl rfl⟩;have:=J 0 d rfl;simp only[Addr.add_zero']at this;simp[loadVar,F7 w O,this]
  ·cases B
 ·cases B
theorem F6(r:Rel P w0 m h w){id o:Nat}{t:TypeId}{E:Gg}{v:AA}(hE:m id=some E)(B:DT P (h.get id) t o=some v):
  ∃v',(loadVar t ⟨E.g,E.base+o,none⟩).run P w=.ok v' w/\VR m v v':=
 Nw (λn cs hc=>by obtain⟨ds,h1,C,J,_⟩:=r.cells hE hc;exact⟨ds,h1,C,J⟩) B
theorem Rel.MJ(r:Rel P w0 m h w){g o:Nat}{a:List AA}{c:Nat->Value}(F:∀i,i<a.length->m.fz g (o+i)=some (c i))(I:∀(i:Nat) (x:AA),a[i]?=some x->VR m x (c i)):
  ∃ds:List Value,ds.length=a.length/\BT m a ds/\(∀(j:Nat) (v:Value),ds[j]?=some v->w.cell? ((⟨g,o,none⟩:Addr).add j)=some v):=by
 refine⟨(List.range a.length).map c,by simp,⟨by simp,λi x y H Y=>?_⟩,λj v S=>?_⟩
 ·rw[List.getElem?_map]at Y;have U:=(List.getElem?_eq_some_iff.1 H).1;rw[List.getElem?_range U]at Y;simp only[ze,za]at Y;subst Y;exact I i x H
 ·rw[List.getElem?_map]at S;by_cases U:j<a.length
  ·rw[List.getElem?_range U]at S;simp only[ze,za]at S;subst S;obtain⟨cur,e,z,h1,C⟩:=r.fz g (o+j) _ (F j U);rw[Addr.add_lit,cell_of_row w g _ cur e z h1,C]
  ·rw[List.getElem?_eq_none (by simpa using U)]at S;cases S
theorem Qc(r:Rel P w0 m h w){t:TypeId}{g o:Nat}{a:List AA}{c:Nat->Value}{v:AA}(F:∀i,i<a.length->m.fz g (o+i)=some (c i))(I:∀(i:Nat) (x:AA),a[i]?=some x->VR m x (c i))
  (B:DT P (some (.cells none 1 a)) t 0=some v):∃v',(loadVar t ⟨g,o,none⟩).run P w=.ok v' w/\VR m v v':=by
 refine Nw (λn cs hc=>?_) B;unfold BQ at hc;simp only at hc;split at hc
 ·rename_i K;injection hc with hc;subst hc;obtain⟨ds,h1,C,J⟩:=r.MJ F I;refine⟨ds.take n,by rw[yG];omega,by rw[yv];exact C.take n,λj v S=>J j v ?_⟩;rw[List.getElem?_take]at S;split at S
  ·exact S
  ·cases S
 ·cases hc
theorem Fg:∀(cs:List AA) (ds:List Value) (s:List UInt8),BT m cs ds->bytesOf cs=some s->
  (∀d∈ds,∃n,d=.int .u8 n)/\s=ds.map (λd=>UInt8.ofNat (match d with| .int _ n=>n.toNat|_=>0))
 |[],ds,s,I,K=>by
  have:ds=[]:=zi (by simpa using I.1.symm);subst this;simp[bytesOf]at K;subst K;simp
 |c::cs,[],s,I,_=>by simp[BT]at I
 | c::cs,d::ds,s,I,K=>by
  have hc:=I.2 0 c d rfl rfl;have hv':BT m cs ds:=⟨by simpa using I.1,λi x y H Y=>I.2 (i+1) x y (by simpa using H) (by simpa using Y)⟩;unfold bytesOf at K;split at K
  ·rename_i heq;cases heq
  ·rename_i n r heq;injection heq with e1 e2;subst e1;subst e2;have:=hc.BS;subst this;cases D:bytesOf cs with
   |none=>simp[D]at K
   |some s'=>
    simp only[D,ze,za]at K;subst K;obtain⟨h1,C⟩:=Fg cs ds s' hv' D;refine⟨λx H=>?_,by simp[C]⟩;cases H with
    |head=>exact⟨n,rfl⟩
    |tail _ H=>exact h1 x H
  ·cases K
theorem HL(w:World):∀(ds:List Value) (acc:ByteArray),(∀d∈ds,∃n,d=.int .u8 n)->
  (forIn (m:=Sem) ds acc λc s=>match c with
   | .int .u8 n=>pure (.yield (s.push (UInt8.ofNat n.toNat)))
   |_=>do
    stuck "bytesToString: byte expected"
    pure (.yield s)).run P w=.ok ⟨acc.data++(ds.map (λd=>UInt8.ofNat (match d with| .int _ n=>n.toNat|_=>0))).toArray⟩ w
 |[],acc,_=>by simp
 |d::ds,acc,N=>by
  obtain⟨n,rfl⟩:=N d (by simp);have ih:=HL w ds (acc.push (UInt8.ofNat n.toNat)) λx H=>N x (by simp[H]);simp only[qC,Sem.run_bind,Sem.run_pure,Result.andThen_ok];refine ih.trans ?_;congr 2;apply Array.ext';simp[ByteArray.push]
theorem KQ(r:Rel P w0 m h w){src dst:TypeId}{x:AA}{x':Value}{v:AA}(H:VR m x x')
  (B:KM P ((CM x).bind h.get) src dst x=some v):∃v',(convert src dst x').run P w=.ok v' w/\VR m v v':=by
 unfold KM at B;split at B
 ·rename_i e rr n W N;split at B
  ·rename_i he;split at B
   ·injection B with B;subst B;refine⟨.string .empty,?_,.str .empty⟩;cases H<;>simp[convert,AI w W,AI w N,AI w he,Conv.bytesToString,loadCells,loadCellsFrom]
   ·rename_i id o;cases H with
    | slice _ _ _ cap E a hE hle hc=>
     split at B
     ·rename_i Q;subst Q;injection B with B;subst B;refine⟨.string .empty,?_,.str .empty⟩;simp[convert,AI w W,AI w N,AI w he,Conv.bytesToString,loadCells,loadCellsFrom]
     ·rename_i Q;obtain⟨O,_⟩:=hc (by omega);subst O;simp only[CM,zd]at B;cases hcs:BQ (h.get id) o n with
      |none=>simp[hcs]at B
      | some cs=>
       simp only[hcs,zd]at B;cases K:bytesOf cs with
       |none=>simp[K]at B
       |some s=>
        simp only[K,ze,za]at B;subst B;obtain⟨ds,h1,C,J,_⟩:=r.cells hE hcs;subst h1;obtain⟨g1,g2⟩:=Fg cs ds s C K;refine⟨.string ⟨⟨s⟩⟩,?_,.str ⟨⟨s⟩⟩⟩;have L:=HL (P:=P) w ds ByteArray.empty g1;simp only[convert,Sem.run_bind,AI w W,AI w N,AI w he,Result.andThen_ok,Conv.bytesToString,run_loadCells_list w ⟨E.g,E.base+o,none⟩ ds J];rw[<-qq];refine(congrArg (λx=>Result.andThen x λa w'=>Sem.run P (pure (Value.string a)) w') L).trans ?_;rw[g2];simp only[Result.andThen_ok,Sem.run_pure];congr 2;apply ByteArray.ext;apply Array.ext';simp
  ·cases B
 ·rename_i e n cs W N;split at B
  ·rename_i he;split at B
   ·rename_i Q;cases K:bytesOf cs with
    |none=>simp[K]at B
    | some s=>
     simp only[K,ze,za]at B;subst B;have main:∀(A:Option Addr) (cap:Nat) (ds:List Value),ds.length=n->BT m cs ds->(∀A',A=some A'->∀(j:Nat) (v:Value),ds[j]?=some v->w.cell? (A'.add j)=some v)->(A=none->ds=[])->
       ∃v',(convert src dst (.slice A n cap)).run P w=.ok v' w/\VR m (.str s) v':=by
      intro A cap ds h1 C J h4;subst h1;obtain⟨g1,g2⟩:=Fg cs ds s C K;refine⟨.string ⟨⟨s⟩⟩,?_,.str ⟨⟨s⟩⟩⟩;cases A with
      |none=>
       have:=h4 rfl;subst this;simp at g2;subst g2;simp[convert,AI w W,AI w N,AI w he,Conv.bytesToString];rfl
      |some A'=>
       have L:=HL (P:=P) w ds ByteArray.empty g1;simp only[convert,Sem.run_bind,AI w W,AI w N,AI w he,Result.andThen_ok,Conv.bytesToString,run_loadCells_list w A' ds (J A' rfl)];rw[<-qq];refine(congrArg (λx=>Result.andThen x λa w'=>Sem.run P (pure (Value.string a)) w') L).trans ?_;rw[g2];simp only[Result.andThen_ok,Sem.run_pure];congr 2;apply ByteArray.ext;apply Array.ext';simp
     cases H with
     |Ic A cap=>exact main A cap [] rfl (BT.nil m) (λA' _ j v S=>by simp at S) (λ_=>rfl)
     |Gi _ cap g o _ c hc F I=>
      obtain⟨ds,h1,C,J⟩:=r.MJ F I;exact main _ cap ds (by omega) C (λA' hA'=>by injection hA' with hA';subst hA';exact J) (λh=>by cases h)
   ·cases B
  ·cases B
 ·cases B
theorem JW(r:Rel P w0 m h w){t:TypeId}{x:AA}{x':Value}{lo U:Option AA}{lo' hi':Option Value}{v:AA}(H:VR m x x')(hlo:QO m lo lo')(hhi:QO m U hi')
  (B:I7 P ((CM x).bind h.get) t x lo U=some v):
  ∃v',(Instr.sliceAt t x' lo' hi' none).run P w=.ok v' w/\VR m v v':=by
 unfold I7 at B;split at B
 ·-- an array behind a pointer
  rename_i n e id o hu;simp only[CM,zd]at B;cases H with
  | ptr _ _ E hE=>
   split at B
   ·rename_i st cs hg;cases R:BK P e with
    |none=>simp[R]at B
    | some z=>
     simp only[R,zd]at B;cases K:CD n lo U with
     |none=>simp[K]at B
     |some lu=>
      obtain⟨l,u⟩:=lu;simp only[K,ze,za]at B;subst B;obtain⟨X,h1,C⟩:=Ct (P:=P) w (c:=n) false hlo hhi (zr _) K;have V:E.Lw=0:=(r.obj id E _ hE hg).1.1.1;refine⟨.slice (some (if n=l then⟨E.g,E.base+o,none⟩else⟨E.g,E.base+(o+l*z),none⟩)) (u - l) (n - l),?_,.slice id (o+l*z) (u - l) (n - l) E _ hE (by omega) (λhne=>⟨by rw[zh (by omega)],λh=>absurd V h⟩)⟩;simp[Instr.sliceAt,AI w hu,Instr.sureAddr,X,run_sizeOf w R,Addr.add_lit,yq]
   ·cases B
 ·-- a nil slice
  rename_i e hu;obtain⟨A,rfl⟩:∃A:Option Addr,x'=.slice A 0 0:=by
   cases H with
   |By=>exact⟨none,rfl⟩
   |D5 a=>exact⟨some a,rfl⟩
  cases R:BK P e with
  |none=>simp[R]at B
  | some z=>
   simp only[R,zd]at B;cases K:CD 0 lo U with
   |none=>simp[K]at B
   |some lu=>
    obtain⟨l,u⟩:=lu;simp only[K,ze,za]at B;subst B;obtain⟨X,h1,C⟩:=Ct (P:=P) w (c:=0) true hlo hhi (zr _) K;have hu0:u=0:=by omega
    have hl0:l=0:=by omega
    subst hu0;subst hl0;refine⟨.slice A 0 0,?_,by cases A with|none=>exact .By|some a=>exact .D5 a⟩;cases A<;>simp[Instr.sliceAt,Instr.slice,AI w hu,X,run_sizeOf w R]
 ·-- a still one
  rename_i e n cs hu;cases R:BK P e with
  |none=>simp[R]at B
  | some z=>
   simp only[R,zd]at B;split at B
   ·rename_i hlen;cases K:CD n lo U with
    |none=>simp[K]at B
    | some lu=>
     obtain⟨l,u⟩:=lu;simp only[K,ze,za]at B;subst B;cases H with
     |Ic A cap=>
      obtain⟨X,h1,C⟩:=Ct (P:=P) w (c:=cap) true hlo hhi (ye _) K;have hu0:u=0:=by omega
      have hl0:l=0:=by omega
      subst hu0;subst hl0;refine⟨.slice (if cap=0 then A else A.map (·.add (0*z))) 0 cap,?_,?_⟩
      ·cases A<;>simp only[Instr.sliceAt,Instr.slice,Sem.run_bind,AI w hu,Result.andThen_ok,X,run_sizeOf w R,Sem.run_pure]<;>by_cases e:cap=0<;>simp[e]
      ·simpa using VR.Ic _ _
     | Gi _ cap g o _ c hc F I=>
      obtain⟨X,h1,C⟩:=Ct (P:=P) w (c:=cap) true hlo hhi hc K;by_cases he:cap=l
      ·have hu0:u=l:=by omega
       subst hu0;refine⟨.slice (some ⟨g,o,none⟩) 0 0,?_,?_⟩
       ·simp only[Instr.sliceAt,Instr.slice,Sem.run_bind,AI w hu,Result.andThen_ok,X,run_sizeOf w R,Sem.run_pure];simp[he]
       ·simpa using VR.Ic _ _
      ·refine⟨.slice (some ⟨g,o+l*z,none⟩) (u - l) (cap - l),?_,?_⟩
       ·simp only[Instr.sliceAt,Instr.slice,Sem.run_bind,AI w hu,Result.andThen_ok,X,run_sizeOf w R,Sem.run_pure];simp[he,Addr.add_lit]
       ·have N:=VR.ON (VR.Kc F I (l*z)) ((u - l)*z);cases N with
        |Bu _ _ _ c' hf' hv'=>exact .Gi _ _ _ _ _ c' (by omega) hf' hv'
   ·cases B
 ·-- a slice
  rename_i e id o n hu;simp only[CM,zd]at B;cases H with
  | slice _ _ _ cap E a hE hle hc=>
   have main:∀z,BK P e=some z->(E.Lw≠0->E.Lw=z)->∀l u,CD n lo U=some (l,u)->
     ∃v',(Instr.sliceAt t (.slice (some a) n cap) lo' hi' none).run P w=.ok v' w/\VR m (.slice (some (id,o+l*z)) (u - l)) v':=by
    intro z R V l u K;obtain⟨X,h1,C⟩:=Ct (P:=P) w (c:=cap) true hlo hhi hle K;refine⟨.slice (some (if cap=l then a else a.add (l*z))) (u - l) (cap - l),?_,.slice id (o+l*z) (u - l) (cap - l) E _ hE (by omega) (λhne=>?_)⟩
    ·simp only[Instr.sliceAt,Instr.slice,Sem.run_bind,AI w hu,Result.andThen_ok,X,run_sizeOf w R,Sem.run_pure];by_cases e:cap=l<;>simp[e]
    ·obtain⟨O,hbd⟩:=hc (by omega);subst O;rw[zh (by omega),Addr.add_lit];refine⟨by rw[yq],λhz0=>?_⟩;have J:=hbd hz0;have h4:=V hz0;rw[<-h4];have:l*E.Lw+(cap - l)*E.Lw=cap*E.Lw:=by rw[<-yl];congr 1;omega
     omega
   split at B
   ·rename_i st cs z hg R;have V:E.Lw=0:=(r.obj id E _ hE hg).1.1.1;cases K:CD n lo U with
    |none=>simp[K]at B
    |some lu=>
     obtain⟨l,u⟩:=lu;simp only[K,ze,za]at B;subst B;exact main z R (λh=>absurd V h) l u K
   ·rename_i e' st cs z hg R;have V:E.Lw=P.cellsOf e':=(r.obj id E _ hE hg).1.1.1;split at B
    ·rename_i hz';cases K:CD n lo U with
     |none=>simp[K]at B
     |some lu=>
      obtain⟨l,u⟩:=lu;simp only[K,ze,za]at B;subst B;refine main z R (λ_=>?_) l u K;rw[V];unfold BK at hz';unfold Program.cellsOf;rw[hz'];rfl
    ·cases B
   ·cases B
 ·cases B
theorem Kr(r:Rel P w0 m h w){ts:Array TypeId}{ty:TypeId}{x:AA}{x':Value}{v:AA}(H:VR m x x')
  (B:O8 P ((CM x).bind h.get) ts x=some v):∃v',(Builtin.len_ ts ty #[x']).run P w=.ok v' w/\VR m v v':=by
 unfold O8 at B;split at B
 ·cases B
 ·rename_i t ht;split at B
  ·rename_i k e hu;injection B with B;subst B;cases H;exact⟨_,by simp[Builtin.len_,ht,AI w hu,goInt],.int _ _⟩
  ·rename_i k e id hu;simp only[CM,zd]at B;cases H with
   | map _ E hE=>
    split at B
    ·rename_i st es hg;split at B
     ·rename_i hst;injection B with B;subst B;obtain⟨_,Z⟩:=r.obj id E _ hE hg;obtain⟨es',h0,ents,clock,h1,C,_⟩:=Z hst;rw[h0.len]at C;exact⟨.int .i64 es.length,by simp[Builtin.len_,ht,AI w hu,goInt,getObj,Sem.run,h1,C],.int _ _⟩
     ·cases B
    ·cases B
  ·rename_i dir e id hu;simp only[CM,zd]at B;cases H with
   | chan _ E hE=>
    split at B
    ·rename_i cap buf hg;injection B with B;subst B;obtain⟨bs,sn,rc,h1,C⟩:=r.obj id E _ hE hg;exact⟨.int .i64 buf.length,by simp[Builtin.len_,ht,AI w hu,goInt,getObj,Sem.run,h1,C.1],.int _ _⟩
    ·cases B
  ·cases B
theorem Eb:∀(d d':Nat) (t:TypeId) (k:AA) (k':Value) (e:Bool),d<=d'->VR m k k'->ER P d t k=true->(Instr.checkKey e d' t k').run P w=.ok () w
 |0,_,_,_,_,_,_,_,M=>by simp[ER]at M
 |d+1,0,_,_,_,_,N,_,_=>by omega
 | d +1,d'+1,t,k,k',e,N,I,M=>by
  have ih:=λt k k'=>Eb d d' t k k' e (by omega);unfold ER at M;split at M
  ·rename_i hu;have:=I.BS;subst this;simp[Instr.checkKey,AI w hu]
  ·rename_i hu;have:=I.CF;subst this;simp[Instr.checkKey,AI w hu]
  ·rename_i hu;have:=I.E7;subst this;simp[Instr.checkKey,AI w hu]
  ·rename_i fs cs hu;obtain⟨ds,rfl,vd⟩:=I.Cn;simp only[Instr.checkKey,Sem.run_bind,AI w hu,Result.andThen_ok];rw[<-qq];generalize fs.toList=l at M
   induction l with
   |nil=>simp
   | cons f l ihl=>
    simp only[yJ,zf]at M;obtain⟨⟨Q,L⟩,D⟩:=M;have hn':f.name≠"_":=by simpa using Q
    cases hpa:Dw P f.type cs f.offset with
    |none=>simp[hpa]at L
    |some x=>
     simp only[hpa]at L;obtain⟨y,r1,vy⟩:=Dq (P:=P) w vd hpa;have:=ih f.type x y vy L;have J:=ihl D;simp only[qC,Sem.run_bind];rw[zk hn'];simp only[Sem.run_bind,r1,this,Result.andThen_ok,Sem.run_pure];simpa using J
  ·rename_i n el cs hu;obtain⟨ds,rfl,vd⟩:=I.Cn;split at M
   ·rename_i z R;simp only[Instr.checkKey,Sem.run_bind,AI w hu,Result.andThen_ok];simp only[Std.Legacy.Range.forIn_eq_forIn_range',Std.Legacy.Range.size,y9,Nat.add_one_sub_one,Nat.div_one,qg]at M⊢;generalize List.range' 0 n=l at M
    induction l with
    |nil=>simp
    | cons j l ihl=>
     simp only[yJ,zf]at M;obtain⟨L,D⟩:=M;cases hpa:Dw P el cs (j*z)with
     |none=>simp[hpa]at L
     |some x=>
      simp only[hpa]at L;obtain⟨y,r1,vy⟩:=Dq (P:=P) w vd hpa;have:=ih el x y vy L;have J:=ihl D;simp only[qC,Sem.run_bind,run_sizeOf w R,Result.andThen_ok,r1,this,Sem.run_pure];simpa using J
   ·cases M
  ·cases M
def GV(m:Aj)(lo U:Nat):Option (Nat×AA)->Option (Nat×Value)->Prop
 |none,none=>True
 |some (j,v),some (j',v')=>j=j'/\lo<=j/\j<U/\VR m v v'
 |_,_=>False
theorem GV.weaken{lo lo' U hi':Nat}(h1:lo'<=lo)(C:U<=hi'):∀{x:Option (Nat×AA)} {y:Option (Nat×Value)},GV m lo U x y->GV m lo' hi' x y
 |none,none,_=>trivial
 |some (_,_),some (_,_),h=>⟨h.1,zM h1 h.2.1,zQ h.2.2.1 C,h.2.2.2⟩
theorem GL{kt:TypeId}{k a:AA}{k' a':Value}{d:TypeDesc}{b:Bool}(M:VR m k k')(O:VR m a a')(N:P.underlying kt=some d)(he:GZ P 10000 kt k a=some b)(w:World):
  Instr.sameNow d k' a'=none\/Instr.sameNow d k' a'=some b:=by
 have hrun:=Ef (P:=P) w 10000 kt k a k' a' b M O he;unfold Instr.sameNow;split
 ·rename_i kk n k2 n2;by_cases hkk:kk=k2
  ·subst hkk;have e:=hrun.symm.trans (run_equalIn_int w 9999 kt kk _ n n2 N);injection e with e;right;simp[e]
  ·left;simp[hkk]
 ·rename_i s1 s2;have e:=hrun.symm.trans (run_equalIn_string w 9999 kt s1 s2 N);injection e with e;right;rw[e,beq_toListBytes]
 ·rename_i b1 b2;have e:=hrun.symm.trans (run_equalIn_bool w 9999 kt b1 b2 N);injection e with e;right;rw[e]
 ·exact .inl rfl
theorem HU{kt:TypeId}{k:AA}{k':Value}(M:VR m k k'):∀(es:List (AA×AA)) (ents:List MapEntry) (i:Nat) (res:Option (Nat×AA)),
  es.length=ents.length->(∀(j:Nat) (a b:AA) (e:MapEntry),es[j]?=some (a,b)->ents[j]?=some e->VR m a e.key/\VR m b e.val)->ET P kt k es i=some res->
  (∃res',(Instr.findAsking kt k' ents i).run P w=.ok res' w/\GV m i (i+es.length) res res')/\
   (∀d,P.underlying kt=some d->Instr.findNow d k' ents i=none\/∃res',Instr.findNow d k' ents i=some res'/\GV m i (i+es.length) res res')
 |[],ents,i,res,B,_,F=>by
  have:ents=[]:=zi B.symm;subst this;simp[ET]at F;subst F;exact⟨⟨none,by simp[Instr.findAsking],trivial⟩,λd _=>.inr ⟨none,rfl,trivial⟩⟩
 |(a,b)::es,[],_,_,B,_,_=>by simp at B
 | (a,b)::es,e::ents,i,res,B,L,F=>by
  obtain⟨va,vb⟩:=L 0 a b e rfl rfl;have hp':∀(j:Nat) (a b:AA) (e:MapEntry),es[j]?=some (a,b)->ents[j]?=some e->VR m a e.key/\VR m b e.val:=λj a b e' h1 C=>L (j+1) a b e' (by simpa using h1) (by simpa using C);unfold ET at F;split at F
  ·rename_i he;injection F with F;subst F;have hfr:GV m i (i+((a,b)::es).length) (some (i,b)) (some (i,e.val)):=⟨rfl,zr _,by simp,vb⟩;refine⟨⟨some (i,e.val),?_,hfr⟩,λd N=>?_⟩
   ·have:=Ef (P:=P) w 10000 kt k a k' e.key true M va he;simp[Instr.findAsking,Op.equal,Op.maxDepth,this]
   ·rcases GL M va N he w with Q|Q
    ·left;simp[Instr.findNow,Q]
    ·right;exact⟨some (i,e.val),by simp[Instr.findNow,Q],hfr⟩
  ·rename_i he;obtain⟨⟨res',h1,C⟩,J⟩:=HU M es ents (i+1) res (by simpa using B) hp' F;have wk:i+1+es.length<=i+((a,b)::es).length:=by simp;omega
   refine⟨⟨res',?_,C.weaken (by omega) wk⟩,λd N=>?_⟩
   ·have:=Ef (P:=P) w 10000 kt k a k' e.key false M va he;simp[Instr.findAsking,Op.equal,Op.maxDepth,this,h1]
   ·rcases GL M va N he w with Q|Q
    ·left;simp[Instr.findNow,Q]
    ·rcases J d N with h4|⟨res2,h4,h5⟩
     ·left;simp[Instr.findNow,Q,h4]
     ·right;exact⟨res2,by simp[Instr.findNow,Q,h4],h5.weaken (by omega) wk⟩
  ·cases F
theorem CO{kt:TypeId}{k:AA}{k':Value}(M:VR m k k'){es:List (AA×AA)}{ents:List MapEntry}{res:Option (Nat×AA)}{d:TypeDesc}(N:P.underlying kt=some d)
  (B:es.length=ents.length) (L:∀(j:Nat) (a b:AA) (e:MapEntry),es[j]?=some (a,b)->ents[j]?=some e->VR m a e.key/\VR m b e.val) (F:ET P kt k es 0=some res):
  ∃res',(Instr.findKey kt k' ents).run P w=.ok res' w/\GV m 0 es.length res res':=by
 obtain⟨⟨r1,h1,C⟩,J⟩:=HU (w:=w) M es ents 0 res B L F;rcases J d N with Q|⟨r2,Q,h4⟩
 ·exact⟨r1,by simp[Instr.findKey,AI w N,Q,h1],C.weaken (zr _) (by omega)⟩
 ·exact⟨r2,by simp[Instr.findKey,AI w N,Q],h4.weaken (zr _) (by omega)⟩
theorem FH{kt:TypeId}{k:AA}{n:Nat}(M:ER P n kt k=true):∃d,P.underlying kt=some d:=by
 cases n with
 |zero=>simp[ER]at M
 |succ n=>
  cases N:P.underlying kt with
  |some d=>exact⟨d,rfl⟩
  |none=>simp[ER,N]at M
def Lx(es es':List (AA×AA)):Prop:=es'=es\/(es'.Perm es/\es.all KF=true/\(es.map Prod.fst).Nodup)
theorem J7.find{st:Nat}{es es':List (AA×AA)}(h:J7 st es es'):Lx es es':=by
 by_cases e:st=3
 ·exact .inr (h.perm e)
 ·exact .inl (h.same e)
theorem Ua{t:TypeId}{k:AA}{s':List UInt8}{b:Bool}(e:GZ P 10000 t k (.str s')=some b):∃s,∀s',GZ P 10000 t k (.str s')=some (s==s'):=by
 change GZ P (9999+1) t k (.str s')=some b at e;show ∃s,∀s',GZ P (9999+1) t k (.str s')=some (s==s');cases hu:P.underlying t with
 |none=>unfold GZ at e;rw[hu]at e;cases k<;>cases e
 | some d=>
  cases k with
  |str s0=>
   cases d with
   |string=>exact⟨s0,λs2=>by unfold GZ;rw[hu]⟩
   |_=>unfold GZ at e;rw[hu]at e;cases e
  |ptr r=>unfold GZ at e;rw[hu]at e;cases r<;>cases d<;>cases e
  |map r=>unfold GZ at e;rw[hu]at e;cases r<;>cases d<;>cases e
  |_=>unfold GZ at e;rw[hu]at e;cases d<;>cases e
theorem JH{t:TypeId}{k:AA}:∀(es:List (AA×AA)) (i:Nat) {r:Option (Nat×AA)},es.all KF=true->ET P t k es i=some r->
  (es=[]/\r=none)\/∃s,(∀s',GZ P 10000 t k (.str s')=some (s==s'))/\((r=none/\∀p∈es,p.1≠.str s)\/∃j v,r=some (j,v)/\(AA.str s,v)∈es)
 |[],i,r,_,h=>by
  simp only[ET,za]at h;exact .inl ⟨rfl,h.symm⟩
 | (k',v)::es,i,r,O,h=>by
  simp only[yJ,zf]at O;right;have hk':∃s',k'=.str s':=by
   have:=O.1;unfold KF at this;split at this
   ·rename_i s' _ e;exact⟨s',by cases e;rfl⟩
   ·cases this
  obtain⟨s',rfl⟩:=hk';have W:∃s,∀s',GZ P 10000 t k (.str s')=some (s==s'):=by
   unfold ET at h;cases e:GZ P 10000 t k (.str s')with
   |none=>rw[e]at h;cases h
   |some b=>exact Ua e
  obtain⟨s,W⟩:=W;refine⟨s,W,?_⟩;unfold ET at h;rw[W s']at h;by_cases e:(s==s')=true
  ·rw[e]at h;simp only[za]at h;have e':s=s':=by simpa using e
   exact .inr ⟨i,v,h.symm,by rw[e'];exact .head _⟩
  ·have e:(s==s')=false:=by simpa using e
   rw[e]at h;simp only at h;have hne:(AA.str s')≠.str s:=λq=>by
    injection q with q;rw[q]at e;simp at e
   rcases JH es (i+1) O.2 h with⟨rfl,rfl⟩|⟨s2,C,J⟩
   ·exact .inl ⟨rfl,λp L=>by simp only[zw]at L;rw[L];exact hne⟩
   ·have e2:s2=s:=by
     have a:=W s;rw[C s]at a;simpa using a
    subst e2;rcases J with⟨rfl,J⟩|⟨j,u,rfl,J⟩
    ·refine .inl ⟨rfl,λp L=>?_⟩;rcases zP.1 L with rfl|L
     ·exact hne
     ·exact J p L
    ·exact .inr ⟨j,u,rfl,.tail _ J⟩
theorem J0{t:TypeId}{k:AA}{s:List UInt8}(W:∀s',GZ P 10000 t k (.str s')=some (s==s')):∀(es:List (AA×AA)) (i:Nat),es.all KF=true->∃r,ET P t k es i=some r
 |[],i,_=>⟨none,rfl⟩
 | (k',v)::es,i,O=>by
  simp only[yJ,zf]at O;have hk':∃s',k'=.str s':=by
   have:=O.1;unfold KF at this;split at this
   ·rename_i s' _ e;exact⟨s',by cases e;rfl⟩
   ·cases this
  obtain⟨s',rfl⟩:=hk';unfold ET;rw[W s'];cases s==s' with
  |true=>exact⟨_,rfl⟩
  |false=>exact J0 W es (i+1) O.2
theorem Lx.hit{es es':List (AA×AA)}(h:Lx es es'){t:TypeId}{k v:AA}{j:Nat}(F:ET P t k es 0=some (some (j,v))):∃j2,ET P t k es' 0=some (some (j2,v)):=by
 rcases h with rfl|⟨L,O,Q⟩
 ·exact⟨j,F⟩
 ·have ha':es'.all KF=true:=by
   rw[zC]at O⊢;exact λx H=>O x (L.mem_iff.1 H)
  rcases JH es 0 O F with⟨_,h⟩|⟨s,W,⟨h,_⟩|⟨j',v',h,hm⟩⟩
  ·cases h
  ·cases h
  ·cases h;obtain⟨r,D⟩:=J0 W es' 0 ha';rcases JH es' 0 ha' D with⟨e,_⟩|⟨s2,C,J⟩
   ·rw[e]at L;have:=L.symm.eq_nil;rw[this]at hm;cases hm
   ·have e2:s2=s:=by
     have a:=W s;rw[C s]at a;simpa using a
    subst e2;rcases J with⟨_,J⟩|⟨j3,u,rfl,J⟩
    ·exact absurd rfl (J _ (L.mem_iff.2 hm))
    ·rw[Nz Q hm (L.mem_iff.1 J)];exact⟨j3,D⟩
theorem Lx.Zx{es es':List (AA×AA)}(h:Lx es es'){t:TypeId}{k:AA}(F:ET P t k es 0=some none):ET P t k es' 0=some none:=by
 rcases h with rfl|⟨L,O,Q⟩
 ·exact F
 ·have ha':es'.all KF=true:=by
   rw[zC]at O⊢;exact λx H=>O x (L.mem_iff.1 H)
  rcases JH es 0 O F with⟨rfl,_⟩|⟨s,W,⟨_,hm⟩|⟨j',v',h,hm⟩⟩
  ·rw[L.eq_nil];rfl
  ·obtain⟨r,D⟩:=J0 W es' 0 ha';rcases JH es' 0 ha' D with⟨rfl,e⟩|⟨s2,C,J⟩
   ·rfl
   ·have e2:s2=s:=by
     have a:=W s;rw[C s]at a;simpa using a
    subst e2;rcases J with⟨e,_⟩|⟨j3,u,rfl,J⟩
    ·rw[e]at D;exact D
    ·exact absurd rfl (hm _ (L.mem_iff.1 J))
  ·cases h
theorem I0(r:Rel P w0 m h w){t:TypeId}{x k:AA}{x' k':Value}{ok:Bool}{v:AA}(H:VR m x x')(M:VR m k k')
  (B:Il P ((CM x).bind h.get) t x k ok=some v):∃v',(Instr.lookup t x' k' ok).run P w=.ok v' w/\VR m v v':=by
 unfold Il at B;split at B
 ·rename_i kt et rr hu;split at B
  ·rename_i hkey;obtain⟨d,N⟩:=FH hkey;have ents:∀es,(match rr with|none=>some []|some _=>match(CM (.map rr)).bind h.get with|some (.map st es)=>if st≠0 then some es else none|_=>none)=some es->
     ∃en:Array MapEntry,((x'=.map none/\en=#[])\/∃g clock,x'=.map (some g)/\w.heap[g]?=some (.map en clock))/\∃es',Lx es es'/\es'.length=en.toList.length/\∀(j:Nat) (a b:AA) (e:MapEntry),es'[j]?=some (a,b)->en.toList[j]?=some e->VR m a e.key/\VR m b e.val:=by
    intro es T;cases rr with
    |none=>
     simp at T;subst T;cases H;exact⟨#[],.inl ⟨rfl,rfl⟩,[],.inl rfl,rfl,λj a b e h=>by simp at h⟩
    | some id=>
     cases H with
     | map _ E hE=>
      simp only[CM,zd]at T;split at T
      ·rename_i st es' hg;split at T
       ·rename_i hst;injection T with T;subst T;obtain⟨_,Z⟩:=r.obj id E _ hE hg;obtain⟨es2,h0,en,clock,h1,C,J,_⟩:=Z hst;exact⟨en,.inr ⟨E.g,clock,rfl,h1⟩,es2,h0.find,by simpa using C,λj a b e O he=>J j a b e O (by simpa using he)⟩
       ·cases T
      ·cases T
   split at B
   ·rename_i es T;obtain⟨en,g1,es',hfa,g2,g3⟩:=ents es T;have hck:∀e,(Instr.checkKey e 10000 kt k').run P w=.ok () w:=λe=>Eb 20 10000 kt k k' e (by omega) M hkey;split at B
    ·rename_i j v0 F;injection B with B;subst B;obtain⟨j2,F⟩:=hfa.hit F;obtain⟨res',f1,f2⟩:=CO (w:=w) M N g2 g3 F;cases res' with
     |none=>exact f2.elim
     | some p=>
      obtain⟨j',v'⟩:=p;obtain⟨_,_,_,I⟩:=f2;refine⟨if ok then .tuple #[v',.bool true]else v',?_,?_⟩
      ·rcases g1 with⟨rfl,rfl⟩|⟨g,clock,rfl,hg⟩
       ·simp[Instr.lookup,AI w hu,hck,f1]
       ·simp[Instr.lookup,AI w hu,getObj,Sem.run,hg,hck,f1]
      ·cases ok
       ·simpa using I
       ·simpa using BT.tuple (c:=#[v',.bool true]) (.cons I (.cons (.bool true) (.nil m)))
    ·rename_i F;cases R:Ew P et with
     |none=>simp[R]at B
     | some z=>
      simp only[R,ze,za]at B;subst B;obtain⟨res',f1,f2⟩:=CO (w:=w) M N g2 g3 (hfa.Zx F);cases res' with
      |some p=>exact f2.elim
      | none=>
       obtain⟨i,zz,U,hiz,hvz⟩:=DU (m:=m) R;have hzv:(zeroValue et).run P w=.ok zz w:=by simp[zeroValue,typeInfo,U,hiz]
       refine⟨if ok then .tuple #[zz,.bool false]else zz,?_,?_⟩
       ·rcases g1 with⟨rfl,rfl⟩|⟨g,clock,rfl,hg⟩
        ·simp[Instr.lookup,AI w hu,hck,f1,hzv]
        ·simp[Instr.lookup,AI w hu,getObj,Sem.run,hg,hck,f1,hzv]
       ·cases ok
        ·simpa using hvz
        ·simpa using BT.tuple (c:=#[zz,.bool false]) (.cons hvz (.cons (.bool false) (.nil m)))
    ·cases B
   ·cases B
  ·cases B
 ·cases B
theorem Kx{t:TypeId}{o:Nat}:DT P none t o=none:=by
 unfold DT;split
 ·cases BK P t<;>rfl
 ·rfl
 ·rfl
theorem K4{t:TypeId}{o:Nat}{cs:List AA}{v:AA}(F:∀a∈cs,Av.Ev a=true)(B:DT P (some (.cells none 1 cs)) t o=some v):Av.D2 v=true:=by
 unfold DT at B;split at B
 ·cases Q:BK P t with
  |none=>simp[Q]at B
  | some n=>
   simp only[Q,zd,BQ]at B;split at B
   ·simp only[ze,za]at B;subst B;unfold Av.D2;rw[zC];intro a O;exact F a (List.mem_of_mem_drop (qh O))
   ·simp at B
 ·split at B
  ·rename_i x hc;injection B with B;subst B;simp only[BQ]at hc;split at hc
   ·injection hc with hc;have H:Av.Ev x=true:=F x (List.mem_of_mem_drop (qh (by rw[hc];simp)));cases x<;>simp_all[Av.D2,Av.Ev]
   ·cases hc
  ·cases B
 ·cases B
theorem JI{G:Nat->Option (List AA)}(R:Bk G w0)(r:Rel P w0 m h w){fr:Fr}{a:Act}(F:FR m fr a){o:Oper}{v:AA}(D:Gh P G fr ((B1 fr o.op).bind h.get) o.op=some v):
  ∃v',(execOp a.eval o).run P w=.ok (.value v') w/\VR m v v':=by
 obtain⟨dst,op,ty,pos,aft,gd⟩:=o;simp only at D;have lift:∀{s:Sem Value} {u:AA},(∃v',s.run P w=.ok v' w/\VR m u v')->∃v',(do pure (.value (<-s)):Sem Next).run P w=.ok (.value v') w/\VR m u v':=by
  rintro s u ⟨v',h1,C⟩;exact⟨v',by simp[h1],C⟩
 cases op with
 | load t x=>
  simp only[Gh,B1]at D;split at D
  ·rename_i id o H;rw[H]at D;simp only[CM,zd]at D;have I:=F.ev x;rw[H]at I;generalize Y:a.eval x=y at I;cases I with
   |ptr _ _ E hE=>
    obtain⟨v',h1,C⟩:=F6 r hE D;exact lift ⟨v',by simp[Instr.loadAt,Instr.sureAddr,Y,h1],C⟩
  ·rename_i gl o H;have I:=F.ev x;rw[H]at I;generalize Y:a.eval x=y at I;cases I with
   | EJ _ _=>
    cases hG:G gl with
    |none=>rw[hG]at D;simp only[Option.map_none]at D;rw[Kx]at D;cases D
    |some cs=>
     rw[hG]at D;simp only[ze]at D;obtain⟨tot,r',hfl⟩:=R.rel (P:=P) r.below hG;obtain⟨v',h1,C⟩:=F6 (id:=0) (o:=o) (E:=⟨gl,0,0,tot⟩) r' (by simp) (by rw[AB.A8];exact D);refine lift ⟨v',by simp only[qt]at h1;simp[Instr.loadAt,Instr.sureAddr,Y,h1],?_⟩;exact C.D2 (K4 hfl D)
  ·rename_i cs H;have I:=F.ev x;rw[H]at I;generalize Y:a.eval x=y at I;cases I with
   |Bu g o _ c hf1 hv1=>
    obtain⟨v',h1,C⟩:=Qc r hf1 hv1 D;exact lift ⟨v',by simp[Instr.loadAt,Instr.sureAddr,Y,h1],C⟩
  ·cases D
 |slice t x lo U mx=>
  cases mx with
  |some y=>simp[Gh]at D
  |none=>simp only[Gh,B1]at D;exact lift (JW r (F.ev x) (Lq F lo) (Lq F U) D)
 |convert s d x=>simp only[Gh,B1]at D;exact lift (KQ r (F.ev x) D)
 |lookup t x k ok=>simp only[Gh,B1]at D;exact lift (I0 r (F.ev x) (F.ev k) D)
 | call c=>
  obtain⟨callee,asE9,ts⟩:=c;cases callee with
  |value f=>simp[Gh]at D
  |invoke r mth=>simp[Gh]at D
  | builtin b=>
   cases b<;>simp only[Gh]at D<;>try (cases D;done)
   simp only[B1]at D;split at D
   ·rename_i x heq;have has:asE9=#[x]:=Array.ext' (by simpa using heq);subst has;obtain⟨v',h1,C⟩:=Kr (P:=P) r (ty:=ty) (F.ev x) D;have res:∀(w:World),(resolve a.eval {callee:=.builtin .len,args:=#[x],argTypes:=ts} ty).run P w=.ok {target:=.builtin .len ts ty (#[x].map fun| .const _=>true|_=>false),args:=#[x].map a.eval} w:=λw=>rfl;exact⟨v',by simp[execOp,res,invoke,builtin,h1],C⟩
   ·cases D
 |_=>simp[Gh]at D
end
end Go.Av
