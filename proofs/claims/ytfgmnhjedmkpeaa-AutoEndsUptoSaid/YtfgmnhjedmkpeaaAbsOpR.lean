/-
 A part.
-/
import Derived.Test.YtfgmnhjedmkpeaaAbsOpP
set_option linter.unusedSimpArgs false
namespace Go.Abs
open Go.RowKit
section
variable {P:Program} {w0:World} {m:Aj} {h:AB} {w:World}
theorem Rel.cells(r:Rel P w0 m h w){id o n:Nat}{E:Gg}{cs:List AA}(hE:m id=some E)(hc:BQ (h.get id) o n=some cs):
  ∃ds:List Value,ds.length=n/\BT m cs ds/\(∀(j:Nat) (v:Value),ds[j]?=some v->w.cell? ((⟨E.g,E.base+o,none⟩:Addr).add j)=some v)/\(∀a∈cs,a.one=true):=by
 unfold BQ at hc;split at hc
 ·rename_i gr st l V;split at hc
  ·rename_i D;injection hc with hc;subst hc;obtain⟨_,S⟩:=r.obj id E _ hE V;obtain⟨cur,e,fz,h1,J,R,_⟩:=S D.1;have hlen:∀j,j<l.length->E.base+j<cur.size:=λj Y=>by
    obtain⟨_,c,hc,_⟩:=R j _ (List.getElem?_eq_getElem Y);exact(Array.getElem?_eq_some_iff.1 hc).1
   have key:∀j,j<n->(cur.toList.drop (E.base+o))[j]?=cur[E.base+(o+j)]?:=λj Y=>by
    rw[List.getElem?_drop,xA];simp
   refine⟨(cur.toList.drop (E.base+o)).take n,?_,⟨?_,?_⟩,?_,?_⟩
   ·rcases xE n with h0|h0
    ·simp[h0]
    ·have:=hlen (o+n - 1) (by omega);simp;omega
   ·have:n<=cur.size - (E.base+o):=by
     rcases xE n with h0|h0
     ·omega
     ·have:=hlen (o+n - 1) (by omega);omega
    simp;omega
   ·intro j x y F hy;rw[List.getElem?_take]at F hy;split at F
    ·rename_i Y;rw[xj Y,key j Y]at hy;rw[List.getElem?_drop]at F;obtain⟨_,c,hc,H⟩:=R (o+j) x F;rw[hc]at hy;injection hy with hy;subst hy;exact H
    ·cases F
   ·intro j v H;rw[List.getElem?_take]at H;split at H
    ·rename_i Y;rw[key j Y]at H;rw[Addr.add_lit,cell_of_row w E.g _ cur e fz h1,<-H,xA]
    ·cases H
   ·intro a W;obtain⟨j,Y⟩:=xZ.1 W;rw[List.getElem?_take]at Y;split at Y
    ·rw[List.getElem?_drop]at Y;exact(R _ a Y).1
    ·cases Y
  ·cases hc
 ·cases hc
theorem F6(r:Rel P w0 m h w){id o:Nat}{t:TypeId}{E:Gg}{v:AA}(hE:m id=some E)(B:DT P (h.get id) t o=some v):
  ∃v',(loadVar t ⟨E.g,E.base+o,none⟩).run P w=.ok v' w/\VR m v v':=by
 unfold DT at B;split at B
 ·rename_i W;cases N:BK P t with
  |none=>simp[N]at B
  | some n=>
   simp only[N,qW]at B;cases hc:BQ (h.get id) o n with
   |none=>simp[hc]at B
   |some cs=>
    simp only[hc,qZ,qV]at B;subst B;obtain⟨ds,h1,J,R,_⟩:=r.cells hE hc;subst h1;refine⟨.agg ds.toArray,?_,BT.agg (by simpa using J)⟩;simp[loadVar,F7 w W,run_sizeOf w N,run_loadCells_list w ⟨E.g,E.base+o,none⟩ ds R]
 ·rename_i W;split at B
  ·rename_i x hc;injection B with B;subst B;obtain⟨ds,h1,J,R,_⟩:=r.cells hE hc
   match ds,h1 with
   |[d],_=>
    refine⟨d,?_,J.2 0 x d rfl rfl⟩;have:=R 0 d rfl;simp only[Addr.add_zero']at this;simp[loadVar,F7 w W,this]
  ·cases B
 ·cases B
theorem Fg:∀(cs:List AA) (ds:List Value) (s:List UInt8),BT m cs ds->bytesOf cs=some s->
  (∀d∈ds,∃n,d=.int .u8 n)/\s=ds.map (λd=>UInt8.ofNat (match d with| .int _ n=>n.toNat|_=>0))
 |[],ds,s,H,D=>by
  have:ds=[]:=xl (by simpa using H.1.symm);subst this;simp[bytesOf]at D;subst D;simp
 |c::cs,[],s,H,_=>by simp[BT]at H
 | c::cs,d::ds,s,H,D=>by
  have hc:=H.2 0 c d rfl rfl;have hv':BT m cs ds:=⟨by simpa using H.1,λi x y F hy=>H.2 (i+1) x y (by simpa using F) (by simpa using hy)⟩;unfold bytesOf at D;split at D
  ·rename_i heq;cases heq
  ·rename_i n r heq;injection heq with e1 e2;subst e1;subst e2;have:=hc.BS;subst this;cases C:bytesOf cs with
   |none=>simp[C]at D
   |some s'=>
    simp only[C,qZ,qV]at D;subst D;obtain⟨h1,J⟩:=Fg cs ds s' hv' C;refine⟨λx F=>?_,by simp[J]⟩;cases F with
    |head=>exact⟨n,rfl⟩
    |tail _ F=>exact h1 x F
  ·cases D
theorem HL(w:World):∀(ds:List Value) (acc:ByteArray),(∀d∈ds,∃n,d=.int .u8 n)->
  (forIn (m:=Sem) ds acc λc s=>match c with
   | .int .u8 n=>pure (.yield (s.push (UInt8.ofNat n.toNat)))
   |_=>do
    stuck "bytesToString: byte expected"
    pure (.yield s)).run P w=.ok ⟨acc.data++(ds.map (λd=>UInt8.ofNat (match d with| .int _ n=>n.toNat|_=>0))).toArray⟩ w
 |[],acc,_=>by simp
 |d::ds,acc,L=>by
  obtain⟨n,rfl⟩:=L d (by simp);have ih:=HL w ds (acc.push (UInt8.ofNat n.toNat)) λx F=>L x (by simp[F]);simp only[wn,Sem.run_bind,Sem.run_pure,Result.andThen_ok];refine ih.trans ?_;congr 2;apply Array.ext';simp[ByteArray.push]
theorem KQ(r:Rel P w0 m h w){src dst:TypeId}{x:AA}{x':Value}{v:AA}(F:VR m x x')
  (B:KM P ((CM x).bind h.get) src dst x=some v):∃v',(convert src dst x').run P w=.ok v' w/\VR m v v':=by
 unfold KM at B;split at B
 ·rename_i e rr n hs L;split at B
  ·rename_i he;split at B
   ·injection B with B;subst B;cases F;refine⟨.string .empty,?_,.str .empty⟩;simp[convert,AI w hs,AI w L,AI w he,Conv.bytesToString]
   ·rename_i id o;cases F with
    | slice _ _ _ cap E a hE hle hc=>
     split at B
     ·rename_i N;subst N;injection B with B;subst B;refine⟨.string .empty,?_,.str .empty⟩;simp[convert,AI w hs,AI w L,AI w he,Conv.bytesToString,loadCells,loadCellsFrom]
     ·rename_i N;obtain⟨W,_⟩:=hc (by omega);subst W;simp only[CM,qW]at B;cases hcs:BQ (h.get id) o n with
      |none=>simp[hcs]at B
      | some cs=>
       simp only[hcs,qW]at B;cases D:bytesOf cs with
       |none=>simp[D]at B
       |some s=>
        simp only[D,qZ,qV]at B;subst B;obtain⟨ds,h1,J,R,_⟩:=r.cells hE hcs;subst h1;obtain⟨g1,g2⟩:=Fg cs ds s J D;refine⟨.string ⟨⟨s⟩⟩,?_,.str ⟨⟨s⟩⟩⟩;have X:=HL (P:=P) w ds ByteArray.empty g1;simp only[convert,Sem.run_bind,AI w hs,AI w L,AI w he,Result.andThen_ok,Conv.bytesToString,run_loadCells_list w ⟨E.g,E.base+o,none⟩ ds R];rw[<-Array.forIn_toList];refine(congrArg (λx=>Result.andThen x λa w'=>Sem.run P (pure (Value.string a)) w') X).trans ?_;rw[g2];simp only[Result.andThen_ok,Sem.run_pure];congr 2;apply ByteArray.ext;apply Array.ext';simp
  ·cases B
 ·cases B
theorem JW(r:Rel P w0 m h w){t:TypeId}{x:AA}{x':Value}{lo T:Option AA}{lo' Z:Option Value}{v:AA}(F:VR m x x')(hlo:QO m lo lo')(hhi:QO m T Z)
  (B:I7 P ((CM x).bind h.get) t x lo T=some v):
  ∃v',(Instr.sliceAt t x' lo' Z none).run P w=.ok v' w/\VR m v v':=by
 unfold I7 at B;split at B
 ·-- an array behind a pointer
  rename_i n e id o hu;simp only[CM,qW]at B;cases F with
  | ptr _ _ E hE=>
   split at B
   ·rename_i st cs V;cases Q:BK P e with
    |none=>simp[Q]at B
    | some z=>
     simp only[Q,qW]at B;cases D:CD n lo T with
     |none=>simp[D]at B
     |some lu=>
      obtain⟨l,u⟩:=lu;simp only[D,qZ,qV]at B;subst B;obtain⟨hbs,h1,J⟩:=Ct (P:=P) w (c:=n) false hlo hhi (xe _) D;have O:E.Lw=0:=(r.obj id E _ hE V).1;refine⟨.slice (some (if n=l then⟨E.g,E.base+o,none⟩else⟨E.g,E.base+(o+l*z),none⟩)) (u - l) (n - l),?_,.slice id (o+l*z) (u - l) (n - l) E _ hE (by omega) (λhne=>⟨by rw[xg (by omega)],λh=>absurd O h⟩)⟩;simp[Instr.sliceAt,AI w hu,Instr.sureAddr,hbs,run_sizeOf w Q,Addr.add_lit,xA]
   ·cases B
 ·-- a nil slice
  rename_i e hu;cases F;cases Q:BK P e with
  |none=>simp[Q]at B
  | some z=>
   simp only[Q,qW]at B;cases D:CD 0 lo T with
   |none=>simp[D]at B
   |some lu=>
    obtain⟨l,u⟩:=lu;simp only[D,qZ,qV]at B;subst B;obtain⟨hbs,h1,J⟩:=Ct (P:=P) w (c:=0) true hlo hhi (xe _) D;have hu0:u=0:=by omega
    have hl0:l=0:=by omega
    subst hu0;subst hl0;exact⟨.slice none 0 0,by simp[Instr.sliceAt,Instr.slice,AI w hu,hbs,run_sizeOf w Q],.By⟩
 ·-- a slice
  rename_i e id o n hu;simp only[CM,qW]at B;cases F with
  | slice _ _ _ cap E a hE hle hc=>
   have main:∀z,BK P e=some z->(E.Lw≠0->E.Lw=z)->∀l u,CD n lo T=some (l,u)->
     ∃v',(Instr.sliceAt t (.slice (some a) n cap) lo' Z none).run P w=.ok v' w/\VR m (.slice (some (id,o+l*z)) (u - l)) v':=by
    intro z Q O l u D;obtain⟨hbs,h1,J⟩:=Ct (P:=P) w (c:=cap) true hlo hhi hle D;refine⟨.slice (some (if cap=l then a else a.add (l*z))) (u - l) (cap - l),?_,.slice id (o+l*z) (u - l) (cap - l) E _ hE (by omega) (λhne=>?_)⟩
    ·simp only[Instr.sliceAt,Instr.slice,Sem.run_bind,AI w hu,Result.andThen_ok,hbs,run_sizeOf w Q,Sem.run_pure];by_cases e:cap=l<;>simp[e]
    ·obtain⟨W,hbd⟩:=hc (by omega);subst W;rw[xg (by omega),Addr.add_lit];refine⟨by rw[xA],λhz0=>?_⟩;have R:=hbd hz0;have h4:=O hz0;rw[<-h4];have:l*E.Lw+(cap - l)*E.Lw=cap*E.Lw:=by rw[<-xr];congr 1;omega
     omega
   split at B
   ·rename_i st cs z V Q;have O:E.Lw=0:=(r.obj id E _ hE V).1;cases D:CD n lo T with
    |none=>simp[D]at B
    |some lu=>
     obtain⟨l,u⟩:=lu;simp only[D,qZ,qV]at B;subst B;exact main z Q (λh=>absurd O h) l u D
   ·rename_i e' st cs z V Q;have O:E.Lw=P.cellsOf e':=(r.obj id E _ hE V).1;split at B
    ·rename_i hz';cases D:CD n lo T with
     |none=>simp[D]at B
     |some lu=>
      obtain⟨l,u⟩:=lu;simp only[D,qZ,qV]at B;subst B;refine main z Q (λ_=>?_) l u D;rw[O];unfold BK at hz';unfold Program.cellsOf;rw[hz'];rfl
    ·cases B
   ·cases B
 ·cases B
theorem Kr(r:Rel P w0 m h w){ts:Array TypeId}{ty:TypeId}{x:AA}{x':Value}{v:AA}(F:VR m x x')
  (B:O8 P ((CM x).bind h.get) ts x=some v):∃v',(Builtin.len_ ts ty #[x']).run P w=.ok v' w/\VR m v v':=by
 unfold O8 at B;split at B
 ·cases B
 ·rename_i t ht;split at B
  ·rename_i k e hu;injection B with B;subst B;cases F;exact⟨_,by simp[Builtin.len_,ht,AI w hu,goInt],.int _ _⟩
  ·rename_i k e id hu;simp only[CM,qW]at B;cases F with
   | map _ E hE=>
    split at B
    ·rename_i st es V;split at B
     ·rename_i hst;injection B with B;subst B;obtain⟨_,S⟩:=r.obj id E _ hE V;obtain⟨ents,clock,h1,J,_⟩:=S hst;exact⟨.int .i64 es.length,by simp[Builtin.len_,ht,AI w hu,goInt,getObj,Sem.run,h1,J],.int _ _⟩
     ·cases B
    ·cases B
  ·cases B
theorem Eb:∀(d d':Nat) (t:TypeId) (k:AA) (k':Value) (e:Bool),d<=d'->VR m k k'->ER P d t k=true->(Instr.checkKey e d' t k').run P w=.ok () w
 |0,_,_,_,_,_,_,_,I=>by simp[ER]at I
 |d+1,0,_,_,_,_,L,_,_=>by omega
 | d +1,d'+1,t,k,k',e,L,H,I=>by
  have ih:=λt k k'=>Eb d d' t k k' e (by omega);unfold ER at I;split at I
  ·rename_i hu;have:=H.BS;subst this;simp[Instr.checkKey,AI w hu]
  ·rename_i hu;have:=H.CF;subst this;simp[Instr.checkKey,AI w hu]
  ·rename_i hu;have:=H.E7;subst this;simp[Instr.checkKey,AI w hu]
  ·rename_i fs cs hu;obtain⟨ds,rfl,vd⟩:=H.Cn;simp only[Instr.checkKey,Sem.run_bind,AI w hu,Result.andThen_ok];rw[<-Array.forIn_toList];generalize fs.toList=l at I
   induction l with
   |nil=>simp
   | cons f l ihl=>
    simp only[wa,xf]at I;obtain⟨⟨N,X⟩,C⟩:=I;have hn':f.name≠"_":=by simpa using N
    cases U:Dw P f.type cs f.offset with
    |none=>simp[U]at X
    |some x=>
     simp only[U]at X;obtain⟨y,r1,vy⟩:=Dq (P:=P) w vd U;have:=ih f.type x y vy X;have R:=ihl C;simp only[wn,Sem.run_bind];rw[xj hn'];simp only[Sem.run_bind,r1,this,Result.andThen_ok,Sem.run_pure];simpa using R
  ·rename_i n el cs hu;obtain⟨ds,rfl,vd⟩:=H.Cn;split at I
   ·rename_i z Q;simp only[Instr.checkKey,Sem.run_bind,AI w hu,Result.andThen_ok];simp only[Std.Legacy.Range.forIn_eq_forIn_range',Std.Legacy.Range.size,Nat.sub_zero,Nat.add_one_sub_one,Nat.div_one,List.range_eq_range']at I⊢;generalize List.range' 0 n=l at I
    induction l with
    |nil=>simp
    | cons j l ihl=>
     simp only[wa,xf]at I;obtain⟨X,C⟩:=I;cases U:Dw P el cs (j*z)with
     |none=>simp[U]at X
     |some x=>
      simp only[U]at X;obtain⟨y,r1,vy⟩:=Dq (P:=P) w vd U;have:=ih el x y vy X;have R:=ihl C;simp only[wn,Sem.run_bind,run_sizeOf w Q,Result.andThen_ok,r1,this,Sem.run_pure];simpa using R
   ·cases I
  ·cases I
def GV(m:Aj)(lo T:Nat):Option (Nat×AA)->Option (Nat×Value)->Prop
 |none,none=>True
 |some (j,v),some (j',v')=>j=j'/\lo<=j/\j<T/\VR m v v'
 |_,_=>False
theorem GV.weaken{lo lo' T Z:Nat}(h1:lo'<=lo)(J:T<=Z):∀{x:Option (Nat×AA)} {y:Option (Nat×Value)},GV m lo T x y->GV m lo' Z x y
 |none,none,_=>trivial
 |some (_,_),some (_,_),h=>⟨h.1,xq h1 h.2.1,xi h.2.2.1 J,h.2.2.2⟩
theorem GL{kt:TypeId}{k a:AA}{k' a':Value}{d:TypeDesc}{b:Bool}(I:VR m k k')(W:VR m a a')(L:P.underlying kt=some d)(he:GZ P 10000 kt k a=some b)(w:World):
  Instr.sameNow d k' a'=none\/Instr.sameNow d k' a'=some b:=by
 have hrun:=Ef (P:=P) w 10000 kt k a k' a' b I W he;unfold Instr.sameNow;split
 ·rename_i kk n k2 n2;by_cases hkk:kk=k2
  ·subst hkk;have e:=hrun.symm.trans (run_equalIn_int w 9999 kt kk _ n n2 L);injection e with e;right;simp[e]
  ·left;simp[hkk]
 ·rename_i s1 s2;have e:=hrun.symm.trans (run_equalIn_string w 9999 kt s1 s2 L);injection e with e;right;rw[e,beq_toListBytes]
 ·rename_i b1 b2;have e:=hrun.symm.trans (run_equalIn_bool w 9999 kt b1 b2 L);injection e with e;right;rw[e]
 ·exact .inl rfl
theorem HU{kt:TypeId}{k:AA}{k':Value}(I:VR m k k'):∀(es:List (AA×AA)) (ents:List MapEntry) (i:Nat) (res:Option (Nat×AA)),
  es.length=ents.length->(∀(j:Nat) (a b:AA) (e:MapEntry),es[j]?=some (a,b)->ents[j]?=some e->VR m a e.key/\VR m b e.val)->ET P kt k es i=some res->
  (∃res',(Instr.findAsking kt k' ents i).run P w=.ok res' w/\GV m i (i+es.length) res res')/\
   (∀d,P.underlying kt=some d->Instr.findNow d k' ents i=none\/∃res',Instr.findNow d k' ents i=some res'/\GV m i (i+es.length) res res')
 |[],ents,i,res,B,_,K=>by
  have:ents=[]:=xl B.symm;subst this;simp[ET]at K;subst K;exact⟨⟨none,by simp[Instr.findAsking],trivial⟩,λd _=>.inr ⟨none,rfl,trivial⟩⟩
 |(a,b)::es,[],_,_,B,_,_=>by simp at B
 | (a,b)::es,e::ents,i,res,B,X,K=>by
  obtain⟨va,vb⟩:=X 0 a b e rfl rfl;have hp':∀(j:Nat) (a b:AA) (e:MapEntry),es[j]?=some (a,b)->ents[j]?=some e->VR m a e.key/\VR m b e.val:=λj a b e' h1 J=>X (j+1) a b e' (by simpa using h1) (by simpa using J);unfold ET at K;split at K
  ·rename_i he;injection K with K;subst K;have hfr:GV m i (i+((a,b)::es).length) (some (i,b)) (some (i,e.val)):=⟨rfl,xe _,by simp,vb⟩;refine⟨⟨some (i,e.val),?_,hfr⟩,λd L=>?_⟩
   ·have:=Ef (P:=P) w 10000 kt k a k' e.key true I va he;simp[Instr.findAsking,Op.equal,Op.maxDepth,this]
   ·rcases GL I va L he w with N|N
    ·left;simp[Instr.findNow,N]
    ·right;exact⟨some (i,e.val),by simp[Instr.findNow,N],hfr⟩
  ·rename_i he;obtain⟨⟨res',h1,J⟩,R⟩:=HU I es ents (i+1) res (by simpa using B) hp' K;have wk:i+1+es.length<=i+((a,b)::es).length:=by simp;omega
   refine⟨⟨res',?_,J.weaken (by omega) wk⟩,λd L=>?_⟩
   ·have:=Ef (P:=P) w 10000 kt k a k' e.key false I va he;simp[Instr.findAsking,Op.equal,Op.maxDepth,this,h1]
   ·rcases GL I va L he w with N|N
    ·left;simp[Instr.findNow,N]
    ·rcases R d L with h4|⟨res2,h4,h5⟩
     ·left;simp[Instr.findNow,N,h4]
     ·right;exact⟨res2,by simp[Instr.findNow,N,h4],h5.weaken (by omega) wk⟩
  ·cases K
theorem CO{kt:TypeId}{k:AA}{k':Value}(I:VR m k k'){es:List (AA×AA)}{ents:List MapEntry}{res:Option (Nat×AA)}{d:TypeDesc}(L:P.underlying kt=some d)
  (B:es.length=ents.length) (X:∀(j:Nat) (a b:AA) (e:MapEntry),es[j]?=some (a,b)->ents[j]?=some e->VR m a e.key/\VR m b e.val) (K:ET P kt k es 0=some res):
  ∃res',(Instr.findKey kt k' ents).run P w=.ok res' w/\GV m 0 es.length res res':=by
 obtain⟨⟨r1,h1,J⟩,R⟩:=HU (w:=w) I es ents 0 res B X K;rcases R d L with N|⟨r2,N,h4⟩
 ·exact⟨r1,by simp[Instr.findKey,AI w L,N,h1],J.weaken (xe _) (by omega)⟩
 ·exact⟨r2,by simp[Instr.findKey,AI w L,N],h4.weaken (xe _) (by omega)⟩
theorem FH{kt:TypeId}{k:AA}{n:Nat}(I:ER P n kt k=true):∃d,P.underlying kt=some d:=by
 cases n with
 |zero=>simp[ER]at I
 |succ n=>
  cases L:P.underlying kt with
  |some d=>exact⟨d,rfl⟩
  |none=>simp[ER,L]at I
theorem I0(r:Rel P w0 m h w){t:TypeId}{x k:AA}{x' k':Value}{ok:Bool}{v:AA}(F:VR m x x')(I:VR m k k')
  (B:Il P ((CM x).bind h.get) t x k ok=some v):∃v',(Instr.lookup t x' k' ok).run P w=.ok v' w/\VR m v v':=by
 unfold Il at B;split at B
 ·rename_i kt et rr hu;split at B
  ·rename_i hkey;obtain⟨d,L⟩:=FH hkey;have ents:∀es,(match rr with|none=>some []|some _=>match(CM (.map rr)).bind h.get with|some (.map st es)=>if st≠0 then some es else none|_=>none)=some es->
     ∃en:Array MapEntry,((x'=.map none/\en=#[])\/∃g clock,x'=.map (some g)/\w.heap[g]?=some (.map en clock))/\es.length=en.toList.length/\∀(j:Nat) (a b:AA) (e:MapEntry),es[j]?=some (a,b)->en.toList[j]?=some e->VR m a e.key/\VR m b e.val:=by
    intro es M;cases rr with
    |none=>
     simp at M;subst M;cases F;exact⟨#[],.inl ⟨rfl,rfl⟩,rfl,λj a b e h=>by simp at h⟩
    | some id=>
     cases F with
     | map _ E hE=>
      simp only[CM,qW]at M;split at M
      ·rename_i st es' V;split at M
       ·rename_i hst;injection M with M;subst M;obtain⟨_,S⟩:=r.obj id E _ hE V;obtain⟨en,clock,h1,J,R⟩:=S hst;exact⟨en,.inr ⟨E.g,clock,rfl,h1⟩,by simpa using J,λj a b e W he=>R j a b e W (by simpa using he)⟩
       ·cases M
      ·cases M
   split at B
   ·rename_i es M;obtain⟨en,g1,g2,g3⟩:=ents es M;have hck:∀e,(Instr.checkKey e 10000 kt k').run P w=.ok () w:=λe=>Eb 20 10000 kt k k' e (by omega) I hkey;split at B
    ·rename_i j v0 K;injection B with B;subst B;obtain⟨res',f1,f2⟩:=CO (w:=w) I L g2 g3 K;cases res' with
     |none=>exact f2.elim
     | some p=>
      obtain⟨j',v'⟩:=p;obtain⟨_,_,_,H⟩:=f2;refine⟨if ok then .tuple #[v',.bool true]else v',?_,?_⟩
      ·rcases g1 with⟨rfl,rfl⟩|⟨g,clock,rfl,V⟩
       ·simp[Instr.lookup,AI w hu,hck,f1]
       ·simp[Instr.lookup,AI w hu,getObj,Sem.run,V,hck,f1]
      ·cases ok
       ·simpa using H
       ·simpa using BT.tuple (c:=#[v',.bool true]) (.cons H (.cons (.bool true) (.nil m)))
    ·rename_i K;cases Q:Ew P et with
     |none=>simp[Q]at B
     | some z=>
      simp only[Q,qZ,qV]at B;subst B;obtain⟨res',f1,f2⟩:=CO (w:=w) I L g2 g3 K;cases res' with
      |some p=>exact f2.elim
      | none=>
       obtain⟨i,zz,T,hiz,hvz⟩:=DU (m:=m) Q;have hzv:(zeroValue et).run P w=.ok zz w:=by simp[zeroValue,typeInfo,T,hiz]
       refine⟨if ok then .tuple #[zz,.bool false]else zz,?_,?_⟩
       ·rcases g1 with⟨rfl,rfl⟩|⟨g,clock,rfl,V⟩
        ·simp[Instr.lookup,AI w hu,hck,f1,hzv]
        ·simp[Instr.lookup,AI w hu,getObj,Sem.run,V,hck,f1,hzv]
       ·cases ok
        ·simpa using hvz
        ·simpa using BT.tuple (c:=#[zz,.bool false]) (.cons hvz (.cons (.bool false) (.nil m)))
    ·cases B
   ·cases B
  ·cases B
 ·cases B
theorem Kx{t:TypeId}{o:Nat}:DT P none t o=none:=by
 unfold DT;split
 ·cases BK P t<;>rfl
 ·rfl
 ·rfl
theorem K4{t:TypeId}{o:Nat}{cs:List AA}{v:AA}(K:∀a∈cs,Abs.Ev a=true)(B:DT P (some (.cells none 1 cs)) t o=some v):Abs.D2 v=true:=by
 unfold DT at B;split at B
 ·cases N:BK P t with
  |none=>simp[N]at B
  | some n=>
   simp only[N,qW,BQ]at B;split at B
   ·simp only[qZ,qV]at B;subst B;unfold Abs.D2;rw[xk];intro a W;exact K a (List.mem_of_mem_drop (List.mem_of_mem_take W))
   ·simp at B
 ·split at B
  ·rename_i x hc;injection B with B;subst B;simp only[BQ]at hc;split at hc
   ·injection hc with hc;have F:Abs.Ev x=true:=K x (List.mem_of_mem_drop (List.mem_of_mem_take (by rw[hc];simp)));cases x<;>simp_all[Abs.D2,Abs.Ev]
   ·cases hc
  ·cases B
 ·cases B
theorem JI{G:Nat->Option (List AA)}(Q:Bk G w0)(r:Rel P w0 m h w){fr:Fr}{a:Act}(K:FR m fr a){o:Oper}{v:AA}(C:Gh P G fr ((B1 fr o.op).bind h.get) o.op=some v):
  ∃v',(execOp a.eval o).run P w=.ok (.value v') w/\VR m v v':=by
 obtain⟨dst,op,ty,pos,aft,gd⟩:=o;simp only at C;have lift:∀{s:Sem Value} {u:AA},(∃v',s.run P w=.ok v' w/\VR m u v')->∃v',(do pure (.value (<-s)):Sem Next).run P w=.ok (.value v') w/\VR m u v':=by
  rintro s u ⟨v',h1,J⟩;exact⟨v',by simp[h1],J⟩
 cases op with
 | load t x=>
  simp only[Gh,B1]at C;split at C
  ·rename_i id o F;rw[F]at C;simp only[CM,qW]at C;have H:=K.ev x;rw[F]at H;generalize hy:a.eval x=y at H;cases H with
   |ptr _ _ E hE=>
    obtain⟨v',h1,J⟩:=F6 r hE C;exact lift ⟨v',by simp[Instr.loadAt,Instr.sureAddr,hy,h1],J⟩
  ·rename_i gl o F;have H:=K.ev x;rw[F]at H;generalize hy:a.eval x=y at H;cases H with
   | EJ _ _=>
    cases hG:G gl with
    |none=>rw[hG]at C;simp only[Option.map_none]at C;rw[Kx]at C;cases C
    |some cs=>
     rw[hG]at C;simp only[qZ]at C;obtain⟨tot,r',hfl⟩:=Q.rel (P:=P) r.below hG;obtain⟨v',h1,J⟩:=F6 (id:=0) (o:=o) (E:=⟨gl,0,0,tot⟩) r' (by simp) (by rw[AB.A8];exact C);refine lift ⟨v',by simp only[xV]at h1;simp[Instr.loadAt,Instr.sureAddr,hy,h1],?_⟩;exact J.D2 (K4 hfl C)
  ·cases C
 |slice t x lo T mx=>
  cases mx with
  |some y=>simp[Gh]at C
  |none=>simp only[Gh,B1]at C;exact lift (JW r (K.ev x) (Lq K lo) (Lq K T) C)
 |convert s d x=>simp only[Gh,B1]at C;exact lift (KQ r (K.ev x) C)
 |lookup t x k ok=>simp only[Gh,B1]at C;exact lift (I0 r (K.ev x) (K.ev k) C)
 | call c=>
  obtain⟨callee,asE9,ts⟩:=c;cases callee with
  |value f=>simp[Gh]at C
  |invoke r mth=>simp[Gh]at C
  | builtin b=>
   cases b<;>simp only[Gh]at C<;>try (cases C;done)
   simp only[B1]at C;split at C
   ·rename_i x heq;have has:asE9=#[x]:=Array.ext' (by simpa using heq);subst has;obtain⟨v',h1,J⟩:=Kr (P:=P) r (ty:=ty) (K.ev x) C;have res:∀(w:World),(resolve a.eval {callee:=.builtin .len,args:=#[x],argTypes:=ts} ty).run P w=.ok {target:=.builtin .len ts ty (#[x].map fun| .const _=>true|_=>false),args:=#[x].map a.eval} w:=λw=>rfl;exact⟨v',by simp[execOp,res,invoke,builtin,h1],J⟩
   ·cases C
 |_=>simp[Gh]at C
end
end Go.Abs
