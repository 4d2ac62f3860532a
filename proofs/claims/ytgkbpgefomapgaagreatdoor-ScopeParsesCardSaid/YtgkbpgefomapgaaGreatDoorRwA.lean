/-
 A part.
-/
import Derived.Test.YtgkbpgefomapgaaGreatDoorDfaA
namespace Go.Av.L
open Go.Av Go.Lib
set_option linter.unusedVariables false
set_option linter.unusedSimpArgs false
def F5(s:List UInt8)(d:Int):Nat->Nat->List UInt8->Option (List UInt8×Nat)
 |0,_,_=>none
 | n+1,i,o=>
  match s[i]? with
  |none=>none
  | some b=>
   if(b.toNat:Int)=d then some (o,i+1)
   else if b.toNat=92 then
    match s[i+1]? with
    |some c=>F5 s d n (i+2) (if(c.toNat:Int)=d then o++[c]else o++[92,c])
    |none=>F5 s d n (i+1) (o++[b])
   else F5 s d n (i+1) (o++[b])
theorem HA{s:List UInt8}{d:Int}:∀{n i:Nat} {o o':List UInt8} {k:Nat},F5 s d n i o=some (o',k)->i<k/\k<=s.length
 |0,i,o,o',k,h=>by cases h
 | n +1,i,o,o',k,h=>by
  unfold F5 at h;cases B:s[i]? with
  |none=>rw[B]at h;cases h
  | some b=>
   have hi:=(List.getElem?_eq_some_iff.1 B).1;rw[B]at h;simp only at h;split at h
   ·cases h;omega
   ·split at h
    ·cases hc:s[i+1]? with
     |none=>rw[hc]at h;have:=HA h;omega
     |some c=>rw[hc]at h;have:=HA h;omega
    ·have:=HA h;omega
def bQ:Option (List UInt8×Nat)->Unit⊕(List UInt8×Int×Bool)
 |some (o,k)=>.inr (o,(k:Int),true)
 |none=>.inl ()
def bn:Option (List UInt8×Nat)->Unit⊕(List UInt8×Int)
 |some (o,k)=>.inr (o,(k:Int))
 |none=>.inl ()
theorem IU{b:UInt8}{n:Nat}(hn:n<256)(h:b.toNat=n):b=UInt8.ofNat n:=by
 have:=UInt8.ofNat_toNat (x:=b);rw[<-h];exact this.symm
theorem OH{i n:Nat}(h:i<=1000)(hn:n<=10):IntKind.i64.wrap ((i:Int)+(n:Int))=((i+n:Nat):Int):=by rw[Ht (by omega) (by omega)];omega
theorem P7(b:UInt8):Oj (b.toNat:Int)=some b:=by
 have h:=Kh b;have D:=b.toNat_lt;unfold Oj;simp;exact h.2
theorem NA{s:List UInt8}{d:Int}(E:s.length<=900):∀(n i:Nat) (o:List UInt8),s.length<n+i->i<=s.length->o.length<=i->loop (D2 s d) (o,(i:Int))=some (bQ (F5 s d n i o))
 |0,i,o,h1,D,_=>by omega
 | n + 1,i,o,h1,D,T=>by
  have e1:IntKind.i64.wrap ((i:Int)+1)=((i+1:Nat):Int):=OH (n:=1) (by omega) (by omega);unfold F5;cases B:s[i]? with
  |none=>
   have hi:¬i<s.length:=λh=>by rw[List.getElem?_eq_getElem h]at B;cases B
   refine DM ?_;unfold D2;simp only[];rw[Cw,zm (by omega)];rfl
  | some b=>
   have hi:=(List.getElem?_eq_some_iff.1 B).1;simp only[];by_cases hd:(b.toNat:Int)=d
   ·rw[zk hd];refine DM ?_;unfold D2;simp only[];rw[Cw,zk (by omega),DZ B,za,CO,zk hd,e1];rfl
   ·rw [zm hd];by_cases I:b.toNat=92
    ·rw [zk I];cases hc:s[i+1]? with
     | none=>
      have H:¬i+1<s.length:=λh=>by rw[List.getElem?_eq_getElem h]at hc;cases hc
      rw[DT (s':=(o++[b],((i+1:Nat):Int)))]
      ·exact NA E n (i+1) _ (by omega) (by omega) (by simp;omega)
      ·unfold D2;simp only[];rw[Cw,zk (by omega),DZ B,za,CO,zm hd,za,e1,zh (p:=((i+1:Nat):Int)<(s.length:Int)) (by omega),Bool.and_false,Az,za];simp only[];rw[DZ B,za,P7,za,e1,DL (by simp;omega) (by simp;omega)];rfl
     | some c=>
      have H:=(List.getElem?_eq_some_iff.1 hc).1;have e2:IntKind.i64.wrap (((i+1:Nat):Int)+1)=((i+2:Nat):Int):=OH (n:=1) (by omega) (by omega);rw[DT (s':=(if(c.toNat:Int)=d then o++[c]else o++[92,c],((i+2:Nat):Int)))]
      ·exact NA E n (i+2) _ (by omega) (by omega) (by split<;>simp<;>omega)
      ·unfold D2;simp only[];rw[Cw,zk (by omega),DZ B,za,CO,zm hd,za,e1,zi (p:=((i+1:Nat):Int)<(s.length:Int)) (by omega),show((b.toNat:Int)==92)=true from(Fw b.toNat 92).trans (zi I),qc,Bd,DZ hc,za];by_cases C:(c.toNat:Int)=d
       ·rw[Gi,zk C,zk C,za,za];simp only[];rw[DZ hc,za,P7,za,e2,DL (by simp;omega) (by simp;omega)];rfl
       ·rw[Gi,zm C,zm C,DL (by simp;omega) (by simp;omega),Gr,za,za];simp only[];rw[DZ hc,za,P7,za,e2,DL (by simp;omega) (by simp;omega)];simp
    ·rw[zm I];rw[DT (s':=(o++[b],((i+1:Nat):Int)))]
     ·exact NA E n (i+1) _ (by omega) (by omega) (by simp;omega)
     ·unfold D2;simp only[];rw[Cw,zk (by omega),DZ B,za,CO,zm hd,za,show((b.toNat:Int)==92)=false from(Fw b.toNat 92).trans (zh I),qm,Az,za];simp only[];rw[DZ B,za,P7,za,e1,DL (by simp;omega) (by simp;omega)];rfl
theorem Lz{s:List UInt8}{d:Int}(E:s.length<=900):∀(n i:Nat) (o:List UInt8),s.length<n+i->i<=s.length->o.length<=i->loop (Cs s d) ((i:Int),o)=some (bn (F5 s d n i o))
 |0,i,o,h1,D,_=>by omega
 | n + 1,i,o,h1,D,T=>by
  have e1:IntKind.i64.wrap ((i:Int)+1)=((i+1:Nat):Int):=OH (n:=1) (by omega) (by omega);have e2:IntKind.i64.wrap ((i:Int)+2)=((i+2:Nat):Int):=OH (n:=2) (by omega) (by omega);unfold F5;cases B:s[i]? with
  |none=>
   have hi:¬i<s.length:=λh=>by rw[List.getElem?_eq_getElem h]at B;cases B
   refine DM ?_;unfold Cs;simp only[];rw[Cw,zm (by omega)];rfl
  | some b=>
   have hi:=(List.getElem?_eq_some_iff.1 B).1;have t1:(s.drop i).take (i+1 - i)=[b]:=by
    rw[show i+1 - i=1 by omega,zE hi];simp[(List.getElem?_eq_some_iff.1 B).2]
   simp only[];by_cases hd:(b.toNat:Int)=d
   ·rw[zk hd];refine DM ?_;unfold Cs;simp only[];rw[Cw,zk (by omega),DZ B,za,CO,zk hd,e1];rfl
   ·rw [zm hd];by_cases I:b.toNat=92
    ·rw [zk I];cases hc:s[i+1]? with
     | none=>
      have H:¬i+1<s.length:=λh=>by rw[List.getElem?_eq_getElem h]at hc;cases hc
      rw[DT (s':=(((i+1:Nat):Int),o++[b]))]
      ·exact Lz E n (i+1) _ (by omega) (by omega) (by simp;omega)
      ·unfold Cs;simp only[];rw[Cw,zk (by omega),DZ B,za,CO,zm hd,za,e1,zh (p:=((i+1:Nat):Int)<(s.length:Int)) (by omega),Bool.and_false,Az,HF (by omega) (by omega),t1,za,zi (by simp;omega)];rfl
     | some c=>
      have H:=(List.getElem?_eq_some_iff.1 hc).1;have t2:(s.drop (i+1)).take (i+2 - (i+1))=[c]:=by
       rw[show i+2 - (i+1)=1 by omega,zE H];simp[(List.getElem?_eq_some_iff.1 hc).2]
      have t3:(s.drop i).take (i+2 - i)=[92,c]:=by
       rw[show i+2 - i=2 by omega,zE hi,zE H];have:=IU (by omega) I;simp[(List.getElem?_eq_some_iff.1 B).2,(List.getElem?_eq_some_iff.1 hc).2,this]
      rw[DT (s':=(((i+2:Nat):Int),if(c.toNat:Int)=d then o++[c]else o++[92,c]))]
      ·exact Lz E n (i+2) _ (by omega) (by omega) (by split<;>simp<;>omega)
      ·unfold Cs;simp only[];rw[Cw,zk (by omega),DZ B,za,CO,zm hd,za,e1,zi (p:=((i+1:Nat):Int)<(s.length:Int)) (by omega),show((b.toNat:Int)==92)=true from(Fw b.toNat 92).trans (zi I),qc,Bd,DZ hc,za,e2];by_cases C:(c.toNat:Int)=d
       ·rw[CO,zk C,zk C,HF (by omega) (by omega),t2,za,zi (by simp;omega)];rfl
       ·rw[CO,zm C,zm C,HF (by omega) (by omega),t3,za,zi (by simp;omega)];rfl
    ·rw[zm I];rw[DT (s':=(((i+1:Nat):Int),o++[b]))]
     ·exact Lz E n (i+1) _ (by omega) (by omega) (by simp;omega)
     ·unfold Cs;simp only[];rw[Cw,zk (by omega),DZ B,za,CO,zm hd,za,show((b.toNat:Int)==92)=false from(Fw b.toNat 92).trans (zh I),qm,Az,e1,HF (by omega) (by omega),t1,za,zi (by simp;omega)];rfl
def bB(s:List UInt8):Option (List UInt8×Nat)->List UInt8×Int×Bool
 |some (o,k)=>(o,(k:Int),true)
 |none=>([],(s.length:Int),false)
def aX:Option (List UInt8×Nat)->List UInt8×Int
 |some (o,k)=>(o,(k:Int))
 |none=>([],-1)
theorem Kp{s:List UInt8}{d:Int}(E:s.length<=900){i:Nat}(hi:i<=s.length):CG s (i:Int) d=some (bB s (F5 s d (s.length+1) i [])):=by
 unfold CG;rw[NA E (s.length+1) i [] (by omega) hi (by simp),za];cases F5 s d (s.length+1) i []<;>rfl
theorem Td{s:List UInt8}{d:Int}(E:s.length<=900){i:Nat}(hi:i<=s.length):Cc s (i:Int) d=some (aX (F5 s d (s.length+1) i [])):=by
 unfold Cc;rw[Lz E (s.length+1) i [] (by omega) hi (by simp),za];cases F5 s d (s.length+1) i []<;>rfl
def Ss(b:UInt8):Prop:=48<=b.toNat/\b.toNat<=57
instance (b:UInt8):Decidable (Ss b):=inferInstanceAs (Decidable (_/\_))
theorem XM{m n:Nat}(h:m<=n):(10:Int)^m<=10^n:=by
 have:=Nat.pow_le_pow_right (n:=10) (by decide) h
 exact_mod_cast this
theorem Vu(c:UInt8):(decide ((c.toNat:Int)>=48)&&decide ((c.toNat:Int)<=57))=decide (Ss c):=by
 rw[qh];simp only[zj,zx];unfold Ss;omega
def GL(s:List UInt8):Nat->Nat->Nat
 |0,i=>i
 |n+1,i=>
  match s[i]? with
  |some b=>if Ss b then GL s n (i+1)else i
  |none=>i
theorem M9{s:List UInt8}:∀(n i:Nat),i<=s.length->i<=GL s n i/\GL s n i<=s.length/\∀j b,i<=j->j<GL s n i->s[j]?=some b->Ss b
 |0,i,h=>⟨zo _,h,λj b h1 D=>by unfold GL at D;omega⟩
 | n+1,i,h=>by
  unfold GL;cases B:s[i]? with
  |none=>exact⟨zo _,h,λj b h1 D=>by simp only at D;omega⟩
  | some b=>
   have hi:=(List.getElem?_eq_some_iff.1 B).1;simp only[];split
   ·rename_i hd;obtain⟨h1,D,T⟩:=M9 n (i+1) hi;refine⟨by omega,D,λj c a1 a2 a3=>?_⟩;by_cases hj:j=i
    ·subst hj;rw[B]at a3;cases a3;exact hd
    ·exact T j c (by omega) a2 a3
   ·exact⟨zo _,h,λj b h1 D=>by omega⟩
def val(l:List UInt8):Int:=l.foldl (λv b=>v*10+((b.toNat:Int) - 48)) 0
theorem OO(l:List UInt8)(b:UInt8):val (l++[b])=val l*10+((b.toNat:Int) - 48):=by simp[val]
theorem Sq:∀(n:Nat) (l:List UInt8),l.length=n->(∀b∈l,Ss b)->0<=val l/\val l<10^n
 |0,l,G,_=>by
  have:l=[]:=qf.1 G;subst this;exact⟨zN 0,by decide⟩
 | n+1,l,G,hd=>by
  obtain⟨t,b,rfl⟩:∃t b,l=t++[b]:=by
   have F:l≠[]:=λh=>by rw[h]at G;cases G
   exact⟨l.dropLast,l.getLast F,(yR F).symm⟩
  have B:=hd b (by simp);obtain⟨h1,D⟩:=Sq n t (by simpa using G) (λc hc=>hd c (by simp[hc]));rw[OO];unfold Ss at B;have:(10:Int)^(n+1)=10^n*10:=Int.pow_succ ..;omega
theorem Xd:∀(n:Nat) (l:List UInt8) (b:UInt8),l.length=n->(∀c∈l,Ss c)->49<=b.toNat->(10:Int)^n<=val (b::l)
 |0,l,b,G,_,B=>by
  have:l=[]:=qf.1 G;subst this;simp[val];omega
 | n+1,l,b,G,hd,B=>by
  obtain⟨t,c,rfl⟩:∃t c,l=t++[c]:=by
   have F:l≠[]:=λh=>by rw[h]at G;cases G
   exact⟨l.dropLast,l.getLast F,(yR F).symm⟩
  have hc:=hd c (by simp);have h1:=Xd n t b (by simpa using G) (λc hc=>hd c (by simp[hc])) B;rw[<-yl,OO];unfold Ss at hc;have:(10:Int)^(n+1)=10^n*10:=Int.pow_succ ..;omega
structure Fl where
 g:Bool
 f:Bool
 x:Bool
 n:Int
 nm:Bool
 sf:Bool
 hd:Bool
def act(s:List UInt8)(i b:Nat)(f:Fl):Option (Fl×Int×Nat):=
 if b=103 then some ({f with g:=true},103,i+1)
 else if b=105 then some ({f with f:=true},105,i+1)
 else if b=120 then some ({f with x:=true},120,i+1)
 else if b=114 then some ({f with nm:=true},114,i+1)
 else if b=82 then some ({f with nm:=false},114,i+1)
 else if b=115 then some ({f with sf:=true},115,i+1)
 else if b=83 then some ({f with sf:=false},115,i+1)
 else if b=104 then some ({f with hd:=true},104,i+1)
 else if b=72 then some ({f with hd:=false},104,i+1)
 else if 49<=b/\b<=57 then
  if 4<GL s (s.length+1) (i+1) - i then none else some ({f with n:=val ((s.drop i).take (GL s (s.length+1) (i+1) - i))},49,GL s (s.length+1) (i+1))
 else none
theorem W0{s:List UInt8}{i b:Nat}{f f':Fl}{k:Int}{j:Nat}(hi:i<s.length)(h:act s i b f=some (f',k,j)):i<j/\j<=s.length/\0<=k/\k<=255:=by
 have hd:=M9 (s:=s) (s.length+1) (i+1) (by omega);unfold act at h;by_cases P:b=103
 ·rw[zk P]at h;simp only[zd,ze]at h;obtain⟨_,rfl,rfl⟩:=h;omega
 rw[zm P]at h;by_cases N:b=105
 ·rw[zk N]at h;simp only[zd,ze]at h;obtain⟨_,rfl,rfl⟩:=h;omega
 rw[zm N]at h;by_cases J:b=120
 ·rw[zk J]at h;simp only[zd,ze]at h;obtain⟨_,rfl,rfl⟩:=h;omega
 rw[zm J]at h;by_cases M:b=114
 ·rw[zk M]at h;simp only[zd,ze]at h;obtain⟨_,rfl,rfl⟩:=h;omega
 rw[zm M]at h;by_cases R:b=82
 ·rw[zk R]at h;simp only[zd,ze]at h;obtain⟨_,rfl,rfl⟩:=h;omega
 rw[zm R]at h;by_cases K:b=115
 ·rw[zk K]at h;simp only[zd,ze]at h;obtain⟨_,rfl,rfl⟩:=h;omega
 rw[zm K]at h;by_cases Q:b=83
 ·rw[zk Q]at h;simp only[zd,ze]at h;obtain⟨_,rfl,rfl⟩:=h;omega
 rw[zm Q]at h;by_cases O:b=104
 ·rw[zk O]at h;simp only[zd,ze]at h;obtain⟨_,rfl,rfl⟩:=h;omega
 rw[zm O]at h;by_cases S:b=72
 ·rw[zk S]at h;simp only[zd,ze]at h;obtain⟨_,rfl,rfl⟩:=h;omega
 rw[zm S]at h;by_cases B:49<=b/\b<=57
 ·rw[zk B]at h;by_cases U:4<GL s (s.length+1) (i+1) - i
  ·rw[zk U]at h;cases h
  ·rw[zm U]at h;simp only[zd,ze]at h;obtain⟨_,rfl,rfl⟩:=h;omega
 ·rw[zm B]at h;cases h
def PJ(s:List UInt8):Nat->Nat->Fl->List Int->Fl⊕Nat
 |0,_,f,_=>.inl f
 | n+1,i,f,seen=>
  match s[i]? with
  |none=>.inl f
  |some b=>
   match act s i b.toNat f with
   |none=>.inr i
   |some (f',k,j)=>if k∈seen then .inr i else PJ s n j f' (seen++[k])
end Go.Av.L
