/-
 A part.
-/
import Derived.Test.YtfgmnhjedmkpeaaAbsOpW
set_option linter.unusedSimpArgs false
namespace Go.Abs
open Go.RowKit
section
variable {P:Program} {w0:World} {m:BU} {h:AE} {w:World}
theorem LP{x:AD}{x':Value}{n:Nat}(J:VR m x x')(N:LI x=some n)(w:World):(Builtin.lenOf x').run P w=.ok n w:=by
 cases J<;>simp[LI]at N
 case str s=>subst N;simp[Builtin.lenOf]
 case Db=>subst N;simp[Builtin.lenOf]
 case slice=>subst N;simp[Builtin.lenOf]
theorem Gc(r:Rel P w0 m h w){z n:Nat}{x:AD}{x':Value}{cs:List AD}(J:VR m x x')(X:∃l,LI x=some l/\n<=l)(B:Ch h z n x=some cs):
  ∃ds:List Value,ds.length=n*z/\B5 m cs ds/\∀w',w'.heap=w.heap->(Builtin.firstCells z n x').run P w'=.ok ds.toArray w':=by
 unfold Ch at B;split at B
 ·rename_i id o l;cases J with
  | slice _ _ _ cap E a hE hle hc=>
   split at B
   ·rename_i I;injection B with B;subst B;subst I;exact⟨[],by simp,.nil m,λw' _=>by simp[Builtin.firstCells,loadCells,loadCellsFrom]⟩
   ·rename_i I;obtain⟨l',S,hnl⟩:=X;simp[LI]at S;obtain⟨C,_⟩:=hc (by omega);subst C;obtain⟨ds,h1,W,h3,_⟩:=r.cells hE B;refine⟨ds,h1,W,λw' hw'=>?_⟩;have h3':∀(j:Nat) (v:Value),ds[j]?=some v->w'.cell? ((⟨E.g,E.base+o,none⟩:Addr).add j)=some v:=λj v M=>by
     rw[<-h3 j v M];simp[World.cell?,hw']
    exact run_firstCells_some w' z n _ l cap ds h1 h3'
 ·rename_i l;cases J;split at B
  ·rename_i I;injection B with B;subst B;subst I;exact⟨[],by simp,.nil m,λw' _=>by simp[Builtin.firstCells]⟩
  ·cases B
 ·rename_i s;split at B
  ·rename_i T;injection B with B;subst B;subst T;have:=J.C3;subst this;obtain⟨l',S,hnl⟩:=X;simp[LI]at S;refine⟨(s.take n).map λ(b:UInt8)=>Value.int .u8 b.toNat,by simp;omega,B5.map _ _ _ λb _=>.int _ _,λw' _=>?_⟩;simp[Builtin.firstCells,I6]
  ·cases B
 ·cases B
theorem MN(r:Rel P w0 m h w){g:Gd}{ts:Array TypeId}{ty:TypeId}{d x v:AD}{d' x':Value}{h':AE}(Y:VR m d d')(J:VR m x x')(C:Mo P g h ts d x=some (v,h')):
  ∃v' w',(Builtin.copy_ ts ty #[d',x']).run P w=.ok v' w'/\Rel P w0 m h' w'/\VR m v v':=by
 unfold Mo at C;split at C
 ·rename_i dt rr dl sl O R;split at C
  ·rename_i e hu;split at C
   ·rename_i z T;have N:=λw=>LP (P:=P) J R w;split at C
    ·rename_i new id o B;obtain⟨ds,n1,M,L⟩:=Gc r J ⟨sl,R,Nat.min_le_left _ _⟩ B;cases Y with
     | slice _ _ _ cap E a hE hle hc=>
      split at C
      ·rename_i I;injection C with C;injection C with e1 e2;subst e1;subst e2;have K:ds=[]:=xi (by rw[n1,I];simp);subst K;refine⟨.int .i64 0,w,?_,r,.int _ _⟩;have D:=L w rfl;rw[I]at D;have G:Nat.min sl dl=0:=I;simp[Builtin.copy_,O,Ah w hu,N,run_sizeOf w T,G,D,storeCells,goInt]
      ·rename_i I;cases Q:By g h id o new with
       |none=>simp[Q]at C
       |some W=>
        simp only[Q,q8,qU,qW]at C;obtain⟨rfl,rfl⟩:=C;obtain⟨haa,_⟩:=hc (by omega);subst haa;obtain⟨w',r1,r2⟩:=Fw r hE M Q;refine⟨.int .i64 (min sl dl:Nat),w',?_,r2,.int _ _⟩;have G:Nat.min sl dl=min sl dl:=rfl;simp[Builtin.copy_,O,Ah w hu,N,run_sizeOf w T,G,L w rfl,r1,goInt]
    ·rename_i new B;split at C
     ·rename_i I;injection C with C;injection C with e1 e2;subst e1;subst e2;obtain⟨ds,n1,M,L⟩:=Gc r J ⟨sl,R,Nat.min_le_left _ _⟩ B;have K:ds=[]:=xi (by rw[n1,I];simp);subst K;cases Y;refine⟨.int .i64 0,w,?_,r,.int _ _⟩;have D:=L w rfl;rw[I]at D;have G:Nat.min sl 0=0:=I;simp[Builtin.copy_,O,Ah w hu,N,run_sizeOf w T,D,goInt]
     ·cases C
    ·cases C
   ·cases C
  ·cases C
 ·cases C
theorem ON(r:Rel P w0 m h w){g:Gd}{fr:Fr}{a:Act}(B:FR m fr a){o:Oper}{v:AD}{h':AE}(F:Ib P g h fr o.op=some (v,h')):
  ∃m' n v' w',(execOp a.eval o).run P w=.ok n w'/\O5 n v'/\(∀id,id<h.size->m' id=m id)/\Rel P w0 m' h' w'/\VR m' v v':=by
 obtain⟨dst,op,ty,pos,aft,gd⟩:=o;simp only at F;cases op with
 | store t x y=>
  simp only[Ib]at F;split at F
  ·rename_i id o J;cases V:HA P g h t id o (ev fr y)with
   |none=>simp[V]at F
   | some W=>
    simp only[V,q8,qU,qW]at F;obtain⟨rfl,rfl⟩:=F;have M:=B.ev x;rw[J]at M;generalize U:a.eval x=q at M;cases M with
    |ptr _ _ E hE=>
     obtain⟨w',r1,r2⟩:=Lj r hE (B.ev y) V;exact⟨m,.skip,undef,w',by simp[execOp,Instr.storeAt,Instr.sureAddr,U,r1],.inr ⟨rfl,rfl⟩,λ_ _=>rfl,r2,VR.Hf m⟩
  ·cases F
 | call c=>
  obtain⟨callee,asE9,ts⟩:=c;cases callee with
  |value f=>simp[Ib]at F
  |invoke r mth=>simp[Ib]at F
  | builtin b=>
   simp only[Ib]at F;have H:=B.U1 asE9.toList;have res:∀(w:World),(resolve a.eval {callee:=.builtin b,args:=asE9,argTypes:=ts} ty).run P w=.ok {target:=.builtin b ts ty (asE9.map fun| .const _=>true|_=>false),args:=asE9.map a.eval} w:=λw=>rfl;have two:∀x y,asE9.toList.map (ev fr)=[x,y]->∃x' y',asE9.map a.eval=#[x',y']/\VR m x x'/\VR m y y':=by
    intro x y heq;rw[heq]at H;have hlen:(asE9.toList.map a.eval).length=2:=by rw[<-H.1];rfl
    match U:asE9.toList.map a.eval,hlen with
    |[x',y'],_=>exact⟨x',y',Array.ext' (by simpa using U),H.2 0 x x' rfl (by rw[U];rfl),H.2 1 y y' rfl (by rw[U];rfl)⟩
   split at F
   ·rename_i s x heq;obtain⟨s',x',hsx,hvs,hvx⟩:=two s x heq;obtain⟨v',w',r1,r2,r3⟩:=MN (ty:=ty) r hvs hvx F;exact⟨m,.value v',v',w',by simp[execOp,res,invoke,builtin,hsx,r1],.inl rfl,λ_ _=>rfl,r2,r3⟩
   ·cases F
 |_=>simp[Ib]at F
end
end Go.Abs
