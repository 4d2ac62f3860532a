/-
 A part.
-/
import Derived.Test.YthhonebaoidfgaaGreatDoorAvDraw
import Derived.Test.YthhonebaoidfgaaGreatDoorAvSelW
set_option linter.unusedSimpArgs false
namespace Go.Av
set_option linter.unusedSimpArgs false
open Go.RowKit Go.Conc
set_option linter.unusedVariables false
section
variable {P:Program} {w0:World} {m:Bk} {h h':AF} {w:World} {g:Gd} {fr:Fr} {v:AD}
theorem S5{op:Op}(B:Tc P g h fr op=some (v,h')):Bh g h h':=by
 unfold Tc at B;split at B
 ·split at B
  ·split at B
   ·split at B
    ·rename_i id _;split at B
     ·rename_i cap buf J;split at B
      ·cases S:Nat.ble cap buf.length<;>rw[S]at B
       ·cases hm:g.may id<;>rw[hm]at B
        ·cases B
        ·simp only[yO,zL,zb,ze]at B;obtain⟨_,rfl⟩:=B;exact Bh.set J hm
       ·simp only[zL,zb,ze]at B;obtain⟨_,rfl⟩:=B;exact Bh.refl _ _
      ·split at B
       ·cases hm:g.may id<;>rw[hm]at B
        ·cases B
        ·simp only[zL,zb,ze]at B;obtain⟨_,rfl⟩:=B;exact Bh.set J hm
       ·simp only[zb,ze]at B;obtain⟨_,rfl⟩:=B;exact Bh.refl _ _
     ·cases B
    ·cases B
   ·cases B
  ·cases B
 ·cases B
theorem PO(w:World)(c cap:Nat)(buf:Array Value)(cl:Bool)(s r:Nat)(tm:Bool):Fs w (w.setChan c cap buf cl s r tm) c:=
 ⟨rfl,rfl,rfl,by simp[World.setChan],λk hk hne=>by simp[World.setChan,Ne.symm hne]⟩
theorem Q0{w:World}{c cap:Nat}{buf:Array Value}{cl:Bool}{s r:Nat}{tm:Bool}(h:c<w.heap.size):(w.setChan c cap buf cl s r tm).heap[c]?=some (.chan cap buf cl s r tm):=by
 simp[World.setChan,h]
theorem VR.j5{m:Bk}{a b:AD}{x y:Value}(h1:VR m a x)(h2:VR m b y):VR m (.tuple [a,b]) (.tuple #[x,y]):=
 .tuple _ _ rfl λi u v hu G=>by
  match i with
  |0=>simp at hu G;subst hu G;exact h1
  |1=>simp at hu G;subst hu G;exact h2
  |i+2=>simp at hu
theorem VR.kJ{m:Bk}{a b c:AD}{x y z:Value}(h1:VR m a x)(h2:VR m b y)(h3:VR m c z):VR m (.tuple [a,b,c]) (.tuple #[x,y,z]):=
 .tuple _ _ rfl λi u v hu G=>by
  match i with
  |0=>simp at hu G;subst hu G;exact h1
  |1=>simp at hu G;subst hu G;exact h2
  |2=>simp at hu G;subst hu G;exact h3
  |i+3=>simp at hu
theorem VR.au{m:Bk}{id:Nat}{u:Value}(h:VR m (.chan (some id)) u):∃E,m id=some E/\u=.chan (some E.g):=by
 cases h with
 |chan _ E T=>exact⟨E,T,rfl⟩
theorem YA{o:Oper}{a:Act}(r:Rel P w0 m h w)(V:FR m fr a)(B:Tc P g h fr o.op=some (v,h')):
  ∃cases v' w',(execOp a.eval o).run P w=.ok (.comm cases false .select) w/\YM P o a w v' w'/\Rel P w0 m h' w'/\VR m v v':=by
 unfold Tc at B;split at B
 ·rename_i cases0 blocking M;split at B
  ·rename_i c hc0;split at B
   ·rename_i z hz;obtain⟨i,zz,hi,O,hvz⟩:=Ie (m:=m) hz;have R:cases0=#[c]:=Array.toList_inj.1 hc0;split at B
    ·rename_i id hch;have G:=V.ev c.chan;rw[hch]at G;obtain⟨E,T,Q⟩:=G.au;split at B
     ·rename_i cap buf J;obtain⟨bs,sn,rc,I,H⟩:=r.obj id E _ T J;have N:E.g<w.heap.size:=(Array.getElem?_eq_some_iff.1 I).1;have L:buf.length=bs.size:=by rw[H.1];simp
      split at B
      ·rename_i x K;have C:(execOp a.eval o).run P w=.ok (.comm #[scase E.g (a.eval x) zz] false .select) w:=by
        simp[execOp,M,R,Q,K,zeroValue,typeInfo,hi,O,scase]
       cases S:Nat.ble cap buf.length<;>rw[S]at B
       ·have hroom:bs.size<cap:=by
         have:=S;rw[<-yF,Nat.ble_eq]at this;omega
        cases hm:g.may id<;>rw[hm]at B
        ·cases B
        ·simp only[yO,zL,zb,ze]at B;obtain⟨rfl,rfl⟩:=B;refine⟨_,.tuple #[goInt 0,.bool false],w.setChan E.g cap (bs.push (a.eval x)) false (sn+1) rc false,C,λfr cs cases w₁ es F D=>?_,r.write T J rfl rfl (PO w E.g cap (bs.push (a.eval x)) false (sn+1) rc false) ⟨_,_,_,Q0 N,?_⟩,VR.j5 (.int _ _) (.bool _)⟩
         ·rw[C]at F;simp only[Result.ok.injEq,Next.comm.injEq,qs,xy]at F;obtain⟨rfl,rfl⟩:=F;exact step_lone_select_send_room D I hroom
         ·rw[qK];exact H.app (.cons (V.ev x) (.nil _))
       ·have hfull:cap<=bs.size:=by
         have:=zd S;omega
        simp only[zL,zb,ze]at B;obtain⟨rfl,rfl⟩:=B;refine⟨_,.tuple #[goInt (-1),.bool false],w,C,λfr cs cases w₁ es F D=>?_,r,VR.j5 (.int _ _) (.bool _)⟩;rw[C]at F;simp only[Result.ok.injEq,Next.comm.injEq,qs,xy]at F;obtain⟨rfl,rfl⟩:=F;exact step_lone_select_send_full D I hfull
      ·rename_i K;have C:(execOp a.eval o).run P w=.ok (.comm #[rcase E.g zz] false .select) w:=by
        simp[execOp,M,R,Q,K,zeroValue,typeInfo,hi,O,rcase]
       split at B
       ·rename_i v0 rest;cases hm:g.may id<;>rw[hm]at B
        ·cases B
        ·simp only[zL,zb,ze]at B;obtain⟨rfl,rfl⟩:=B;have h0:0<bs.size:=by simp at L;omega
         refine⟨_,.tuple #[goInt 0,.bool true,bs.getD 0 undef],w.setChan E.g cap (bs.extract 1 bs.size) false sn (rc+1) false,C,λfr cs cases w₁ es F D=>?_,r.write T J rfl rfl (PO w E.g cap (bs.extract 1 bs.size) false sn (rc+1) false) ⟨_,_,_,Q0 N,?_⟩,VR.kJ (.int _ _) (.bool _) ?_⟩
         ·rw[C]at F;simp only[Result.ok.injEq,Next.comm.injEq,qs,xy]at F;obtain⟨rfl,rfl⟩:=F;exact step_lone_select_recv_buf D I h0
         ·have hd:(bs.extract 1 bs.size).toList=bs.toList.drop 1:=by
           rw[Array.toList_extract,xC];exact zB (by simp)
          rw[hd];refine⟨by have:=H.1;simp at this⊢;omega,λi x y K U=>H.2 (i+1) x y (by simpa using K) ?_⟩;rw[List.getElem?_drop,xk]at U;exact U
         ·exact H.2 0 _ _ rfl (by simp[h0])
       ·simp only[zb,ze]at B;obtain⟨rfl,rfl⟩:=B;have h0:bs=#[]:=yA (by simpa using L.symm);subst h0;refine⟨_,.tuple #[goInt (-1),.bool false,zz],w,C,λfr cs cases w₁ es F D=>?_,r,VR.kJ (.int _ _) (.bool _) hvz⟩;rw[C]at F;simp only[Result.ok.injEq,Next.comm.injEq,qs,xy]at F;obtain⟨rfl,rfl⟩:=F;exact step_lone_select_default D I
     ·cases B
    ·cases B
   ·cases B
  ·cases B
 ·cases B
end
end Go.Av
