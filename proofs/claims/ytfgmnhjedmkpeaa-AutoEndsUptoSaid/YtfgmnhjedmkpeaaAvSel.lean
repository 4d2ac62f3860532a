/-
  Several texts in one.
-/
import Derived.Conc.LoneSelect
import Derived.Test.YtfgmnhjedmkpeaaAvDraw
set_option linter.unusedSimpArgs false
/-
 A part.
-/
section
namespace Go.Av
open Go.RowKit Go.Conc
def UZ(P:Program)(c:Code)(Q:Exit->Act->World->Prop)(a:Act)(w:World):Prop:=
 ∀(b:Frame) (k:List Item) (cs:List Frame),b.kind=.normal->
  ∃e a' w',Q e a' w'/\Arrives P (lone (b.at a (.code c::k)) cs w) b k cs e a' w'
variable {P:Program} {Q:Exit->Act->World->Prop} {a:Act} {w:World}
theorem Rj{c:Code}(h:c.wp P Q a w):UZ P c Q a w:=λb k cs _=>h b k cs
theorem Qz{x y:Code}(h:UZ P x (Exit.then (UZ P y Q) Q) a w):UZ P (Code.seq x y) Q a w:=by
 intro b k cs J;obtain⟨e,a₁,w₁,H,B⟩:=h b (.code y::k) cs J;cases e with
 |normal=>
  obtain⟨e₂,a₂,w₂,hq₂,harr₂⟩:=H b k cs J;exact⟨e₂,a₂,w₂,hq₂,.of_steps (.head step_seq B) harr₂⟩
 |exit id=>exact⟨_,a₁,w₁,H,.of_steps (.one step_seq) (.pass (x:=.code y) rfl (λ_ _=>.inl (by simp)) B)⟩
 |goto l=>exact⟨_,a₁,w₁,H,.of_steps (.one step_seq) (.pass (x:=.code y) rfl (λ_ _=>.inl (by simp)) B)⟩
 |ret=>exact⟨_,a₁,w₁,H,.of_steps (.one step_seq) (.pass (x:=.code y) rfl (λ_ _=>.inl (by simp)) B)⟩
 |panic ch=>exact⟨_,a₁,w₁,H,.of_steps (.one step_seq) (.pass (x:=.code y) rfl (λ_ _=>.inl (by simp)) B)⟩
 |outgrown=>exact⟨_,a₁,w₁,H,.of_steps (.one step_seq) (.pass (x:=.code y) rfl (λ_ _=>.inl (by simp)) B)⟩
def Q4(P:Program)(o:Oper)(a:Act)(w:World)(v:Value)(w':World):Prop:=
 ∀(fr:Frame) (cs:List Frame) (cases:Array CommCase) (w₁:World) (es:Array Event),(execOp a.eval o).run P w=.ok (.comm cases false .select) w₁->
  stepG P true (G fr cs) w=.comm (G fr cs) cases false .select w₁ es->step P (solo (G fr cs) w)=.next (solo (G (fr.finish v) cs) w')
theorem My{id:Nat}{ops:Array Oper}{o:Oper}{cases:Array CommCase}{w₁ w':World}{v:Value}(K:ops[0]?=some o)
  (hw:Region.wanted o (yielded ops a.tmps)=true) (I:(execOp a.eval o).run P w=.ok (.comm cases false .select) w₁)
  (C:Q4 P o a w v w') (hrest:wpListIn Fence.wide 0 P ops Q (ops.toList.drop 1) (a.put o.dst v) w'):UZ P (Code.region id ops false) Q a w:=by
 intro b k cs J;have hr1:wpOpsIn Fence.wide 0 P ops Q (List.range' 1 (ops.size - 1)) (a.put o.dst v) w':=by
  have e1:ops.size - 1=(ops.toList.drop 1).length:=by simp
  rw[e1,wpOpsIn_eq_wpListIn (ops.toList.drop 1) 1 (λj=>by simp[qu])];exact hrest
 obtain⟨e,a',w2,H,harr0⟩:=wp_opsIn _ _ _ hr1 {b with roundOf:=none} k cs rfl trivial (room_wide _);have B:Arrives P (lone (b.at (a.put o.dst v) (.inRegion ops (List.range' 1 (ops.size - 1))::k)) cs w') b k cs e a' w2:=(arrivesIn_iff (b:={b with roundOf:=none}) (λ_ _=>stepsIn_wide) rfl).1 harr0;have V:0<ops.size:=by
  rcases yA ops.size with h|h
  ·rw[Array.getElem?_eq_none (by omega)]at K;cases K
  ·exact h
 have hl:List.range ops.size=0::List.range' 1 (ops.size - 1):=by
  rw[qg];obtain⟨n,hn⟩:∃n,ops.size=n+1:=⟨ops.size - 1,by omega⟩;rw[hn,List.range'_succ];simp
 refine⟨e,a',w2,H,.of_steps (.head step_region ?_) B⟩;rw[hl];have hc:=stepG_comm (P:=P) (main:=true) (b:=b) (a:=a) (k:=k) (cs:=cs) (w:=w) (rest:=List.range' 1 (ops.size - 1)) K hw (by rw[J];decide) I;have h1:=C _ cs cases w₁ _ I hc;have T:step P (lone (b.at a (.inRegion ops (0::List.range' 1 (ops.size - 1))::k)) cs w)=.next (lone (b.at (a.put o.dst v) (.inRegion ops (List.range' 1 (ops.size - 1))::k)) cs w'):=by
  have S:=Frame.finish_at (b:=b) (a:=a) (ops:=ops) (i:=0) (rest:=List.range' 1 (ops.size - 1)) (k:=k) (v:=v);rw[K]at S;simp only[zd]at S;rw[<-S];exact h1
 exact .one T
theorem LC{f:FuncId}{fn:Func}{c:Code}{args:Array Value}{w:World}{R:Ending->World->Prop}
  (S:P.funcs[f]?=some fn) (J:fn.body=some c)
  (h:UZ P c (bodyPostM Fence.wide 0 P fn R) {tmps:=args++Array.replicate (fn.ntmps - args.size) undef,defers:=[]} w):
  Calls P f args w R:=by
 intro cs
 let b:Frame:={(default:Frame)with fn:=f,kind:=.normal,roundOf:=none}
 have henter:Frame.enter P f args .normal=
   b.at {tmps:=args++Array.replicate (fn.ntmps - args.size) undef,defers:=[]} [.code c]:=by
  simp[Frame.enter,Frame.at,S,J,b]
 obtain⟨e,a',w',H,B⟩:=h b [] cs rfl;rw[<-henter]at B;have fin:∀(u:FrameMode) (fr:Frame),fr.mode=u->fr.defers=a'.defers->fr.tmps=a'.tmps->fr.fn=f->fr.kind=.normal->LeavesInM Fence.wide 0 P fn a'.tmps R a'.defers u w'->
   Steps P (lone (Frame.enter P f args .normal) cs w) (lone fr cs w')->
   ∃e w'' fr',R e w''/\Comes P (lone (Frame.enter P f args .normal) cs w) (lone fr' cs w'') e/\fr'.fn=f/\fr'.leaving P w'' e:=by
  intro u fr h1 T h3 h4 h5 H C;obtain⟨e',w'',fr',hR,hs',hfn,hl⟩:=leaves_stepsInM (F:=Fence.wide) (n:=0) a'.defers u w' fr cs h1 T h3 (by rw[h4];exact S) h5 trivial (room_wide _) H;exact⟨e',w'',fr',hR,comesIn_wide.1 (ComesIn.of_steps (stepsIn_wide.2 C) hs'),hfn.trans h4,hl⟩
 cases e with
 |normal=>exact fin .returning _ rfl rfl rfl rfl rfl H (Steps.trans B (.one step_end))
 |ret=>
  obtain⟨todo,C⟩:=B;exact fin .returning _ rfl rfl rfl rfl rfl H C
 |panic chain=>
  obtain⟨todo,C⟩:=B;exact fin (.panicking chain) _ rfl rfl rfl rfl rfl H C
 |exit id=>exact H.elim
 |goto l=>exact H.elim
 |outgrown=>exact⟨.outgrown,w',b,H,B.resolve_left (by simp[b]),rfl,trivial⟩
section
variable {F:Fence} {n:Nat} {b:Frame} {k:List Item} {cs:List Frame}
theorem Ge{c:Code}:step P (lone (b.atR a (.code (.scope c)::k)) cs w)=.next (lone (b.atR a (.code c::.inScope c::k)) cs w):=
 step_lone_go (by simp[stepG,stepG.exec,Frame.atR])
theorem Nl{c:Code}:step P (lone (b.atR a (.inScope c::k)) cs w)=.next (lone (b.atR a k) cs w):=
 step_lone_go (by simp[stepG,stepG.exec,Frame.atR])
theorem Pz{c:Code}(h:c.wpIn F n P (Exit.noGoto Q) a w):(Code.scope c).wpIn F n P Q a w:=by
 intro b k cs hro J I;have K:(lone (b.atR a (.code (.scope c)::k)) cs w).fenced P F:=fenced_calm J I rfl;obtain⟨e,a₁,w₁,H,B⟩:=h b (.inScope c::k) cs hro J I;cases e with
 |normal=>exact⟨.normal,a₁,w₁,H,.head K Ge (StepsIn.trans B (.one (fenced_calm J I rfl) Nl))⟩
 | exit id=>
  have U:exitTo id (.inScope c::k)=exitTo id k:=by simp[exitTo]
  exact⟨.exit id,a₁,w₁,H,λk' hk=>.head K Ge (B.1 k' (by rw[U];exact hk)),
   λhr' hk=>let ⟨k₁,h1,T⟩:=B.2 hr' (by rw[U];exact hk);⟨k₁,h1,.head K Ge T⟩⟩
 |goto l=>exact H.elim
 |ret=>exact⟨_,a₁,w₁,H,.of_steps (.one K Ge) B⟩
 |panic ch=>exact⟨_,a₁,w₁,H,.of_steps (.one K Ge) B⟩
 |outgrown=>exact⟨_,a₁,w₁,H,.of_steps (.one K Ge) B⟩
end
end Go.Av
end
/-
 A part.
-/
section
namespace Go.Av
set_option linter.unusedSimpArgs false
open Go.RowKit Go.Conc
set_option linter.unusedVariables false
section
variable {P:Program} {w0:World} {m:Aj} {h h':AB} {w:World} {g:Gd} {fr:Fr} {v:AA}
theorem Mu{op:Op}(C:Rn P g h fr op=some (v,h')):Af g h h':=by
 unfold Rn at C;split at C
 ·split at C
  ·split at C
   ·split at C
    ·rename_i id _;split at C
     ·rename_i cap buf W;split at C
      ·cases J:Nat.ble cap buf.length<;>rw[J]at C
       ·cases hm:g.may id<;>rw[hm]at C
        ·cases C
        ·simp only[zR,zE,za,zb]at C;obtain⟨_,rfl⟩:=C;exact Af.set W hm
       ·simp only[zE,za,zb]at C;obtain⟨_,rfl⟩:=C;exact Af.refl _ _
      ·split at C
       ·cases hm:g.may id<;>rw[hm]at C
        ·cases C
        ·simp only[zE,za,zb]at C;obtain⟨_,rfl⟩:=C;exact Af.set W hm
       ·simp only[za,zb]at C;obtain⟨_,rfl⟩:=C;exact Af.refl _ _
     ·cases C
    ·cases C
   ·cases C
  ·cases C
 ·cases C
theorem Ls(w:World)(c cap:Nat)(buf:Array Value)(cl:Bool)(s r:Nat)(tm:Bool):B9 w (w.setChan c cap buf cl s r tm) c:=
 ⟨rfl,rfl,rfl,by simp[World.setChan],λk hk hne=>by simp[World.setChan,Ne.symm hne]⟩
theorem MZ{w:World}{c cap:Nat}{buf:Array Value}{cl:Bool}{s r:Nat}{tm:Bool}(h:c<w.heap.size):(w.setChan c cap buf cl s r tm).heap[c]?=some (.chan cap buf cl s r tm):=by
 simp[World.setChan,h]
theorem VR.Xf{m:Aj}{a b:AA}{x y:Value}(h1:VR m a x)(T:VR m b y):VR m (.tuple [a,b]) (.tuple #[x,y]):=
 .tuple _ _ rfl λi u v hu M=>by
  match i with
  |0=>simp at hu M;subst hu M;exact h1
  |1=>simp at hu M;subst hu M;exact T
  |i+2=>simp at hu
theorem VR.Xx{m:Aj}{a b c:AA}{x y z:Value}(h1:VR m a x)(T:VR m b y)(h3:VR m c z):VR m (.tuple [a,b,c]) (.tuple #[x,y,z]):=
 .tuple _ _ rfl λi u v hu M=>by
  match i with
  |0=>simp at hu M;subst hu M;exact h1
  |1=>simp at hu M;subst hu M;exact T
  |2=>simp at hu M;subst hu M;exact h3
  |i+3=>simp at hu
theorem VR.Ta{m:Aj}{id:Nat}{u:Value}(h:VR m (.chan (some id)) u):∃E,m id=some E/\u=.chan (some E.g):=by
 cases h with
 |chan _ E hE=>exact⟨E,hE,rfl⟩
theorem P1{o:Oper}{a:Act}(r:Rel P w0 m h w)(S:FR m fr a)(C:Rn P g h fr o.op=some (v,h')):
  ∃cases v' w',(execOp a.eval o).run P w=.ok (.comm cases false .select) w/\Q4 P o a w v' w'/\Rel P w0 m h' w'/\VR m v v':=by
 unfold Rn at C;split at C
 ·rename_i cases0 blocking X;split at C
  ·rename_i c hc0;split at C
   ·rename_i z hz;obtain⟨i,zz,hi,Z,hvz⟩:=DU (m:=m) hz;have hcs:cases0=#[c]:=Array.toList_inj.1 hc0;split at C
    ·rename_i id hch;have M:=S.ev c.chan;rw[hch]at M;obtain⟨E,hE,hcv⟩:=M.Ta;split at C
     ·rename_i cap buf W;obtain⟨bs,sn,rc,O,N⟩:=r.obj id E _ hE W;have Y:E.g<w.heap.size:=(Array.getElem?_eq_some_iff.1 O).1;have V:buf.length=bs.size:=by rw[N.1];simp
      split at C
      ·rename_i x U;have D:(execOp a.eval o).run P w=.ok (.comm #[scase E.g (a.eval x) zz] false .select) w:=by
        simp[execOp,X,hcs,hcv,U,zeroValue,typeInfo,hi,Z,scase]
       cases J:Nat.ble cap buf.length<;>rw[J]at C
       ·have hroom:bs.size<cap:=by
         have:=J;rw[<-qz,Nat.ble_eq]at this;omega
        cases hm:g.may id<;>rw[hm]at C
        ·cases C
        ·simp only[zR,zE,za,zb]at C;obtain⟨rfl,rfl⟩:=C;refine⟨_,.tuple #[goInt 0,.bool false],w.setChan E.g cap (bs.push (a.eval x)) false (sn+1) rc false,D,λfr cs cases w₁ es I L=>?_,r.write hE W rfl rfl (Ls w E.g cap (bs.push (a.eval x)) false (sn+1) rc false) ⟨_,_,_,MZ Y,?_⟩,VR.Xf (.int _ _) (.bool _)⟩
         ·rw[D]at I;simp only[Result.ok.injEq,Next.comm.injEq,yZ,qK]at I;obtain⟨rfl,rfl⟩:=I;exact step_lone_select_send_room L O hroom
         ·rw[y3];exact N.app (.cons (S.ev x) (.nil _))
       ·have hfull:cap<=bs.size:=by
         have:=zj J;omega
        simp only[zE,za,zb]at C;obtain⟨rfl,rfl⟩:=C;refine⟨_,.tuple #[goInt (-1),.bool false],w,D,λfr cs cases w₁ es I L=>?_,r,VR.Xf (.int _ _) (.bool _)⟩;rw[D]at I;simp only[Result.ok.injEq,Next.comm.injEq,yZ,qK]at I;obtain⟨rfl,rfl⟩:=I;exact step_lone_select_send_full L O hfull
      ·rename_i U;have D:(execOp a.eval o).run P w=.ok (.comm #[rcase E.g zz] false .select) w:=by
        simp[execOp,X,hcs,hcv,U,zeroValue,typeInfo,hi,Z,rcase]
       split at C
       ·rename_i v0 rest;cases hm:g.may id<;>rw[hm]at C
        ·cases C
        ·simp only[zE,za,zb]at C;obtain⟨rfl,rfl⟩:=C;have K:0<bs.size:=by simp at V;omega
         refine⟨_,.tuple #[goInt 0,.bool true,bs.getD 0 undef],w.setChan E.g cap (bs.extract 1 bs.size) false sn (rc+1) false,D,λfr cs cases w₁ es I L=>?_,r.write hE W rfl rfl (Ls w E.g cap (bs.extract 1 bs.size) false sn (rc+1) false) ⟨_,_,_,MZ Y,?_⟩,VR.Xx (.int _ _) (.bool _) ?_⟩
         ·rw[D]at I;simp only[Result.ok.injEq,Next.comm.injEq,yZ,qK]at I;obtain⟨rfl,rfl⟩:=I;exact step_lone_select_recv_buf L O K
         ·have hd:(bs.extract 1 bs.size).toList=bs.toList.drop 1:=by
           rw[Array.toList_extract,qP];exact zV (by simp)
          rw[hd];refine⟨by have:=N.1;simp at this⊢;omega,λi x y U hy=>N.2 (i+1) x y (by simpa using U) ?_⟩;rw[List.getElem?_drop,qu]at hy;exact hy
         ·exact N.2 0 _ _ rfl (by simp[K])
       ·simp only[za,zb]at C;obtain⟨rfl,rfl⟩:=C;have K:bs=#[]:=qy (by simpa using V.symm);subst K;refine⟨_,.tuple #[goInt (-1),.bool false,zz],w,D,λfr cs cases w₁ es I L=>?_,r,VR.Xx (.int _ _) (.bool _) hvz⟩;rw[D]at I;simp only[Result.ok.injEq,Next.comm.injEq,yZ,qK]at I;obtain⟨rfl,rfl⟩:=I;exact step_lone_select_default L O
     ·cases C
    ·cases C
   ·cases C
  ·cases C
 ·cases C
end
end Go.Av
end
