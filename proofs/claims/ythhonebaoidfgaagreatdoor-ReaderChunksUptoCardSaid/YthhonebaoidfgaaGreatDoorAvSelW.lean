/-
 A part.
-/
import Derived.TacticsIn
import Derived.Scope
import Derived.RangeFuncLeaves
import Derived.Conc.LoneSelect
namespace Go.Av
open Go.RowKit Go.Conc
def fA(P:Program)(c:Code)(Q:Exit->Act->World->Prop)(a:Act)(w:World):Prop:=
 ∀(b:Frame) (k:List Item) (cs:List Frame),b.kind=.normal->
  ∃e a' w',Q e a' w'/\Arrives P (lone (b.at a (.code c::k)) cs w) b k cs e a' w'
variable {P:Program} {Q:Exit->Act->World->Prop} {a:Act} {w:World}
theorem Zp{c:Code}(h:c.wp P Q a w):fA P c Q a w:=λb k cs _=>h b k cs
theorem Yx{x y:Code}(h:fA P x (Exit.then (fA P y Q) Q) a w):fA P (Code.seq x y) Q a w:=by
 intro b k cs D;obtain⟨e,a₁,w₁,C,B⟩:=h b (.code y::k) cs D;cases e with
 |normal=>
  obtain⟨e₂,a₂,w₂,hq₂,harr₂⟩:=C b k cs D;exact⟨e₂,a₂,w₂,hq₂,.of_steps (.head step_seq B) harr₂⟩
 |exit id=>exact⟨_,a₁,w₁,C,.of_steps (.one step_seq) (.pass (x:=.code y) rfl (λ_ _=>.inl (by simp)) B)⟩
 |goto l=>exact⟨_,a₁,w₁,C,.of_steps (.one step_seq) (.pass (x:=.code y) rfl (λ_ _=>.inl (by simp)) B)⟩
 |ret=>exact⟨_,a₁,w₁,C,.of_steps (.one step_seq) (.pass (x:=.code y) rfl (λ_ _=>.inl (by simp)) B)⟩
 |panic ch=>exact⟨_,a₁,w₁,C,.of_steps (.one step_seq) (.pass (x:=.code y) rfl (λ_ _=>.inl (by simp)) B)⟩
 |outgrown=>exact⟨_,a₁,w₁,C,.of_steps (.one step_seq) (.pass (x:=.code y) rfl (λ_ _=>.inl (by simp)) B)⟩
def YM(P:Program)(o:Oper)(a:Act)(w:World)(v:Value)(w':World):Prop:=
 ∀(fr:Frame) (cs:List Frame) (cases:Array CommCase) (w₁:World) (es:Array Event),(execOp a.eval o).run P w=.ok (.comm cases false .select) w₁->
  stepG P true (G fr cs) w=.comm (G fr cs) cases false .select w₁ es->step P (solo (G fr cs) w)=.next (solo (G (fr.finish v) cs) w')
theorem SO{id:Nat}{ops:Array Oper}{o:Oper}{cases:Array CommCase}{w₁ w':World}{v:Value}(h0:ops[0]?=some o)
  (hw:Region.wanted o (yielded ops a.tmps)=true) (H:(execOp a.eval o).run P w=.ok (.comm cases false .select) w₁)
  (E:YM P o a w v w') (hrest:wpListIn Fence.wide 0 P ops Q (ops.toList.drop 1) (a.put o.dst v) w'):fA P (Code.region id ops false) Q a w:=by
 intro b k cs D;have hr1:wpOpsIn Fence.wide 0 P ops Q (List.range' 1 (ops.size - 1)) (a.put o.dst v) w':=by
  have e1:ops.size - 1=(ops.toList.drop 1).length:=by simp
  rw[e1,wpOpsIn_eq_wpListIn (ops.toList.drop 1) 1 (λj=>by simp[Nat.add_comm])];exact hrest
 obtain⟨e,a',w2,C,harr0⟩:=wp_opsIn _ _ _ hr1 {b with roundOf:=none} k cs rfl trivial (room_wide _);have B:Arrives P (lone (b.at (a.put o.dst v) (.inRegion ops (List.range' 1 (ops.size - 1))::k)) cs w') b k cs e a' w2:=(arrivesIn_iff (b:={b with roundOf:=none}) (λ_ _=>stepsIn_wide) rfl).1 harr0;have hsz:0<ops.size:=by
  rcases Nat.eq_zero_or_pos ops.size with h|h
  ·rw[Array.getElem?_eq_none (by omega)]at h0;cases h0
  ·exact h
 have J:List.range ops.size=0::List.range' 1 (ops.size - 1):=by
  rw[List.range_eq_range'];obtain⟨n,hn⟩:∃n,ops.size=n+1:=⟨ops.size - 1,by omega⟩;rw[hn,List.range'_succ];simp
 refine⟨e,a',w2,C,.of_steps (.head step_region ?_) B⟩;rw[J];have hc:=stepG_comm (P:=P) (main:=true) (b:=b) (a:=a) (k:=k) (cs:=cs) (w:=w) (rest:=List.range' 1 (ops.size - 1)) h0 hw (by rw[D];decide) H;have h1:=E _ cs cases w₁ _ H hc;have h2:step P (lone (b.at a (.inRegion ops (0::List.range' 1 (ops.size - 1))::k)) cs w)=.next (lone (b.at (a.put o.dst v) (.inRegion ops (List.range' 1 (ops.size - 1))::k)) cs w'):=by
  have I:=Frame.finish_at (b:=b) (a:=a) (ops:=ops) (i:=0) (rest:=List.range' 1 (ops.size - 1)) (k:=k) (v:=v);rw[h0]at I;simp only[Option.bind_some]at I;rw[<-I];exact h1
 exact .one h2
theorem O6{f:FuncId}{fn:Func}{c:Code}{args:Array Value}{w:World}{R:Ending->World->Prop}
  (I:P.funcs[f]?=some fn) (D:fn.body=some c)
  (h:fA P c (bodyPostM Fence.wide 0 P fn R) {tmps:=args++Array.replicate (fn.ntmps - args.size) undef,defers:=[]} w):
  Calls P f args w R:=by
 intro cs
 let b:Frame:={(default:Frame)with fn:=f,kind:=.normal,roundOf:=none}
 have henter:Frame.enter P f args .normal=
   b.at {tmps:=args++Array.replicate (fn.ntmps - args.size) undef,defers:=[]} [.code c]:=by
  simp[Frame.enter,Frame.at,I,D,b]
 obtain⟨e,a',w',C,B⟩:=h b [] cs rfl;rw[<-henter]at B;have fin:∀(u:FrameMode) (fr:Frame),fr.mode=u->fr.defers=a'.defers->fr.tmps=a'.tmps->fr.fn=f->fr.kind=.normal->LeavesInM Fence.wide 0 P fn a'.tmps R a'.defers u w'->
   Steps P (lone (Frame.enter P f args .normal) cs w) (lone fr cs w')->
   ∃e w'' fr',R e w''/\Comes P (lone (Frame.enter P f args .normal) cs w) (lone fr' cs w'') e/\fr'.fn=f/\fr'.leaving P w'' e:=by
  intro u fr h1 h2 h3 L h5 C E;obtain⟨e',w'',fr',hR,hs',hfn,J⟩:=leaves_stepsInM (F:=Fence.wide) (n:=0) a'.defers u w' fr cs h1 h2 h3 (by rw[L];exact I) h5 trivial (room_wide _) C;exact⟨e',w'',fr',hR,comesIn_wide.1 (ComesIn.of_steps (stepsIn_wide.2 E) hs'),hfn.trans L,J⟩
 cases e with
 |normal=>exact fin .returning _ rfl rfl rfl rfl rfl C (Steps.trans B (.one step_end))
 |ret=>
  obtain⟨todo,E⟩:=B;exact fin .returning _ rfl rfl rfl rfl rfl C E
 |panic chain=>
  obtain⟨todo,E⟩:=B;exact fin (.panicking chain) _ rfl rfl rfl rfl rfl C E
 |exit id=>exact C.elim
 |goto l=>exact C.elim
 |outgrown=>exact⟨.outgrown,w',b,C,B.resolve_left (by simp[b]),rfl,trivial⟩
section
variable {F:Fence} {n:Nat} {b:Frame} {k:List Item} {cs:List Frame}
theorem D1{c:Code}:step P (lone (b.atR a (.code (.scope c)::k)) cs w)=.next (lone (b.atR a (.code c::.inScope c::k)) cs w):=
 step_lone_go (by simp[stepG,stepG.exec,Frame.atR])
theorem LO{c:Code}:step P (lone (b.atR a (.inScope c::k)) cs w)=.next (lone (b.atR a k) cs w):=
 step_lone_go (by simp[stepG,stepG.exec,Frame.atR])
theorem Xa{c:Code}(h:c.wpIn F n P (Exit.noGoto Q) a w):(Code.scope c).wpIn F n P Q a w:=by
 intro b k cs hro D H;have h0:(lone (b.atR a (.code (.scope c)::k)) cs w).fenced P F:=fenced_calm D H rfl;obtain⟨e,a₁,w₁,C,B⟩:=h b (.inScope c::k) cs hro D H;cases e with
 |normal=>exact⟨.normal,a₁,w₁,C,.head h0 D1 (StepsIn.trans B (.one (fenced_calm D H rfl) LO))⟩
 | exit id=>
  have K:exitTo id (.inScope c::k)=exitTo id k:=by simp[exitTo]
  exact⟨.exit id,a₁,w₁,C,λk' hk=>.head h0 D1 (B.1 k' (by rw[K];exact hk)),
   λhr' hk=>let ⟨k₁,h1,h2⟩:=B.2 hr' (by rw[K];exact hk);⟨k₁,h1,.head h0 D1 h2⟩⟩
 |goto l=>exact C.elim
 |ret=>exact⟨_,a₁,w₁,C,.of_steps (.one h0 D1) B⟩
 |panic ch=>exact⟨_,a₁,w₁,C,.of_steps (.one h0 D1) B⟩
 |outgrown=>exact⟨_,a₁,w₁,C,.of_steps (.one h0 D1) B⟩
end
end Go.Av
