/-
 A part.
-/
import Derived.TacticsIn
import Derived.Scope
import Derived.RangeFuncLeaves
import Derived.Conc.LoneSelect
namespace Go.Av
open Go.RowKit Go.Conc
variable {P:Program} {Q:Exit->Act->World->Prop} {a:Act} {w:World}
section
variable {F:Fence} {n:Nat} {b:Frame} {k:List Item} {cs:List Frame}
theorem IV{c:Code}:step P (lone (b.atR a (.code (.scope c)::k)) cs w)=.next (lone (b.atR a (.code c::.inScope c::k)) cs w):=
 step_lone_go (by simp[stepG,stepG.exec,Frame.atR])
theorem RT{c:Code}:step P (lone (b.atR a (.inScope c::k)) cs w)=.next (lone (b.atR a k) cs w):=
 step_lone_go (by simp[stepG,stepG.exec,Frame.atR])
theorem UM{c:Code}(h:c.wpIn F n P (Exit.noGoto Q) a w):(Code.scope c).wpIn F n P Q a w:=by
 intro b k cs hro G D;have h0:(lone (b.atR a (.code (.scope c)::k)) cs w).fenced P F:=fenced_calm G D rfl;obtain⟨e,a₁,w₁,C,B⟩:=h b (.inScope c::k) cs hro G D;cases e with
 |normal=>exact⟨.normal,a₁,w₁,C,.head h0 IV (StepsIn.trans B (.one (fenced_calm G D rfl) RT))⟩
 | exit id=>
  have H:exitTo id (.inScope c::k)=exitTo id k:=by simp[exitTo]
  exact⟨.exit id,a₁,w₁,C,λk' E=>.head h0 IV (B.1 k' (by rw[H];exact E)),
   λhr' E=>let ⟨k₁,h1,h2⟩:=B.2 hr' (by rw[H];exact E);⟨k₁,h1,.head h0 IV h2⟩⟩
 |goto l=>exact C.elim
 |ret=>exact⟨_,a₁,w₁,C,.of_steps (.one h0 IV) B⟩
 |panic ch=>exact⟨_,a₁,w₁,C,.of_steps (.one h0 IV) B⟩
 |outgrown=>exact⟨_,a₁,w₁,C,.of_steps (.one h0 IV) B⟩
end
end Go.Av
