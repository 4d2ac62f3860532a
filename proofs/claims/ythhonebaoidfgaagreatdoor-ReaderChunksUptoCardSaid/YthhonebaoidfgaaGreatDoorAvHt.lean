/-
  Several texts in one.
-/
import Derived.Test.YthhonebaoidfgaaGreatDoorAvLit
import Derived.Test.YthhonebaoidfgaaGreatDoorProg
import Derived.Shelf.SlGeneric
import Derived.Ground.GgzProg
import Derived.Ground.SlgmProg
import Derived.Ground.SlgnProg
import Derived.Ground.Names8Prog
import Derived.Shelf.Lays
import Derived.Ground.NamesProg
import Derived.Shelf.LaysM
import Derived.Shelf.SlLaysF0
import Derived.Ground.SlsfProg
import Derived.Test.YthhonebaoidfgaaGreatDoorAvKm
set_option linter.unusedSimpArgs false
/-
 A part.
-/
section
namespace Go.Av.LT
open Go.Av Go.Lib
set_option linter.unusedSimpArgs false
set_option linter.unusedVariables false
set_option maxRecDepth 100000
noncomputable def SI:Hv:=bm Go.Proofs.Tryz.prog (λ_ _=>[])
theorem cE:Yk SI.P SI.DC 217 241:=Vr (C:=SI) (VG (mk:=[]) λp h=>by cases h) (fn:=Go.Proofs.Tryz.f217) (i0:=0) (i1:=1) (ops0:=Xd Go.Proofs.Tryz.f217 0) (ops1:=Xd Go.Proofs.Tryz.f217 1) (tb:=1) (tr:=2) (z:=.nilFunc) (fr2:=λr=>[pA r,.Aw [pA r],.func (.func 241) [] [.Aw [pA r]],.func (.func 241) [] [.Aw [pA r]]])
 Go.Proofs.Tryz.func217 kr kr (λm=>⟨_,.nilFunc⟩) (by decide) (λr h=>kr) (λr h=>kr) (λr h=>kr)
theorem dL:Yk SI.P SI.DC 218 242:=Vr (C:=SI) (VG (mk:=[]) λp h=>by cases h) (fn:=Go.Proofs.Tryz.f218) (i0:=0) (i1:=1) (ops0:=Xd Go.Proofs.Tryz.f218 0) (ops1:=Xd Go.Proofs.Tryz.f218 1) (tb:=1) (tr:=2) (z:=.nilFunc) (fr2:=λr=>[pA r,.Aw [pA r],.func (.func 242) [] [.Aw [pA r]],.func (.func 242) [] [.Aw [pA r]]])
 Go.Proofs.Tryz.func218 kr kr (λm=>⟨_,.nilFunc⟩) (by decide) (λr h=>kr) (λr h=>kr) (λr h=>kr)
def lO:List (FuncId×FuncId):=[(217,241),(218,242)]
theorem iO:HW SI.P SI.DC (eD lO):=VG λp h=>by
 simp only[lO,zF,yb,or_false]at h;rcases h with rfl|rfl
 ·exact cE
 ·exact dL
def Y6(r s:Nat×Nat)(n:Nat):Fr:=[pA r,pA s,.Aw [pA r],.tuple [],.map (some n),.map (some n),pA r,pA r,.ptr (some (r.1,r.2+5)),.func (.func 241) [] [.Aw [.ptr (some (r.1,r.2+5))]],pA r,pA r,.ptr (some (r.1,r.2+4)),.func (.func 241) [] [.Aw [.ptr (some (r.1,r.2+4))]],pA s,.func (.func 241) [] [.Aw [pA s]],pA r,pA r,.ptr (some (r.1,r.2+7)),.func (.func 242) [] [.Aw [.ptr (some (r.1,r.2+7))]],pA r,pA r,.ptr (some (r.1,r.2+6)),.func (.func 242) [] [.Aw [.ptr (some (r.1,r.2+6))]],pA r,pA r,pA r,.func (.func 242) [] [.Aw [pA r]],pA r,pA r,.ptr (some (r.1,r.2+1)),.func (.func 242) [] [.Aw [.ptr (some (r.1,r.2+1))]],.func (.func 219) [] [.Aw [pA r]],.map (some n)]
def iU(r s:Nat×Nat):List (AD×AD):=[(.str [103,105,100],.func (.func 241) [] [.Aw [.ptr (some (r.1,r.2+5))]]),(.str [117,105,100],.func (.func 241) [] [.Aw [.ptr (some (r.1,r.2+4))]]),(.str [115,105,122,101],.func (.func 241) [] [.Aw [pA s]]),(.str [103,110,97,109,101],.func (.func 242) [] [.Aw [.ptr (some (r.1,r.2+7))]]),(.str [117,110,97,109,101],.func (.func 242) [] [.Aw [.ptr (some (r.1,r.2+6))]]),(.str [112,97,116,104],.func (.func 242) [] [.Aw [pA r]]),(.str [108,105,110,107,112,97,116,104],.func (.func 242) [] [.Aw [.ptr (some (r.1,r.2+1))]]),(.str [109,116,105,109,101],.func (.func 219) [] [.Aw [pA r]])]
def cR:List (AD×AD):=[(.str [103,105,100],.func (.func 241) [] [.Aw [.ptr (some (0,5))]]),(.str [117,105,100],.func (.func 241) [] [.Aw [.ptr (some (0,4))]]),(.str [115,105,122,101],.func (.func 241) [] [.Aw [.ptr (some (1,0))]]),(.str [103,110,97,109,101],.func (.func 242) [] [.Aw [.ptr (some (0,7))]]),(.str [117,110,97,109,101],.func (.func 242) [] [.Aw [.ptr (some (0,6))]]),(.str [112,97,116,104],.func (.func 242) [] [.Aw [.ptr (some (0,0))]]),(.str [108,105,110,107,112,97,116,104],.func (.func 242) [] [.Aw [.ptr (some (0,1))]]),(.str [109,116,105,109,101],.func (.func 219) [] [.Aw [.ptr (some (0,0))]])]
theorem jV(r s:Nat×Nat)(h:AF):Lit SI (eD lO) h (Xd Go.Proofs.Tryz.f187 1) (cO (Xf [pA r,pA s] Go.Proofs.Tryz.f187.ntmps) 2 4 (.Aw [pA r]) (.map none)) (Y6 r s h.size) 231 9 235 5 0:=
 Lit.of kr kr kr kr kr (λH=>kr) kr kr
theorem jO{G:Nat->Option (List AD)}:Gs SI.P G 187 λ_ h args=>T2 cR 2 h args:=
 Gs.nil<|bI (C:=SI) kr iO (fn:=Go.Proofs.Tryz.f187) (i0:=0) (i1:=1) (ops0:=Xd Go.Proofs.Tryz.f187 0) (ops:=(Xd Go.Proofs.Tryz.f187 1)) (tb:=2) (tr:=4) (z:=.map none) (val:=Y6) (es':=iU)
  Go.Proofs.Tryz.func187 kr kr (λm=>⟨_,.NH⟩) (by decide) (λr s h=>kr) jV (λr s n=>kr) (λr s=>kr) (λr s=>XR (ks:=[[103,105,100],[117,105,100],[115,105,122,101],[103,110,97,109,101],[117,110,97,109,101],[112,97,116,104],[108,105,110,107,112,97,116,104],[109,116,105,109,101]]) kr (by decide)) (λr s=>kr) (λr s h H=>kr)
end Go.Av.LT
end
/-
 A part.
-/
section
namespace Go.Proofs
open Go.Av (kr om)
open Go.Shelf
def Tryz.WS:Go.Shelf.Ren:=⟨fun|106=>123|213=>166|265=>200|n=>n,fun|9=>9|3=>3|n=>n,fun|n=>n⟩
theorem Tryz.eB:Go.Proofs.Lays.n106 Tryz.prog Tryz.WS:={
 mixed:=by kernel_rfl
 f106:=Tryz.func123.trans (congrArg some kr)
 f213:=Tryz.func166.trans (congrArg some kr)
 f265:=Tryz.func200.trans (congrArg some kr)
 t3:=Tryz.underlying3
 a3:=Tryz.isAgg3
 z3:=Tryz.sizeOf3
 v3:=Tryz.zeroValue3
 t9:=Tryz.underlying9
 a9:=Tryz.isAgg9
 z9:=Tryz.sizeOf9
 v9:=Tryz.zeroValue9}
def Tryz.XG:Go.Shelf.Ren:=⟨fun|145=>146|220=>180|219=>208|217=>186|225=>232|224=>233|267=>234|266=>216|314=>249|n=>n,fun|9=>9|4=>4|59=>103|3=>3|5=>5|46=>180|146=>215|51=>214|n=>n,fun|1=>0|n=>n⟩
theorem Tryz.iu:Go.Proofs.Lays.n145 Tryz.prog Tryz.XG:={
 mixed:=by kernel_rfl
 f145:=Tryz.func146.trans (congrArg some kr)
 f217:=Tryz.func186.trans (congrArg some kr)
 f219:=Tryz.func208.trans (congrArg some kr)
 f220:=Tryz.func180.trans (congrArg some kr)
 f224:=Tryz.func233.trans (congrArg some kr)
 f225:=Tryz.func232.trans (congrArg some kr)
 f266:=Tryz.func216.trans (congrArg some kr)
 f267:=Tryz.func234.trans (congrArg some kr)
 f314:=Tryz.func249.trans (congrArg some kr)
 t3:=Tryz.underlying3
 a3:=Tryz.isAgg3
 z3:=Tryz.sizeOf3
 v3:=Tryz.zeroValue3
 t4:=Tryz.underlying4
 a4:=Tryz.isAgg4
 z4:=Tryz.sizeOf4
 v4:=Tryz.zeroValue4
 t5:=Tryz.underlying5
 a5:=Tryz.isAgg5
 z5:=Tryz.sizeOf5
 v5:=Tryz.zeroValue5
 t9:=Tryz.underlying9
 a9:=Tryz.isAgg9
 z9:=Tryz.sizeOf9
 v9:=Tryz.zeroValue9
 t46:=Tryz.underlying180
 a46:=Tryz.isAgg180
 z46:=Tryz.sizeOf180
 v46:=Tryz.zeroValue180
 t51:=Tryz.underlying214
 a51:=Tryz.isAgg214
 z51:=Tryz.sizeOf214
 v51:=Tryz.zeroValue214
 t59:=Tryz.underlying103
 a59:=Tryz.isAgg103
 z59:=Tryz.sizeOf103
 v59:=Tryz.zeroValue103
 t146:=Tryz.underlying215
 a146:=Tryz.isAgg215
 z146:=Tryz.sizeOf215
 v146:=Tryz.zeroValue215
 g1:=by kernel_rfl}
def Tryz.Xk:Go.Shelf.Ren:=⟨fun|285=>214|n=>n,fun|37=>27|53=>217|3=>3|4=>4|51=>214|9=>9|5=>5|0=>0|n=>n,fun|n=>n⟩
theorem Tryz.il:Go.Proofs.Lays.n285 Tryz.prog Tryz.Xk:={
 mixed:=by kernel_rfl
 f285:=Tryz.func214.trans (congrArg some kr)
 t0:=Tryz.underlying0
 a0:=Tryz.isAgg0
 z0:=Tryz.sizeOf0
 v0:=Tryz.zeroValue0
 t3:=Tryz.underlying3
 a3:=Tryz.isAgg3
 z3:=Tryz.sizeOf3
 v3:=Tryz.zeroValue3
 t4:=Tryz.underlying4
 a4:=Tryz.isAgg4
 z4:=Tryz.sizeOf4
 v4:=Tryz.zeroValue4
 t5:=Tryz.underlying5
 a5:=Tryz.isAgg5
 z5:=Tryz.sizeOf5
 v5:=Tryz.zeroValue5
 t9:=Tryz.underlying9
 a9:=Tryz.isAgg9
 z9:=Tryz.sizeOf9
 v9:=Tryz.zeroValue9
 t37:=Tryz.underlying27
 a37:=Tryz.isAgg27
 z37:=Tryz.sizeOf27
 v37:=Tryz.zeroValue27
 t51:=Tryz.underlying214
 a51:=Tryz.isAgg214
 z51:=Tryz.sizeOf214
 v51:=Tryz.zeroValue214
 t53:=Tryz.underlying217
 a53:=Tryz.isAgg217
 z53:=Tryz.sizeOf217
 v53:=Tryz.zeroValue217}
def Tryz.Wn:Go.Shelf.Ren:=⟨fun|171=>114|243=>149|246=>185|283=>212|284=>213|285=>214|286=>215|129=>199|317=>237|318=>238|319=>239|320=>240|337=>259|338=>260|n=>n,fun|3=>3|9=>9|2=>2|4=>4|171=>253|0=>0|53=>217|37=>27|5=>5|173=>255|212=>278|51=>214|20=>20|213=>279|46=>180|232=>296|233=>297|n=>n,fun|17=>1|18=>2|19=>3|n=>n⟩
theorem Tryz.eG:Go.Proofs.LaysM.n171 Tryz.prog Tryz.Wn:={
 mixed:=by kernel_rfl
 f129:=Tryz.func199.trans (congrArg some kr)
 f171:=Tryz.func114.trans (congrArg some kr)
 f243:=Tryz.func149.trans (congrArg some kr)
 f246:=Tryz.func185.trans (congrArg some kr)
 f283:=Tryz.func212.trans (congrArg some kr)
 f284:=Tryz.func213.trans (congrArg some kr)
 f285:=Tryz.func214.trans (congrArg some kr)
 f286:=Tryz.func215.trans (congrArg some kr)
 f317:=Tryz.func237.trans (congrArg some kr)
 f318:=Tryz.func238.trans (congrArg some kr)
 f319:=Tryz.func239.trans (congrArg some kr)
 f320:=Tryz.func240.trans (congrArg some kr)
 f337:=Tryz.func259.trans (congrArg some kr)
 f338:=Tryz.func260.trans (congrArg some kr)
 t0:=Tryz.underlying0
 a0:=Tryz.isAgg0
 z0:=Tryz.sizeOf0
 v0:=Tryz.zeroValue0
 t2:=Tryz.underlying2
 a2:=Tryz.isAgg2
 z2:=Tryz.sizeOf2
 v2:=Tryz.zeroValue2
 t3:=Tryz.underlying3
 a3:=Tryz.isAgg3
 z3:=Tryz.sizeOf3
 v3:=Tryz.zeroValue3
 t4:=Tryz.underlying4
 a4:=Tryz.isAgg4
 z4:=Tryz.sizeOf4
 v4:=Tryz.zeroValue4
 t5:=Tryz.underlying5
 a5:=Tryz.isAgg5
 z5:=Tryz.sizeOf5
 v5:=Tryz.zeroValue5
 t9:=Tryz.underlying9
 a9:=Tryz.isAgg9
 z9:=Tryz.sizeOf9
 v9:=Tryz.zeroValue9
 t20:=Tryz.underlying20
 a20:=Tryz.isAgg20
 z20:=Tryz.sizeOf20
 v20:=Tryz.zeroValue20
 t37:=Tryz.underlying27
 a37:=Tryz.isAgg27
 z37:=Tryz.sizeOf27
 v37:=Tryz.zeroValue27
 t46:=Tryz.underlying180
 a46:=Tryz.isAgg180
 z46:=Tryz.sizeOf180
 v46:=Tryz.zeroValue180
 t51:=Tryz.underlying214
 a51:=Tryz.isAgg214
 z51:=Tryz.sizeOf214
 v51:=Tryz.zeroValue214
 t53:=Tryz.underlying217
 a53:=Tryz.isAgg217
 z53:=Tryz.sizeOf217
 v53:=Tryz.zeroValue217
 t171:=Tryz.underlying253
 a171:=Tryz.isAgg253
 z171:=Tryz.sizeOf253
 v171:=Tryz.zeroValue253
 t173:=Tryz.underlying255
 a173:=Tryz.isAgg255
 z173:=Tryz.sizeOf255
 v173:=Tryz.zeroValue255
 t212:=Tryz.underlying278
 a212:=Tryz.isAgg278
 z212:=Tryz.sizeOf278
 v212:=Tryz.zeroValue278
 t213:=Tryz.underlying279
 a213:=Tryz.isAgg279
 z213:=Tryz.sizeOf279
 t232:=Tryz.underlying296
 a232:=Tryz.isAgg296
 z232:=Tryz.sizeOf296
 v232:=Tryz.zeroValue296
 t233:=Tryz.underlying297
 a233:=Tryz.isAgg297
 z233:=Tryz.sizeOf297
 v233:=Tryz.zeroValue297
 g17:=by kernel_rfl
 g18:=by kernel_rfl
 g19:=by kernel_rfl
 i0:=by kernel_rfl
 i2:=by kernel_rfl
 i3:=by kernel_rfl
 i4:=by kernel_rfl
 i5:=by kernel_rfl
 i9:=by kernel_rfl
 i20:=by kernel_rfl
 i37:=by kernel_rfl
 i46:=by kernel_rfl
 i51:=by kernel_rfl
 i53:=by kernel_rfl
 i171:=by kernel_rfl
 i173:=by kernel_rfl
 i212:=by kernel_rfl
 i232:=by kernel_rfl
 i233:=by kernel_rfl
 m17:=by kernel_rfl
 m18:=by kernel_rfl
 m19:=by kernel_rfl}
def Tryz.Xg:Go.Shelf.Ren:=⟨fun|284=>213|129=>199|317=>237|318=>238|n=>n,fun|53=>217|3=>3|212=>278|0=>0|4=>4|46=>180|5=>5|9=>9|n=>n,fun|17=>1|n=>n⟩
theorem Tryz.jL:Go.Proofs.LaysM.n284 Tryz.prog Tryz.Xg:={
 mixed:=by kernel_rfl
 f129:=Tryz.func199.trans (congrArg some kr)
 f284:=Tryz.func213.trans (congrArg some kr)
 f317:=Tryz.func237.trans (congrArg some kr)
 f318:=Tryz.func238.trans (congrArg some kr)
 t0:=Tryz.underlying0
 a0:=Tryz.isAgg0
 z0:=Tryz.sizeOf0
 v0:=Tryz.zeroValue0
 t3:=Tryz.underlying3
 a3:=Tryz.isAgg3
 z3:=Tryz.sizeOf3
 v3:=Tryz.zeroValue3
 t4:=Tryz.underlying4
 a4:=Tryz.isAgg4
 z4:=Tryz.sizeOf4
 v4:=Tryz.zeroValue4
 t5:=Tryz.underlying5
 a5:=Tryz.isAgg5
 z5:=Tryz.sizeOf5
 v5:=Tryz.zeroValue5
 t9:=Tryz.underlying9
 a9:=Tryz.isAgg9
 z9:=Tryz.sizeOf9
 v9:=Tryz.zeroValue9
 t46:=Tryz.underlying180
 a46:=Tryz.isAgg180
 z46:=Tryz.sizeOf180
 v46:=Tryz.zeroValue180
 t53:=Tryz.underlying217
 a53:=Tryz.isAgg217
 z53:=Tryz.sizeOf217
 v53:=Tryz.zeroValue217
 t212:=Tryz.underlying278
 a212:=Tryz.isAgg278
 z212:=Tryz.sizeOf278
 v212:=Tryz.zeroValue278
 g17:=by kernel_rfl
 i0:=by kernel_rfl
 i3:=by kernel_rfl
 i4:=by kernel_rfl
 i5:=by kernel_rfl
 i9:=by kernel_rfl
 i46:=by kernel_rfl
 i53:=by kernel_rfl
 i212:=by kernel_rfl
 m17:=by kernel_rfl}
def Tryz.VI:Go.Shelf.Ren:=⟨fun|6=>121|15=>165|14=>164|28=>198|29=>199|20=>190|21=>191|22=>192|23=>193|24=>194|25=>195|26=>196|27=>197|46=>225|47=>226|48=>227|49=>228|50=>229|57=>248|n=>n,fun|22=>34|24=>100|25=>168|3=>3|39=>180|0=>0|53=>214|55=>217|4=>4|46=>240|45=>239|50=>244|5=>5|9=>9|66=>269|70=>193|76=>285|77=>119|n=>n,fun|n=>n⟩
theorem Tryz.b8:Go.Proofs.SlLaysF0.n6 Tryz.prog Tryz.VI:={
 mixed:=by kernel_rfl
 f6:=⟨Tryz.f121.name,by decide,Tryz.func121.trans (congrArg some kr)⟩
 f14:=⟨Tryz.f164.name,by decide,Tryz.func164.trans (congrArg some kr)⟩
 f15:=Tryz.func165.trans (congrArg some kr)
 f20:=⟨Tryz.f190.name,by decide,Tryz.func190.trans (congrArg some kr)⟩
 f21:=⟨Tryz.f191.name,by decide,Tryz.func191.trans (congrArg some kr)⟩
 f22:=⟨Tryz.f192.name,by decide,Tryz.func192.trans (congrArg some kr)⟩
 f23:=⟨Tryz.f193.name,by decide,Tryz.func193.trans (congrArg some kr)⟩
 f24:=⟨Tryz.f194.name,by decide,Tryz.func194.trans (congrArg some kr)⟩
 f25:=⟨Tryz.f195.name,by decide,Tryz.func195.trans (congrArg some kr)⟩
 f26:=⟨Tryz.f196.name,by decide,Tryz.func196.trans (congrArg some kr)⟩
 f27:=⟨Tryz.f197.name,by decide,Tryz.func197.trans (congrArg some kr)⟩
 f28:=Tryz.func198.trans (congrArg some kr)
 f29:=Tryz.func199.trans (congrArg some kr)
 f46:=⟨Tryz.f225.name,by decide,Tryz.func225.trans (congrArg some kr)⟩
 f47:=Tryz.func226.trans (congrArg some kr)
 f48:=Tryz.func227.trans (congrArg some kr)
 f49:=⟨Tryz.f228.name,by decide,Tryz.func228.trans (congrArg some kr)⟩
 f50:=⟨Tryz.f229.name,by decide,Tryz.func229.trans (congrArg some kr)⟩
 f57:=⟨Tryz.f248.name,by decide,Tryz.func248.trans (congrArg some kr)⟩
 t0:=Tryz.underlying0
 a0:=Tryz.isAgg0
 z0:=Tryz.sizeOf0
 v0:=Tryz.zeroValue0
 t3:=Tryz.underlying3
 a3:=Tryz.isAgg3
 z3:=Tryz.sizeOf3
 v3:=Tryz.zeroValue3
 t4:=Tryz.underlying4
 a4:=Tryz.isAgg4
 z4:=Tryz.sizeOf4
 v4:=Tryz.zeroValue4
 t5:=Tryz.underlying5
 a5:=Tryz.isAgg5
 z5:=Tryz.sizeOf5
 v5:=Tryz.zeroValue5
 t9:=Tryz.underlying9
 a9:=Tryz.isAgg9
 z9:=Tryz.sizeOf9
 v9:=Tryz.zeroValue9
 t22:=Tryz.underlying34
 a22:=Tryz.isAgg34
 z22:=Tryz.sizeOf34
 v22:=Tryz.zeroValue34
 t25:=Tryz.underlying168
 a25:=Tryz.isAgg168
 z25:=Tryz.sizeOf168
 v25:=Tryz.zeroValue168
 t39:=Tryz.underlying180
 a39:=Tryz.isAgg180
 z39:=Tryz.sizeOf180
 v39:=Tryz.zeroValue180
 t45:=Tryz.underlying239
 a45:=Tryz.isAgg239
 z45:=Tryz.sizeOf239
 v45:=Tryz.zeroValue239
 t46:=Tryz.underlying240
 a46:=Tryz.isAgg240
 z46:=Tryz.sizeOf240
 v46:=Tryz.zeroValue240
 t50:=Tryz.underlying244
 a50:=Tryz.isAgg244
 z50:=Tryz.sizeOf244
 v50:=Tryz.zeroValue244
 t53:=Tryz.underlying214
 a53:=Tryz.isAgg214
 z53:=Tryz.sizeOf214
 v53:=Tryz.zeroValue214
 t55:=Tryz.underlying217
 a55:=Tryz.isAgg217
 z55:=Tryz.sizeOf217
 v55:=Tryz.zeroValue217
 t66:=Tryz.underlying269
 a66:=Tryz.isAgg269
 z66:=Tryz.sizeOf269
 v66:=Tryz.zeroValue269
 t70:=Tryz.underlying193
 a70:=Tryz.isAgg193
 z70:=Tryz.sizeOf193
 v70:=Tryz.zeroValue193
 t76:=Tryz.underlying285
 a76:=Tryz.isAgg285
 z76:=Tryz.sizeOf285
 v76:=Tryz.zeroValue285
 t77:=Tryz.underlying119
 a77:=Tryz.isAgg119
 z77:=Tryz.sizeOf119
 v77:=Tryz.zeroValue119}
def Tryz.WT:Go.Shelf.Ren:=⟨fun|6=>210|8=>165|9=>236|19=>198|20=>199|21=>250|22=>251|23=>252|24=>253|25=>254|26=>255|27=>256|28=>257|29=>258|36=>265|31=>226|32=>227|37=>266|38=>267|39=>268|41=>271|n=>n,fun|27=>179|29=>9|3=>3|32=>180|26=>179|0=>0|44=>214|46=>217|4=>4|36=>240|35=>239|41=>244|5=>5|9=>9|53=>269|57=>193|63=>285|64=>119|n=>n,fun|n=>n⟩
theorem Tryz.fS:Go.Proofs.SlLaysM.n6 Tryz.prog Tryz.WT:={
 mixed:=by kernel_rfl
 f6:=⟨Tryz.f210.name,by decide,Tryz.func210.trans (congrArg some kr)⟩
 f8:=Tryz.func165.trans (congrArg some kr)
 f9:=⟨Tryz.f236.name,by decide,Tryz.func236.trans (congrArg some kr)⟩
 f19:=Tryz.func198.trans (congrArg some kr)
 f20:=Tryz.func199.trans (congrArg some kr)
 f21:=⟨Tryz.f250.name,by decide,Tryz.func250.trans (congrArg some kr)⟩
 f22:=⟨Tryz.f251.name,by decide,Tryz.func251.trans (congrArg some kr)⟩
 f23:=⟨Tryz.f252.name,by decide,Tryz.func252.trans (congrArg some kr)⟩
 f24:=⟨Tryz.f253.name,by decide,Tryz.func253.trans (congrArg some kr)⟩
 f25:=⟨Tryz.f254.name,by decide,Tryz.func254.trans (congrArg some kr)⟩
 f26:=⟨Tryz.f255.name,by decide,Tryz.func255.trans (congrArg some kr)⟩
 f27:=⟨Tryz.f256.name,by decide,Tryz.func256.trans (congrArg some kr)⟩
 f28:=⟨Tryz.f257.name,by decide,Tryz.func257.trans (congrArg some kr)⟩
 f29:=⟨Tryz.f258.name,by decide,Tryz.func258.trans (congrArg some kr)⟩
 f31:=Tryz.func226.trans (congrArg some kr)
 f32:=Tryz.func227.trans (congrArg some kr)
 f36:=⟨Tryz.f265.name,by decide,Tryz.func265.trans (congrArg some kr)⟩
 f37:=⟨Tryz.f266.name,by decide,Tryz.func266.trans (congrArg some kr)⟩
 f38:=⟨Tryz.f267.name,by decide,Tryz.func267.trans (congrArg some kr)⟩
 f39:=⟨Tryz.f268.name,by decide,Tryz.func268.trans (congrArg some kr)⟩
 f41:=⟨Tryz.f271.name,by decide,Tryz.func271.trans (congrArg some kr)⟩
 t0:=Tryz.underlying0
 a0:=Tryz.isAgg0
 z0:=Tryz.sizeOf0
 v0:=Tryz.zeroValue0
 t3:=Tryz.underlying3
 a3:=Tryz.isAgg3
 z3:=Tryz.sizeOf3
 v3:=Tryz.zeroValue3
 t4:=Tryz.underlying4
 a4:=Tryz.isAgg4
 z4:=Tryz.sizeOf4
 v4:=Tryz.zeroValue4
 t5:=Tryz.underlying5
 a5:=Tryz.isAgg5
 z5:=Tryz.sizeOf5
 v5:=Tryz.zeroValue5
 t9:=Tryz.underlying9
 a9:=Tryz.isAgg9
 z9:=Tryz.sizeOf9
 v9:=Tryz.zeroValue9
 t26:=Tryz.underlying179
 a26:=Tryz.isAgg179
 z26:=Tryz.sizeOf179
 v26:=Tryz.zeroValue179
 t27:=Tryz.underlying179
 a27:=Tryz.isAgg179
 z27:=Tryz.sizeOf179
 v27:=Tryz.zeroValue179
 t29:=Tryz.underlying9
 a29:=Tryz.isAgg9
 z29:=Tryz.sizeOf9
 v29:=Tryz.zeroValue9
 t32:=Tryz.underlying180
 a32:=Tryz.isAgg180
 z32:=Tryz.sizeOf180
 v32:=Tryz.zeroValue180
 t35:=Tryz.underlying239
 a35:=Tryz.isAgg239
 z35:=Tryz.sizeOf239
 v35:=Tryz.zeroValue239
 t36:=Tryz.underlying240
 a36:=Tryz.isAgg240
 z36:=Tryz.sizeOf240
 v36:=Tryz.zeroValue240
 t41:=Tryz.underlying244
 a41:=Tryz.isAgg244
 z41:=Tryz.sizeOf244
 v41:=Tryz.zeroValue244
 t44:=Tryz.underlying214
 a44:=Tryz.isAgg214
 z44:=Tryz.sizeOf214
 v44:=Tryz.zeroValue214
 t46:=Tryz.underlying217
 a46:=Tryz.isAgg217
 z46:=Tryz.sizeOf217
 v46:=Tryz.zeroValue217
 t53:=Tryz.underlying269
 a53:=Tryz.isAgg269
 z53:=Tryz.sizeOf269
 v53:=Tryz.zeroValue269
 t57:=Tryz.underlying193
 a57:=Tryz.isAgg193
 z57:=Tryz.sizeOf193
 v57:=Tryz.zeroValue193
 t63:=Tryz.underlying285
 a63:=Tryz.isAgg285
 z63:=Tryz.sizeOf285
 v63:=Tryz.zeroValue285
 t64:=Tryz.underlying119
 a64:=Tryz.isAgg119
 z64:=Tryz.sizeOf119
 v64:=Tryz.zeroValue119}
def Tryz.TI:Go.Shelf.Ren:=⟨fun|6=>183|8=>209|9=>210|11=>235|13=>165|12=>236|23=>198|24=>199|14=>250|15=>251|16=>252|17=>253|18=>254|19=>255|20=>256|21=>257|22=>258|25=>265|26=>226|27=>227|28=>266|29=>267|30=>268|31=>271|n=>n,fun|26=>9|28=>228|24=>179|0=>0|3=>3|37=>180|48=>214|50=>217|4=>4|40=>240|39=>239|45=>244|5=>5|9=>9|51=>269|55=>193|57=>285|58=>119|33=>81|n=>n,fun|n=>n⟩
theorem Tryz.Zs:Go.Proofs.SlLaysZ.n6 Tryz.prog Tryz.TI:={
 mixed:=by kernel_rfl
 f6:=⟨Tryz.f183.name,by decide,Tryz.func183.trans (congrArg some kr)⟩
 f8:=⟨Tryz.f209.name,by decide,Tryz.func209.trans (congrArg some kr)⟩
 f11:=⟨Tryz.f235.name,by decide,Tryz.func235.trans (congrArg some kr)⟩
 t0:=Tryz.underlying0
 a0:=Tryz.isAgg0
 z0:=Tryz.sizeOf0
 v0:=Tryz.zeroValue0
 t24:=Tryz.underlying179
 a24:=Tryz.isAgg179
 z24:=Tryz.sizeOf179
 v24:=Tryz.zeroValue179
 t26:=Tryz.underlying9
 a26:=Tryz.isAgg9
 z26:=Tryz.sizeOf9
 v26:=Tryz.zeroValue9
 t28:=Tryz.underlying228
 a28:=Tryz.isAgg228
 z28:=Tryz.sizeOf228
 v28:=Tryz.zeroValue228
 i26:=by kernel_rfl}
def Tryz.Wm:Go.Shelf.Ren:=⟨fun|7=>184|10=>211|n=>n,fun|23=>224|26=>9|3=>9|28=>228|0=>0|27=>227|33=>81|4=>4|n=>n,fun|n=>n⟩
theorem Tryz.eu:Go.Proofs.SlLaysZ.n7 Tryz.prog Tryz.Wm:={
 mixed:=by kernel_rfl
 f7:=⟨Tryz.f184.name,by decide,Tryz.func184.trans (congrArg some kr)⟩
 f10:=⟨Tryz.f211.name,by decide,Tryz.func211.trans (congrArg some kr)⟩
 t0:=Tryz.underlying0
 a0:=Tryz.isAgg0
 z0:=Tryz.sizeOf0
 v0:=Tryz.zeroValue0
 t4:=Tryz.underlying4
 a4:=Tryz.isAgg4
 z4:=Tryz.sizeOf4
 v4:=Tryz.zeroValue4
 t23:=Tryz.underlying224
 a23:=Tryz.isAgg224
 z23:=Tryz.sizeOf224
 v23:=Tryz.zeroValue224
 t26:=Tryz.underlying9
 a26:=Tryz.isAgg9
 z26:=Tryz.sizeOf9
 v26:=Tryz.zeroValue9
 t27:=Tryz.underlying227
 a27:=Tryz.isAgg227
 z27:=Tryz.sizeOf227
 v27:=Tryz.zeroValue227
 t28:=Tryz.underlying228
 a28:=Tryz.isAgg228
 z28:=Tryz.sizeOf228
 v28:=Tryz.zeroValue228
 t33:=Tryz.underlying81
 a33:=Tryz.isAgg81
 z33:=Tryz.sizeOf81
 v33:=Tryz.zeroValue81}
end Go.Proofs
end
/-
 A part.
-/
section
namespace Go.Av
set_option linter.unusedVariables false
set_option linter.unusedSimpArgs false
theorem Wk.o{w:AD}{n:Nat}{cs:List AD}(a:Wk w (.Im n cs)):w.one=true:=by
 have:=a.c;cases w<;>first|rfl|(cases this)
def l9(e len:Nat)(L:List AD)(k:Nat):Option (AD×Cs):=
 (if(L.map GV).all AD.one=true then some (⟨λn=>.slice (some (n,0)) len,.cells (some e) 2 (L.map GV)⟩:(Nat->AD)×Cs)else none).map λx=>(x.1 k,x.2)
theorem gw{P:Program}{fr:Fr}{op:Op}{e len k:Nat}{L M:List AD}(h:iD P fr op k=l9 e len L k)(hm:L.map GV=M)(ho:M.all AD.one=true):iD P fr op k=some (.slice (some (k,0)) len,.cells (some e) 2 M):=by
 rw[h,l9,hm,zl ho];rfl
section
variable {C:Hv} {f:FuncId} {g:Gd} {ops:Array Oper} {pl:List (Nat×List Nat)} {tch:List (Nat×Nat)} {fr:Fr} {h h1:AF} {K:Fr->AF->Prop} {N:Nat} {l:List (Nat×AD)}
theorem Ch(k i:Nat)(out:Bool->List (Nat×AD)){b:Bool}(H:Has fr N l)(hn:∀fr',Has fr' N (List.append (out b) l)->AT C g ops (pl.drop k) tch fr' h K)
  (hi:Sq l i=some (.bool b):=by rfl)
  (hk:∀fr w,(T8 (pl.take k),Ff ops l (Eo (pl.take k)),(HS C.P ops (Eo (pl.take k)) (Da N (Ss l i (.bool w)) fr)).map (λx=>(out w).map (λp=>nth x p.1)))=(true,true,some ((out w).map (·.2))):=by intro _ w;cases w<;>kernel_rfl):AT C g ops pl tch fr h K:=by
 have B:=hk fr b;rw[Fx (H.fb i rfl hi)]at B;simp only[ze]at B;obtain⟨hu,hd,B⟩:=B;cases E:HS C.P ops (Eo (pl.take k)) fr with
 |none=>rw[E]at B;cases B
 | some fr1=>
  rw[E]at B;simp only[zh,zb]at B;have e:pl=pl.take k++pl.drop k:=(zI k pl).symm;rw[e];refine OA _ _ fr fr1 (OD hu) E (hn fr1 ?_);have h1:=Has.of_map ((HM _ _ _ E).trans H.1) B;refine⟨h1.1,λp D=>?_⟩;rcases zu.1 (show p∈out b++l from D)with D|D
  ·exact h1.2 p D
  ·rw[Ig _ _ _ hd E p D];exact H.2 p D
end
end Go.Av
end
