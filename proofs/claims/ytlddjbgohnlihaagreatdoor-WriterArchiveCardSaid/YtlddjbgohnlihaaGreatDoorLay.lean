/-
  Several texts in one.
-/
import Derived.Test.YtlddjbgohnlihaaGreatDoorAvLit
import Derived.Test.YtlddjbgohnlihaaGreatDoorProg
import Derived.Shelf.SlGeneric
import Derived.Ground.GgzProg
import Derived.Ground.SlgmProg
import Derived.Ground.SlgnProg
import Derived.Ground.Names8Prog
import Derived.Shelf.Lays
import Derived.Ground.NamesProg
import Derived.Shelf.LaysM
import Derived.Shelf.SlLaysF0
import Derived.Ground.SlsfProg
/-
 A part.
-/
section
namespace Go.Av.LT
open Go.Av Go.Lib
set_option linter.unusedSimpArgs false
set_option linter.unusedVariables false
set_option maxRecDepth 100000
noncomputable def PO:Gp:=Yc Go.Proofs.Tryz.prog (fun _ _=>[])
theorem Y7:WA PO.P PO.Cx 199 223:=Tf (C:=PO) (Rj (mk:=[]) fun p h=>by cases h) (fn:=Go.Proofs.Tryz.f199) (i0:=0) (i1:=1) (ops0:=UZ Go.Proofs.Tryz.f199 0) (ops1:=UZ Go.Proofs.Tryz.f199 1) (tb:=1) (tr:=2) (z:=.nilFunc) (fr2:=fun r=>[pA r,.A0 [pA r],.func (.func 223) [] [.A0 [pA r]],.func (.func 223) [] [.A0 [pA r]]])
 Go.Proofs.Tryz.func199 (by kernel_rfl) (by kernel_rfl) (fun m=>⟨_,.nilFunc⟩) (by decide) (fun r h=>by kernel_rfl) (fun r h=>by kernel_rfl) (fun r h=>by kernel_rfl)
theorem YZ:WA PO.P PO.Cx 200 224:=Tf (C:=PO) (Rj (mk:=[]) fun p h=>by cases h) (fn:=Go.Proofs.Tryz.f200) (i0:=0) (i1:=1) (ops0:=UZ Go.Proofs.Tryz.f200 0) (ops1:=UZ Go.Proofs.Tryz.f200 1) (tb:=1) (tr:=2) (z:=.nilFunc) (fr2:=fun r=>[pA r,.A0 [pA r],.func (.func 224) [] [.A0 [pA r]],.func (.func 224) [] [.A0 [pA r]]])
 Go.Proofs.Tryz.func200 (by kernel_rfl) (by kernel_rfl) (fun m=>⟨_,.nilFunc⟩) (by decide) (fun r h=>by kernel_rfl) (fun r h=>by kernel_rfl) (fun r h=>by kernel_rfl)
def dq:List (FuncId×FuncId):=[(199,223),(200,224)]
theorem bf:GK PO.P PO.Cx (Zh dq):=Rj fun p h=>by
 simp only[dq,zF,yz,or_false]at h;rcases h with rfl|rfl
 ·exact Y7
 ·exact YZ
def VS(r s:Nat×Nat)(n:Nat):Fr:=[pA r,pA s,.A0 [pA r],.tuple [],.map (some n),.map (some n),pA r,pA r,.ptr (some (r.1,r.2+5)),.func (.func 223) [] [.A0 [.ptr (some (r.1,r.2+5))]],pA r,pA r,.ptr (some (r.1,r.2+4)),.func (.func 223) [] [.A0 [.ptr (some (r.1,r.2+4))]],pA s,.func (.func 223) [] [.A0 [pA s]],pA r,pA r,.ptr (some (r.1,r.2+7)),.func (.func 224) [] [.A0 [.ptr (some (r.1,r.2+7))]],pA r,pA r,.ptr (some (r.1,r.2+6)),.func (.func 224) [] [.A0 [.ptr (some (r.1,r.2+6))]],pA r,pA r,pA r,.func (.func 224) [] [.A0 [pA r]],pA r,pA r,.ptr (some (r.1,r.2+1)),.func (.func 224) [] [.A0 [.ptr (some (r.1,r.2+1))]],.func (.func 201) [] [.A0 [pA r]],.map (some n)]
def cF(r s:Nat×Nat):List (AB×AB):=[(.str [103,105,100],.func (.func 223) [] [.A0 [.ptr (some (r.1,r.2+5))]]),(.str [117,105,100],.func (.func 223) [] [.A0 [.ptr (some (r.1,r.2+4))]]),(.str [115,105,122,101],.func (.func 223) [] [.A0 [pA s]]),(.str [103,110,97,109,101],.func (.func 224) [] [.A0 [.ptr (some (r.1,r.2+7))]]),(.str [117,110,97,109,101],.func (.func 224) [] [.A0 [.ptr (some (r.1,r.2+6))]]),(.str [112,97,116,104],.func (.func 224) [] [.A0 [pA r]]),(.str [108,105,110,107,112,97,116,104],.func (.func 224) [] [.A0 [.ptr (some (r.1,r.2+1))]]),(.str [109,116,105,109,101],.func (.func 201) [] [.A0 [pA r]])]
def YM:List (AB×AB):=[(.str [103,105,100],.func (.func 223) [] [.A0 [.ptr (some (0,5))]]),(.str [117,105,100],.func (.func 223) [] [.A0 [.ptr (some (0,4))]]),(.str [115,105,122,101],.func (.func 223) [] [.A0 [.ptr (some (1,0))]]),(.str [103,110,97,109,101],.func (.func 224) [] [.A0 [.ptr (some (0,7))]]),(.str [117,110,97,109,101],.func (.func 224) [] [.A0 [.ptr (some (0,6))]]),(.str [112,97,116,104],.func (.func 224) [] [.A0 [.ptr (some (0,0))]]),(.str [108,105,110,107,112,97,116,104],.func (.func 224) [] [.A0 [.ptr (some (0,1))]]),(.str [109,116,105,109,101],.func (.func 201) [] [.A0 [.ptr (some (0,0))]])]
theorem dW(r s:Nat×Nat)(h:AI):Lit PO (Zh dq) h (UZ Go.Proofs.Tryz.f168 1) (X6 (UY [pA r,pA s] Go.Proofs.Tryz.f168.ntmps) 2 4 (.A0 [pA r]) (.map none)) (VS r s h.size) 211 9 216 5 0:=
 Lit.of (by kernel_rfl) (by kernel_rfl) (by kernel_rfl) (by kernel_rfl) (by kernel_rfl) (fun H=>by kernel_rfl) (by kernel_rfl) (by kernel_rfl)
theorem bj{G:Nat→Option (List AB)}:Fw PO.P G 168 fun _ h args=>RJ YM 2 h args:=
 Fw.nil<|YA (C:=PO) (by kernel_rfl) bf (fn:=Go.Proofs.Tryz.f168) (i0:=0) (i1:=1) (ops0:=UZ Go.Proofs.Tryz.f168 0) (ops:=(UZ Go.Proofs.Tryz.f168 1)) (tb:=2) (tr:=4) (z:=.map none) (val:=VS) (es':=cF)
  Go.Proofs.Tryz.func168 (by kernel_rfl) (by kernel_rfl) (fun m=>⟨_,.LH⟩) (by decide) (fun r s h=>by kernel_rfl) dW (fun r s n=>by kernel_rfl) (fun r s=>by kernel_rfl) (fun r s=>Uz (ks:=[[103,105,100],[117,105,100],[115,105,122,101],[103,110,97,109,101],[117,110,97,109,101],[112,97,116,104],[108,105,110,107,112,97,116,104],[109,116,105,109,101]]) (by kernel_rfl) (by decide)) (fun r s=>by kernel_rfl) (fun r s h H=>by kernel_rfl)
end Go.Av.LT
end
/-
 A part.
-/
section
namespace Go.Proofs
open Go.Shelf
def Tryz.Qs:Go.Shelf.Ren:=⟨fun|105=>61|212=>106|99=>107|165=>108|166=>109|170=>110|169=>111|263=>152|264=>153|206=>154|240=>155|241=>156|276=>185|277=>186|n=>n,fun|9=>9|3=>3|4=>4|20=>20|0=>0|46=>164|109=>165|5=>5|72=>170|76=>174|51=>198|146=>199|53=>201|148=>202|70=>168|37=>47|75=>173|127=>204|164=>232|80=>68|n=>n,fun|n=>n⟩
theorem Tryz.TV:Go.Proofs.Lays.n105 Tryz.prog Tryz.Qs:={
 mixed:=by kernel_rfl
 f99:=Tryz.func107.trans (congrArg some (by kernel_rfl))
 f105:=Tryz.func61.trans (congrArg some (by kernel_rfl))
 f165:=Tryz.func108.trans (congrArg some (by kernel_rfl))
 f166:=Tryz.func109.trans (congrArg some (by kernel_rfl))
 f169:=Tryz.func111.trans (congrArg some (by kernel_rfl))
 f170:=Tryz.func110.trans (congrArg some (by kernel_rfl))
 f206:=Tryz.func154.trans (congrArg some (by kernel_rfl))
 f212:=Tryz.func106.trans (congrArg some (by kernel_rfl))
 f240:=Tryz.func155.trans (congrArg some (by kernel_rfl))
 f241:=Tryz.func156.trans (congrArg some (by kernel_rfl))
 f263:=Tryz.func152.trans (congrArg some (by kernel_rfl))
 f264:=Tryz.func153.trans (congrArg some (by kernel_rfl))
 f276:=Tryz.func185.trans (congrArg some (by kernel_rfl))
 f277:=Tryz.func186.trans (congrArg some (by kernel_rfl))
 t0:=Tryz.underlying0
 a0:=Tryz.isAgg0
 z0:=Tryz.sizeOf0
 v0:=Tryz.zeroValue0
 t3:=Tryz.underlying3
 a3:=Tryz.isAgg3
 z3:=Tryz.sizeOf3
 v3:=Tryz.zeroValue3
 t4:=Tryz.underlying4
 a4:=Tryz.isAgg4
 z4:=Tryz.sizeOf4
 v4:=Tryz.zeroValue4
 t5:=Tryz.underlying5
 a5:=Tryz.isAgg5
 z5:=Tryz.sizeOf5
 v5:=Tryz.zeroValue5
 t9:=Tryz.underlying9
 a9:=Tryz.isAgg9
 z9:=Tryz.sizeOf9
 v9:=Tryz.zeroValue9
 t20:=Tryz.underlying20
 a20:=Tryz.isAgg20
 z20:=Tryz.sizeOf20
 v20:=Tryz.zeroValue20
 t37:=Tryz.underlying47
 a37:=Tryz.isAgg47
 z37:=Tryz.sizeOf47
 v37:=Tryz.zeroValue47
 t46:=Tryz.underlying164
 a46:=Tryz.isAgg164
 z46:=Tryz.sizeOf164
 v46:=Tryz.zeroValue164
 t51:=Tryz.underlying198
 a51:=Tryz.isAgg198
 z51:=Tryz.sizeOf198
 v51:=Tryz.zeroValue198
 t53:=Tryz.underlying201
 a53:=Tryz.isAgg201
 z53:=Tryz.sizeOf201
 v53:=Tryz.zeroValue201
 t70:=Tryz.underlying168
 a70:=Tryz.isAgg168
 z70:=Tryz.sizeOf168
 v70:=Tryz.zeroValue168
 t72:=Tryz.underlying170
 a72:=Tryz.isAgg170
 z72:=Tryz.sizeOf170
 v72:=Tryz.zeroValue170
 t75:=Tryz.underlying173
 a75:=Tryz.isAgg173
 z75:=Tryz.sizeOf173
 v75:=Tryz.zeroValue173
 t76:=Tryz.underlying174
 a76:=Tryz.isAgg174
 z76:=Tryz.sizeOf174
 v76:=Tryz.zeroValue174
 t109:=Tryz.underlying165
 a109:=Tryz.isAgg165
 z109:=Tryz.sizeOf165
 v109:=Tryz.zeroValue165
 t127:=Tryz.underlying204
 a127:=Tryz.isAgg204
 z127:=Tryz.sizeOf204
 v127:=Tryz.zeroValue204
 t146:=Tryz.underlying199
 a146:=Tryz.isAgg199
 z146:=Tryz.sizeOf199
 v146:=Tryz.zeroValue199
 t148:=Tryz.underlying202
 a148:=Tryz.isAgg202
 z148:=Tryz.sizeOf202
 v148:=Tryz.zeroValue202
 t164:=Tryz.underlying232
 a164:=Tryz.isAgg232
 z164:=Tryz.sizeOf232
 v164:=Tryz.zeroValue232}
def Tryz.VH:Go.Shelf.Ren:=⟨fun|106=>97|213=>146|265=>182|n=>n,fun|9=>9|3=>3|n=>n,fun|n=>n⟩
theorem Tryz.b7:Go.Proofs.Lays.n106 Tryz.prog Tryz.VH:={
 mixed:=by kernel_rfl
 f106:=Tryz.func97.trans (congrArg some (by kernel_rfl))
 f213:=Tryz.func146.trans (congrArg some (by kernel_rfl))
 f265:=Tryz.func182.trans (congrArg some (by kernel_rfl))
 t3:=Tryz.underlying3
 a3:=Tryz.isAgg3
 z3:=Tryz.sizeOf3
 v3:=Tryz.zeroValue3
 t9:=Tryz.underlying9
 a9:=Tryz.isAgg9
 z9:=Tryz.sizeOf9
 v9:=Tryz.zeroValue9}
def Tryz.Uf:Go.Shelf.Ren:=⟨fun|285=>229|n=>n,fun|37=>47|53=>201|3=>3|4=>4|51=>198|9=>9|5=>5|0=>0|n=>n,fun|n=>n⟩
theorem Tryz.bQ:Go.Proofs.Lays.n285 Tryz.prog Tryz.Uf:={
 mixed:=by kernel_rfl
 f285:=Tryz.func229.trans (congrArg some (by kernel_rfl))
 t0:=Tryz.underlying0
 a0:=Tryz.isAgg0
 z0:=Tryz.sizeOf0
 v0:=Tryz.zeroValue0
 t3:=Tryz.underlying3
 a3:=Tryz.isAgg3
 z3:=Tryz.sizeOf3
 v3:=Tryz.zeroValue3
 t4:=Tryz.underlying4
 a4:=Tryz.isAgg4
 z4:=Tryz.sizeOf4
 v4:=Tryz.zeroValue4
 t5:=Tryz.underlying5
 a5:=Tryz.isAgg5
 z5:=Tryz.sizeOf5
 v5:=Tryz.zeroValue5
 t9:=Tryz.underlying9
 a9:=Tryz.isAgg9
 z9:=Tryz.sizeOf9
 v9:=Tryz.zeroValue9
 t37:=Tryz.underlying47
 a37:=Tryz.isAgg47
 z37:=Tryz.sizeOf47
 v37:=Tryz.zeroValue47
 t51:=Tryz.underlying198
 a51:=Tryz.isAgg198
 z51:=Tryz.sizeOf198
 v51:=Tryz.zeroValue198
 t53:=Tryz.underlying201
 a53:=Tryz.isAgg201
 z53:=Tryz.sizeOf201
 v53:=Tryz.zeroValue201}
def Tryz.TR:Go.Shelf.Ren:=⟨fun|171=>134|243=>169|246=>203|283=>227|284=>228|285=>229|286=>230|129=>181|317=>243|318=>244|319=>245|320=>246|337=>255|338=>256|n=>n,fun|3=>3|9=>9|2=>2|4=>4|171=>273|0=>0|53=>201|37=>47|5=>5|173=>275|212=>284|51=>198|20=>20|213=>285|46=>164|232=>296|233=>297|n=>n,fun|17=>1|18=>2|19=>3|n=>n⟩
theorem Tryz.Ze:Go.Proofs.LaysM.n171 Tryz.prog Tryz.TR:={
 mixed:=by kernel_rfl
 f129:=Tryz.func181.trans (congrArg some (by kernel_rfl))
 f171:=Tryz.func134.trans (congrArg some (by kernel_rfl))
 f243:=Tryz.func169.trans (congrArg some (by kernel_rfl))
 f246:=Tryz.func203.trans (congrArg some (by kernel_rfl))
 f283:=Tryz.func227.trans (congrArg some (by kernel_rfl))
 f284:=Tryz.func228.trans (congrArg some (by kernel_rfl))
 f285:=Tryz.func229.trans (congrArg some (by kernel_rfl))
 f286:=Tryz.func230.trans (congrArg some (by kernel_rfl))
 f317:=Tryz.func243.trans (congrArg some (by kernel_rfl))
 f318:=Tryz.func244.trans (congrArg some (by kernel_rfl))
 f319:=Tryz.func245.trans (congrArg some (by kernel_rfl))
 f320:=Tryz.func246.trans (congrArg some (by kernel_rfl))
 f337:=Tryz.func255.trans (congrArg some (by kernel_rfl))
 f338:=Tryz.func256.trans (congrArg some (by kernel_rfl))
 t0:=Tryz.underlying0
 a0:=Tryz.isAgg0
 z0:=Tryz.sizeOf0
 v0:=Tryz.zeroValue0
 t2:=Tryz.underlying2
 a2:=Tryz.isAgg2
 z2:=Tryz.sizeOf2
 v2:=Tryz.zeroValue2
 t3:=Tryz.underlying3
 a3:=Tryz.isAgg3
 z3:=Tryz.sizeOf3
 v3:=Tryz.zeroValue3
 t4:=Tryz.underlying4
 a4:=Tryz.isAgg4
 z4:=Tryz.sizeOf4
 v4:=Tryz.zeroValue4
 t5:=Tryz.underlying5
 a5:=Tryz.isAgg5
 z5:=Tryz.sizeOf5
 v5:=Tryz.zeroValue5
 t9:=Tryz.underlying9
 a9:=Tryz.isAgg9
 z9:=Tryz.sizeOf9
 v9:=Tryz.zeroValue9
 t20:=Tryz.underlying20
 a20:=Tryz.isAgg20
 z20:=Tryz.sizeOf20
 v20:=Tryz.zeroValue20
 t37:=Tryz.underlying47
 a37:=Tryz.isAgg47
 z37:=Tryz.sizeOf47
 v37:=Tryz.zeroValue47
 t46:=Tryz.underlying164
 a46:=Tryz.isAgg164
 z46:=Tryz.sizeOf164
 v46:=Tryz.zeroValue164
 t51:=Tryz.underlying198
 a51:=Tryz.isAgg198
 z51:=Tryz.sizeOf198
 v51:=Tryz.zeroValue198
 t53:=Tryz.underlying201
 a53:=Tryz.isAgg201
 z53:=Tryz.sizeOf201
 v53:=Tryz.zeroValue201
 t171:=Tryz.underlying273
 a171:=Tryz.isAgg273
 z171:=Tryz.sizeOf273
 v171:=Tryz.zeroValue273
 t173:=Tryz.underlying275
 a173:=Tryz.isAgg275
 z173:=Tryz.sizeOf275
 v173:=Tryz.zeroValue275
 t212:=Tryz.underlying284
 a212:=Tryz.isAgg284
 z212:=Tryz.sizeOf284
 v212:=Tryz.zeroValue284
 t213:=Tryz.underlying285
 a213:=Tryz.isAgg285
 z213:=Tryz.sizeOf285
 t232:=Tryz.underlying296
 a232:=Tryz.isAgg296
 z232:=Tryz.sizeOf296
 v232:=Tryz.zeroValue296
 t233:=Tryz.underlying297
 a233:=Tryz.isAgg297
 z233:=Tryz.sizeOf297
 v233:=Tryz.zeroValue297
 g17:=by kernel_rfl
 g18:=by kernel_rfl
 g19:=by kernel_rfl
 i0:=by kernel_rfl
 i2:=by kernel_rfl
 i3:=by kernel_rfl
 i4:=by kernel_rfl
 i5:=by kernel_rfl
 i9:=by kernel_rfl
 i20:=by kernel_rfl
 i37:=by kernel_rfl
 i46:=by kernel_rfl
 i51:=by kernel_rfl
 i53:=by kernel_rfl
 i171:=by kernel_rfl
 i173:=by kernel_rfl
 i212:=by kernel_rfl
 i232:=by kernel_rfl
 i233:=by kernel_rfl
 m17:=by kernel_rfl
 m18:=by kernel_rfl
 m19:=by kernel_rfl}
def Tryz.Uy:Go.Shelf.Ren:=⟨fun|284=>228|129=>181|317=>243|318=>244|n=>n,fun|53=>201|3=>3|212=>284|0=>0|4=>4|46=>164|5=>5|9=>9|n=>n,fun|17=>1|n=>n⟩
theorem Tryz.bD:Go.Proofs.LaysM.n284 Tryz.prog Tryz.Uy:={
 mixed:=by kernel_rfl
 f129:=Tryz.func181.trans (congrArg some (by kernel_rfl))
 f284:=Tryz.func228.trans (congrArg some (by kernel_rfl))
 f317:=Tryz.func243.trans (congrArg some (by kernel_rfl))
 f318:=Tryz.func244.trans (congrArg some (by kernel_rfl))
 t0:=Tryz.underlying0
 a0:=Tryz.isAgg0
 z0:=Tryz.sizeOf0
 v0:=Tryz.zeroValue0
 t3:=Tryz.underlying3
 a3:=Tryz.isAgg3
 z3:=Tryz.sizeOf3
 v3:=Tryz.zeroValue3
 t4:=Tryz.underlying4
 a4:=Tryz.isAgg4
 z4:=Tryz.sizeOf4
 v4:=Tryz.zeroValue4
 t5:=Tryz.underlying5
 a5:=Tryz.isAgg5
 z5:=Tryz.sizeOf5
 v5:=Tryz.zeroValue5
 t9:=Tryz.underlying9
 a9:=Tryz.isAgg9
 z9:=Tryz.sizeOf9
 v9:=Tryz.zeroValue9
 t46:=Tryz.underlying164
 a46:=Tryz.isAgg164
 z46:=Tryz.sizeOf164
 v46:=Tryz.zeroValue164
 t53:=Tryz.underlying201
 a53:=Tryz.isAgg201
 z53:=Tryz.sizeOf201
 v53:=Tryz.zeroValue201
 t212:=Tryz.underlying284
 a212:=Tryz.isAgg284
 z212:=Tryz.sizeOf284
 v212:=Tryz.zeroValue284
 g17:=by kernel_rfl
 i0:=by kernel_rfl
 i3:=by kernel_rfl
 i4:=by kernel_rfl
 i5:=by kernel_rfl
 i9:=by kernel_rfl
 i46:=by kernel_rfl
 i53:=by kernel_rfl
 i212:=by kernel_rfl
 m17:=by kernel_rfl}
def Tryz.Sz:Go.Shelf.Ren:=⟨fun|6=>95|15=>145|14=>144|28=>180|29=>181|20=>172|21=>173|22=>174|23=>175|24=>176|25=>177|26=>178|27=>179|46=>208|47=>209|48=>210|49=>211|50=>212|57=>234|n=>n,fun|22=>29|24=>106|25=>150|3=>3|39=>164|0=>0|53=>198|55=>201|4=>4|46=>223|45=>222|50=>227|5=>5|9=>9|66=>256|70=>214|76=>280|77=>117|n=>n,fun|n=>n⟩
theorem Tryz.Z0:Go.Proofs.SlLaysF0.n6 Tryz.prog Tryz.Sz:={
 mixed:=by kernel_rfl
 f6:=⟨Tryz.f95.name,by decide,Tryz.func95.trans (congrArg some (by kernel_rfl))⟩
 f14:=⟨Tryz.f144.name,by decide,Tryz.func144.trans (congrArg some (by kernel_rfl))⟩
 f15:=Tryz.func145.trans (congrArg some (by kernel_rfl))
 f20:=⟨Tryz.f172.name,by decide,Tryz.func172.trans (congrArg some (by kernel_rfl))⟩
 f21:=⟨Tryz.f173.name,by decide,Tryz.func173.trans (congrArg some (by kernel_rfl))⟩
 f22:=⟨Tryz.f174.name,by decide,Tryz.func174.trans (congrArg some (by kernel_rfl))⟩
 f23:=⟨Tryz.f175.name,by decide,Tryz.func175.trans (congrArg some (by kernel_rfl))⟩
 f24:=⟨Tryz.f176.name,by decide,Tryz.func176.trans (congrArg some (by kernel_rfl))⟩
 f25:=⟨Tryz.f177.name,by decide,Tryz.func177.trans (congrArg some (by kernel_rfl))⟩
 f26:=⟨Tryz.f178.name,by decide,Tryz.func178.trans (congrArg some (by kernel_rfl))⟩
 f27:=⟨Tryz.f179.name,by decide,Tryz.func179.trans (congrArg some (by kernel_rfl))⟩
 f28:=Tryz.func180.trans (congrArg some (by kernel_rfl))
 f29:=Tryz.func181.trans (congrArg some (by kernel_rfl))
 f46:=⟨Tryz.f208.name,by decide,Tryz.func208.trans (congrArg some (by kernel_rfl))⟩
 f47:=Tryz.func209.trans (congrArg some (by kernel_rfl))
 f48:=Tryz.func210.trans (congrArg some (by kernel_rfl))
 f49:=⟨Tryz.f211.name,by decide,Tryz.func211.trans (congrArg some (by kernel_rfl))⟩
 f50:=⟨Tryz.f212.name,by decide,Tryz.func212.trans (congrArg some (by kernel_rfl))⟩
 f57:=⟨Tryz.f234.name,by decide,Tryz.func234.trans (congrArg some (by kernel_rfl))⟩
 t0:=Tryz.underlying0
 a0:=Tryz.isAgg0
 z0:=Tryz.sizeOf0
 v0:=Tryz.zeroValue0
 t3:=Tryz.underlying3
 a3:=Tryz.isAgg3
 z3:=Tryz.sizeOf3
 v3:=Tryz.zeroValue3
 t4:=Tryz.underlying4
 a4:=Tryz.isAgg4
 z4:=Tryz.sizeOf4
 v4:=Tryz.zeroValue4
 t5:=Tryz.underlying5
 a5:=Tryz.isAgg5
 z5:=Tryz.sizeOf5
 v5:=Tryz.zeroValue5
 t9:=Tryz.underlying9
 a9:=Tryz.isAgg9
 z9:=Tryz.sizeOf9
 v9:=Tryz.zeroValue9
 t22:=Tryz.underlying29
 a22:=Tryz.isAgg29
 z22:=Tryz.sizeOf29
 v22:=Tryz.zeroValue29
 t25:=Tryz.underlying150
 a25:=Tryz.isAgg150
 z25:=Tryz.sizeOf150
 v25:=Tryz.zeroValue150
 t39:=Tryz.underlying164
 a39:=Tryz.isAgg164
 z39:=Tryz.sizeOf164
 v39:=Tryz.zeroValue164
 t45:=Tryz.underlying222
 a45:=Tryz.isAgg222
 z45:=Tryz.sizeOf222
 v45:=Tryz.zeroValue222
 t46:=Tryz.underlying223
 a46:=Tryz.isAgg223
 z46:=Tryz.sizeOf223
 v46:=Tryz.zeroValue223
 t50:=Tryz.underlying227
 a50:=Tryz.isAgg227
 z50:=Tryz.sizeOf227
 v50:=Tryz.zeroValue227
 t53:=Tryz.underlying198
 a53:=Tryz.isAgg198
 z53:=Tryz.sizeOf198
 v53:=Tryz.zeroValue198
 t55:=Tryz.underlying201
 a55:=Tryz.isAgg201
 z55:=Tryz.sizeOf201
 v55:=Tryz.zeroValue201
 t66:=Tryz.underlying256
 a66:=Tryz.isAgg256
 z66:=Tryz.sizeOf256
 v66:=Tryz.zeroValue256
 t70:=Tryz.underlying214
 a70:=Tryz.isAgg214
 z70:=Tryz.sizeOf214
 v70:=Tryz.zeroValue214
 t76:=Tryz.underlying280
 a76:=Tryz.isAgg280
 z76:=Tryz.sizeOf280
 v76:=Tryz.zeroValue280
 t77:=Tryz.underlying117
 a77:=Tryz.isAgg117
 z77:=Tryz.sizeOf117
 v77:=Tryz.zeroValue117}
end Go.Proofs
end
