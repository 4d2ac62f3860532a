/-
  Several texts in one.
-/
import Derived.Shelf.SlGeneric
import Derived.Ground.GgzProg
import Derived.Ground.SlgmProg
import Derived.Ground.SlgnProg
import Derived.Ground.Names8Prog
import Derived.Shelf.Lays
import Derived.Ground.NamesProg
import Derived.Test.YtgkbpgefomapgaaGreatDoorProg
import Derived.Test.YtgkbpgefomapgaaGreatDoorAvLib
import Derived.Test.YtgkbpgefomapgaaGreatDoorAvHq
/-
 A part.
-/
section
namespace Go.Av
set_option linter.unusedVariables false
set_option linter.unusedSimpArgs false
abbrev UV:=List UInt8
section
variable {P:Program} {t kt et:TypeId} {g:Gd} {h:AS} {L F:List Ck}
inductive PU(kd:IntKind)(x:Int):List (AE×AE)->Option AE->Prop
 |nil:PU kd x [] none
 |hit {k:Int} {v:AE} {es:List (AE×AE)}:(x==k)=true->PU kd x ((.int kd k,v)::es) (some v)
 |WX {k:Int} {v:AE} {es:List (AE×AE)} {r:Option AE}:(x==k)=false->PU kd x es r->PU kd x ((.int kd k,v)::es) r
theorem PU.Eo{kd kd':IntKind}{x:Int}(C:P.underlying kt=some (.int kd')):∀{es:List (AE×AE)} {r:Option AE} (f:PU kd x es r) (i:Nat),(r=none/\Av.Eo P kt (.int kd x) es i=some none)\/∃v j,r=some v/\Av.Eo P kt (.int kd x) es i=some (some (j,v))
 |_,_,.nil,i=>.inl ⟨rfl,rfl⟩
 | _,_,.hit (k:=k) (v:=v) (es:=es) J,i=>by
  refine .inr ⟨v,i,rfl,?_⟩;unfold Av.Eo;have e:Jc P 10000 kt (.int kd x) (.int kd k)=some true:=by
   show Jc P (9999+1) kt _ _=_;unfold Jc;rw[C];simp only[if_true,J]
  rw[e]
 | _,_,.WX (k:=k) (v:=v) (es:=es) J f,i=>by
  have e:Jc P 10000 kt (.int kd x) (.int kd k)=some false:=by
   show Jc P (9999+1) kt _ _=_;unfold Jc;rw[C];simp only[if_true,J]
  unfold Av.Eo;rw[e];exact f.Eo C (i+1)
theorem Rc{kd kd':IntKind}(C:P.underlying kt=some (.int kd'))(x:Int):HM P 20 kt (.int kd x)=true:=by
 unfold HM;rw[C]
theorem HH.Wj(a:HH g h L F)(n:Nat){id st:Nat}{es:List (AE×AE)}(E:L[n]?=some (.obj id (.map st es)))(hu:P.underlying t=some (.map kt et)){kd kd':IntKind}(C:P.underlying kt=some (.int kd')){x:Int}{v:AE}(f:PU kd x es (some v))(D:st≠0:=by decide):
  Ul P h t (some id) (.int kd x)=some (v,true):=by
 have G:=a.get n E;unfold Ul;rw[hu];simp only[Rc C,if_true,ZE,G];rw[zk D];dsimp only;rcases f.Eo C 0 with⟨h1,_⟩|⟨w,j,h1,H⟩
 ·cases h1
 ·cases h1;rw[H]
theorem HH.Yc(a:HH g h L F)(n:Nat){id st:Nat}{es:List (AE×AE)}(E:L[n]?=some (.obj id (.map st es)))(hu:P.underlying t=some (.map kt et)){kd kd':IntKind}(C:P.underlying kt=some (.int kd')){z:AE}(I:I2 P et=some z){x:Int}(f:PU kd x es none)(D:st≠0:=by decide):
  Ul P h t (some id) (.int kd x)=some (z,false):=by
 have G:=a.get n E;unfold Ul;rw[hu];simp only[Rc C,if_true,ZE,G];rw[zk D];dsimp only;rcases f.Eo C 0 with⟨_,H⟩|⟨w,j,h1,H⟩
 ·rw[H];simp[I]
 ·cases h1
theorem HH.Y6(a:HH g h L F)(n:Nat){id:Nat}{es:List (AE×AE)}(E:L[n]?=some (.obj id (.map 2 es)))(hu:P.underlying t=some (.map kt et)){k v:AE}(hok:HM P 20 kt k=true)(hf:Eo P kt k es 0=some none)(I:Gy g h v=some (v,h):=by rfl):
  ∃h',ZM P g h t (some id) k v=some h'/\HH g h' (L.set n (.obj id (.map 2 (es++[(k,v)])))) F:=by
 have G:=a.get n E;have hm:g.may id=true:=a.Px E (by simp[Ck.ids]);refine⟨h.set id (.map 2 (es++[(k,v)])),?_,a.set n _ E⟩;unfold ZM Ho;rw[I];show J0 P g h t (.map (some id)) k v=_;unfold J0;rw[hu];simp only[hok,hm,and_self,if_true,G,hf]
end
end Go.Av
end
/-
 A part.
-/
section
namespace Go.Proofs
open Go.Shelf
def Tryz.Un:Go.Shelf.Ren:=⟨fun|145=>136|220=>143|219=>148|217=>35|225=>149|224=>150|267=>151|266=>58|314=>152|n=>n,fun|9=>9|4=>4|59=>240|3=>3|5=>5|46=>151|146=>254|51=>246|n=>n,fun|1=>0|n=>n⟩
theorem Tryz.Zz:Go.Proofs.Lays.n145 Tryz.prog Tryz.Un:={
 mixed:=by kernel_rfl
 f145:=Tryz.func136.trans (congrArg some (by kernel_rfl))
 f217:=Tryz.func35.trans (congrArg some (by kernel_rfl))
 f219:=Tryz.func148.trans (congrArg some (by kernel_rfl))
 f220:=Tryz.func143.trans (congrArg some (by kernel_rfl))
 f224:=Tryz.func150.trans (congrArg some (by kernel_rfl))
 f225:=Tryz.func149.trans (congrArg some (by kernel_rfl))
 f266:=Tryz.func58.trans (congrArg some (by kernel_rfl))
 f267:=Tryz.func151.trans (congrArg some (by kernel_rfl))
 f314:=Tryz.func152.trans (congrArg some (by kernel_rfl))
 t3:=Tryz.underlying3
 a3:=Tryz.isAgg3
 z3:=Tryz.sizeOf3
 v3:=Tryz.zeroValue3
 t4:=Tryz.underlying4
 a4:=Tryz.isAgg4
 z4:=Tryz.sizeOf4
 v4:=Tryz.zeroValue4
 t5:=Tryz.underlying5
 a5:=Tryz.isAgg5
 z5:=Tryz.sizeOf5
 v5:=Tryz.zeroValue5
 t9:=Tryz.underlying9
 a9:=Tryz.isAgg9
 z9:=Tryz.sizeOf9
 v9:=Tryz.zeroValue9
 t46:=Tryz.underlying151
 a46:=Tryz.isAgg151
 z46:=Tryz.sizeOf151
 v46:=Tryz.zeroValue151
 t51:=Tryz.underlying246
 a51:=Tryz.isAgg246
 z51:=Tryz.sizeOf246
 v51:=Tryz.zeroValue246
 t59:=Tryz.underlying240
 a59:=Tryz.isAgg240
 z59:=Tryz.sizeOf240
 v59:=Tryz.zeroValue240
 t146:=Tryz.underlying254
 a146:=Tryz.isAgg254
 z146:=Tryz.sizeOf254
 v146:=Tryz.zeroValue254
 g1:=by kernel_rfl}
def Tryz.UH:Go.Shelf.Ren:=⟨fun|41=>34|n=>n,fun|22=>45|23=>91|4=>4|n=>n,fun|n=>n⟩
theorem Tryz.YE:Go.Proofs.SlLaysE0.n41 Tryz.prog Tryz.UH:={
 mixed:=by kernel_rfl
 f41:=⟨Tryz.f34.name,by decide,Tryz.func34.trans (congrArg some (by kernel_rfl))⟩
 t4:=Tryz.underlying4
 a4:=Tryz.isAgg4
 z4:=Tryz.sizeOf4
 v4:=Tryz.zeroValue4
 t22:=Tryz.underlying45
 a22:=Tryz.isAgg45
 z22:=Tryz.sizeOf45
 v22:=Tryz.zeroValue45}
def Tryz.Ty:Go.Shelf.Ren:=⟨fun|41=>44|n=>n,fun|22=>57|23=>113|4=>4|n=>n,fun|n=>n⟩
theorem Tryz.Yq:Go.Proofs.SlLaysE0.n41 Tryz.prog Tryz.Ty:={
 mixed:=by kernel_rfl
 f41:=⟨Tryz.f44.name,by decide,Tryz.func44.trans (congrArg some (by kernel_rfl))⟩
 t4:=Tryz.underlying4
 a4:=Tryz.isAgg4
 z4:=Tryz.sizeOf4
 v4:=Tryz.zeroValue4
 t22:=Tryz.underlying57
 a22:=Tryz.isAgg57
 z22:=Tryz.sizeOf57
 v22:=Tryz.zeroValue57}
def Tryz.TF:Go.Shelf.Ren:=⟨fun|41=>95|n=>n,fun|22=>120|23=>3|4=>4|n=>n,fun|n=>n⟩
theorem Tryz.YH:Go.Proofs.SlLaysE0.n41 Tryz.prog Tryz.TF:={
 mixed:=by kernel_rfl
 f41:=⟨Tryz.f95.name,by decide,Tryz.func95.trans (congrArg some (by kernel_rfl))⟩
 t4:=Tryz.underlying4
 a4:=Tryz.isAgg4
 z4:=Tryz.sizeOf4
 v4:=Tryz.zeroValue4
 t22:=Tryz.underlying120
 a22:=Tryz.isAgg120
 z22:=Tryz.sizeOf120
 v22:=Tryz.zeroValue120}
end Go.Proofs
end
/-
 A part.
-/
section
namespace Go.Av.L
open Go.Av Go.Lib
set_option linter.unusedSimpArgs false
set_option linter.unusedVariables false
def kinds:List Nat:=[0,0,0,1,1,1,1,9,1,1,1,1,1,7,1,1,1,1,7,1,1,1,7,9,1,1,1,1,1,1,1,1,0,1,3,1,1,1,1,1,1,1,1,1,3,1,9,1,1,1,1,1,1,1,1,1,1,1,3,1,0,1,1,1,1,1,1,1,1,1,1,1,1,7,1,7,1,1,1,1,0,0,0,0,0,1,1,1,1,1,1,1,1,1,1,3,1,1,1,1,1,0,0,0,0,1,1,1,1,1,1,1,1,1,1,1,1,1,0,0,0,1,1,1,1,1,1,0,1,1,1,1,0,0,0,0,3,1,0,0,0,0,0,0,1,1,0,0,0,0,0,0,0,0,0,0,0,0,0,0,0,0,0,0,0,0,0,0,0,0,0,0,0,0,0,0,0,0,0,0,0,0,0,0]
def ZB:List ((Nat×Nat)×List (Nat×List Nat)):=[((7,7),[(0,[]),(2,[]),(1,[2]),(3,[]),(4,[]),(5,[])]),
 ((18,8),[(0,[]),(1,[]),(2,[]),(3,[]),(4,[]),(5,[4]),(6,[]),(7,[])]),
 ((22,1),[(0,[]),(1,[]),(3,[]),(4,[]),(6,[]),(2,[4,6]),(5,[]),(7,[])]),
 ((22,5),[(0,[]),(1,[]),(2,[]),(3,[]),(4,[]),(5,[1]),(6,[]),(7,[]),(8,[])]),
 ((23,9),[(0,[]),(1,[]),(2,[]),(3,[]),(4,[]),(5,[]),(6,[3]),(7,[10003]),(8,[]),(9,[]),(10,[]),(11,[]),(12,[]),(13,[]),(14,[])]),
 ((23,10),[(0,[]),(1,[]),(2,[]),(3,[]),(4,[]),(5,[]),(6,[3]),(7,[10003]),(8,[]),(9,[]),(10,[]),(11,[]),(12,[]),(13,[]),(14,[])]),
 ((23,22),[(0,[]),(1,[]),(2,[]),(3,[]),(4,[]),(5,[]),(6,[]),(7,[]),(8,[]),(9,[]),(10,[]),(11,[]),(12,[]),(13,[3]),(14,[]),(15,[]),(16,[])]),
 ((40,3),[(0,[]),(1,[]),(2,[]),(3,[]),(4,[]),(5,[]),(6,[]),(7,[]),(8,[]),(9,[]),(10,[]),(11,[]),(12,[])]),
 ((43,11),[(0,[]),(1,[]),(2,[]),(3,[]),(4,[]),(5,[]),(6,[]),(7,[5]),(8,[]),(9,[])]),
 ((46,7),[(0,[]),(1,[]),(2,[]),(3,[]),(4,[]),(5,[]),(6,[]),(7,[]),(8,[10003]),(9,[]),(10,[]),(11,[])]),
 ((48,7),[(0,[]),(1,[]),(2,[]),(3,[]),(4,[]),(5,[]),(6,[]),(7,[]),(8,[0]),(9,[]),(10,[]),(11,[])]),
 ((48,8),[(0,[]),(1,[]),(2,[]),(3,[]),(4,[]),(5,[]),(6,[]),(7,[]),(8,[]),(9,[]),(10,[])]),
 ((48,10),[(0,[]),(1,[]),(2,[]),(3,[]),(4,[]),(5,[]),(6,[]),(7,[]),(8,[]),(9,[]),(10,[]),(11,[])]),
 ((49,7),[(0,[]),(1,[]),(2,[]),(3,[]),(4,[]),(5,[]),(6,[]),(7,[]),(8,[]),(9,[])]),
 ((49,12),[(0,[]),(1,[]),(2,[]),(3,[]),(4,[]),(5,[]),(6,[]),(7,[]),(8,[]),(9,[]),(10,[]),(11,[]),(12,[]),(13,[]),(14,[]),(15,[]),(16,[3,7,10]),(17,[]),(18,[3]),(19,[]),(20,[]),(21,[])]),
 ((49,13),[(0,[]),(1,[]),(2,[]),(3,[]),(4,[]),(5,[]),(6,[]),(7,[]),(8,[]),(9,[]),(10,[]),(11,[]),(12,[]),(13,[]),(14,[]),(15,[]),(16,[3,7,10]),(17,[]),(18,[3]),(19,[]),(20,[]),(21,[])]),
 ((52,4),[(0,[]),(1,[]),(2,[]),(3,[]),(4,[]),(5,[])]),
 ((52,17),[(0,[]),(1,[]),(2,[]),(3,[]),(4,[]),(5,[]),(6,[]),(7,[]),(8,[]),(9,[]),(10,[]),(11,[]),(12,[]),(13,[]),(14,[]),(15,[]),(16,[]),(17,[]),(18,[]),(19,[]),(20,[]),(21,[]),(22,[]),(23,[])]),
 ((61,6),[(0,[]),(1,[]),(2,[]),(3,[]),(4,[]),(5,[]),(6,[]),(7,[]),(8,[]),(9,[]),(10,[]),(11,[]),(12,[]),(13,[]),(14,[]),(15,[]),(16,[]),(17,[]),(18,[]),(19,[]),(20,[]),(21,[]),(22,[])]),
 ((61,10),[(0,[]),(1,[]),(2,[]),(3,[]),(4,[]),(5,[]),(6,[]),(7,[]),(8,[]),(9,[]),(10,[]),(11,[]),(12,[]),(13,[]),(14,[]),(15,[]),(16,[]),(17,[]),(18,[]),(19,[])]),
 ((65,1),[(0,[]),(1,[]),(2,[]),(3,[]),(4,[]),(5,[]),(6,[]),(7,[]),(8,[]),(9,[]),(10,[]),(11,[]),(12,[]),(13,[]),(14,[]),(15,[]),(16,[]),(17,[]),(18,[]),(19,[]),(20,[]),(21,[]),(22,[])]),
 ((65,4),[(0,[]),(1,[]),(2,[]),(3,[]),(4,[]),(5,[]),(6,[]),(7,[]),(8,[]),(9,[]),(10,[]),(11,[]),(12,[]),(13,[3]),(14,[]),(15,[]),(16,[])]),
 ((66,12),[(0,[]),(1,[]),(2,[]),(3,[]),(4,[]),(5,[]),(6,[]),(7,[2]),(8,[]),(9,[])]),
 ((66,14),[(0,[]),(1,[]),(2,[]),(3,[]),(5,[]),(6,[]),(7,[]),(4,[7]),(8,[]),(9,[]),(10,[]),(11,[])]),
 ((69,1),[(0,[]),(1,[]),(2,[]),(3,[]),(4,[]),(5,[]),(6,[]),(7,[]),(8,[]),(9,[])]),
 ((70,4),[(0,[]),(1,[]),(2,[]),(3,[]),(4,[]),(5,[]),(6,[]),(8,[]),(9,[]),(7,[9]),(10,[]),(11,[]),(12,[]),(13,[])]),
 ((75,2),[(0,[]),(1,[]),(2,[]),(3,[]),(4,[]),(5,[]),(6,[]),(7,[]),(8,[]),(9,[]),(10,[])]),
 ((75,11),[(0,[]),(1,[]),(2,[]),(3,[]),(4,[]),(5,[]),(6,[]),(7,[]),(8,[]),(9,[]),(10,[]),(11,[]),(12,[]),(13,[]),(14,[]),(15,[]),(16,[]),(17,[])]),
 ((75,31),[(0,[]),(1,[]),(2,[]),(3,[]),(4,[]),(5,[]),(6,[])]),
 ((76,3),[(0,[]),(1,[]),(2,[]),(3,[]),(4,[]),(5,[]),(6,[]),(7,[]),(8,[]),(9,[]),(10,[])]),
 ((76,10),[(0,[]),(1,[]),(2,[]),(3,[]),(4,[]),(6,[]),(7,[]),(5,[7]),(8,[]),(9,[]),(10,[])]),
 ((78,6),[(0,[]),(1,[]),(2,[]),(3,[]),(4,[]),(5,[]),(6,[]),(7,[]),(8,[]),(9,[4]),(10,[]),(11,[]),(12,[]),(13,[]),(14,[])]),
 ((85,1),[(0,[]),(1,[]),(2,[]),(3,[]),(4,[]),(5,[]),(6,[]),(7,[]),(8,[]),(9,[]),(10,[]),(11,[]),(12,[]),(13,[]),(14,[]),(15,[]),(16,[]),(17,[]),(18,[])]),
 ((86,5),[(0,[]),(1,[]),(2,[]),(3,[]),(4,[]),(5,[]),(6,[]),(7,[]),(8,[]),(9,[]),(10,[])]),
 ((88,3),[(0,[]),(1,[]),(2,[]),(3,[]),(4,[]),(5,[]),(6,[]),(7,[]),(8,[]),(9,[])]),
 ((89,1),[(0,[]),(1,[]),(2,[]),(3,[]),(4,[]),(5,[]),(6,[]),(7,[]),(8,[]),(9,[])]),
 ((89,3),[(0,[]),(1,[]),(2,[]),(3,[]),(4,[]),(5,[]),(6,[]),(7,[]),(13,[]),(8,[13]),(9,[]),(10,[]),(11,[]),(12,[]),(14,[]),(15,[]),(16,[])]),
 ((90,3),[(0,[]),(1,[]),(2,[]),(3,[]),(4,[]),(5,[]),(6,[]),(7,[]),(8,[]),(9,[]),(10,[]),(11,[])]),
 ((98,5),[(0,[]),(1,[]),(2,[]),(3,[]),(4,[]),(5,[]),(6,[]),(7,[]),(8,[]),(10,[]),(11,[]),(9,[11]),(12,[]),(13,[]),(14,[])]),
 ((106,5),[(0,[]),(1,[]),(2,[]),(3,[]),(4,[]),(5,[]),(6,[]),(7,[]),(8,[]),(9,[])]),
 ((108,3),[(0,[]),(1,[]),(2,[]),(3,[]),(4,[]),(5,[]),(6,[]),(7,[]),(8,[])]),
 ((108,5),[(0,[]),(1,[]),(2,[]),(3,[]),(4,[]),(5,[]),(6,[]),(7,[]),(8,[]),(9,[]),(10,[])]),
 ((109,14),[(0,[]),(1,[]),(2,[]),(3,[]),(4,[]),(5,[]),(6,[]),(7,[]),(8,[]),(9,[7]),(10,[]),(11,[])]),
 ((113,4),[(0,[]),(1,[]),(2,[]),(3,[]),(4,[]),(5,[]),(6,[]),(7,[]),(8,[]),(9,[]),(10,[]),(11,[]),(12,[]),(13,[]),(14,[]),(15,[]),(16,[]),(17,[]),(18,[]),(19,[]),(20,[]),(21,[]),(22,[]),(23,[]),(24,[]),(25,[])]),
 ((113,8),[(0,[]),(1,[]),(2,[]),(3,[]),(4,[]),(5,[]),(6,[]),(7,[]),(8,[]),(9,[]),(10,[]),(11,[]),(12,[])]),
 ((122,2),[(0,[]),(1,[]),(2,[]),(3,[]),(4,[]),(5,[]),(6,[]),(7,[]),(8,[]),(9,[]),(10,[]),(11,[]),(12,[]),(13,[]),(14,[]),(15,[]),(16,[]),(17,[]),(18,[]),(19,[]),(20,[]),(21,[]),(22,[]),(23,[]),(24,[]),(25,[]),(26,[]),(27,[]),(28,[]),(29,[]),(30,[]),(31,[]),(32,[]),(33,[]),(34,[]),(35,[]),(36,[]),(37,[])]),
 ((122,3),[(0,[]),(1,[]),(2,[]),(3,[]),(4,[]),(5,[]),(6,[]),(7,[]),(8,[]),(9,[]),(10,[]),(11,[]),(12,[]),(13,[]),(14,[])]),
 ((123,0),[(0,[]),(1,[]),(2,[]),(3,[]),(4,[]),(5,[]),(6,[]),(7,[]),(8,[]),(9,[]),(10,[]),(11,[]),(12,[])]),
 ((124,1),[(0,[]),(1,[]),(2,[]),(3,[]),(4,[]),(5,[]),(6,[]),(7,[]),(8,[]),(9,[]),(10,[]),(11,[])]),
 ((125,5),[(0,[]),(1,[]),(2,[]),(3,[]),(4,[]),(5,[]),(6,[]),(7,[4]),(8,[]),(9,[]),(10,[]),(11,[])]),
 ((125,11),[(0,[]),(1,[]),(2,[]),(3,[]),(4,[]),(5,[]),(6,[]),(7,[]),(8,[]),(9,[])]),
 ((125,20),[(0,[]),(1,[]),(2,[]),(3,[]),(4,[]),(5,[]),(6,[]),(7,[4]),(8,[]),(9,[]),(10,[]),(11,[])]),
 ((128,1),[(0,[]),(1,[]),(2,[]),(3,[]),(4,[]),(5,[]),(6,[]),(7,[]),(8,[]),(9,[]),(10,[]),(11,[]),(12,[]),(13,[]),(14,[]),(15,[]),(16,[])]),
 ((128,5),[(0,[]),(1,[]),(2,[]),(3,[]),(4,[]),(5,[]),(6,[]),(7,[]),(8,[]),(9,[])]),
 ((129,1),[(0,[]),(1,[]),(2,[]),(3,[]),(4,[]),(5,[]),(6,[]),(7,[]),(8,[]),(9,[]),(10,[]),(11,[]),(12,[]),(13,[]),(14,[]),(15,[]),(16,[]),(17,[]),(18,[]),(19,[]),(20,[]),(21,[]),(22,[]),(23,[]),(24,[]),(25,[]),(26,[]),(27,[]),(28,[]),(29,[])]),
 ((129,3),[(0,[]),(1,[]),(2,[]),(3,[]),(4,[]),(5,[]),(6,[]),(7,[]),(8,[]),(9,[])]),
 ((130,4),[(0,[]),(1,[]),(2,[]),(3,[]),(4,[]),(5,[]),(6,[]),(7,[]),(8,[])]),
 ((131,5),[(0,[]),(1,[]),(2,[]),(3,[]),(4,[]),(5,[]),(6,[]),(7,[]),(8,[]),(9,[])]),
 ((131,8),[(0,[]),(1,[]),(2,[]),(3,[]),(4,[]),(5,[]),(6,[]),(7,[]),(8,[]),(9,[]),(10,[]),(11,[])]),
 ((137,2),[(0,[]),(1,[]),(3,[]),(5,[]),(2,[3,5]),(4,[5]),(6,[])]),
 ((137,15),[(0,[]),(1,[0]),(2,[]),(3,[]),(4,[]),(5,[]),(6,[])]),
 ((137,27),[(1,[]),(0,[1]),(2,[]),(3,[]),(4,[]),(5,[])]),
 ((145,4),[(0,[]),(1,[]),(2,[]),(3,[]),(4,[]),(5,[]),(6,[]),(7,[]),(8,[])])]
def PF:List (Nat×List Bool):=[(3,[true,false]),(7,[true,false]),(10,[true]),(13,[false,true]),(21,[true]),(22,[true]),(23,[true,false]),(30,[true]),(31,[true]),(42,[true]),(43,[true]),(45,[true]),(46,[true,false]),(49,[false,true]),(51,[false,true,false]),(53,[true,false,false,false]),(54,[true,false,false]),(64,[true,false]),(65,[false,true]),(67,[false,true,false,false]),(71,[true]),(72,[false,true,false]),(74,[true,false]),(79,[false,true]),(88,[false,true]),(91,[true]),(93,[false,true,false]),(94,[true,false]),(96,[false,true]),(98,[false,false,false,false,true,false]),(99,[true,false]),(108,[false,true]),(116,[true,false]),(126,[true]),(130,[true,true]),(145,[true,true])]
def aI:List (Nat×List AE):=[(0,[]),
 (3,[.int .u64 1,.int .u64 10,.int .u64 100,.int .u64 1000,.int .u64 10000,.int .u64 100000,.int .u64 1000000,.int .u64 10000000,.int .u64 100000000,.int .u64 1000000000,.int .u64 10000000000,.int .u64 100000000000,.int .u64 1000000000000,.int .u64 10000000000000,.int .u64 100000000000000,.int .u64 1000000000000000,.int .u64 10000000000000000,.int .u64 100000000000000000,.int .u64 1000000000000000000,.int .u64 10000000000000000000]),
 (4,[.int .u8 0,.int .u8 1,.int .u8 28,.int .u8 2,.int .u8 29,.int .u8 14,.int .u8 24,.int .u8 3,.int .u8 30,.int .u8 22,.int .u8 20,.int .u8 15,.int .u8 25,.int .u8 17,.int .u8 4,.int .u8 8,.int .u8 31,.int .u8 27,.int .u8 13,.int .u8 23,.int .u8 21,.int .u8 19,.int .u8 16,.int .u8 7,.int .u8 26,.int .u8 12,.int .u8 18,.int .u8 6,.int .u8 11,.int .u8 5,.int .u8 10,.int .u8 9]),
 (5,[.int .u8 0,.int .u8 1,.int .u8 56,.int .u8 2,.int .u8 57,.int .u8 49,.int .u8 28,.int .u8 3,.int .u8 61,.int .u8 58,.int .u8 42,.int .u8 50,.int .u8 38,.int .u8 29,.int .u8 17,.int .u8 4,.int .u8 62,.int .u8 47,.int .u8 59,.int .u8 36,.int .u8 45,.int .u8 43,.int .u8 51,.int .u8 22,.int .u8 53,.int .u8 39,.int .u8 33,.int .u8 30,.int .u8 24,.int .u8 18,.int .u8 12,.int .u8 5,.int .u8 63,.int .u8 55,.int .u8 48,.int .u8 27,.int .u8 60,.int .u8 41,.int .u8 37,.int .u8 16,.int .u8 46,.int .u8 35,.int .u8 44,.int .u8 21,.int .u8 52,.int .u8 32,.int .u8 23,.int .u8 11,.int .u8 54,.int .u8 26,.int .u8 40,.int .u8 15,.int .u8 34,.int .u8 20,.int .u8 31,.int .u8 10,.int .u8 25,.int .u8 14,.int .u8 19,.int .u8 9,.int .u8 13,.int .u8 8,.int .u8 7,.int .u8 6])]
def exts:List (Nat×Nat×Nat×Nat):=[(34,4,0,91),(44,4,0,113),(58,1,0,0),(95,4,0,3),(136,8,0,0)]
def cE:aE:=[]
noncomputable def cfg:J8:={P:=Go.Proofs.Tryz.prog,kind:=SD kinds,NC:=Qa ZB,ext:=Tn Go.Proofs.Tryz.prog cE exts,GZ:=Mi aI,bM:=XG Go.Proofs.Tryz.prog (Qa ZB),still:=ZG PF}
theorem Yo:∀p∈exts,MA cfg.P cfg.GZ p.1 (Xr cfg.P cE p.2):=by
 intro p K;simp only[exts,zT,qA,or_false]at K;rcases K with rfl|rfl|rfl|rfl|rfl
 ·exact Qy Go.Proofs.Tryz.YE _
 ·exact Qy Go.Proofs.Tryz.Yq _
 ·exact Us _ (by kernel_rfl) (λfn h=>by
   obtain rfl:=zw (Go.Proofs.Tryz.func58.symm.trans h)
   exact⟨by kernel_rfl,by kernel_rfl⟩)
 ·exact Qy Go.Proofs.Tryz.YH _
 ·exact Sp Go.Proofs.Tryz.Zz (by kernel_rfl)
theorem Zq:NN cfg:=V7 (ks:=kinds) (l:=exts) rfl (by kernel_rfl) (by kernel_rfl) rfl rfl (by kernel_rfl) Yo
structure A9 where
 Re:List UInt8
 Cg:List UInt8
 Global:Bool
 Fold:Bool
 FV:Bool
 Number:Int
 Names:Bool
 NH:Bool
 Ou:Bool
def Aq(x:A9):List AE:=[.str x.Re,.str x.Cg,.bool x.Global,.bool x.Fold,.bool x.FV,.int .i64 x.Number,.bool x.Names,.bool x.NH,.bool x.Ou]
theorem IL:L9 Aq 9:=⟨λ_=>rfl,λ_=>rfl,λ_=>rfl⟩
structure BE where
 w0:Int
 w1:Int
 w2:Int
 w3:Int
def AR(x:BE):List AE:=[.int .u64 x.w0,.int .u64 x.w1,.int .u64 x.w2,.int .u64 x.w3]
structure AM where
 Kind:Int
 A:Int
 B:Int
 Min:Int
 Max:Int
 By:Int
 Set:BE
def AA(x:AM):List AE:=[.int .i64 x.Kind,.int .i64 x.A,.int .i64 x.B,.int .i64 x.Min,.int .i64 x.Max,.int .i64 x.By,.int .u64 x.Set.w0,.int .u64 x.Set.w1,.int .u64 x.Set.w2,.int .u64 x.Set.w3]
theorem CB:L9 AA 10:=⟨λ_=>rfl,λ_=>rfl,λ_=>rfl⟩
structure AO where
 AN:List AM
 BI:Int
structure AL where
 s_:List UInt8
 at_:Int
 Al:Bool
 t_:AO
 BC:Int
 BV:Int
 BU:Int
 BO:Bool
structure BT where
 s_:List UInt8
 at_:Int
 IS:Bool
 Cq:BE
def Cp(x:BT):List AE:=[.str x.s_,.int .i64 x.at_,.bool x.IS,.int .u64 x.Cq.w0,.int .u64 x.Cq.w1,.int .u64 x.Cq.w2,.int .u64 x.Cq.w3]
structure Af where
 Kind:Int
 By:Int
 Bytes:List UInt8
def Ah(x:Af):List AE:=[.int .i64 x.Kind,.int .i64 x.By,.str x.Bytes]
theorem CW:L9 Ah 3:=⟨λ_=>rfl,λ_=>rfl,λ_=>rfl⟩
structure AX where
 C7:Int
 a_:Int
 b_:Int
 Cq:BE
def AF(x:AX):List AE:=[.int .i64 x.C7,.int .i64 x.a_,.int .i64 x.b_,.int .u64 x.Cq.w0,.int .u64 x.Cq.w1,.int .u64 x.Cq.w2,.int .u64 x.Cq.w3]
theorem EI:L9 AF 7:=⟨λ_=>rfl,λ_=>rfl,λ_=>rfl⟩
structure Ay where
 l_:List AX
 AY:Int
def NR(x:Ay):List AE:=[vs AF x.l_,.int .i64 x.AY]
structure Ar where
 t_:AO
 a_:Ay
 Cm:Int
 BO:Bool
structure Co where
 BX:(Nat->Int)
 BF:Int
 CA:List Int
 B1:List Bool
 B3:List Bool
 AY:Int
 Bw:Int
 BZ:Bool
structure Dg where
 a_:Ay
 d_:Co
 Cm:Int
 LN:List UInt8
 FJ:List ((List UInt8)×Int)
 CF:List (List Int)
structure Ax where
 x_:A9
 t_:AO
 d_:Co
 Lw:List Af
def AV(x:Ax):List AE:=[.str x.x_.Re,.str x.x_.Cg,.bool x.x_.Global,.bool x.x_.Fold,.bool x.x_.FV,.int .i64 x.x_.Number,.bool x.x_.Names,.bool x.x_.NH,.bool x.x_.Ou,vs AA x.t_.AN,.int .i64 x.t_.BI,.BL (Gf 256 (AE.int .u8) x.d_.BX++[.int .i64 x.d_.BF,vs (eI .i32) x.d_.CA,vs eB x.d_.B1,vs eB x.d_.B3,.int .i32 x.d_.AY,.int .i32 x.d_.Bw,.bool x.d_.BZ]),vs Ah x.Lw]
structure DF where
 l_:List Ax
 EG:Int
structure IQ where
 aA:Int
 WI:Int
structure F4 where
 Key:List UInt8
 Value:List UInt8
def GM(x:F4):List AE:=[.str x.Key,.str x.Value]
theorem E1:L9 GM 2:=⟨λ_=>rfl,λ_=>rfl,λ_=>rfl⟩
structure Dl where
 Name:List UInt8
 NG:List UInt8
 Kind:Int
 Mode:Int
 Y7:Int
 ZC:Int
 PW:List UInt8
 Pm:List UInt8
 Pc:Int
 Pf:Int
 Time:IQ
 Extra:List F4
 Data:List UInt8
def CE(x:Dl):List AE:=[.str x.Name,.str x.NG,.int .u8 x.Kind,.int .i64 x.Mode,.int .i64 x.Y7,.int .i64 x.ZC,.str x.PW,.str x.Pm,.int .i64 x.Pc,.int .i64 x.Pf,.int .i64 x.Time.aA,.int .i64 x.Time.WI,vs GM x.Extra,.str x.Data]
structure Ao where
 Lv:Int
 To:Int
 Is:Bool
def BQ(x:Ao):List AE:=[.int .i64 x.Lv,.int .i64 x.To,.bool x.Is]
theorem Ea:L9 BQ 3:=⟨λ_=>rfl,λ_=>rfl,λ_=>rfl⟩
structure AZ where
 HR:Int
 Hh:Int
 at_:Int
def BB(x:AZ):List AE:=[.int .i64 x.HR,.int .i64 x.Hh,.int .i64 x.at_]
structure Bs where
 t_:AO
 s_:List UInt8
 IM:List (AZ×(List Bool))
structure Ac where
 HR:Int
 Hh:Int
 from_:Int
 JL:Int
def Bj(x:Ac):List AE:=[.int .i64 x.HR,.int .i64 x.Hh,.int .i64 x.from_,.int .i64 x.JL]
theorem Ew:L9 Bj 4:=⟨λ_=>rfl,λ_=>rfl,λ_=>rfl⟩
structure Fy where
 Zi:List UInt8
 RF:Int
 CA:Int
structure Cz where
 Re:List UInt8
 Cg:List UInt8
 Global:Bool
 Fold:Bool
 FV:Bool
 Number:Int
 Names:Bool
 NH:Bool
 Ou:Bool
def I3(x:Cz):List AE:=[.str x.Re,.str x.Cg,.bool x.Global,.bool x.Fold,.bool x.FV,.int .i64 x.Number,.bool x.Names,.bool x.NH,.bool x.Ou]
instance:DecidableEq AZ:=λx y=>decidable_of_iff (x.HR=y.HR/\x.Hh=y.Hh/\x.at_=y.at_) (by cases x;cases y;simp)
theorem IZ:S3 cfg.P 199 (λk:AZ=>.agg [.int .i64 k.HR,.int .i64 k.Hh,.int .i64 k.at_]):=by
 refine⟨λx=>by kernel_rfl,λx y=>?_,λx=>by simp[MB,Oa,BB]⟩;have e:Jc cfg.P 10000 199 (.agg [.int .i64 x.HR,.int .i64 x.Hh,.int .i64 x.at_]) (.agg [.int .i64 y.HR,.int .i64 y.Hh,.int .i64 y.at_])=Ae (x.HR==y.HR) (Ae (x.Hh==y.Hh) (Ae (x.at_==y.at_) (some true) (some false)) (some false)) (some false):=by kernel_rfl
 rw[e];simp only[P8,zd];rw[qh];simp only[zj,yu,zx];cases x;cases y;simp
abbrev IB:List AE:=[.str ([]:List UInt8),.str ([]:List UInt8),.bool false,.bool false,.bool false,Ai 0,.bool false,.bool false,.bool false]
abbrev TG:List AE:=[.str ([]:List UInt8),.str ([]:List UInt8),Ab 0,Ai 0,Ai 0,Ai 0,.str ([]:List UInt8),.str ([]:List UInt8),Ai 0,Ai 0,Ai 0,Ai 0,.slice none 0,.str ([]:List UInt8)]
abbrev Wg:List AE:=[Ai 0,Ai 0,Ai 0,Ai 0,Ai 0,Ai 0,Au 0,Au 0,Au 0,Au 0]
abbrev aR:List AE:=[Ai 0,Ai 0,Ai 0,Au 0,Au 0,Au 0,Au 0]
abbrev bJ:List AE:=[Au (0:Int),Au (0:Int),Au (0:Int),Au (0:Int)]
abbrev Kb(x:BE)(c1:AE):List AE:=[.int .u64 x.w0,c1,.int .u64 x.w2,.int .u64 x.w3]
abbrev Il(x:Dl)(c0:AE):List AE:=[c0,.str x.NG,.int .u8 x.Kind,.int .i64 x.Mode,.int .i64 x.Y7,.int .i64 x.ZC,.str x.PW,.str x.Pm,.int .i64 x.Pc,.int .i64 x.Pf,.int .i64 x.Time.aA,.int .i64 x.Time.WI,vs GM x.Extra,.str x.Data]
abbrev Gj(x:Dl)(c0 c1:AE):List AE:=[c0,c1,.int .u8 x.Kind,.int .i64 x.Mode,.int .i64 x.Y7,.int .i64 x.ZC,.str x.PW,.str x.Pm,.int .i64 x.Pc,.int .i64 x.Pf,.int .i64 x.Time.aA,.int .i64 x.Time.WI,vs GM x.Extra,.str x.Data]
abbrev Ko(x:Dl)(c0 c12:AE):List AE:=[c0,.str x.NG,.int .u8 x.Kind,.int .i64 x.Mode,.int .i64 x.Y7,.int .i64 x.ZC,.str x.PW,.str x.Pm,.int .i64 x.Pc,.int .i64 x.Pf,.int .i64 x.Time.aA,.int .i64 x.Time.WI,c12,.str x.Data]
abbrev Bi(x:Ar)(c2:AE):List AE:=[vs AA x.t_.AN,.int .i64 x.t_.BI,c2,.int .i64 x.Cm,.bool x.BO]
abbrev PD(x:Ar)(c2 c4:AE):List AE:=[vs AA x.t_.AN,.int .i64 x.t_.BI,c2,.int .i64 x.Cm,c4]
abbrev Om(x:BT)(c1:AE):List AE:=[.str x.s_,c1,.bool x.IS,.int .u64 x.Cq.w0,.int .u64 x.Cq.w1,.int .u64 x.Cq.w2,.int .u64 x.Cq.w3]
abbrev He(x:AL)(c1 c3:AE):List AE:=[.str x.s_,c1,.bool x.Al,c3,.int .i64 x.t_.BI,.int .i64 x.BC,.int .i64 x.BV,.int .i64 x.BU,.bool x.BO]
abbrev An(x:AL)(c3:AE):List AE:=[.str x.s_,.int .i64 x.at_,.bool x.Al,c3,.int .i64 x.t_.BI,.int .i64 x.BC,.int .i64 x.BV,.int .i64 x.BU,.bool x.BO]
abbrev QV(x:AL)(c3 c4:AE):List AE:=[.str x.s_,.int .i64 x.at_,.bool x.Al,c3,c4,.int .i64 x.BC,.int .i64 x.BV,.int .i64 x.BU,.bool x.BO]
abbrev Q5(x:AL)(c3 c8:AE):List AE:=[.str x.s_,.int .i64 x.at_,.bool x.Al,c3,.int .i64 x.t_.BI,.int .i64 x.BC,.int .i64 x.BV,.int .i64 x.BU,c8]
abbrev LS(x:Fy)(c0:AE):List AE:=[c0,.int .i64 x.RF,.int .i64 x.CA]
end Go.Av.L
end
