/-
 A part.
-/
import Derived.Test.YtlddjbgohnlihaaGreatDoorAvKm
import Derived.Test.YtlddjbgohnlihaaGreatDoorAvMw
import Derived.Test.YtlddjbgohnlihaaGreatDoorAvTold
import Derived.Test.YtlddjbgohnlihaaGreatDoorLay
namespace Go.Av.L
open Go.Av Go.Lib
set_option linter.unusedSimpArgs false
set_option linter.unusedVariables false
abbrev UV:=List UInt8
def kinds:List Nat:=[0,0,0,1,0,0,0,1,1,1,1,1,1,1,7,1,0,0,0,0,0,0,0,0,0,0,0,1,1,1,1,0,1,1,1,1,7,1,1,1,0,0,0,0,0,0,0,0,0,0,0,0,0,1,1,1,1,10,1,1,1,3,1,1,1,1,7,1,1,1,1,1,1,1,1,1,0,0,0,0,0,0,0,0,0,0,0,0,0,0,0,1,1,1,1,3,0,0,1,1,10,1,1,1,1,1,0,0,0,0,0,0,1,1,1,1,1,1,1,1,0,0,0,0,0,0,0,0,1,1,1,1,1,1,3,1,1,1,1,1,1,1,1,1,0,0,0,1,1,1,1,1,0,0,0,0,0,1,1,0,0,0,0,0,0,0,0,1,3,0,1,1,0,0,0,0,0,0,0,0,0,0,0,1,1,0,0,0,0,0,0,0,0,0,0,0,0,0,3,0,0,0,0,0,1,0,0,0,0,0,0,0,0,1,1,0,0,0,0,0,0,0,0,0,0,0,0,1,3,3,0,0,0,0,0,0,0,0,0,0,0,0,0,0,0,0,0,0,0,0,0,0,0,0,0,0,0,0,0,0,0,0,0,0,0,0,0,0,0,0,0,0,0,0,0,0,0,0,0,0,0,0,0,0,0,0,0,0,0,0,0,0,0,0,0,0,0,0,0,0]
def aW:List ((Nat×Nat)×List (Nat×List Nat)):=[((15,6),[(0,[]),(1,[]),(2,[]),(3,[]),(4,[]),(5,[]),(6,[]),(7,[]),(8,[]),(9,[])]),
 ((35,5),[(0,[]),(1,[]),(2,[]),(3,[]),(10,[]),(4,[0,10]),(5,[10]),(6,[]),(7,[]),(8,[]),(9,[]),(11,[]),(12,[]),(13,[])]),
 ((35,11),[(0,[]),(1,[]),(2,[0]),(3,[]),(4,[]),(5,[])]),
 ((39,12),[(0,[]),(1,[]),(2,[]),(3,[]),(4,[]),(8,[]),(9,[]),(10,[]),(11,[]),(12,[]),(15,[]),(16,[]),(17,[]),(18,[]),(19,[]),(5,[12,19]),(6,[12,19]),(7,[]),(13,[]),(14,[]),(20,[]),(21,[]),(22,[]),(23,[])]),
 ((66,8),[(0,[]),(1,[]),(2,[]),(3,[]),(4,[]),(5,[]),(6,[]),(7,[]),(8,[]),(9,[]),(10,[]),(11,[])]),
 ((66,10),[(0,[]),(1,[]),(2,[]),(3,[]),(4,[]),(5,[]),(6,[]),(7,[]),(8,[]),(9,[])]),
 ((68,1),[(0,[]),(1,[]),(3,[]),(4,[]),(2,[4]),(5,[]),(6,[]),(7,[]),(8,[]),(10,[]),(11,[]),(9,[11]),(12,[]),(13,[]),(14,[]),(15,[]),(16,[]),(18,[]),(19,[]),(17,[19]),(20,[]),(21,[]),(22,[]),(23,[]),(24,[]),(26,[]),(27,[]),(25,[27]),(28,[]),(29,[]),(30,[]),(31,[]),(32,[]),(33,[]),(34,[])]),
 ((68,7),[(0,[]),(1,[]),(2,[]),(3,[]),(4,[]),(5,[]),(6,[]),(7,[]),(8,[]),(9,[]),(10,[]),(11,[]),(12,[]),(13,[]),(14,[]),(15,[]),(16,[]),(17,[]),(18,[]),(19,[]),(20,[]),(21,[]),(22,[]),(23,[]),(24,[]),(25,[]),(26,[]),(27,[]),(28,[])]),
 ((70,25),[(0,[]),(1,[]),(2,[]),(3,[]),(4,[]),(5,[]),(6,[]),(7,[]),(8,[]),(9,[]),(10,[]),(11,[]),(12,[]),(13,[]),(14,[])]),
 ((71,6),[(0,[]),(1,[]),(2,[]),(3,[]),(4,[]),(5,[]),(6,[]),(7,[]),(8,[])]),
 ((73,4),[(0,[]),(1,[]),(2,[]),(3,[]),(4,[]),(5,[]),(6,[]),(7,[]),(8,[]),(9,[]),(10,[]),(11,[])]),
 ((75,12),[(0,[]),(1,[]),(2,[]),(3,[]),(4,[]),(5,[]),(6,[]),(7,[]),(8,[]),(9,[])]),
 ((94,13),[(0,[]),(1,[]),(2,[1]),(3,[])]),
 ((105,4),[(0,[]),(1,[]),(2,[]),(3,[]),(4,[]),(5,[]),(6,[]),(7,[]),(8,[]),(9,[])]),
 ((117,6),[(0,[]),(1,[]),(2,[]),(3,[]),(4,[]),(5,[]),(6,[]),(7,[]),(8,[]),(9,[]),(10,[]),(11,[])]),
 ((117,9),[(0,[]),(1,[]),(2,[]),(3,[]),(4,[]),(5,[]),(6,[]),(7,[])]),
 ((130,6),[(0,[]),(1,[]),(2,[]),(3,[]),(4,[]),(5,[]),(6,[]),(7,[]),(8,[]),(9,[]),(10,[]),(11,[]),(12,[]),(13,[]),(14,[]),(15,[]),(16,[]),(17,[]),(18,[]),(19,[]),(20,[]),(21,[]),(22,[]),(23,[]),(24,[]),(25,[]),(26,[]),(27,[]),(28,[]),(29,[]),(30,[]),(31,[])]),
 ((149,8),[(0,[]),(1,[]),(2,[]),(3,[]),(4,[]),(5,[]),(6,[]),(7,[]),(8,[]),(9,[])])]
def P7:List (Nat×List Bool):=[(3,[true,true]),(9,[true]),(10,[false,true,false]),(15,[true,false]),(27,[true]),(28,[true,false]),(33,[true]),(35,[true,true,true,false]),(36,[true,false,true,true,false,false]),(38,[true,true]),(53,[true,false]),(54,[true,false]),(56,[true,false]),(57,[true]),(66,[true,false]),(67,[true,true]),(68,[true]),(69,[true,false]),(71,[true,true]),(72,[true]),(74,[true]),(91,[true]),(93,[true,false]),(94,[true,false]),(100,[true]),(101,[true]),(103,[true]),(117,[false,true]),(128,[true]),(130,[true]),(132,[true]),(138,[true]),(147,[true]),(170,[true])]
def cS:List (Nat×List AB):=[(0,[]),
 (1,[.int .u64 1,.int .u64 10,.int .u64 100,.int .u64 1000,.int .u64 10000,.int .u64 100000,.int .u64 1000000,.int .u64 10000000,.int .u64 100000000,.int .u64 1000000000,.int .u64 10000000000,.int .u64 100000000000,.int .u64 1000000000000,.int .u64 10000000000000,.int .u64 100000000000000,.int .u64 1000000000000000,.int .u64 10000000000000000,.int .u64 100000000000000000,.int .u64 1000000000000000000,.int .u64 10000000000000000000]),
 (2,[.int .u8 0,.int .u8 1,.int .u8 28,.int .u8 2,.int .u8 29,.int .u8 14,.int .u8 24,.int .u8 3,.int .u8 30,.int .u8 22,.int .u8 20,.int .u8 15,.int .u8 25,.int .u8 17,.int .u8 4,.int .u8 8,.int .u8 31,.int .u8 27,.int .u8 13,.int .u8 23,.int .u8 21,.int .u8 19,.int .u8 16,.int .u8 7,.int .u8 26,.int .u8 12,.int .u8 18,.int .u8 6,.int .u8 11,.int .u8 5,.int .u8 10,.int .u8 9]),
 (3,[.int .u8 0,.int .u8 1,.int .u8 56,.int .u8 2,.int .u8 57,.int .u8 49,.int .u8 28,.int .u8 3,.int .u8 61,.int .u8 58,.int .u8 42,.int .u8 50,.int .u8 38,.int .u8 29,.int .u8 17,.int .u8 4,.int .u8 62,.int .u8 47,.int .u8 59,.int .u8 36,.int .u8 45,.int .u8 43,.int .u8 51,.int .u8 22,.int .u8 53,.int .u8 39,.int .u8 33,.int .u8 30,.int .u8 24,.int .u8 18,.int .u8 12,.int .u8 5,.int .u8 63,.int .u8 55,.int .u8 48,.int .u8 27,.int .u8 60,.int .u8 41,.int .u8 37,.int .u8 16,.int .u8 46,.int .u8 35,.int .u8 44,.int .u8 21,.int .u8 52,.int .u8 32,.int .u8 23,.int .u8 11,.int .u8 54,.int .u8 26,.int .u8 40,.int .u8 15,.int .u8 34,.int .u8 20,.int .u8 31,.int .u8 10,.int .u8 25,.int .u8 14,.int .u8 19,.int .u8 9,.int .u8 13,.int .u8 8,.int .u8 7,.int .u8 6])]
def exts:List (Nat×Nat×Nat×Nat):=[(61,7,0,0),(95,11,96,0),(134,12,0,0),(168,33,0,2),(198,1,0,0),(228,13,0,0),(229,14,0,0)]
def eo:Zb:=[LT.YM]
def aw:List (Nat×Nat×List Nat×List Nat×Option Nat):=[(57,0,[26,5,1],[],some 5),(57,2,[42,5,1],[],some 5),(100,2,[37,1,6],[],none),(100,4,[57],[2],none)]
noncomputable def cfg:Gp:={P:=Go.Proofs.Tryz.prog,kind:=Q4 kinds,MR:=Pe aW,ext:=N5 Go.Proofs.Tryz.prog eo exts,Cx:=LP cS,dm:=X5 Go.Proofs.Tryz.prog (Pe aW),still:=aU P7,XS:=ZC aw,dec:=Rn}
theorem bp:Go.Proofs.Builder.Extra cfg.P Go.Proofs.Tryz.Qs where
 sizeBuilder:=by kernel_rfl
 liesBuilder:=by kernel_rfl
 t5:=Go.Proofs.Tryz.TV.t5
 a5:=Go.Proofs.Tryz.TV.a5
 z5:=Go.Proofs.Tryz.TV.z5
 v5:=Go.Proofs.Tryz.TV.v5
 infoByte:=by kernel_rfl
 cellsByte:=by kernel_rfl
 sizeByte:=by kernel_rfl
 neB5:=by decide
set_option maxHeartbeats 1000000 in
theorem Z1(a b:J8)(W:World):Calls Go.Proofs.Tryz.prog 96 #[.agg #[.string ⟨⟨a.1⟩⟩,.string ⟨⟨a.2⟩⟩],.agg #[.string ⟨⟨b.1⟩⟩,.string ⟨⟨b.2⟩⟩]] W fun e w'=>e=.returned (.int .i64 (compareBytes a.1 b.1))∧∃q os',w'=Go.Sort.grow (W.drewN q) os':=by
 have B:=fun W'=>Go.Proofs.Any.strings_Compare Go.Proofs.Tryz.b7 ⟨⟨a.1⟩⟩ ⟨⟨b.1⟩⟩ W';change ∀W',Calls Go.Proofs.Tryz.prog 97 _ _ _ at B;simp only[]at B;generalize compareBytes a.1 b.1=r at B⊢
 go_enter Go.Proofs.Tryz.func96,Go.Proofs.Tryz.ntmps96
 go_wp2_with (go_at_call 97;refine(B _).mono ?_;rintro e w' ⟨rfl,rfl⟩)
 go_ret
 exact⟨rfl,0,_,by rw[Go.Sort.alloc_eq_grow,Go.Sort.alloc_eq_grow,Go.Sort.grow_grow];rfl⟩
theorem Zt:∀p∈exts,Fw cfg.P cfg.Cx p.1 (YJ cfg.P eo p.2):=by
 intro p C;simp only[exts,zF,yz,or_false]at C;rcases C with rfl|rfl|rfl|rfl|rfl|rfl|rfl
 ·exact Ww Go.Proofs.Tryz.TV bp _
 ·exact XG Go.Proofs.Tryz.Z0 (fun w=>by kernel_rfl) (fun w=>by kernel_rfl) (Wf Go.Proofs.Tryz.func96 (by kernel_rfl) rfl) Z1 _
 ·exact aI Go.Proofs.Tryz.Ze (gn:=1) (by kernel_rfl) (by kernel_rfl)
 ·exact LT.bj
 ·exact bZ _ (by kernel_rfl) (fun fn h=>by
   obtain rfl:=zJ (Go.Proofs.Tryz.func198.symm.trans h)
   exact⟨by kernel_rfl,by kernel_rfl⟩)
 ·exact ba Go.Proofs.Tryz.bD (gn:=1) (by kernel_rfl) (by kernel_rfl)
 ·exact bL Go.Proofs.Tryz.bQ _
theorem cA:KM cfg:=Ws (ks:=kinds) (l:=exts) rfl (by kernel_rfl) (by kernel_rfl) rfl rfl (by kernel_rfl) Zt
structure Ap where
 Bu:Int
 BG:Int
def Qk(x:Ap):List AB:=[.int .i64 x.Bu,.int .i64 x.BG]
structure AA where
 Key:List UInt8
 Value:List UInt8
def AD(x:AA):List AB:=[.str x.Key,.str x.Value]
theorem AR:NB AD 2:=⟨fun _=>rfl,fun _=>rfl,fun _=>rfl⟩
structure AJ where
 Name:List UInt8
 Ah:List UInt8
 Kind:Int
 Mode:Int
 BO:Int
 BW:Int
 AZ:List UInt8
 Ad:List UInt8
 Aj:Int
 Ao:Int
 Time:Ap
 Extra:List AA
 Data:List UInt8
def AE(x:AJ):List AB:=[.str x.Name,.str x.Ah,.int .u8 x.Kind,.int .i64 x.Mode,.int .i64 x.BO,.int .i64 x.BW,.str x.AZ,.str x.Ad,.int .i64 x.Aj,.int .i64 x.Ao,.int .i64 x.Time.Bu,.int .i64 x.Time.BG,vs AD x.Extra,.str x.Data]
theorem CR:NB AE 14:=⟨fun _=>rfl,fun _=>rfl,fun _=>rfl⟩
structure BB where
 FK:Bool
 FT:Bool
 Dv:Int
 Je:Int
def Bt(x:BB):List AB:=[.bool x.FK,.bool x.FT,.int .i64 x.Dv,.int .i64 x.Je]
structure AN where
 Name:List UInt8
 Ah:List UInt8
 Kind:Int
 Mode:Int
 BO:Int
 BW:Int
 B2:Int
 Time:Int
 AZ:List UInt8
 Ad:List UInt8
 Aj:Int
 Ao:Int
 Form:Int
def AL(x:AN):List AB:=[.str x.Name,.str x.Ah,.int .u8 x.Kind,.int .i64 x.Mode,.int .i64 x.BO,.int .i64 x.BW,.int .i64 x.B2,.int .i64 x.Time,.str x.AZ,.str x.Ad,.int .i64 x.Aj,.int .i64 x.Ao,.int .i64 x.Form]
structure Ax where
 from_:Int
 Dv:Int
def Ef(x:Ax):List AB:=[.int .i64 x.from_,.int .i64 x.Dv]
theorem Eo:NB Ef 2:=⟨fun _=>rfl,fun _=>rfl,fun _=>rfl⟩
structure Hn where
 w0:Ax
 w1:Ax
 w2:Ax
 w3:Ax
 w4:Ax
 w5:Ax
 w6:Ax
 w7:Ax
 w8:Ax
 w9:Ax
 W3:Ax
 UT:Ax
def M8(x:Hn):List AB:=[.int .i64 x.w0.from_,.int .i64 x.w0.Dv,.int .i64 x.w1.from_,.int .i64 x.w1.Dv,.int .i64 x.w2.from_,.int .i64 x.w2.Dv,.int .i64 x.w3.from_,.int .i64 x.w3.Dv,.int .i64 x.w4.from_,.int .i64 x.w4.Dv,.int .i64 x.w5.from_,.int .i64 x.w5.Dv,.int .i64 x.w6.from_,.int .i64 x.w6.Dv,.int .i64 x.w7.from_,.int .i64 x.w7.Dv,.int .i64 x.w8.from_,.int .i64 x.w8.Dv,.int .i64 x.w9.from_,.int .i64 x.w9.Dv,.int .i64 x.W3.from_,.int .i64 x.W3.Dv,.int .i64 x.UT.from_,.int .i64 x.UT.Dv]
structure YQ where
 w0:Int
 w1:Int
structure BM where
 Local:List AA
 Name:List UInt8
 Ah:List UInt8
 Ou:Bool
 Fv:Bool
 HJ:Bool
def Ar(x:BM):List AB:=[vs AD x.Local,.str x.Name,.str x.Ah,.bool x.Ou,.bool x.Fv,.bool x.HJ]
structure GY where
 L:List AJ
 dQ:Bool
 E:Int
 At:Int
 Ss:Bool
 Partial:AJ
def Hc(x:GY):List AB:=[vs AE x.L,.bool x.dQ,.int .i64 x.E,.int .i64 x.At,.bool x.Ss,.str x.Partial.Name,.str x.Partial.Ah,.int .u8 x.Partial.Kind,.int .i64 x.Partial.Mode,.int .i64 x.Partial.BO,.int .i64 x.Partial.BW,.str x.Partial.AZ,.str x.Partial.Ad,.int .i64 x.Partial.Aj,.int .i64 x.Partial.Ao,.int .i64 x.Partial.Time.Bu,.int .i64 x.Partial.Time.BG,vs AD x.Partial.Extra,.str x.Partial.Data]
abbrev SM(x:AN)(c0:AB):List AB:=[c0,.str x.Ah,.int .u8 x.Kind,.int .i64 x.Mode,.int .i64 x.BO,.int .i64 x.BW,.int .i64 x.B2,.int .i64 x.Time,.str x.AZ,.str x.Ad,.int .i64 x.Aj,.int .i64 x.Ao,.int .i64 x.Form]
abbrev JN(x:AN)(c0 c1:AB):List AB:=[c0,c1,.int .u8 x.Kind,.int .i64 x.Mode,.int .i64 x.BO,.int .i64 x.BW,.int .i64 x.B2,.int .i64 x.Time,.str x.AZ,.str x.Ad,.int .i64 x.Aj,.int .i64 x.Ao,.int .i64 x.Form]
abbrev A7(x:AJ)(c2:AB):List AB:=[.str x.Name,.str x.Ah,c2,.int .i64 x.Mode,.int .i64 x.BO,.int .i64 x.BW,.str x.AZ,.str x.Ad,.int .i64 x.Aj,.int .i64 x.Ao,.int .i64 x.Time.Bu,.int .i64 x.Time.BG,vs AD x.Extra,.str x.Data]
abbrev FL(x:BM)(c0 c3:AB):List AB:=[c0,.str x.Name,.str x.Ah,c3,.bool x.Fv,.bool x.HJ]
end Go.Av.L
