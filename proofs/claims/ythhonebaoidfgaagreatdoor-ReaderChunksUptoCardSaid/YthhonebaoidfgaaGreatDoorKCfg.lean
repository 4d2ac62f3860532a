/-
 A part.
-/
import Derived.Test.YthhonebaoidfgaaGreatDoorAvMw
import Derived.Test.YthhonebaoidfgaaGreatDoorAvTold
import Derived.Test.YthhonebaoidfgaaGreatDoorAvHt
set_option linter.unusedSimpArgs false
namespace Go.Av.L
open Go.Av Go.Lib
set_option linter.unusedSimpArgs false
set_option linter.unusedVariables false
abbrev UV:=List UInt8
def kinds:List Nat:=[0,0,0,0,1,0,1,1,7,1,0,0,0,0,0,0,0,0,1,1,1,1,1,11,1,1,1,1,7,1,1,0,0,0,0,0,0,0,0,0,0,0,0,0,0,0,0,1,1,1,1,1,1,1,1,1,1,8,1,1,1,1,1,1,1,1,0,0,0,0,0,0,0,0,0,0,1,0,0,0,1,1,1,1,1,1,1,8,1,1,0,0,0,0,0,0,0,0,7,0,0,0,0,1,1,0,1,1,1,1,1,1,1,1,3,0,0,1,0,1,1,3,0,0,1,0,10,1,1,1,1,0,0,0,0,0,0,0,1,1,1,1,1,1,1,1,3,7,7,0,1,1,1,1,1,1,1,1,1,1,1,1,1,1,0,0,0,1,1,1,1,1,0,0,1,0,0,1,7,1,0,1,1,3,1,0,1,3,1,1,0,0,0,0,0,0,0,0,0,0,0,1,1,0,0,1,1,1,0,0,0,0,1,3,3,0,3,0,0,1,1,1,0,0,0,0,0,0,0,0,1,1,0,0,0,0,0,0,0,0,0,1,1,1,1,0,0,0,0,0,0,0,0,0,0,0,0,0,0,0,0,1,0,0,0,0,0,0,0,0,0,0,0,0,0,0,0,0,0,0,0,0,0,0,0,0,0,0,0,0,0,0,0,0,0,0,0,0]
def gP:List ((Nat×Nat)×List (Nat×List Nat)):=[((8,15),[(0,[]),(1,[]),(2,[]),(3,[]),(4,[]),(5,[]),(6,[]),(7,[]),(8,[]),(9,[]),(11,[]),(12,[]),(13,[]),(14,[]),(15,[]),(16,[]),(10,[12,16]),(17,[]),(18,[]),(19,[]),(20,[])]),
 ((8,22),[(0,[]),(1,[]),(2,[]),(3,[]),(4,[]),(5,[]),(6,[]),(7,[]),(8,[]),(10,[]),(11,[]),(9,[0,11]),(12,[]),(13,[]),(14,[]),(15,[]),(16,[]),(17,[]),(18,[]),(19,[]),(20,[]),(21,[]),(22,[]),(23,[]),(24,[]),(25,[])]),
 ((18,12),[(0,[]),(1,[]),(2,[]),(3,[]),(4,[]),(8,[]),(9,[]),(10,[]),(11,[]),(12,[]),(15,[]),(16,[]),(17,[]),(18,[]),(19,[]),(5,[12,19]),(6,[12,19]),(7,[]),(13,[]),(14,[]),(20,[]),(21,[]),(22,[]),(23,[])]),
 ((19,1),[(0,[]),(1,[]),(3,[]),(4,[]),(2,[4]),(5,[]),(6,[]),(7,[]),(8,[]),(10,[]),(11,[]),(9,[11]),(12,[]),(13,[]),(14,[]),(15,[]),(16,[]),(18,[]),(19,[]),(17,[19]),(20,[]),(21,[]),(22,[]),(23,[]),(24,[]),(26,[]),(27,[]),(25,[27]),(28,[]),(29,[])]),
 ((20,5),[(0,[]),(2,[]),(3,[]),(6,[]),(7,[]),(10,[]),(11,[]),(14,[]),(15,[]),(18,[]),(19,[]),(23,[]),(25,[]),(26,[]),(30,[]),(31,[]),(34,[]),(35,[]),(38,[]),(39,[]),(42,[]),(43,[]),(1,[3,7,11,15,19,26,31,35,39,43]),(4,[7,11,15,19,26,31,35,39,43]),(5,[]),(8,[11,15,19,26,31,35,39,43]),(9,[]),(12,[15,19,26,31,35,39,43]),(13,[]),(16,[19,26,31,35,39,43]),(17,[]),(20,[26,31,35,39,43]),(21,[]),(22,[]),(24,[]),(27,[31,35,39,43]),(28,[]),(29,[]),(32,[35,39,43]),(33,[]),(36,[39,43]),(37,[]),(40,[43]),(41,[]),(44,[]),(45,[]),(46,[]),(47,[]),(48,[]),(49,[]),(50,[]),(51,[])]),
 ((22,3),[(0,[]),(1,[0]),(2,[]),(3,[]),(4,[]),(5,[])]),
 ((23,4),[(0,[]),(1,[]),(2,[]),(3,[]),(4,[]),(5,[]),(6,[]),(7,[])]),
 ((23,8),[(0,[]),(1,[]),(2,[]),(3,[]),(4,[]),(5,[]),(6,[]),(7,[]),(8,[3]),(9,[])]),
 ((23,9),[(0,[]),(1,[]),(2,[]),(3,[]),(4,[]),(5,[]),(6,[])]),
 ((26,1),[(0,[]),(1,[]),(2,[]),(3,[]),(4,[]),(5,[]),(6,[]),(7,[]),(8,[]),(9,[])]),
 ((27,1),[(0,[]),(1,[]),(2,[]),(3,[]),(5,[]),(6,[]),(7,[]),(8,[]),(9,[]),(11,[]),(12,[]),(13,[]),(14,[]),(17,[]),(18,[]),(19,[]),(20,[]),(4,[8,14,20]),(10,[]),(15,[8,20]),(16,[]),(21,[8]),(22,[]),(23,[])]),
 ((28,12),[(0,[]),(1,[]),(2,[]),(3,[]),(4,[]),(5,[1,3]),(6,[]),(7,[3]),(8,[])]),
 ((29,6),[(0,[]),(1,[]),(2,[]),(3,[]),(4,[]),(5,[]),(6,[]),(7,[]),(8,[]),(9,[])]),
 ((48,4),[(0,[]),(1,[]),(2,[]),(3,[]),(4,[]),(5,[]),(6,[]),(7,[]),(8,[]),(9,[]),(10,[]),(11,[])]),
 ((51,12),[(0,[]),(1,[]),(2,[]),(3,[]),(4,[]),(5,[]),(6,[]),(7,[]),(8,[]),(9,[])]),
 ((55,8),[(0,[]),(1,[]),(2,[]),(3,[]),(4,[]),(5,[]),(6,[]),(7,[]),(8,[])]),
 ((58,3),[(0,[]),(1,[]),(2,[]),(3,[]),(4,[]),(5,[]),(6,[]),(7,[]),(8,[]),(9,[]),(10,[]),(11,[]),(12,[]),(13,[]),(14,[]),(15,[4]),(16,[]),(17,[]),(18,[]),(19,[])]),
 ((58,10),[(0,[]),(1,[]),(2,[]),(3,[]),(4,[]),(5,[]),(6,[]),(7,[]),(8,[]),(9,[])]),
 ((58,19),[(0,[]),(1,[]),(2,[]),(3,[]),(4,[]),(5,[]),(6,[]),(7,[]),(8,[]),(9,[])]),
 ((58,28),[(0,[]),(1,[]),(2,[]),(3,[]),(4,[]),(5,[]),(6,[]),(7,[]),(8,[]),(9,[]),(10,[]),(11,[]),(12,[3]),(13,[]),(14,[]),(15,[]),(16,[]),(17,[])]),
 ((62,7),[(0,[]),(1,[]),(2,[]),(3,[]),(4,[]),(5,[]),(6,[]),(7,[]),(8,[]),(9,[]),(10,[]),(11,[]),(12,[])]),
 ((64,1),[(0,[]),(1,[]),(3,[]),(4,[]),(5,[]),(7,[]),(8,[]),(2,[4,8]),(6,[]),(9,[]),(10,[]),(11,[])]),
 ((65,6),[(0,[]),(1,[]),(2,[]),(3,[]),(4,[]),(5,[]),(6,[]),(7,[]),(8,[])]),
 ((86,8),[(0,[]),(1,[]),(2,[]),(3,[]),(4,[]),(5,[]),(6,[]),(7,[]),(8,[]),(9,[]),(10,[]),(11,[]),(12,[]),(13,[]),(14,[]),(15,[]),(16,[]),(17,[]),(18,[]),(19,[]),(20,[]),(21,[]),(22,[]),(23,[]),(24,[]),(25,[])]),
 ((109,17),[(0,[]),(3,[]),(4,[]),(1,[4]),(2,[4]),(5,[]),(6,[]),(7,[])]),
 ((110,6),[(0,[]),(1,[]),(2,[]),(3,[]),(4,[]),(5,[]),(6,[]),(7,[])]),
 ((110,4),[(0,[]),(1,[]),(2,[]),(3,[]),(4,[]),(5,[]),(6,[]),(7,[]),(8,[]),(9,[]),(10,[]),(11,[]),(12,[]),(13,[]),(14,[]),(15,[]),(16,[])]),
 ((111,1),[(0,[]),(1,[]),(2,[]),(3,[]),(4,[]),(5,[]),(6,[]),(7,[]),(8,[]),(14,[]),(9,[14]),(10,[]),(11,[]),(12,[]),(13,[]),(15,[]),(16,[]),(17,[])]),
 ((111,6),[(0,[]),(1,[]),(2,[]),(3,[]),(4,[]),(5,[]),(6,[]),(7,[]),(8,[]),(9,[]),(10,[]),(11,[]),(12,[]),(13,[]),(14,[]),(15,[]),(16,[]),(17,[]),(18,[]),(19,[]),(20,[]),(21,[]),(22,[]),(23,[]),(24,[]),(25,[]),(26,[])]),
 ((120,13),[(0,[]),(1,[]),(2,[1]),(3,[])]),
 ((144,5),[(0,[]),(1,[]),(2,[]),(3,[]),(10,[]),(4,[0,10]),(5,[10]),(6,[]),(7,[]),(8,[]),(9,[]),(11,[]),(12,[]),(13,[])]),
 ((144,10),[(0,[]),(1,[]),(2,[]),(3,[0]),(4,[]),(5,[]),(6,[])]),
 ((151,6),[(0,[]),(1,[]),(2,[]),(3,[]),(4,[]),(5,[]),(6,[]),(7,[]),(8,[]),(9,[]),(10,[]),(11,[]),(12,[]),(13,[]),(14,[]),(15,[]),(16,[]),(17,[]),(18,[]),(19,[]),(20,[]),(21,[]),(22,[]),(23,[]),(24,[]),(25,[]),(26,[]),(27,[]),(28,[]),(29,[]),(30,[]),(31,[])]),
 ((169,8),[(0,[]),(1,[]),(2,[]),(3,[]),(4,[]),(5,[]),(6,[]),(7,[]),(8,[]),(9,[])]),
 ((178,14),[(0,[]),(1,[]),(2,[1]),(3,[]),(4,[])])]
def SY:List (Nat×List Bool):=[(4,[true,true,true]),(6,[true]),(8,[false,true,true]),(9,[true,true]),(18,[true]),(19,[true]),(20,[true]),(22,[true]),(29,[true,true]),(30,[true,true]),(47,[true]),(49,[true]),(57,[false,true]),(63,[true]),(64,[true]),(65,[true,true]),(89,[true]),(98,[true,false]),(108,[true]),(110,[false,true]),(111,[false,false,true]),(117,[true]),(119,[true,false]),(120,[true,false]),(124,[true]),(126,[true]),(127,[true]),(129,[true]),(143,[true,false]),(144,[true,true,true]),(145,[true,false]),(148,[true,true]),(151,[true]),(153,[true]),(158,[true]),(167,[true]),(178,[true,true]),(188,[true])]
def kC:List (Nat×List AD):=[(0,[]),
 (1,[.int .u64 1,.int .u64 10,.int .u64 100,.int .u64 1000,.int .u64 10000,.int .u64 100000,.int .u64 1000000,.int .u64 10000000,.int .u64 100000000,.int .u64 1000000000,.int .u64 10000000000,.int .u64 100000000000,.int .u64 1000000000000,.int .u64 10000000000000,.int .u64 100000000000000,.int .u64 1000000000000000,.int .u64 10000000000000000,.int .u64 100000000000000000,.int .u64 1000000000000000000,.int .u64 10000000000000000000]),
 (2,[.int .u8 0,.int .u8 1,.int .u8 28,.int .u8 2,.int .u8 29,.int .u8 14,.int .u8 24,.int .u8 3,.int .u8 30,.int .u8 22,.int .u8 20,.int .u8 15,.int .u8 25,.int .u8 17,.int .u8 4,.int .u8 8,.int .u8 31,.int .u8 27,.int .u8 13,.int .u8 23,.int .u8 21,.int .u8 19,.int .u8 16,.int .u8 7,.int .u8 26,.int .u8 12,.int .u8 18,.int .u8 6,.int .u8 11,.int .u8 5,.int .u8 10,.int .u8 9]),
 (3,[.int .u8 0,.int .u8 1,.int .u8 56,.int .u8 2,.int .u8 57,.int .u8 49,.int .u8 28,.int .u8 3,.int .u8 61,.int .u8 58,.int .u8 42,.int .u8 50,.int .u8 38,.int .u8 29,.int .u8 17,.int .u8 4,.int .u8 62,.int .u8 47,.int .u8 59,.int .u8 36,.int .u8 45,.int .u8 43,.int .u8 51,.int .u8 22,.int .u8 53,.int .u8 39,.int .u8 33,.int .u8 30,.int .u8 24,.int .u8 18,.int .u8 12,.int .u8 5,.int .u8 63,.int .u8 55,.int .u8 48,.int .u8 27,.int .u8 60,.int .u8 41,.int .u8 37,.int .u8 16,.int .u8 46,.int .u8 35,.int .u8 44,.int .u8 21,.int .u8 52,.int .u8 32,.int .u8 23,.int .u8 11,.int .u8 54,.int .u8 26,.int .u8 40,.int .u8 15,.int .u8 34,.int .u8 20,.int .u8 31,.int .u8 10,.int .u8 25,.int .u8 14,.int .u8 19,.int .u8 9,.int .u8 13,.int .u8 8,.int .u8 7,.int .u8 6])]
def exts:List (Nat×Nat×Nat×Nat):=[(114,12,0,0),(121,11,122,0),(146,8,0,0),(183,2,211,9),(187,33,0,2),(213,13,0,0),(214,14,0,0),(216,1,0,0)]
def lx:fE:=[LT.cR]
def iF:List (Nat×Nat×List Nat×List Nat×Option Nat):=[(126,2,[37,1,6],[],none),(126,4,[57],[2],none)]
noncomputable def cfg:Hv:={P:=Go.Proofs.Tryz.prog,kind:=UC kinds,OZ:=SE gP,ext:=PN Go.Proofs.Tryz.prog lx exts,DC:=NW kC,ki:=bW Go.Proofs.Tryz.prog (SE gP),still:=gM SY,ab:=bx iF,dec:=X0}
theorem mZ{xs:List AD}{s:List Bool}(h:CQ s xs=xs):CQ s xs=xs:=h
def tl(f:Nat)(xs:List AD)(w:AD):Prop:=∀{g:Gd} {h:AF} {F:List Ck} {av:List AD} (A:HH g h [] F) (hc:CQ (cfg.still f) av=xs:=by first|exact mZ kr|kernel_rfl),∃v h',Cf cfg g h f av v h'/\v=w/\HH g h' [] F
set_option maxHeartbeats 1000000 in
theorem aP(a b:K0)(W:World):Calls Go.Proofs.Tryz.prog 122 #[.agg #[.string ⟨⟨a.1⟩⟩,.string ⟨⟨a.2⟩⟩],.agg #[.string ⟨⟨b.1⟩⟩,.string ⟨⟨b.2⟩⟩]] W λe w'=>e=.returned (.int .i64 (compareBytes a.1 b.1))/\∃q os',w'=Go.Sort.grow (W.drewN q) os':=by
 have B:=λW'=>Go.Proofs.Any.strings_Compare Go.Proofs.Tryz.eB ⟨⟨a.1⟩⟩ ⟨⟨b.1⟩⟩ W';change ∀W',Calls Go.Proofs.Tryz.prog 123 _ _ _ at B;simp only[]at B;generalize compareBytes a.1 b.1=r at B⊢
 go_enter Go.Proofs.Tryz.func122,Go.Proofs.Tryz.ntmps122
 go_wp2_with (go_at_call 123;refine(B _).mono ?_;rintro e w' ⟨rfl,rfl⟩)
 go_ret
 exact⟨rfl,0,_,by rw[Go.Sort.alloc_eq_grow,Go.Sort.alloc_eq_grow,Go.Sort.grow_grow];rfl⟩
theorem fU:∀p∈exts,Gs cfg.P cfg.DC p.1 (bV cfg.P lx p.2):=by
 intro p C;simp only[exts,zF,yb,or_false]at C;rcases C with rfl|rfl|rfl|rfl|rfl|rfl|rfl|rfl
 ·exact eC Go.Proofs.Tryz.eG (gn:=1) kr kr
 ·exact c9 Go.Proofs.Tryz.b8 (λw=>kr) (λw=>kr) (Z6 Go.Proofs.Tryz.func122 kr rfl) aP _
 ·exact jI Go.Proofs.Tryz.iu kr
 ·exact ZF Go.Proofs.Tryz.Zs Go.Proofs.Tryz.eu Go.Proofs.Tryz.fS rfl rfl kr _
 ·exact LT.jO
 ·exact iz Go.Proofs.Tryz.jL (gn:=1) kr kr
 ·exact ic Go.Proofs.Tryz.il _
 ·exact Xx _ kr (λfn h=>by
   obtain rfl:=zJ (Go.Proofs.Tryz.func216.symm.trans h)
   exact⟨by kernel_rfl,by kernel_rfl⟩)
theorem ix:IZ cfg:=Z9 (ks:=kinds) (l:=exts) rfl kr kr rfl rfl kr fU
structure AO where
 Name:List UInt8
 BG:List UInt8
 Kind:Int
 Mode:Int
 Cq:Int
 Cy:Int
 B9:Int
 Time:Int
 A6:List UInt8
 A7:List UInt8
 BY:Int
 Bi:Int
 Form:Int
def AP(x:AO):List AD:=[.str x.Name,.str x.BG,.int .u8 x.Kind,.int .i64 x.Mode,.int .i64 x.Cq,.int .i64 x.Cy,.int .i64 x.B9,.int .i64 x.Time,.str x.A6,.str x.A7,.int .i64 x.BY,.int .i64 x.Bi,.int .i64 x.Form]
structure AB where
 Key:List UInt8
 Value:List UInt8
def AA(x:AB):List AD:=[.str x.Key,.str x.Value]
theorem BK:Me AA 2:=⟨λ_=>rfl,λ_=>rfl,λ_=>rfl⟩
structure B1 where
 H:AO
 Hh:List AB
 IE:List UInt8
def BF(x:B1):List AD:=[.str x.H.Name,.str x.H.BG,.int .u8 x.H.Kind,.int .i64 x.H.Mode,.int .i64 x.H.Cq,.int .i64 x.H.Cy,.int .i64 x.H.B9,.int .i64 x.H.Time,.str x.H.A6,.str x.H.A7,.int .i64 x.H.BY,.int .i64 x.H.Bi,.int .i64 x.H.Form,vs AA x.Hh,.str x.IE]
theorem H2:Me BF 15:=⟨λ_=>rfl,λ_=>rfl,λ_=>rfl⟩
structure Bb where
 Head:Int
 Name:Int
structure Aj where
 BC:List (List UInt8)
 QM:List UInt8
 EM:Int
 Gu:Bool
structure Ba where
 CU:List AB
 Gm:List UInt8
 HR:List UInt8
 ED:Bool
 Dg:Bool
 EU:Bool
def CB(x:Ba):List AD:=[vs AA x.CU,.str x.Gm,.str x.HR,.bool x.ED,.bool x.Dg,.bool x.EU]
structure AG where
 DI:Bb
 Al:Aj
 Af:Int
 Ao:Int
 at_:Int
 Kb:Bool
 Dl:Int
 Lh:Int
 Bg:AO
 IW:Int
 A9:List UInt8
 BV:Ba
 B6:List AB
structure Ax where
 DR:Int
 CE:Int
structure AM where
 Name:List UInt8
 BG:List UInt8
 Kind:Int
 Mode:Int
 Cq:Int
 Cy:Int
 A6:List UInt8
 A7:List UInt8
 BY:Int
 Bi:Int
 Time:Ax
 Extra:List AB
 Data:List UInt8
def AN(x:AM):List AD:=[.str x.Name,.str x.BG,.int .u8 x.Kind,.int .i64 x.Mode,.int .i64 x.Cq,.int .i64 x.Cy,.str x.A6,.str x.A7,.int .i64 x.BY,.int .i64 x.Bi,.int .i64 x.Time.DR,.int .i64 x.Time.CE,vs AA x.Extra,.str x.Data]
theorem Gg:Me AN 14:=⟨λ_=>rfl,λ_=>rfl,λ_=>rfl⟩
structure AS where
 Kind:Int
 Cb:AM
 B9:Int
 Bytes:List UInt8
def As(x:AS):List AD:=[.int .i64 x.Kind,.str x.Cb.Name,.str x.Cb.BG,.int .u8 x.Cb.Kind,.int .i64 x.Cb.Mode,.int .i64 x.Cb.Cq,.int .i64 x.Cb.Cy,.str x.Cb.A6,.str x.Cb.A7,.int .i64 x.Cb.BY,.int .i64 x.Cb.Bi,.int .i64 x.Cb.Time.DR,.int .i64 x.Cb.Time.CE,vs AA x.Cb.Extra,.str x.Cb.Data,.int .i64 x.B9,.str x.Bytes]
theorem CY:Me As 17:=⟨λ_=>rfl,λ_=>rfl,λ_=>rfl⟩
structure Xy where
 w0:Int
 w1:Int
structure BS where
 from_:Int
 EM:Int
def Hr(x:BS):List AD:=[.int .i64 x.from_,.int .i64 x.EM]
theorem IJ:Me Hr 2:=⟨λ_=>rfl,λ_=>rfl,λ_=>rfl⟩
structure JJ where
 w0:BS
 w1:BS
 w2:BS
 w3:BS
 w4:BS
 w5:BS
 w6:BS
 w7:BS
 w8:BS
 w9:BS
 Vb:BS
 U2:BS
def O4(x:JJ):List AD:=[.int .i64 x.w0.from_,.int .i64 x.w0.EM,.int .i64 x.w1.from_,.int .i64 x.w1.EM,.int .i64 x.w2.from_,.int .i64 x.w2.EM,.int .i64 x.w3.from_,.int .i64 x.w3.EM,.int .i64 x.w4.from_,.int .i64 x.w4.EM,.int .i64 x.w5.from_,.int .i64 x.w5.EM,.int .i64 x.w6.from_,.int .i64 x.w6.EM,.int .i64 x.w7.from_,.int .i64 x.w7.EM,.int .i64 x.w8.from_,.int .i64 x.w8.EM,.int .i64 x.w9.from_,.int .i64 x.w9.EM,.int .i64 x.Vb.from_,.int .i64 x.Vb.EM,.int .i64 x.U2.from_,.int .i64 x.U2.EM]
structure A8 where
 L:List AM
 Cn:Bool
 E:Int
 At:Int
 E8:Bool
 Partial:AM
def Ay(x:A8):List AD:=[vs AN x.L,.bool x.Cn,.int .i64 x.E,.int .i64 x.At,.bool x.E8,.str x.Partial.Name,.str x.Partial.BG,.int .u8 x.Partial.Kind,.int .i64 x.Partial.Mode,.int .i64 x.Partial.Cq,.int .i64 x.Partial.Cy,.str x.Partial.A6,.str x.Partial.A7,.int .i64 x.Partial.BY,.int .i64 x.Partial.Bi,.int .i64 x.Partial.Time.DR,.int .i64 x.Partial.Time.CE,vs AA x.Partial.Extra,.str x.Partial.Data]
abbrev OB:List AD:=[.str ([]:List UInt8),.str ([]:List UInt8),Ab 0,Ai 0,Ai 0,Ai 0,.str ([]:List UInt8),.str ([]:List UInt8),Ai 0,Ai 0,Ai 0,Ai 0,.slice none 0,.str ([]:List UInt8)]
abbrev RW:List AD:=[.str ([]:List UInt8),.str ([]:List UInt8),Ab 0,Ai 0,Ai 0,Ai 0,Ai 0,Ai 0,.str ([]:List UInt8),.str ([]:List UInt8),Ai 0,Ai 0,Ai 0]
abbrev TY:List AD:=[.slice none 0,.bool false,Ai 0,Ai 0,.bool false,.str ([]:List UInt8),.str ([]:List UInt8),Ab 0,Ai 0,Ai 0,Ai 0,.str ([]:List UInt8),.str ([]:List UInt8),Ai 0,Ai 0,Ai 0,Ai 0,.slice none 0,.str ([]:List UInt8)]
abbrev lH:List AD:=[.str ([]:List UInt8),.str ([]:List UInt8),Ab (0:Int),Ai (0:Int),Ai (0:Int),Ai (0:Int),.str ([]:List UInt8),.str ([]:List UInt8),Ai (0:Int),Ai (0:Int),Ai (0:Int),Ai (0:Int),.slice none 0,.str ([]:List UInt8)]
abbrev VH(x:AO)(c0:AD):List AD:=[c0,.str x.BG,.int .u8 x.Kind,.int .i64 x.Mode,.int .i64 x.Cq,.int .i64 x.Cy,.int .i64 x.B9,.int .i64 x.Time,.str x.A6,.str x.A7,.int .i64 x.BY,.int .i64 x.Bi,.int .i64 x.Form]
abbrev Bf(x:AM)(c12:AD):List AD:=[.str x.Name,.str x.BG,.int .u8 x.Kind,.int .i64 x.Mode,.int .i64 x.Cq,.int .i64 x.Cy,.str x.A6,.str x.A7,.int .i64 x.BY,.int .i64 x.Bi,.int .i64 x.Time.DR,.int .i64 x.Time.CE,c12,.str x.Data]
abbrev Rq(x:AM)(c2:AD):List AD:=[.str x.Name,.str x.BG,c2,.int .i64 x.Mode,.int .i64 x.Cq,.int .i64 x.Cy,.str x.A6,.str x.A7,.int .i64 x.BY,.int .i64 x.Bi,.int .i64 x.Time.DR,.int .i64 x.Time.CE,vs AA x.Extra,.str x.Data]
abbrev BA(x:A8)(c0 c17:AD):List AD:=[c0,.bool x.Cn,.int .i64 x.E,.int .i64 x.At,.bool x.E8,.str x.Partial.Name,.str x.Partial.BG,.int .u8 x.Partial.Kind,.int .i64 x.Partial.Mode,.int .i64 x.Partial.Cq,.int .i64 x.Partial.Cy,.str x.Partial.A6,.str x.Partial.A7,.int .i64 x.Partial.BY,.int .i64 x.Partial.Bi,.int .i64 x.Partial.Time.DR,.int .i64 x.Partial.Time.CE,c17,.str x.Partial.Data]
abbrev FH(x:A8)(c2 c3:AD):List AD:=[vs AN x.L,.bool x.Cn,c2,c3,.bool x.E8,.str x.Partial.Name,.str x.Partial.BG,.int .u8 x.Partial.Kind,.int .i64 x.Partial.Mode,.int .i64 x.Partial.Cq,.int .i64 x.Partial.Cy,.str x.Partial.A6,.str x.Partial.A7,.int .i64 x.Partial.BY,.int .i64 x.Partial.Bi,.int .i64 x.Partial.Time.DR,.int .i64 x.Partial.Time.CE,vs AA x.Partial.Extra,.str x.Partial.Data]
abbrev Ak(x:Aj)(c0:AD):List AD:=[c0,.str x.QM,.int .i64 x.EM,.bool x.Gu]
abbrev AR(x:AG)(c2 c23 c24 c30:AD):List AD:=[.int .i64 x.DI.Head,.int .i64 x.DI.Name,c2,.int .i64 x.Af,.int .i64 x.Ao,.int .i64 x.at_,.bool x.Kb,.int .i64 x.Dl,.int .i64 x.Lh,.str x.Bg.Name,.str x.Bg.BG,.int .u8 x.Bg.Kind,.int .i64 x.Bg.Mode,.int .i64 x.Bg.Cq,.int .i64 x.Bg.Cy,.int .i64 x.Bg.B9,.int .i64 x.Bg.Time,.str x.Bg.A6,.str x.Bg.A7,.int .i64 x.Bg.BY,.int .i64 x.Bg.Bi,.int .i64 x.Bg.Form,.int .i64 x.IW,c23,c24,.str x.BV.Gm,.str x.BV.HR,.bool x.BV.ED,.bool x.BV.Dg,.bool x.BV.EU,c30]
abbrev Jq(x:AG)(c2 c3 c23 c24 c30:AD):List AD:=[.int .i64 x.DI.Head,.int .i64 x.DI.Name,c2,c3,.int .i64 x.Ao,.int .i64 x.at_,.bool x.Kb,.int .i64 x.Dl,.int .i64 x.Lh,.str x.Bg.Name,.str x.Bg.BG,.int .u8 x.Bg.Kind,.int .i64 x.Bg.Mode,.int .i64 x.Bg.Cq,.int .i64 x.Bg.Cy,.int .i64 x.Bg.B9,.int .i64 x.Bg.Time,.str x.Bg.A6,.str x.Bg.A7,.int .i64 x.Bg.BY,.int .i64 x.Bg.Bi,.int .i64 x.Bg.Form,.int .i64 x.IW,c23,c24,.str x.BV.Gm,.str x.BV.HR,.bool x.BV.ED,.bool x.BV.Dg,.bool x.BV.EU,c30]
abbrev G6(x:AG)(c2 c4 c23 c24 c30:AD):List AD:=[.int .i64 x.DI.Head,.int .i64 x.DI.Name,c2,.int .i64 x.Af,c4,.int .i64 x.at_,.bool x.Kb,.int .i64 x.Dl,.int .i64 x.Lh,.str x.Bg.Name,.str x.Bg.BG,.int .u8 x.Bg.Kind,.int .i64 x.Bg.Mode,.int .i64 x.Bg.Cq,.int .i64 x.Bg.Cy,.int .i64 x.Bg.B9,.int .i64 x.Bg.Time,.str x.Bg.A6,.str x.Bg.A7,.int .i64 x.Bg.BY,.int .i64 x.Bg.Bi,.int .i64 x.Bg.Form,.int .i64 x.IW,c23,c24,.str x.BV.Gm,.str x.BV.HR,.bool x.BV.ED,.bool x.BV.Dg,.bool x.BV.EU,c30]
abbrev CX(x:Ba)(c0:AD):List AD:=[c0,.str x.Gm,.str x.HR,.bool x.ED,.bool x.Dg,.bool x.EU]
theorem wa{p:Prop}(h:p:=by
 refine Di 7 id (Q8 16 3 0 A H λD t H=>?_);refine AL 3 [(19,.agg [.str p0,.str p1])] H λD H=>?_;obtain⟨Z,e2,A⟩:=A.pL 100 [.str p0,.str p1];refine Bj 20 (Ad (some G.size) (([(⟨p0,p1⟩:AB)]:List AB).length)) e2 H λD t H=>?_;obtain⟨B,M⟩:=Ap M;obtain⟨r1,S,X,E⟩:=HH.Jm BK (by decide) A 5 (xs:=p4) (ys:=([(⟨p0,p1⟩:AB)]:List AB)) rfl (DO A 0 rfl (n:=([(⟨p0,p1⟩:AB)]:List AB).length) (z:=2) rfl (by decide)) rfl rfl B;replace A:HH g S [.Am (some G.size) 100 ([.str p0,.str p1]),_,_,_,_,.Am r1 100 (Am AA (p4++([(⟨p0,p1⟩:AB)]:List AB)))] F:=E;replace A:=A.k5 1 2 3 4 5;refine Az 21 _ _ H (λD=>.of (GX (s:=GA rp4_0 p4.length) kr X)) λD t H=>?_;obtain⟨K,X,E⟩:=A.st 3 rfl (o:=0) (new:=[Ad r1 ((p4++([(⟨p0,p1⟩:AB)]:List AB)).length)]) (ds:=[Ad r1 ((p4++([(⟨p0,p1⟩:AB)]:List AB)).length)]) (zd rfl) rfl rfl;replace A:HH g K [_,_,_,oB bp4 [Ad r1 ((p4++([(⟨p0,p1⟩:AB)]:List AB)).length)],_] F:=E;refine Of X H λD t H=>?_;refine An ?_;obtain⟨rfl,rfl⟩:=Bn M;refine⟨.inr rfl,.tuple [],rH H,?_⟩;replace A:=A.k4 1 2 3 4
 exact⟨r1,rfl,A⟩):p:=h
theorem wb{p:Prop}(h:p:=by
 obtain⟨rfl,rfl⟩:=Bn M
 exact⟨.inl rfl,_,rH H,rfl,A⟩):p:=h
theorem wd{p:Prop}(h:p:=by
 obtain rfl:=Ar M
 exact⟨.inl rfl,_,rH H,rfl,A⟩):p:=h
theorem we{p:Prop}(h:p:=by
 refine AE 2 (Az 15 _ _ H (λD=>.of (Bt kr (A.GL 0 rfl (o:=0) (n:=13) ⟨zd rfl,rfl⟩))) λD t H=>?_);obtain⟨I,X,A⟩:=A.s2 0 (AP x1);refine Cx X H λD t H=>?_;refine BN id (AY ?_);obtain⟨rfl,rfl⟩:=Bn M;refine⟨.inl rfl,.tuple [],rH H,?_⟩;replace A:=A.k4 1 2 3 4
 exact⟨rp4_0,rfl,A⟩):p:=h
theorem wg{p:Prop}(h:p:=by
 obtain rfl:=Ar M
 exact An ⟨H.ls,A⟩):p:=h
theorem wh{p:Prop}(h:p:=by
 refine AK 5 [(7,.bool true)] H λD H=>AU (G7 6 32 ?_);refine AK 32 [(57,.bool true)] H λD H=>DM (x:=.tmp 57) kr H (λD=>kr) ?_;refine AE 1 (AK 1 [(2,.bool false)] H λD H=>AY ?_);replace A:=A.k3 1 2 3
 exact nr M λe=>Or.inr (.inl ⟨_,rfl,e,H.ls,A⟩)):p:=h
theorem wi{p:Prop}(h:p:=by
 obtain rfl:=Ar M
 exact⟨.inl rfl,_,rH H,rfl,A.d0⟩):p:=h
theorem wj{p:Prop}(h:p:=by
 refine Di 7 id (Q8 16 3 0 A H λD t H=>?_);refine AL 3 [(19,.agg [.str p0,.str p1])] H λD H=>?_;obtain⟨T,e2,A⟩:=A.pL 100 [.str p0,.str p1];refine Bj 20 (Ad (some J.size) (([(⟨p0,p1⟩:AB)]:List AB).length)) e2 H λD t H=>?_;obtain⟨B,M⟩:=Ap M;obtain⟨r1,K,X,E⟩:=HH.Jm BK (by decide) A 5 (xs:=p4) (ys:=([(⟨p0,p1⟩:AB)]:List AB)) rfl (DO A 0 rfl (n:=([(⟨p0,p1⟩:AB)]:List AB).length) (z:=2) rfl (by decide)) rfl rfl B;replace A:HH g K [.Am (some J.size) 100 ([.str p0,.str p1]),_,_,_,_,.Am r1 100 (Am AA (p4++([(⟨p0,p1⟩:AB)]:List AB)))] F:=E;replace A:=A.k5 1 2 3 4 5;refine Az 21 _ _ H (λD=>.of (GX (s:=GA rp4_0 p4.length) kr X)) λD t H=>?_;obtain⟨U,X,E⟩:=A.st 3 rfl (o:=0) (new:=[Ad r1 ((p4++([(⟨p0,p1⟩:AB)]:List AB)).length)]) (ds:=[Ad r1 ((p4++([(⟨p0,p1⟩:AB)]:List AB)).length)]) (zd rfl) rfl rfl;replace A:HH g U [_,_,_,oB bp4 [Ad r1 ((p4++([(⟨p0,p1⟩:AB)]:List AB)).length)],_] F:=E;refine Of X H λD t H=>?_;refine An ?_;obtain⟨rfl,rfl⟩:=Bn M;refine⟨.inr rfl,.tuple [],rH H,?_⟩;replace A:=A.k4 1 2 3 4
 exact⟨r1,rfl,A⟩):p:=h
theorem wm{p:Prop}(h:p:=by
 refine Be (i:=0) kr ?_
 exact nr M λe=>.inl ⟨_,rfl,e,H.ls,A⟩):p:=h
theorem wn{p:Prop}(h:p:=by
 obtain⟨rfl,rfl,rfl⟩:=Ky M
 exact⟨.inl rfl,_,rH H,rfl,A⟩):p:=h
theorem wo{p:Prop}(h:p:=by
 exact .inl ⟨_,rfl,Ar M,H.ls,A⟩):p:=h
theorem wq{p:Prop}(h:p:=by
 refine Cx X H λD t H=>?_;refine AK 1 [(3,.bool false)] H λD H=>AY ?_;replace A:=A.k3 1 2 3
 exact .inr (.inl ⟨_,rfl,Ar M,H.ls,A⟩)):p:=h
theorem wt{p:Prop}(h:p:=by
 refine Bz 2 [] X H λD t H=>?_;refine An ?_;obtain rfl:=Ar M;refine⟨.inr rfl,.tuple [],rH H,?_⟩
 exact⟨rfl,A⟩):p:=h
theorem wu{p:Prop}(h:p:=by
 refine C2 ?_;replace A:=A.k5 1 3 4 0 5
 exact .inl ⟨_,_,_,_,_,_,_,_,_,_,_,_,_,_,_,rfl,Ar M,_,H.ls,A⟩):p:=h
theorem wv{p:Prop}(h:p:=by
 replace A:=A.k5 1 3 4 0 5
 exact .inr (.inl ⟨_,_,_,_,_,_,_,_,_,_,_,_,_,_,_,_,rfl,Ar M,H.ls,A⟩)):p:=h
theorem wx{p:Prop}(h:p:=by
 exact C2 (.inl ⟨_,rfl,Ar M,H.ls,A⟩)):p:=h
theorem wy{p:Prop}(h:p:=by
 exact nr M λe=>Or.inr (.inl ⟨_,rfl,e,H.ls,A⟩)):p:=h
theorem wz{p:Prop}(h:p:=by
 refine AE 1 (AK 1 [(6,Ai 6)] H λD H=>AY ?_)
 exact wb):p:=h
theorem v6{p:Prop}(h:p:=by
 refine Be (i:=0) kr ?_
 exact nr M λe=>.inl ⟨rfl,e,H.ls,A⟩):p:=h
theorem v7{p:Prop}(h:p:=by
 refine Bz 2 [] X H λD t H=>?_;refine CI 1 id (AK 1 [(3,Ai 0)] H λD H=>AY ?_)
 exact wb):p:=h
theorem v8{p:Prop}(h:p:=by
 replace H:=H.kn 23 B;obtain⟨x7,X,M⟩:=AJ M;refine BQ 2 [] 26 (Ab x7) h1 H (λD=>.of (Eg kr X)) λD t H=>?_;refine AL 2 [(28,.bool (decide (x7>57)))] H λD H=>?_
 exact wg):p:=h
theorem ve{p:Prop}(h:p:=by
 refine Be (i:=0) kr ?_;replace A:=A.k5 2 3 0 1 4
 exact nr M λe=>.inl ⟨_,_,_,rfl,e,w1,G,w2,C,_,_,H.ls,A⟩):p:=h
theorem vg{p:Prop}(h:p:=by
 exact nx M ⟨_,_,rfl,H.ls,A⟩):p:=h
theorem vh{p:Prop}(h:p:=by
 exact nr M λe=>Or.inr (.inl ⟨_,_,rfl,e,H.ls,A⟩)):p:=h
theorem vi{p:Prop}(h:p:=by
 replace A:=A.d0
 exact⟨rfl,A⟩):p:=h
theorem vj{p:Prop}(h:p:=by
 obtain⟨rfl,rfl⟩:=Bn M
 exact⟨.inl rfl,_,Cc (.cell (rT H) (Cg kr kr (A.la 0 0 2)) (.tmp (rT H) .nil)),rfl,A.d0⟩):p:=h
theorem vk{p:Prop}(h:p:=by
 obtain rfl:=Ar M;replace A:=A.d0
 exact An ⟨H.ls,A⟩):p:=h
theorem vm{p:Prop}(h:p:=by
 intro D H;refine AL 7 [(28,.bool true),(30,.tuple []),(33,.tuple [])] H λD H=>JW [(1,pz h.size),(28,.bool true),(31,.tuple []),(33,.tuple [])] H (λD=>kr) ?_;intro D H;refine AK 2 [(35,.bool true)] H λD H=>DM (x:=.tmp 35) kr H (λD=>kr) ?_;refine AE 1 (AK 1 [(2,Ai 2)] H λD H=>AY ?_)
 exact wi):p:=h
theorem vo{p:Prop}(h:p:=by
 exact nx M ⟨_,rfl,H.ls,A⟩):p:=h
theorem vp{p:Prop}(h:p:=by
 refine AE 1 (AK 1 [(3,Ai 2)] H λD H=>AY ?_)
 exact wb):p:=h
theorem vq{p:Prop}(h:p:=by
 obtain⟨rfl,rfl⟩:=Bn M
 exact⟨.inl rfl,_,Cc (.cell (rT H) (Cg kr kr (A.la 1 0 13)) (.tmp (rT H) .nil)),rfl,A.d0⟩):p:=h
theorem vr{p:Prop}(h:p:=by
 obtain⟨rfl,rfl⟩:=Bn M
 exact⟨.inl rfl,_,rH H,rfl,A.d0⟩):p:=h
theorem vt{p:Prop}(h:p:=by
 refine Bz 1 [] X H λD t H=>?_;refine An ?_
 exact wo):p:=h
theorem vu{p:Prop}(h:p:=by
 replace A:=A.d1
 exact nr M λe=>.inl ⟨_,_,rfl,e,none,H.ls,A⟩):p:=h
theorem vv{p:Prop}(h:p:=by
 refine AE 2 (AK 2 [(2,Ai 0),(3,Ai 6)] H λD H=>AY ?_)
 exact wb):p:=h
theorem vw{p:Prop}(h:p:=by
 refine AE 1 (AK 1 [(14,.bool false)] H λD H=>AU (G8 (x:=.tmp 14) kr H (λD=>kr) ?_));refine Be (i:=0) kr ?_;refine AE 1 (AK 1 [(6,Ai 0)] H λD H=>AY ?_)
 exact wb):p:=h
theorem vz{p:Prop}(h:p:=by
 exact An ⟨H.ls,A⟩):p:=h
theorem u6{p:Prop}(h:p:=by
 replace A:=A.k5 2 3 0 1 4
 exact nx M ⟨_,_,_,rfl,w1,G,w2,C,_,_,H.ls,A⟩):p:=h
theorem u7{p:Prop}(h:p:=by
 refine AE 2 (AK 2 [(4,.str eZ),(5,.bool false)] H λD H=>AY ?_)
 exact wb):p:=h
theorem u9{p:Prop}(h:p:=by
 replace H:=H.kn 23 B;refine AL 5 [(28,.bool true)] H λD H=>?_
 exact wg):p:=h
theorem ua{p:Prop}(h:p:=by
 replace A:=A.DF E;refine BM 2 [] 10 R H λD t H=>?_;refine Bx 5 [(5,.str x1)] 2 H λD H=>AK 2 [(4,.str x1)] H λD H=>AY ?_
 exact wd):p:=h
theorem ub{p:Prop}(h:p:=by
 refine Be (i:=0) kr ?_
 exact nr M λe=>.inl ⟨_,_,rfl,e,H.ls,A⟩):p:=h
theorem uc{p:Prop}(h:p:=by
 obtain⟨rfl,rfl,rfl⟩:=Ky M
 exact⟨.inl rfl,_,Cc (.cell (rT H) (Cg kr kr (A.la 1 0 14)) (.tmp (rT H) (.tmp (rT H) .nil))),rfl,A.d0⟩):p:=h
theorem ud{p:Prop}(h:p:=by
 exact .inl ⟨_,_,_,rfl,Ar M,H.ls,A⟩):p:=h
theorem ue{p:Prop}(h:p:=by
 refine Bz 3 [] X H λD t H=>?_;refine An ?_;replace A:=A.d3
 exact .inl ⟨_,rfl,Ar M,wp0_24,hwp0_24,wp0_30,hwp0_30,H.ls,A⟩):p:=h
theorem uf{p:Prop}(h:p:=by
 refine Be (i:=2) kr ?_
 exact nr M λe=>.inl ⟨_,rfl,e,H.ls,A⟩):p:=h
theorem ug{p:Prop}(h:p:=by
 refine AE 1 (AK 1 [(2,.bool false)] H λD H=>AY ?_)
 exact wd):p:=h
theorem uh{p:Prop}(h:p:=by
 refine AE 1 (AK 1 [(4,.bool false)] H λD H=>AY ?_)
 exact wy):p:=h
theorem uj{p:Prop}(h:p:=by
 refine AE 1 (AK 1 [(4,.bool true)] H λD H=>AY ?_)
 exact wd):p:=h
theorem uk{p:Prop}(h:p:=by
 obtain⟨rfl,rfl⟩:=Bn M
 exact⟨.inl rfl,_,Cc (.cell (rT H) (Cg kr kr (A.la 0 0 13)) (.tmp (rT H) .nil)),rfl,A.d0⟩):p:=h
theorem ul{p:Prop}(h:p:=by
 obtain⟨rfl,rfl⟩:=Bn M
 exact⟨.inl rfl,_,Cc (.cell (rT H) (Cg kr kr (A.la 1 0 2)) (.tmp (rT H) .nil)),rfl,A.d0⟩):p:=h
theorem um{p:Prop}(h:p:=by
 refine CC 1 id (AK 1 [(2,Ai 0)] H λD H=>AY ?_)
 exact wd):p:=h
theorem uo{p:Prop}(h:p:=by
 replace A:=A.DF E;refine BM 2 [] 7 R H λD t H=>?_;refine AK 1 [(4,Ai x1)] H λD H=>AY ?_
 exact wd):p:=h
theorem uq{p:Prop}(h:p:=by
 refine AE 1 (AK 1 [(3,Ai 2)] H λD H=>AY ?_)
 exact wy):p:=h
theorem ur{p:Prop}(h:p:=by
 refine AE 1 (AK 1 [(3,Ai 6)] H λD H=>AY ?_)
 exact wb):p:=h
theorem ut{p:Prop}(h:p:=by
 refine AK 1 [(4,.bool x1)] H λD H=>AY ?_
 exact wd):p:=h
theorem uu{p:Prop}(h:p:=by
 obtain rfl:=Ar M
 exact⟨.inl rfl,_,rH H,_,rfl,A⟩):p:=h
theorem uv{p:Prop}(h:p:=by
 exact nx M ⟨_,_,_,rfl,w7,P,w8,K,_,_,H.ls,A⟩):p:=h
theorem uw{p:Prop}(h:p:=by
 obtain rfl:=Ar M;replace A:=A.k3 1 2 3
 exact vz):p:=h
theorem ux{p:Prop}(h:p:=by
 refine AE 3 (AK 3 [(2,.str eZ),(3,.str eZ),(4,.bool false)] H λD H=>AY ?_)
 exact wn):p:=h
theorem uy{p:Prop}(h:p:=by
 refine AE 4 (AK 4 [(2,.str eZ),(3,.str p0),(4,.bool true)] H λD H=>AY ?_)
 exact wn):p:=h
end Go.Av.L
