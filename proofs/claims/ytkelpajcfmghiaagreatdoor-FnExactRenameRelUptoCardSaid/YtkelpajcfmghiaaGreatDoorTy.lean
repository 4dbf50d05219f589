/- The kinds of the types. Conditions: none. -/
import Derived.Test.YtkelpajcfmghiaaGreatDoorProg
import Derived.Test.YtkelpajcfmghiaaGreatDoorA4
import Derived.KernelRfl
open Go.Proofs.Tryz renaming prog → Jp
set_option linter.unusedVariables false
set_option linter.unusedSimpArgs false
namespace Go.Abs
open Go.Proofs
abbrev QA:Kd:=.int .i64
abbrev QC:Kd:=.str
abbrev Qu:Kd:=.pair QA (.pair QC QA)
abbrev Qs:Kd:=.st Qu
abbrev Qo:Kd:=.sl Qs
abbrev Qy:Kd:=.sl QA
abbrev Qr:Kd:=.pair QA (.pair QC Qy)
abbrev Qn:Kd:=.st Qr
abbrev Qk:Kd:=.sl Qn
abbrev Qz:Kd:=.sl QC
abbrev Qx:Kd:=.pair QC Qz
abbrev Qw:Kd:=.st Qx
abbrev Qv:Kd:=.sl Qw
abbrev Qp:Kd:=.pair QC Qv
abbrev Ql:Kd:=.st Qp
abbrev Qj:Kd:=.sl Ql
abbrev Qt:Kd:=.pair QC (.pair Qz QA)
abbrev Qq:Kd:=.st Qt
abbrev Qm:Kd:=.sl Qq
abbrev Qg:Kd:=.pair Qk (.pair Qn Qk)
abbrev Qf:Kd:=.st Qg
abbrev Qe:Kd:=.sl Qf
abbrev Qd:Kd:=.pair Qj (.pair Qm Qe)
abbrev Qc:Kd:=.st Qd
abbrev Qb:Kd:=.pair Qo (.pair QA (.pair QA (.pair QA (.pair (.bool) (.pair (.bool) (.pair Qk Qc))))))
abbrev Qa:Kd:=.st Qb
abbrev Qi:Kd:=.pair Qo (.pair QA (.pair QA (.pair QA (.bool))))
abbrev Qh:Kd:=.st Qi
abbrev QB:Kd:=.int .u8
abbrev QZ:Md:=.own .ro
abbrev QX:Md:=.pr .ro QZ
abbrev QV:Md:=.own QX
abbrev QR:Md:=.pr .ro QV
abbrev QP:Md:=.own QR
abbrev QY:Md:=.pr QZ .ro
abbrev QU:Md:=.pr .ro QY
abbrev QS:Md:=.own QU
abbrev QT:Md:=.pr .ro QX
abbrev QQ:Md:=.own QT
abbrev QN:Md:=.pr QT QQ
abbrev QJ:Md:=.pr QQ QN
abbrev QH:Md:=.own QJ
abbrev QE:Md:=.pr QS QH
abbrev QD:Md:=.pr QP QE
abbrev QG:Md:=.pr QZ QH
abbrev QF:Md:=.pr QZ QG
abbrev QW:Md:=.pr QZ QZ
abbrev QL:Md:=.pr .ro (.pr .ro (.pr .ro (.pr .ro (.pr .ro (.pr QZ (.pr QZ QW))))))
abbrev QI:Md:=.pr .ro QL
abbrev QM:Md:=.pr .ro (.pr .ro (.pr .ro (.pr .ro (.pr .ro (.pr .ro (.pr QZ QW))))))
abbrev QK:Md:=.pr .ro QM
abbrev QO:Md:=.pr QS QZ
abbrev WJ:Type:=Int×ByteArray×Int
abbrev WF:Type:=List WJ
abbrev WG:Type:=Int×ByteArray×List Int
abbrev WD:Type:=List WG
abbrev WH:Type:=ByteArray×List ByteArray
abbrev Ww:Type:=ByteArray×List WH
abbrev Wu:Type:=List Ww
abbrev WL:Type:=List ByteArray
abbrev WC:Type:=ByteArray×WL×Int
abbrev Wy:Type:=List WC
abbrev Wk:Type:=WD×WG×List WG
abbrev Q7:Type:=WF×Int×Int×Int×Bool×Bool×WD×Wu×Wy×List Wk
abbrev Q6:Type:=Int×WF×Int×Int×Int×Bool×Bool×WD×Wu×Wy×List Wk
abbrev Q0:Type:=Q7->Option Q6
abbrev Q1:Type:=WG×WF×Int×Int×Int×Bool×Bool×WD×Wu×Wy×List Wk
abbrev Q2:Type:=WL×WF×Int×Int×Int×Bool×Bool×WD×Wu×Wy×List Wk
abbrev WN:Type:=List Int
abbrev Q3:Type:=WN×WF×Int×Int×Int×Bool×Bool×WD×Wu×Wy×List Wk
abbrev Q4:Type:=ByteArray×WF×Int×Int×Int×Bool×Bool×WD×Wu×Wy×List Wk
abbrev Q5:Type:=Bool×WF×Int×Int×Int×Bool×Bool×WD×Wu×Wy×List Wk
abbrev Wt:Type:=WF×Int×Int×Int×Bool
abbrev Q8:Type:=Wt×Wu×Wy×List Wk
abbrev Wc:Type:=Wu×Wy×List Wk
abbrev Q9:Type:=Wc×Int×Int
abbrev Wa:Type:=Wc×Bool
abbrev Wb:Type:=Wk×Wk×Unit
abbrev Wl:Type:=Int×Wt×List WG
abbrev Wd:Type:=Wt->WD->Option Wl
abbrev We:Type:=Wk×WF×Int×Int×Int×Bool
abbrev Wf:Type:=WG×Wt×List WG
abbrev Wg:Type:=Int×List Wk
abbrev Wh:Type:=List Wk
abbrev Wi:Type:=WN×Wt×List WG
abbrev Wj:Type:=Ww×Ww×Unit
abbrev Wm:Type:=WC×WC×Unit
abbrev Wn:Type:=WL×WF×Int×Int×Int×Bool
abbrev Wo:Type:=ByteArray×WF×Int×Int×Int×Bool
abbrev Wp:Type:=WH×WH×Unit
abbrev Wq:Type:=WG×WG×Unit
abbrev Ws:Type:=Int×List Ww
abbrev Wv:Type:=Int×List WC
abbrev Wx:Type:=WF×Int×Int
abbrev Wz:Type:=Int×List WG
abbrev WA:Type:=Int×List WH
abbrev WB:Type:=ByteArray×WL×Bool
abbrev WE:Type:=List WH
abbrev WI:Type:=WL×Bool
abbrev WK:Type:=Int×Int×Int
abbrev WM:Type:=Int×Int
abbrev Vm:An:=.seq .nil .nil
abbrev Vj:An:=.cond Vm .nil
abbrev Vf:An:=.seq .nil Vj
abbrev W5:An:=.seq Vf Vm
abbrev W3:An:=.seq .nil W5
abbrev WT:An:=.seq .nil (.seq Vf W3)
abbrev WO:An:=.seq .nil (.seq .nil (.seq Vf WT))
abbrev WW:An:=.seq Vf W5
abbrev WP:An:=.seq .nil (.seq Vf WW)
abbrev Vb:An:=.seq .nil Vf
abbrev W7:An:=.seq .nil Vb
abbrev WV:An:=.seq Vf W7
abbrev WQ:An:=.seq Vf (.seq .nil WV)
abbrev Vl:An:=.cond .nil .nil
abbrev Vi:An:=.seq .nil Vl
abbrev W9:An:=.seq .nil (.cond .nil Vi)
abbrev WR:An:=.seq .nil (.cond .nil (.seq .nil (.cond .nil (.seq .nil (.cond .nil (.seq .nil (.cond .nil W9)))))))
abbrev WS:An:=.seq .nil WT
abbrev WU:An:=.seq .nil WW
abbrev Vk:An:=.seq .nil Vm
abbrev Va:An:=.seq .nil (.cond Vk .nil)
abbrev WX:An:=.seq .nil (.seq .nil (.seq Va Vk))
abbrev WY:An:=.seq .nil W3
abbrev WZ:An:=.seq .nil (.seq Va Vm)
abbrev W0:An:=.seq .nil (.cond Vm Vf)
abbrev W1:An:=.seq .nil (.seq .nil (.seq Vi Vm))
abbrev W2:An:=.seq Vb Vm
abbrev Vc:An:=.seq Vf .nil
abbrev W4:An:=.seq .nil Vc
abbrev Vh:An:=.seq .nil Vk
abbrev W6:An:=.seq .nil (.cond Vh .nil)
abbrev Vd:An:=.seq .nil Vh
abbrev W8:An:=.seq .nil Vd
abbrev Ve:An:=.seq .nil Vi
abbrev Vg:An:=.seq Vi .nil
def TYS:List (Nat×Kd):=[(3,.int .i64),
 (4,.bool),
 (5,.int .u8),
 (9,.str),
 (22,.sl Qn),
 (23,.sl QA),
 (25,.st Qr),
 (26,.sl Qn),
 (28,.st Qg),
 (30,.sl Qn),
 (31,.st Qr),
 (32,.sl Qn),
 (34,.st Qg),
 (43,.sl Ql),
 (44,.sl Qq),
 (45,.sl Qf),
 (47,.st Qd),
 (49,.sl Ql),
 (50,.sl Qq),
 (51,.sl Qf),
 (53,.st Qd),
 (73,.sl QC),
 (75,.st (.pair Qz Qz)),
 (94,.st Qr),
 (104,.st Qt),
 (122,.st Qr),
 (131,.mp QC (.bool)),
 (138,.mp QA QA),
 (141,.mp QC Qn),
 (143,.fcell 111 Qf Qf),
 (153,.sl Qs),
 (158,.st Qb),
 (166,.sl Qw),
 (168,.st Qp),
 (170,.st Qt),
 (173,.sl Qw),
 (175,.st Qp),
 (177,.st Qx),
 (190,.st (.pair Qz Qz)),
 (201,.st Qi),
 (206,.sl QB),
 (211,.err),
 (218,.st Qu),
 (266,.st Qx),
 (269,.st Qz)]
theorem DE:TysOk Jp TYS:=show(TYS.all (uf Jp TYS))=true by kernel_rfl
theorem MIX:Jp.follows .mixedOrders=true:=by kernel_rfl
theorem CO (tb:List (Nat×ij)):cf (jD Jp TYS tb):=Bg DE
theorem MX (tb:List (Nat×ij)):(jD Jp TYS tb).P.follows .mixedOrders=true:=MIX
structure En where
 f:Nat
 e:Nat->ij
 ok:∀n,aq Jp f (e n)
noncomputable def Fz (L:List En)(n:Nat):fS:=jD Jp TYS (L.map λq=>(q.f,q.e n))
theorem J3 (L:List En)(n:Nat):lS (Fz L n):=fJ λq h=>by
 obtain⟨x,_,rfl⟩:=List.mem_map.1 h;exact x.ok n
abbrev GL (r:List RSh)(S:ES):=Nat->Nat->S.V->KN r->KX r->Option (jL r)
structure TE (r:List RSh) where
 j:Nat
 S:ES
 G:GL r S
def GD {r:List RSh}(l:List (TE r))(n:Nat):sO (jL r):=λj e kn kx=>match l with
 |[]=>none
 |q::l=>bif Nat.beq q.j j then ES.on q.S e λx=>q.G n n x kn kx else GD l n j e kn kx
structure Bd where
 a:List ASh
 r:List RSh
 L:List En
 d:rx
 T:List (TE r)
abbrev UO (b:Bd)(j:Nat)(x:Code):Prop:=∀n v,cQ (Fz b.L n) b.d.nt (GD b.T n) (jK (Fz b.L n) b.d (eG b.a v) (ip b.r)) j x
abbrev UL (b:Bd)(l:List (Nat×Code)):Prop:=∀q,q∈l->UO b q.1 q.2
theorem mn {b:Bd}:UL b []:=bD
theorem mc {b:Bd}{j:Nat}{x:Code}{l:List (Nat×Code)}(h:UO b j x)(t:UL b l):UL b ((j,x)::l):=mem_cons h t
theorem lu {b:Bd}{j:Nat}{x:Code}(a:An)(lv:Lv)(live:List Nat)(S:ES)(G:GL b.r S){l:List (Nat×Code)}(hU:UL b l)
 (hT:∀n e kn kx,GD b.T n j e kn kx=ES.on S e λx=>G n n x kn kx:=by intros;rfl) (h0:∀n x kn kx,G n 0 x kn kx=none:=by intros;rfl)
 (hs:∀n v m x' kn kx,mq (Fz b.L n) b.d.nt (GD b.T n) (jK (Fz b.L n) b.d (eG b.a v) (ip b.r)) x a lv (meet (some live) λe=>ES.on S e λx=>G n m x kn kx) kx (S.enc x')=G n (m+1) x' kn kx:=by intros;kernel_rfl)
 (hl:io x a=l:=by kernel_rfl):UO b j (.loop x):=λn v=>
 kq (n:=n) (CO _) (J3 b.L n) (MX _) a lv live S (G n) (hT n) (h0 n) (hs n v) hl λq hq=>hU q hq n v
theorem ju {b:Bd}{j:Nat}{x:Code}(a:An)(lv:Lv)(live:List Nat)(S:ES)(G:GL b.r S){l:List (Nat×Code)}(hU:UL b l)
 (hT:∀n e kn kx,GD b.T n j e kn kx=ES.on S e λx=>G n n x kn kx:=by intros;rfl)
 (hs:∀n v x' kn kx,mq (Fz b.L n) b.d.nt (GD b.T n) (jK (Fz b.L n) b.d (eG b.a v) (ip b.r)) x a lv (meet (some live) kn) kx (S.enc x')=G n n x' kn kx:=by intros;kernel_rfl)
 (hl:io x a=l:=by kernel_rfl):UO b j x:=λn v=>
 jr (CO _) (J3 b.L n) (MX _) a lv live S (G n n) (hT n) (hs n v) hl λq hq=>hU q hq n v
theorem cG (b:Bd){f:Nat}{F:Nat->jB b.a->Option (jL b.r)}(an:An){fn:Func}(hf:Jp.funcs[f]? =some fn){l:List (Nat×Code)}(hU:UL b l)
 (hq:II fn=IJ b.d:=by kernel_rfl) (hl:io b.d.code an=l:=by kernel_rfl)
 (h:∀n v,tA (Fz b.L n) b.d an (GD b.T n) (eG b.a v) (ip b.r)=F n v:=by intros;kernel_rfl):∀n,aq Jp f ⟨b.a,b.r,F n⟩:=λn=>
 iq (c:=Fz b.L n) (e:=⟨b.a,b.r,F n⟩) (d:=b.d) (CO _) (J3 b.L n) (MX _) an hf hq (GD b.T n) hl (λv q hq=>hU q hq n v) (h n)
end Go.Abs
