/- The kinds of the types. Conditions: none. -/
import Derived.Test.YtkelpajcfmghiaaGreatDoorProg
import Derived.Test.YtkelpajcfmghiaaGreatDoorA4
import Derived.KernelRfl
open Go.Proofs.Tryz renaming prog → JC
set_option linter.unusedVariables false
set_option linter.unusedSimpArgs false
namespace Go.Abs
open Go.Proofs
abbrev QA:Kd:=.int .i64
abbrev QC:Kd:=.str
abbrev Qu:Kd:=.pair QA (.pair QC QA)
abbrev Qs:Kd:=.st Qu
abbrev Qo:Kd:=.sl Qs
abbrev Qy:Kd:=.sl QA
abbrev Qr:Kd:=.pair QA (.pair QC Qy)
abbrev Qn:Kd:=.st Qr
abbrev Qk:Kd:=.sl Qn
abbrev Qz:Kd:=.sl QC
abbrev Qx:Kd:=.pair QC Qz
abbrev Qw:Kd:=.st Qx
abbrev Qv:Kd:=.sl Qw
abbrev Qp:Kd:=.pair QC Qv
abbrev Ql:Kd:=.st Qp
abbrev Qj:Kd:=.sl Ql
abbrev Qt:Kd:=.pair QC (.pair Qz QA)
abbrev Qq:Kd:=.st Qt
abbrev Qm:Kd:=.sl Qq
abbrev Qg:Kd:=.pair Qk (.pair Qn Qk)
abbrev Qf:Kd:=.st Qg
abbrev Qe:Kd:=.sl Qf
abbrev Qd:Kd:=.pair Qj (.pair Qm Qe)
abbrev Qc:Kd:=.st Qd
abbrev Qb:Kd:=.pair Qo (.pair QA (.pair QA (.pair QA (.pair (.bool) (.pair (.bool) (.pair Qk Qc))))))
abbrev Qa:Kd:=.st Qb
abbrev Qi:Kd:=.pair Qo (.pair QA (.pair QA (.pair QA (.bool))))
abbrev Qh:Kd:=.st Qi
abbrev QB:Kd:=.int .u8
abbrev QZ:Md:=.own .ro
abbrev QX:Md:=.pr .ro QZ
abbrev QV:Md:=.own QX
abbrev QR:Md:=.pr .ro QV
abbrev QP:Md:=.own QR
abbrev QY:Md:=.pr QZ .ro
abbrev QU:Md:=.pr .ro QY
abbrev QS:Md:=.own QU
abbrev QT:Md:=.pr .ro QX
abbrev QQ:Md:=.own QT
abbrev QN:Md:=.pr QT QQ
abbrev QJ:Md:=.pr QQ QN
abbrev QH:Md:=.own QJ
abbrev QE:Md:=.pr QS QH
abbrev QD:Md:=.pr QP QE
abbrev QG:Md:=.pr QZ QH
abbrev QF:Md:=.pr QZ QG
abbrev QW:Md:=.pr QZ QZ
abbrev QL:Md:=.pr .ro (.pr .ro (.pr .ro (.pr .ro (.pr .ro (.pr QZ (.pr QZ QW))))))
abbrev QI:Md:=.pr .ro QL
abbrev QM:Md:=.pr .ro (.pr .ro (.pr .ro (.pr .ro (.pr .ro (.pr .ro (.pr QZ QW))))))
abbrev QK:Md:=.pr .ro QM
abbrev QO:Md:=.pr QS QZ
abbrev WJ:Type:=Int×ByteArray×Int
abbrev WF:Type:=List WJ
abbrev WG:Type:=Int×ByteArray×List Int
abbrev WD:Type:=List WG
abbrev WH:Type:=ByteArray×List ByteArray
abbrev Ww:Type:=ByteArray×List WH
abbrev Wu:Type:=List Ww
abbrev WL:Type:=List ByteArray
abbrev WC:Type:=ByteArray×WL×Int
abbrev Wy:Type:=List WC
abbrev Wk:Type:=WD×WG×List WG
abbrev Q7:Type:=WF×Int×Int×Int×Bool×Bool×WD×Wu×Wy×List Wk
abbrev Q6:Type:=Int×WF×Int×Int×Int×Bool×Bool×WD×Wu×Wy×List Wk
abbrev Q0:Type:=Q7->Option Q6
abbrev Q1:Type:=WG×WF×Int×Int×Int×Bool×Bool×WD×Wu×Wy×List Wk
abbrev Q2:Type:=WL×WF×Int×Int×Int×Bool×Bool×WD×Wu×Wy×List Wk
abbrev WN:Type:=List Int
abbrev Q3:Type:=WN×WF×Int×Int×Int×Bool×Bool×WD×Wu×Wy×List Wk
abbrev Q4:Type:=ByteArray×WF×Int×Int×Int×Bool×Bool×WD×Wu×Wy×List Wk
abbrev Q5:Type:=Bool×WF×Int×Int×Int×Bool×Bool×WD×Wu×Wy×List Wk
abbrev Wt:Type:=WF×Int×Int×Int×Bool
abbrev Q8:Type:=Wt×Wu×Wy×List Wk
abbrev Wb:Type:=Wu×Wy×List Wk
abbrev Q9:Type:=Wb×Int×Int
abbrev Wa:Type:=Wk×Wk×Unit
abbrev Wl:Type:=Int×Wt×List WG
abbrev Wc:Type:=Wt->WD->Option Wl
abbrev Wd:Type:=Wk×WF×Int×Int×Int×Bool
abbrev We:Type:=WG×Wt×List WG
abbrev Wf:Type:=Int×List Wk
abbrev Wg:Type:=Wk×Unit
abbrev Wh:Type:=List Wk
abbrev Wi:Type:=WN×Wt×List WG
abbrev Wj:Type:=Ww×Ww×Unit
abbrev Wm:Type:=WC×WC×Unit
abbrev Wn:Type:=WL×WF×Int×Int×Int×Bool
abbrev Wo:Type:=ByteArray×WF×Int×Int×Int×Bool
abbrev Wp:Type:=WH×WH×Unit
abbrev Wq:Type:=WG×WG×Unit
abbrev Ws:Type:=Int×List Ww
abbrev Wv:Type:=Int×List WC
abbrev Wx:Type:=WF×Int×Int
abbrev Wz:Type:=Int×List WG
abbrev WA:Type:=Int×List WH
abbrev WB:Type:=ByteArray×WL×Bool
abbrev WE:Type:=List WH
abbrev WI:Type:=WL×Bool
abbrev WK:Type:=Int×Int×Int
abbrev WM:Type:=Int×Int
abbrev Vm:An:=.seq .nil .nil
abbrev Vj:An:=.cond Vm .nil
abbrev Vf:An:=.seq .nil Vj
abbrev W4:An:=.seq Vf Vm
abbrev W2:An:=.seq .nil W4
abbrev WS:An:=.seq .nil (.seq Vf W2)
abbrev WO:An:=.seq .nil (.seq .nil (.seq Vf WS))
abbrev WV:An:=.seq Vf W4
abbrev WP:An:=.seq .nil (.seq Vf WV)
abbrev Va:An:=.seq .nil Vf
abbrev W6:An:=.seq .nil Va
abbrev WU:An:=.seq Vf W6
abbrev WQ:An:=.seq Vf (.seq .nil WU)
abbrev WR:An:=.seq .nil WS
abbrev WT:An:=.seq .nil WV
abbrev Vk:An:=.seq .nil Vm
abbrev W9:An:=.seq .nil (.cond Vk .nil)
abbrev WW:An:=.seq .nil (.seq .nil (.seq W9 Vk))
abbrev WX:An:=.seq .nil W2
abbrev WY:An:=.seq .nil (.seq W9 Vm)
abbrev WZ:An:=.seq .nil (.cond Vm Vf)
abbrev Vl:An:=.cond .nil .nil
abbrev Vi:An:=.seq .nil Vl
abbrev Vc:An:=.seq Vi Vm
abbrev W0:An:=.seq .nil (.seq .nil Vc)
abbrev W1:An:=.seq Va Vm
abbrev Vb:An:=.seq Vf .nil
abbrev W3:An:=.seq .nil Vb
abbrev Vh:An:=.seq .nil Vk
abbrev W5:An:=.seq .nil (.cond Vh .nil)
abbrev Vd:An:=.seq .nil Vh
abbrev W7:An:=.seq .nil Vd
abbrev W8:An:=.seq .nil (.cond .nil Vi)
abbrev Ve:An:=.seq .nil Vi
abbrev Vg:An:=.seq Vi .nil
def TYS:List (Nat×Kd):=[(3,.int .i64),
 (4,.bool),
 (5,.int .u8),
 (9,.str),
 (22,.sl Qn),
 (23,.sl QA),
 (25,.st Qr),
 (26,.sl Qn),
 (28,.st Qg),
 (30,.sl Qn),
 (31,.st Qr),
 (32,.sl Qn),
 (34,.st Qg),
 (43,.sl Ql),
 (44,.sl Qq),
 (45,.sl Qf),
 (47,.st Qd),
 (49,.sl Ql),
 (50,.sl Qq),
 (51,.sl Qf),
 (53,.st Qd),
 (73,.sl QC),
 (75,.st (.pair Qz Qz)),
 (94,.st Qr),
 (104,.st Qt),
 (122,.st Qr),
 (131,.mp QC (.bool)),
 (138,.mp QA QA),
 (141,.mp QC Qn),
 (143,.fcell 111 Qf Qf),
 (153,.sl Qs),
 (158,.st Qb),
 (166,.sl Qw),
 (168,.st Qp),
 (170,.st Qt),
 (173,.sl Qw),
 (175,.st Qp),
 (177,.st Qx),
 (190,.st (.pair Qz Qz)),
 (201,.st Qi),
 (206,.sl QB),
 (211,.err),
 (218,.st Qu),
 (266,.st Qx),
 (269,.st Qz)]
theorem E9:TysOk JC TYS:=show(TYS.all (uH JC TYS))=true by kernel_rfl
theorem MIX:JC.follows .mixedOrders=true:=by kernel_rfl
theorem CO (tb:List (Nat×ip)):cg (jJ JC TYS tb):=BH E9
theorem MX (tb:List (Nat×ip)):(jJ JC TYS tb).P.follows .mixedOrders=true:=MIX
structure En where
 f:Nat
 e:Nat->ip
 ok:∀n,aq JC f (e n)
noncomputable def G1 (L:List En)(n:Nat):fX:=jJ JC TYS (L.map λq=>(q.f,q.e n))
theorem Jf (L:List En)(n:Nat):lZ (G1 L n):=fN λq h=>by
 obtain⟨x,_,rfl⟩:=List.mem_map.1 h;exact x.ok n
abbrev GL (r:List RSh)(S:ES):=Nat->Nat->S.V->KN r->KX r->Option (jS r)
structure TE (r:List RSh) where
 j:Nat
 S:ES
 G:GL r S
def GX {r:List RSh}(l:List (TE r))(n:Nat):tg (jS r):=λj e kn kx=>match l with
 |[]=>none
 |q::l=>bif Nat.beq q.j j then ES.on q.S e λx=>q.G n n x kn kx else GX l n j e kn kx
structure Bd where
 a:List ASh
 r:List RSh
 L:List En
 d:rK
 T:List (TE r)
abbrev UO (b:Bd)(j:Nat)(x:Code):Prop:=∀n v,cQ (G1 b.L n) b.d.nt (GX b.T n) (jR (G1 b.L n) b.d (eJ b.a v) (iu b.r)) j x
abbrev UL (b:Bd)(l:List (Nat×Code)):Prop:=∀q,q∈l->UO b q.1 q.2
theorem mn {b:Bd}:UL b []:=bD
theorem mc {b:Bd}{j:Nat}{x:Code}{l:List (Nat×Code)}(h:UO b j x)(t:UL b l):UL b ((j,x)::l):=mem_cons h t
theorem lu {b:Bd}{j:Nat}{x:Code}(a:An)(lv:Lv)(live:List Nat)(S:ES)(G:GL b.r S){l:List (Nat×Code)}(hU:UL b l)
 (hT:∀n e kn kx,GX b.T n j e kn kx=ES.on S e λx=>G n n x kn kx:=by intros;rfl) (h0:∀n x kn kx,G n 0 x kn kx=none:=by intros;rfl)
 (hs:∀n v m x' kn kx,mA (G1 b.L n) b.d.nt (GX b.T n) (jR (G1 b.L n) b.d (eJ b.a v) (iu b.r)) x a lv (meet (some live) λe=>ES.on S e λx=>G n m x kn kx) kx (S.enc x')=G n (m+1) x' kn kx:=by intros;kernel_rfl)
 (hl:ir x a=l:=by kernel_rfl):UO b j (.loop x):=λn v=>
 kz (n:=n) (CO _) (Jf b.L n) (MX _) a lv live S (G n) (hT n) (h0 n) (hs n v) hl λq hq=>hU q hq n v
theorem ju {b:Bd}{j:Nat}{x:Code}(a:An)(lv:Lv)(live:List Nat)(S:ES)(G:GL b.r S){l:List (Nat×Code)}(hU:UL b l)
 (hT:∀n e kn kx,GX b.T n j e kn kx=ES.on S e λx=>G n n x kn kx:=by intros;rfl)
 (hs:∀n v x' kn kx,mA (G1 b.L n) b.d.nt (GX b.T n) (jR (G1 b.L n) b.d (eJ b.a v) (iu b.r)) x a lv (meet (some live) kn) kx (S.enc x')=G n n x' kn kx:=by intros;kernel_rfl)
 (hl:ir x a=l:=by kernel_rfl):UO b j x:=λn v=>
 jz (CO _) (Jf b.L n) (MX _) a lv live S (G n n) (hT n) (hs n v) hl λq hq=>hU q hq n v
theorem cD (b:Bd){f:Nat}{F:Nat->jH b.a->Option (jS b.r)}(an:An){fn:Func}(hf:JC.funcs[f]? =some fn){l:List (Nat×Code)}(hU:UL b l)
 (hq:IS fn=IT b.d:=by kernel_rfl) (hl:ir b.d.code an=l:=by kernel_rfl)
 (h:∀n v,tX (G1 b.L n) b.d an (GX b.T n) (eJ b.a v) (iu b.r)=F n v:=by intros;kernel_rfl):∀n,aq JC f ⟨b.a,b.r,F n⟩:=λn=>
 iv (c:=G1 b.L n) (e:=⟨b.a,b.r,F n⟩) (d:=b.d) (CO _) (Jf b.L n) (MX _) an hf hq (GX b.T n) hl (λv q hq=>hU q hq n v) (h n)
end Go.Abs
