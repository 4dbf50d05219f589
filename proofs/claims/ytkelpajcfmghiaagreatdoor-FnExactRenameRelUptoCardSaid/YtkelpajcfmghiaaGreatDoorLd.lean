/- What a row's listed variables say of the library's variables. Conditions: none. -/
import Derived.Test.YtkelpajcfmghiaaGreatDoorPl
import Derived.Lib.LaidTab
import Derived.LaidLaws
import Derived.ChangeArms
open Go.DataW renaming laidRun → MT,trod → LB
open List renaming mem_cons → JJ
set_option linter.unusedVariables false
set_option linter.unusedSimpArgs false
namespace Go.Abs
theorem uV {w:World}{g:Nat}{v:Value}(h:w.cell? ⟨g,0,none⟩=some v):∃cs t fr,w.heap[g]? =some (.cells cs t fr)/\cs[0]? =some v:=by
 unfold World.cell? at h;dsimp only at h
 split at h
 ·rename_i c t fr hh
  rw[ao (by simp)]at h;exact⟨c,t,fr,hh,h⟩
 ·cases h
theorem mR {P:Program}{w:World}{nm:String}{cs:Array Value}{g:Nat}(hg:P.globalNamed nm=some g)(h:w.var? P nm=some cs):∃t fr,w.heap[g]? =some (.cells cs t fr):=by
 unfold World.var? at h;rw[hg]at h;simp only[Option.bind_some]at h
 split at h
 ·rename_i c t fr hh
  cases h;exact⟨t,fr,hh⟩
 ·cases h
theorem lW {w:World}{g:Nat}{o:Go.Obj}(h:w.heap[g]? =some o):g<w.heap.size:=by
 rcases Nat.lt_or_ge g w.heap.size with hb|hb
 ·exact hb
 ·rw[Array.getElem?_eq_none hb]at h;cases h
theorem oB {P:Program}{w:World}:∀(l:List (String×DataW Unit)) (ps:List MemPlace),DataW.LaidVars P w l ps->∀nm d,(nm,d)∈l->
  ∃g t cs fuel p,P.globalNamed nm=some g/\(P.globals[g]?).map (·.type)=some t/\w.var? P nm=some cs/\LB (λ_=>()) P w 0 (λ_=>true) false fuel t cs.toList=some (d,p)
 |[],_,_,_,_,h=>by cases h
 |(n,d)::r,ps,h,nm,d',hm=>by
  obtain⟨g,t,cs,fuel,p,q,h1,h2,h3,h4,h5,_⟩:=h;rcases JJ.1 hm with he|hm
  ·cases he
   exact⟨g,t,cs,fuel,p,h1,h2,h3,h4⟩
  ·exact oB r q h5 nm d' hm
theorem rQ {P:Program}{w:World}{fuel:Nat}{t:TypeId}{cs:Array Value}{ms:Array (String×TypeId)}{nm:String}{d:DataW Unit}{p:List MemPlace}(hu:P.underlying t=some (.interface ms))
  (h:LB (λ_=>()) P w 0 (λ_=>true) false fuel t cs.toList=some (.iface nm d,p)):∃u v,cs= #[.iface u v]:=by
 cases fuel with
 |zero=>simp[LB]at h
 |succ fuel=>
  obtain⟨l⟩:=cs;rcases l with _|⟨v,_|⟨v2,r⟩⟩
  ·simp[LB,hu]at h
  ·cases v<;>first|exact⟨_,_,rfl⟩|(simp[LB,hu]at h;done)
  ·simp[LB,hu]at h
theorem ET {P:Program}{W:World}{l:List (String×DataW Unit)}(gM gP gS gR tP tS tR eP:Nat){msS msR:Array (String×TypeId)}
  (hM:P.globalNamed "internal/bytealg.MaxLen" =some gM) (hMc:∃m,W.cell? ⟨gM,0,none⟩=some (.int .i64 m))
  (hP:P.globalNamed "internal/strconv.uint64pow10" =some gP) (hS:P.globalNamed "strconv.ErrSyntax" =some gS) (hR:P.globalNamed "strconv.ErrRange" =some gR)
  (tyP:(P.globals[gP]?).map (·.type)=some tP) (tyS:(P.globals[gS]?).map (·.type)=some tS) (tyR:(P.globals[gR]?).map (·.type)=some tR)
  (uP:P.underlying tP=some (.array 20 eP)) (uE:P.underlying eP=some (.int .u64)) (cE:P.cellsOf eP=1) (cP:P.cellsOf tP=20)
  (uS:P.underlying tS=some (.interface msS)) (uR:P.underlying tR=some (.interface msR)) {nS nR:String} {dS dR:DataW Unit}
  (iP:("internal/strconv.uint64pow10",Lib.tabData .u64 Lib.pow10Tab)∈l) (iS:("strconv.ErrSyntax",DataW.iface nS dS)∈l) (iR:("strconv.ErrRange",DataW.iface nR dR)∈l)
  (hL:laidMet P l W):GlobOk P (λb=>b<W.heap.size) W:=by
 obtain⟨ps,hV,_,_⟩:=hL;intro nm hm g hg;simp only[qQ,JJ,List.not_mem_nil,or_false]at hm;rcases hm with rfl|rfl|rfl|rfl
 ·rw[hM]at hg;cases hg
  obtain⟨m,hm⟩:=hMc;obtain⟨cs,t,fr,h1,h2⟩:=uV hm;exact⟨lW h1,cs,t,fr,h1,⟨λ_=>⟨m,h2⟩,λh=>bJ h (by decide),λh=>bJ h (by decide),λh=>bJ h (by decide)⟩⟩
 ·rw[hP]at hg;cases hg
  obtain⟨g',t',cs,fuel,p,h1,h2,h3,h4⟩:=oB l ps hV _ _ iP;rw[hP]at h1;cases h1;rw[tyP]at h2;cases h2;have hcs:=Lib.cells_of_tab uP uE cE cP h4;obtain⟨t,fr,h5⟩:=mR hP h3;refine⟨lW h5,cs,t,fr,h5,⟨λh=>bJ h (by decide),λ_=>?_,λh=>bJ h (by decide),λh=>bJ h (by decide)⟩⟩;rw[← hcs]
 ·rw[hS]at hg;cases hg
  obtain⟨g',t',cs,fuel,p,h1,h2,h3,h4⟩:=oB l ps hV _ _ iS;rw[hS]at h1;cases h1;rw[tyS]at h2;cases h2;obtain⟨u,v,hcs⟩:=rQ uS h4;obtain⟨t,fr,h5⟩:=mR hS h3;exact⟨lW h5,cs,t,fr,h5,⟨λh=>bJ h (by decide),λh=>bJ h (by decide),λ_=>⟨u,v,hcs⟩,λh=>bJ h (by decide)⟩⟩
 ·rw[hR]at hg;cases hg
  obtain⟨g',t',cs,fuel,p,h1,h2,h3,h4⟩:=oB l ps hV _ _ iR;rw[hR]at h1;cases h1;rw[tyR]at h2;cases h2;obtain⟨u,v,hcs⟩:=rQ uR h4;obtain⟨t,fr,h5⟩:=mR hR h3;exact⟨lW h5,cs,t,fr,h5,⟨λh=>bJ h (by decide),λh=>bJ h (by decide),λh=>bJ h (by decide),λ_=>⟨u,v,hcs⟩⟩⟩
theorem qt {P:Program}{w:World}{l:List (String×DataW Unit)}(fuel:Nat)(h:(MT P w fuel (l.map (·.1))).map (·.1)=some l)
  (hn:(MT P w fuel (l.map (·.1))).map (λx=>decide x.2.Nodup)=some true) (hr:(MT P w fuel (l.map (·.1))).map (λx=>laidRowsB P w x.2)=some true):laidMet P l w:=by
 refine laidMet_of_run' fuel h ?_;cases hx:MT P w fuel (l.map (·.1))with
 |none=>simp[hx]at h
 |some x=>
  simp only[hx,Option.map_some,Option.some.injEq]at hn hr⊢;rw[hn,hr]
  rfl
end Go.Abs
