/- Contracts of the library at this dump. Conditions: none. -/
import Derived.Shelf.Strings.Builder1
import Derived.Shelf.Strings.Builder2
import Derived.Shelf.Strings.OnBuilder
import Derived.Shelf.Small.Bits
import Derived.Shelf.Small.Strs
import Derived.Shelf.Strings.BuilderF
import Derived.Shelf.Strings.BuilderK
import Derived.Shelf.Strings.Builder2Cap
import Derived.Shelf.Strconv.Atoi
import Derived.Shelf.Strconv.Itoa0
import Derived.Shelf.Strconv.Itoa1
import Derived.Shelf.LaysM
import Derived.Shelf.Strconv.Itoa2
import Derived.Shelf.Strconv.Itoa3
import Derived.Shelf.Strconv.AtoiErrFast
import Derived.Shelf.Strconv.ParseIntEmpty
import Derived.Shelf.Strconv.AtoiFail
import Derived.Shelf.Strconv.Clone
import Derived.Shelf.Strconv.SyntaxError
import Derived.Shelf.LaysC
import Derived.Shelf.Strconv.ToError
import Derived.Shelf.Strconv.Lower
import Derived.Shelf.Strconv.ParseUint10
import Derived.Shelf.Strconv.ParseUint10Empty
import Derived.Shelf.Strconv.ParseUint10Any
import Derived.Shelf.Strconv.ParseInt10
import Derived.Shelf.Strconv.AtoiLong
import Derived.Shelf.Strconv.AtoiInnerAll
import Derived.Shelf.Strconv.RangeError
import Derived.Shelf.Strconv.ToErrorRange
import Derived.Shelf.Strconv.AtoiAll
import Derived.Shelf.Strconv.ErrVarAll
import Derived.Shelf.Strconv.ParseUintEmpty
import Derived.Shelf.Strings.Search1
import Derived.Test.YtkelpajcfmghiaaGreatDoorProg
open Go.Proofs.Tryz renaming isAgg0 → N9,isAgg20 → NO,isAgg206 → Nz,isAgg3 → Nd,isAgg4 → Oa,isAgg5 → Ng,isAgg9 → Nf,prog → Jp,sizeOf0 → NM,sizeOf20 → Ny,sizeOf206 → Nr,sizeOf3 → MZ,sizeOf4 → NN,sizeOf5 → M3,sizeOf9 → M0,underlying0 → M9,underlying20 → M1,underlying206 → MW,underlying211 → Ol,underlying212 → Om,underlying228 → Oo,underlying246 → On,underlying261 → Oq,underlying263 → Ot,underlying282 → Ou,underlying284 → Ov,underlying294 → Ow,underlying295 → Ox,underlying298 → Oy,underlying299 → Oz,underlying3 → Ms,underlying4 → Na,underlying5 → Mu,underlying9 → Mt,zeroValue0 → Nk,zeroValue20 → Nb,zeroValue206 → M2,zeroValue211 → OH,zeroValue212 → OI,zeroValue228 → OK,zeroValue246 → OJ,zeroValue261 → OL,zeroValue263 → OM,zeroValue282 → ON,zeroValue284 → OO,zeroValue294 → OP,zeroValue298 → OQ,zeroValue299 → OR,zeroValue3 → MC,zeroValue4 → Nl,zeroValue5 → ME,zeroValue9 → MD
set_option linter.unusedVariables false
set_option linter.unusedSimpArgs false
namespace Go.Proofs
open Go.Shelf
def Tryz.lays156_ren:Go.Shelf.Ren:=⟨λ|156=>107|165=>180|166=>181|169=>182|240=>233|241=>234|276=>268|277=>269|n=>n,λ|31=>73|9=>9|3=>3|4=>4|0=>0|20=>20|72=>208|76=>212|70=>205|37=>206|75=>211|127=>246|164=>272|5=>5|80=>214|n=>n,λ|n=>n⟩
theorem Tryz.lays156:Go.Proofs.Lays.n156 Jp Tryz.lays156_ren:={
 mixed:=by kernel_rfl
 f156:=Tryz.func107.trans (congrArg some (by kernel_rfl))
 f165:=Tryz.func180.trans (congrArg some (by kernel_rfl))
 f166:=Tryz.func181.trans (congrArg some (by kernel_rfl))
 f169:=Tryz.func182.trans (congrArg some (by kernel_rfl))
 f240:=Tryz.func233.trans (congrArg some (by kernel_rfl))
 f241:=Tryz.func234.trans (congrArg some (by kernel_rfl))
 f276:=Tryz.func268.trans (congrArg some (by kernel_rfl))
 f277:=Tryz.func269.trans (congrArg some (by kernel_rfl))
 t0:=M9
 a0:=N9
 z0:=NM
 v0:=Nk
 t3:=Ms
 a3:=Nd
 z3:=MZ
 v3:=MC
 t4:=Na
 a4:=Oa
 z4:=NN
 v4:=Nl
 t9:=Mt
 a9:=Nf
 z9:=M0
 v9:=MD
 t20:=M1
 a20:=NO
 z20:=Ny
 v20:=Nb
 t31:=Tryz.underlying73
 a31:=Tryz.isAgg73
 z31:=Tryz.sizeOf73
 v31:=Tryz.zeroValue73
 t37:=MW
 a37:=Nz
 z37:=Nr
 v37:=M2
 t70:=Tryz.underlying205
 a70:=Tryz.isAgg205
 z70:=Tryz.sizeOf205
 v70:=Tryz.zeroValue205
 t72:=Tryz.underlying208
 a72:=Tryz.isAgg208
 z72:=Tryz.sizeOf208
 v72:=Tryz.zeroValue208
 t75:=Ol
 a75:=Tryz.isAgg211
 z75:=Tryz.sizeOf211
 v75:=OH
 t76:=Om
 a76:=Tryz.isAgg212
 z76:=Tryz.sizeOf212
 v76:=OI
 t127:=On
 a127:=Tryz.isAgg246
 z127:=Tryz.sizeOf246
 v127:=OJ
 t164:=Tryz.underlying272
 a164:=Tryz.isAgg272
 z164:=Tryz.sizeOf272
 v164:=Tryz.zeroValue272}
theorem Tryz.Builder_Extra_156:Builder.Extra Jp Tryz.lays156_ren:={
 sizeBuilder:=by kernel_rfl
 liesBuilder:=by kernel_rfl
 t5:=Mu
 a5:=Ng
 z5:=M3
 v5:=ME
 infoByte:=by kernel_rfl
 cellsByte:=by kernel_rfl
 sizeByte:=by kernel_rfl
 neB5:=by decide}
open Go.RowKit in
theorem Tryz.strings_Join_none (a:Option Addr)(c:Nat)(sep:ByteArray)(w:World):
  Calls Jp 107 #[.slice a 0 c,.string sep] w λe w'=>e= .returned (.string ⟨#[]⟩)/\w'=w:=Any.strings_Join_none Tryz.lays156 Tryz.Builder_Extra_156 a c sep w
open Go.RowKit in
theorem Tryz.strings_Join (bk o c:Nat)(xs:List ByteArray)(sep:ByteArray)(w:World)(hcells:∀(j:Nat) x,xs[j]? =some x->w.cell? ⟨bk,o+j,none⟩=some (.string x))(hbk:bk<w.heap.size)(hN:xs.length<=140737488355328)(hcap:xs.length<=c)(hlen:(Lib.join (xs.map (·.data.toList)) sep.data.toList).length<=140737488355328):
  Calls Jp 107 #[.slice (some ⟨bk,o,none⟩) xs.length c,.string sep] w λe w'=>e= .returned (.string ⟨(Lib.join (xs.map (·.data.toList)) sep.data.toList).toArray⟩)/\Below w.heap.size w w':=Any.strings_Join Tryz.lays156 Tryz.Builder_Extra_156 bk o c xs sep w hcells hbk hN hcap hlen
def Tryz.lays137_ren:Go.Shelf.Ren:=⟨λ|137=>222|217=>259|266=>282|n=>n,λ|9=>9|5=>5|3=>3|n=>n,λ|n=>n⟩
theorem Tryz.lays137:Go.Proofs.Lays.n137 Jp Tryz.lays137_ren:={
 mixed:=by kernel_rfl
 f137:=Tryz.func222.trans (congrArg some (by kernel_rfl))
 f217:=Tryz.func259.trans (congrArg some (by kernel_rfl))
 f266:=Tryz.func282.trans (congrArg some (by kernel_rfl))
 t3:=Ms
 a3:=Nd
 z3:=MZ
 v3:=MC
 t5:=Mu
 a5:=Ng
 z5:=M3
 v5:=ME
 t9:=Mt
 a9:=Nf
 z9:=M0
 v9:=MD}
open Go.RowKit in
theorem Tryz.strings_IndexByte (s:ByteArray)(c:Int)(w:World):
  Calls Jp 222 #[.string s,.int .u8 c] w λe w'=>e= .returned (.int .i64 (Lib.indexByte s.data.toList c.toNat.toUInt8))/\w'=w:=Any.strings_IndexByte Tryz.lays137 s c w
def Tryz.laysM171_ren:Go.Shelf.Ren:=⟨λ|171=>128|243=>197|246=>253|283=>278|284=>279|285=>280|286=>281|129=>252|317=>288|318=>289|319=>290|320=>291|337=>295|338=>296|n=>n,λ|3=>3|9=>9|2=>2|4=>4|171=>282|0=>0|53=>263|37=>206|5=>5|173=>284|212=>294|51=>261|20=>20|213=>295|46=>228|232=>298|233=>299|n=>n,λ|17=>1|18=>2|19=>3|n=>n⟩
theorem Tryz.laysM171:Go.Proofs.LaysM.n171 Jp Tryz.laysM171_ren:={
 mixed:=by kernel_rfl
 f129:=Tryz.func252.trans (congrArg some (by kernel_rfl))
 f171:=Tryz.func128.trans (congrArg some (by kernel_rfl))
 f243:=Tryz.func197.trans (congrArg some (by kernel_rfl))
 f246:=Tryz.func253.trans (congrArg some (by kernel_rfl))
 f283:=Tryz.func278.trans (congrArg some (by kernel_rfl))
 f284:=Tryz.func279.trans (congrArg some (by kernel_rfl))
 f285:=Tryz.func280.trans (congrArg some (by kernel_rfl))
 f286:=Tryz.func281.trans (congrArg some (by kernel_rfl))
 f317:=Tryz.func288.trans (congrArg some (by kernel_rfl))
 f318:=Tryz.func289.trans (congrArg some (by kernel_rfl))
 f319:=Tryz.func290.trans (congrArg some (by kernel_rfl))
 f320:=Tryz.func291.trans (congrArg some (by kernel_rfl))
 f337:=Tryz.func295.trans (congrArg some (by kernel_rfl))
 f338:=Tryz.func296.trans (congrArg some (by kernel_rfl))
 t0:=M9
 a0:=N9
 z0:=NM
 v0:=Nk
 t2:=Tryz.underlying2
 a2:=Tryz.isAgg2
 z2:=Tryz.sizeOf2
 v2:=Tryz.zeroValue2
 t3:=Ms
 a3:=Nd
 z3:=MZ
 v3:=MC
 t4:=Na
 a4:=Oa
 z4:=NN
 v4:=Nl
 t5:=Mu
 a5:=Ng
 z5:=M3
 v5:=ME
 t9:=Mt
 a9:=Nf
 z9:=M0
 v9:=MD
 t20:=M1
 a20:=NO
 z20:=Ny
 v20:=Nb
 t37:=MW
 a37:=Nz
 z37:=Nr
 v37:=M2
 t46:=Oo
 a46:=Tryz.isAgg228
 z46:=Tryz.sizeOf228
 v46:=OK
 t51:=Oq
 a51:=Tryz.isAgg261
 z51:=Tryz.sizeOf261
 v51:=OL
 t53:=Ot
 a53:=Tryz.isAgg263
 z53:=Tryz.sizeOf263
 v53:=OM
 t171:=Ou
 a171:=Tryz.isAgg282
 z171:=Tryz.sizeOf282
 v171:=ON
 t173:=Ov
 a173:=Tryz.isAgg284
 z173:=Tryz.sizeOf284
 v173:=OO
 t212:=Ow
 a212:=Tryz.isAgg294
 z212:=Tryz.sizeOf294
 v212:=OP
 t213:=Ox
 a213:=Tryz.isAgg295
 z213:=Tryz.sizeOf295
 t232:=Oy
 a232:=Tryz.isAgg298
 z232:=Tryz.sizeOf298
 v232:=OQ
 t233:=Oz
 a233:=Tryz.isAgg299
 z233:=Tryz.sizeOf299
 v233:=OR
 g17:=by kernel_rfl
 g18:=by kernel_rfl
 g19:=by kernel_rfl
 i0:=by kernel_rfl
 i2:=by kernel_rfl
 i3:=by kernel_rfl
 i4:=by kernel_rfl
 i5:=by kernel_rfl
 i9:=by kernel_rfl
 i20:=by kernel_rfl
 i37:=by kernel_rfl
 i46:=by kernel_rfl
 i51:=by kernel_rfl
 i53:=by kernel_rfl
 i171:=by kernel_rfl
 i173:=by kernel_rfl
 i212:=by kernel_rfl
 i232:=by kernel_rfl
 i233:=by kernel_rfl
 m17:=by kernel_rfl
 m18:=by kernel_rfl
 m19:=by kernel_rfl}
open Go.RowKit Go.Sort Go.Lib in
theorem Tryz.strconv_Itoa (n:Int)(h0: -9223372036854775808<=n)(h1:n<=9223372036854775807)(w:World)(htab:Lib.TabIs Jp w "internal/strconv.uint64pow10" .u64 Lib.pow10Tab):
  Calls Jp 128 #[.int .i64 n] w λe w'=>e= .returned (.string ⟨(Lib.itoa n).toArray⟩)/\∃k os,w'=grow (w.drewN k) os:=Any.strconv_Itoa Tryz.laysM171 n h0 h1 w htab
def Tryz.laysC172_ren:Go.Shelf.Ren:=⟨λ|172=>292|244=>297|245=>298|247=>300|279=>301|280=>302|281=>303|282=>304|287=>306|316=>307|171=>128|205=>308|321=>309|322=>310|243=>197|246=>253|283=>278|284=>279|285=>280|286=>281|129=>252|317=>288|318=>289|319=>290|320=>291|337=>295|338=>296|n=>n,λ|9=>9|3=>3|75=>211|76=>212|4=>4|5=>5|167=>300|37=>206|0=>0|85=>301|2=>2|168=>303|53=>263|175=>306|46=>228|210=>309|127=>246|145=>314|143=>312|21=>21|171=>282|173=>284|212=>294|51=>261|20=>20|213=>295|232=>298|233=>299|80=>214|n=>n,λ|15=>4|16=>5|17=>1|18=>2|19=>3|n=>n⟩
theorem Tryz.laysC172:Go.Proofs.LaysC.n172 Jp Tryz.laysC172_ren:={
 mixed:=by kernel_rfl
 f129:=Tryz.func252.trans (congrArg some (by kernel_rfl))
 f171:=Tryz.func128.trans (congrArg some (by kernel_rfl))
 f172:=Tryz.func292.trans (congrArg some (by kernel_rfl))
 f205:=Tryz.func308.trans (congrArg some (by kernel_rfl))
 f243:=Tryz.func197.trans (congrArg some (by kernel_rfl))
 f244:=Tryz.func297.trans (congrArg some (by kernel_rfl))
 f245:=Tryz.func298.trans (congrArg some (by kernel_rfl))
 f246:=Tryz.func253.trans (congrArg some (by kernel_rfl))
 f247:=Tryz.func300.trans (congrArg some (by kernel_rfl))
 f279:=Tryz.func301.trans (congrArg some (by kernel_rfl))
 f280:=Tryz.func302.trans (congrArg some (by kernel_rfl))
 f281:=Tryz.func303.trans (congrArg some (by kernel_rfl))
 f282:=Tryz.func304.trans (congrArg some (by kernel_rfl))
 f283:=Tryz.func278.trans (congrArg some (by kernel_rfl))
 f284:=Tryz.func279.trans (congrArg some (by kernel_rfl))
 f285:=Tryz.func280.trans (congrArg some (by kernel_rfl))
 f286:=Tryz.func281.trans (congrArg some (by kernel_rfl))
 f287:=Tryz.func306.trans (congrArg some (by kernel_rfl))
 f316:=Tryz.func307.trans (congrArg some (by kernel_rfl))
 f317:=Tryz.func288.trans (congrArg some (by kernel_rfl))
 f318:=Tryz.func289.trans (congrArg some (by kernel_rfl))
 f319:=Tryz.func290.trans (congrArg some (by kernel_rfl))
 f320:=Tryz.func291.trans (congrArg some (by kernel_rfl))
 f321:=Tryz.func309.trans (congrArg some (by kernel_rfl))
 f322:=Tryz.func310.trans (congrArg some (by kernel_rfl))
 f337:=Tryz.func295.trans (congrArg some (by kernel_rfl))
 f338:=Tryz.func296.trans (congrArg some (by kernel_rfl))
 t0:=M9
 a0:=N9
 z0:=NM
 v0:=Nk
 t2:=Tryz.underlying2
 a2:=Tryz.isAgg2
 z2:=Tryz.sizeOf2
 v2:=Tryz.zeroValue2
 t3:=Ms
 a3:=Nd
 z3:=MZ
 v3:=MC
 t4:=Na
 a4:=Oa
 z4:=NN
 v4:=Nl
 t5:=Mu
 a5:=Ng
 z5:=M3
 v5:=ME
 t9:=Mt
 a9:=Nf
 z9:=M0
 v9:=MD
 t20:=M1
 a20:=NO
 z20:=Ny
 v20:=Nb
 t21:=Tryz.underlying21
 a21:=Tryz.isAgg21
 z21:=Tryz.sizeOf21
 v21:=Tryz.zeroValue21
 t37:=MW
 a37:=Nz
 z37:=Nr
 v37:=M2
 t46:=Oo
 a46:=Tryz.isAgg228
 z46:=Tryz.sizeOf228
 v46:=OK
 t51:=Oq
 a51:=Tryz.isAgg261
 z51:=Tryz.sizeOf261
 v51:=OL
 t53:=Ot
 a53:=Tryz.isAgg263
 z53:=Tryz.sizeOf263
 v53:=OM
 t75:=Ol
 a75:=Tryz.isAgg211
 z75:=Tryz.sizeOf211
 v75:=OH
 t76:=Om
 a76:=Tryz.isAgg212
 z76:=Tryz.sizeOf212
 v76:=OI
 t85:=Tryz.underlying301
 a85:=Tryz.isAgg301
 z85:=Tryz.sizeOf301
 v85:=Tryz.zeroValue301
 t127:=On
 a127:=Tryz.isAgg246
 z127:=Tryz.sizeOf246
 v127:=OJ
 t143:=Tryz.underlying312
 a143:=Tryz.isAgg312
 z143:=Tryz.sizeOf312
 v143:=Tryz.zeroValue312
 t145:=Tryz.underlying314
 a145:=Tryz.isAgg314
 z145:=Tryz.sizeOf314
 v145:=Tryz.zeroValue314
 t167:=Tryz.underlying300
 a167:=Tryz.isAgg300
 z167:=Tryz.sizeOf300
 v167:=Tryz.zeroValue300
 t168:=Tryz.underlying303
 a168:=Tryz.isAgg303
 z168:=Tryz.sizeOf303
 v168:=Tryz.zeroValue303
 t171:=Ou
 a171:=Tryz.isAgg282
 z171:=Tryz.sizeOf282
 v171:=ON
 t173:=Ov
 a173:=Tryz.isAgg284
 z173:=Tryz.sizeOf284
 v173:=OO
 t175:=Tryz.underlying306
 a175:=Tryz.isAgg306
 z175:=Tryz.sizeOf306
 v175:=Tryz.zeroValue306
 t210:=Tryz.underlying309
 a210:=Tryz.isAgg309
 z210:=Tryz.sizeOf309
 v210:=Tryz.zeroValue309
 t212:=Ow
 a212:=Tryz.isAgg294
 z212:=Tryz.sizeOf294
 v212:=OP
 t213:=Ox
 a213:=Tryz.isAgg295
 z213:=Tryz.sizeOf295
 t232:=Oy
 a232:=Tryz.isAgg298
 z232:=Tryz.sizeOf298
 v232:=OQ
 t233:=Oz
 a233:=Tryz.isAgg299
 z233:=Tryz.sizeOf299
 v233:=OR
 g15:=by kernel_rfl
 g16:=by kernel_rfl
 g17:=by kernel_rfl
 g18:=by kernel_rfl
 g19:=by kernel_rfl
 t80:=Tryz.underlying214
 a80:=Tryz.isAgg214
 z80:=Tryz.sizeOf214
 v80:=Tryz.zeroValue214
 i0:=by kernel_rfl
 i2:=by kernel_rfl
 i3:=by kernel_rfl
 i4:=by kernel_rfl
 i5:=by kernel_rfl
 i9:=by kernel_rfl
 i20:=by kernel_rfl
 i21:=by kernel_rfl
 i37:=by kernel_rfl
 i46:=by kernel_rfl
 i51:=by kernel_rfl
 i53:=by kernel_rfl
 i75:=by kernel_rfl
 i76:=by kernel_rfl
 i80:=by kernel_rfl
 i85:=by kernel_rfl
 i127:=by kernel_rfl
 i143:=by kernel_rfl
 i145:=by kernel_rfl
 i167:=by kernel_rfl
 i168:=by kernel_rfl
 i171:=by kernel_rfl
 i173:=by kernel_rfl
 i175:=by kernel_rfl
 i210:=by kernel_rfl
 i212:=by kernel_rfl
 i232:=by kernel_rfl
 i233:=by kernel_rfl
 m15:=by kernel_rfl
 m16:=by kernel_rfl
 m17:=by kernel_rfl
 m18:=by kernel_rfl
 m19:=by kernel_rfl
 c0:=by kernel_rfl
 c2:=by kernel_rfl
 c3:=by kernel_rfl
 c4:=by kernel_rfl
 c5:=by kernel_rfl
 c9:=by kernel_rfl
 c20:=by kernel_rfl
 c21:=by kernel_rfl
 c37:=by kernel_rfl
 c46:=by kernel_rfl
 c51:=by kernel_rfl
 c53:=by kernel_rfl
 c75:=by kernel_rfl
 c76:=by kernel_rfl
 c80:=by kernel_rfl
 c85:=by kernel_rfl
 c127:=by kernel_rfl
 c143:=by kernel_rfl
 c145:=by kernel_rfl
 c167:=by kernel_rfl
 c168:=by kernel_rfl
 c171:=by kernel_rfl
 c173:=by kernel_rfl
 c175:=by kernel_rfl
 c210:=by kernel_rfl
 c212:=by kernel_rfl
 c213:=by kernel_rfl
 c232:=by kernel_rfl
 c233:=by kernel_rfl}
open Go.RowKit in
theorem Tryz.strconv_Atoi_ok (s:ByteArray)(hmax:s.size<=9223372036854775806)(v:Int)(h:Lib.atoiAll s.data.toList= .ok v)(w:World):
  Calls Jp 292 #[.string s] w λe w'=>e= .returned (.tuple #[.int .i64 v,.nilIface])/\(w'=w\/∃t,w'=Lib.bytesWorld w 5 t):=Any.strconv_Atoi_ok Tryz.laysC172 s hmax v h w
end Go.Proofs
