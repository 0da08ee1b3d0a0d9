/- Merged out of this seat's own texts. -/
import Derived.Shelf.Strings.Builder1
import Derived.Shelf.Strings.Builder2
import Derived.Shelf.Strings.OnBuilder
import Derived.Shelf.Small.Bits
import Derived.Shelf.Strconv.Atoi
import Derived.Shelf.Strconv.Itoa0
import Derived.Shelf.Strconv.Itoa1
import Derived.Shelf.LaysM
import Derived.Shelf.Strconv.Itoa2
import Derived.Shelf.Strconv.Itoa3
import Derived.Shelf.Strings.Search1
import Derived.Shelf.Strings.Search2
import Derived.Shelf.Strings.Search3
import Derived.Shelf.Strings.Count
import Derived.Shelf.Strings.Shaped
import Derived.Shelf.Sort.Plain
import Derived.Ground.GgsProg
import Derived.Shelf.GgSortFunc.Insertion
import Derived.Shelf.GgSortFunc.Tiny
import Derived.Shelf.GgSortFunc.Compose
import Derived.Ground.GgtProg
import Derived.Shelf.GgSortMore.Stable
import Derived.Shelf.Strings.Split
import Derived.Shelf.Unicode.DecodeSlow
import Derived.Shelf.Slices.In.SortNone
import Derived.Shelf.Slices.In.SortNone2
import Derived.Test.YthcpbojmalgdbaaGreatDoorProg
import Derived.Test.YthcpbojmalgdbaaGreatDoorMlU
import Derived.WalkSmall
import Derived.Lib.SmallJoins
import Derived.Test.YthcpbojmalgdbaaGreatDoorMlAd
set_option linter.unusedVariables false
set_option linter.unusedSimpArgs false
namespace Go.Proofs
open Go.Shelf
def Tryz.lays156_ren:Go.Shelf.Ren:=⟨fun | 156=>43 | 165=>85 | 166=>86 | 169=>87 | 240=>117 | 241=>118 | 276=>145 | 277=>146 | n=>n,fun | 31=>27 | 9=>9 | 3=>3 | 4=>4 | 0=>0 | 20=>20 | 72=>111 | 76=>101 | 70=>109 | 37=>24 | 75=>100 | 127=>135 | 164=>148 | 5=>5 | 80=>72 | n=>n,fun | n=>n⟩
theorem Tryz.lays156:Go.Proofs.Lays.n156 Tryz.prog Tryz.lays156_ren := {
 mixed:=by kernel_rfl
 f156:=Tryz.func43.trans (congrArg some (by kernel_rfl))
 f165:=Tryz.func85.trans (congrArg some (by kernel_rfl))
 f166:=Tryz.func86.trans (congrArg some (by kernel_rfl))
 f169:=Tryz.func87.trans (congrArg some (by kernel_rfl))
 f240:=Tryz.func117.trans (congrArg some (by kernel_rfl))
 f241:=Tryz.func118.trans (congrArg some (by kernel_rfl))
 f276:=Tryz.func145.trans (congrArg some (by kernel_rfl))
 f277:=Tryz.func146.trans (congrArg some (by kernel_rfl))
 t0:=Tryz.underlying0
 a0:=Tryz.isAgg0
 z0:=Tryz.sizeOf0
 v0:=Tryz.zeroValue0
 t3:=Tryz.underlying3
 a3:=Tryz.isAgg3
 z3:=Tryz.sizeOf3
 v3:=Tryz.zeroValue3
 t4:=Tryz.underlying4
 a4:=Tryz.isAgg4
 z4:=Tryz.sizeOf4
 v4:=Tryz.zeroValue4
 t9:=Tryz.underlying9
 a9:=Tryz.isAgg9
 z9:=Tryz.sizeOf9
 v9:=Tryz.zeroValue9
 t20:=Tryz.underlying20
 a20:=Tryz.isAgg20
 z20:=Tryz.sizeOf20
 v20:=Tryz.zeroValue20
 t31:=Tryz.underlying27
 a31:=Tryz.isAgg27
 z31:=Tryz.sizeOf27
 v31:=Tryz.zeroValue27
 t37:=Tryz.underlying24
 a37:=Tryz.isAgg24
 z37:=Tryz.sizeOf24
 v37:=Tryz.zeroValue24
 t70:=Tryz.underlying109
 a70:=Tryz.isAgg109
 z70:=Tryz.sizeOf109
 v70:=Tryz.zeroValue109
 t72:=Tryz.underlying111
 a72:=Tryz.isAgg111
 z72:=Tryz.sizeOf111
 v72:=Tryz.zeroValue111
 t75:=Tryz.underlying100
 a75:=Tryz.isAgg100
 z75:=Tryz.sizeOf100
 v75:=Tryz.zeroValue100
 t76:=Tryz.underlying101
 a76:=Tryz.isAgg101
 z76:=Tryz.sizeOf101
 v76:=Tryz.zeroValue101
 t127:=Tryz.underlying135
 a127:=Tryz.isAgg135
 z127:=Tryz.sizeOf135
 v127:=Tryz.zeroValue135
 t164:=Tryz.underlying148
 a164:=Tryz.isAgg148
 z164:=Tryz.sizeOf148
 v164:=Tryz.zeroValue148 }
theorem Tryz.Builder_Extra_156:Builder.Extra Tryz.prog Tryz.lays156_ren := {
 sizeBuilder:=by kernel_rfl
 liesBuilder:=by kernel_rfl
 t5:=Tryz.underlying5
 a5:=Tryz.isAgg5
 z5:=Tryz.sizeOf5
 v5:=Tryz.zeroValue5
 infoByte:=by kernel_rfl
 cellsByte:=by kernel_rfl
 sizeByte:=by kernel_rfl
 neB5:=by decide }
open Go.RowKit in
theorem Tryz.strings_Join (bk o c:Nat) (xs:List ByteArray) (sep:ByteArray) (w:World) (hcells:∀ (j:Nat) x,xs[j]? = some x→w.cell? ⟨bk,o+j,none⟩=some (.string x)) (hbk:bk<w.heap.size) (hN:xs.length≤140737488355328) (hcap:xs.length≤c) (hlen:(Lib.join (xs.map (·.data.toList)) sep.data.toList).length≤140737488355328) :
  Calls Tryz.prog 43 #[.slice (some ⟨bk,o,none⟩) xs.length c, .string sep] w fun e w'=>e = .returned (.string ⟨(Lib.join (xs.map (·.data.toList)) sep.data.toList).toArray⟩)∧Below w.heap.size w w':=Any.strings_Join Tryz.lays156 Tryz.Builder_Extra_156 bk o c xs sep w hcells hbk hN hcap hlen
def Tryz.lays172_ren:Go.Shelf.Ren:=⟨fun | 172=>66 | 244=>98 | 245=>99 | 247=>125 | 279=>126 | 280=>127 | 281=>128 | 282=>129 | 287=>149 | 316=>150 | 171=>42 | 205=>151 | 321=>181 | 322=>182 | 243=>84 | 246=>116 | 283=>141 | 284=>142 | 285=>143 | 286=>144 | 129=>176 | 317=>177 | 318=>178 | 319=>179 | 320=>180 | 337=>192 | 338=>193 | n=>n,fun | 9=>9 | 3=>3 | 75=>100 | 76=>101 | 4=>4 | 5=>5 | 167=>138 | 37=>24 | 0=>0 | 85=>139 | 2=>2 | 168=>141 | 53=>162 | 175=>176 | 46=>137 | 210=>179 | 127=>135 | 145=>202 | 143=>200 | 21=>21 | 171=>161 | 173=>165 | 212=>196 | 51=>173 | 20=>20 | 213=>197 | 232=>212 | 233=>213 | 80=>72 | n=>n,fun | 15=>3 | 16=>4 | 17=>5 | 18=>6 | 19=>7 | n=>n⟩
theorem Tryz.lays172:Go.Proofs.Lays.n172 Tryz.prog Tryz.lays172_ren := {
 mixed:=by kernel_rfl
 f129:=Tryz.func176.trans (congrArg some (by kernel_rfl))
 f171:=Tryz.func42.trans (congrArg some (by kernel_rfl))
 f172:=Tryz.func66.trans (congrArg some (by kernel_rfl))
 f205:=Tryz.func151.trans (congrArg some (by kernel_rfl))
 f243:=Tryz.func84.trans (congrArg some (by kernel_rfl))
 f244:=Tryz.func98.trans (congrArg some (by kernel_rfl))
 f245:=Tryz.func99.trans (congrArg some (by kernel_rfl))
 f246:=Tryz.func116.trans (congrArg some (by kernel_rfl))
 f247:=Tryz.func125.trans (congrArg some (by kernel_rfl))
 f279:=Tryz.func126.trans (congrArg some (by kernel_rfl))
 f280:=Tryz.func127.trans (congrArg some (by kernel_rfl))
 f281:=Tryz.func128.trans (congrArg some (by kernel_rfl))
 f282:=Tryz.func129.trans (congrArg some (by kernel_rfl))
 f283:=Tryz.func141.trans (congrArg some (by kernel_rfl))
 f284:=Tryz.func142.trans (congrArg some (by kernel_rfl))
 f285:=Tryz.func143.trans (congrArg some (by kernel_rfl))
 f286:=Tryz.func144.trans (congrArg some (by kernel_rfl))
 f287:=Tryz.func149.trans (congrArg some (by kernel_rfl))
 f316:=Tryz.func150.trans (congrArg some (by kernel_rfl))
 f317:=Tryz.func177.trans (congrArg some (by kernel_rfl))
 f318:=Tryz.func178.trans (congrArg some (by kernel_rfl))
 f319:=Tryz.func179.trans (congrArg some (by kernel_rfl))
 f320:=Tryz.func180.trans (congrArg some (by kernel_rfl))
 f321:=Tryz.func181.trans (congrArg some (by kernel_rfl))
 f322:=Tryz.func182.trans (congrArg some (by kernel_rfl))
 f337:=Tryz.func192.trans (congrArg some (by kernel_rfl))
 f338:=Tryz.func193.trans (congrArg some (by kernel_rfl))
 t0:=Tryz.underlying0
 a0:=Tryz.isAgg0
 z0:=Tryz.sizeOf0
 v0:=Tryz.zeroValue0
 t2:=Tryz.underlying2
 a2:=Tryz.isAgg2
 z2:=Tryz.sizeOf2
 v2:=Tryz.zeroValue2
 t3:=Tryz.underlying3
 a3:=Tryz.isAgg3
 z3:=Tryz.sizeOf3
 v3:=Tryz.zeroValue3
 t4:=Tryz.underlying4
 a4:=Tryz.isAgg4
 z4:=Tryz.sizeOf4
 v4:=Tryz.zeroValue4
 t5:=Tryz.underlying5
 a5:=Tryz.isAgg5
 z5:=Tryz.sizeOf5
 v5:=Tryz.zeroValue5
 t9:=Tryz.underlying9
 a9:=Tryz.isAgg9
 z9:=Tryz.sizeOf9
 v9:=Tryz.zeroValue9
 t20:=Tryz.underlying20
 a20:=Tryz.isAgg20
 z20:=Tryz.sizeOf20
 v20:=Tryz.zeroValue20
 t21:=Tryz.underlying21
 a21:=Tryz.isAgg21
 z21:=Tryz.sizeOf21
 v21:=Tryz.zeroValue21
 t37:=Tryz.underlying24
 a37:=Tryz.isAgg24
 z37:=Tryz.sizeOf24
 v37:=Tryz.zeroValue24
 t46:=Tryz.underlying137
 a46:=Tryz.isAgg137
 z46:=Tryz.sizeOf137
 v46:=Tryz.zeroValue137
 t51:=Tryz.underlying173
 a51:=Tryz.isAgg173
 z51:=Tryz.sizeOf173
 v51:=Tryz.zeroValue173
 t53:=Tryz.underlying162
 a53:=Tryz.isAgg162
 z53:=Tryz.sizeOf162
 v53:=Tryz.zeroValue162
 t75:=Tryz.underlying100
 a75:=Tryz.isAgg100
 z75:=Tryz.sizeOf100
 v75:=Tryz.zeroValue100
 t76:=Tryz.underlying101
 a76:=Tryz.isAgg101
 z76:=Tryz.sizeOf101
 v76:=Tryz.zeroValue101
 t85:=Tryz.underlying139
 a85:=Tryz.isAgg139
 z85:=Tryz.sizeOf139
 v85:=Tryz.zeroValue139
 t127:=Tryz.underlying135
 a127:=Tryz.isAgg135
 z127:=Tryz.sizeOf135
 v127:=Tryz.zeroValue135
 t143:=Tryz.underlying200
 a143:=Tryz.isAgg200
 z143:=Tryz.sizeOf200
 v143:=Tryz.zeroValue200
 t145:=Tryz.underlying202
 a145:=Tryz.isAgg202
 z145:=Tryz.sizeOf202
 v145:=Tryz.zeroValue202
 t167:=Tryz.underlying138
 a167:=Tryz.isAgg138
 z167:=Tryz.sizeOf138
 v167:=Tryz.zeroValue138
 t168:=Tryz.underlying141
 a168:=Tryz.isAgg141
 z168:=Tryz.sizeOf141
 v168:=Tryz.zeroValue141
 t171:=Tryz.underlying161
 a171:=Tryz.isAgg161
 z171:=Tryz.sizeOf161
 v171:=Tryz.zeroValue161
 t173:=Tryz.underlying165
 a173:=Tryz.isAgg165
 z173:=Tryz.sizeOf165
 v173:=Tryz.zeroValue165
 t175:=Tryz.underlying176
 a175:=Tryz.isAgg176
 z175:=Tryz.sizeOf176
 v175:=Tryz.zeroValue176
 t210:=Tryz.underlying179
 a210:=Tryz.isAgg179
 z210:=Tryz.sizeOf179
 v210:=Tryz.zeroValue179
 t212:=Tryz.underlying196
 a212:=Tryz.isAgg196
 z212:=Tryz.sizeOf196
 v212:=Tryz.zeroValue196
 t213:=Tryz.underlying197
 a213:=Tryz.isAgg197
 z213:=Tryz.sizeOf197
 t232:=Tryz.underlying212
 a232:=Tryz.isAgg212
 z232:=Tryz.sizeOf212
 v232:=Tryz.zeroValue212
 t233:=Tryz.underlying213
 a233:=Tryz.isAgg213
 z233:=Tryz.sizeOf213
 v233:=Tryz.zeroValue213
 g15:=by kernel_rfl
 g16:=by kernel_rfl
 g17:=by kernel_rfl
 g18:=by kernel_rfl
 g19:=by kernel_rfl }
open Go.RowKit in
theorem Tryz.strconv_Atoi (s:ByteArray) (n:Int) (hl:s.size≤18) (h:Lib.atoi s.data.toList=some n) (w:World) :
  Calls Tryz.prog 66 #[.string s] w fun e w'=>e = .returned (.tuple #[.int .i64 n, .nilIface])∧∃ t,w'=Lib.bytesWorld w 5 t:=Any.strconv_Atoi Tryz.lays172 s n hl h w
def Tryz.laysM171_ren:Go.Shelf.Ren:=⟨fun | 171=>42 | 243=>84 | 246=>116 | 283=>141 | 284=>142 | 285=>143 | 286=>144 | 129=>176 | 317=>177 | 318=>178 | 319=>179 | 320=>180 | 337=>192 | 338=>193 | n=>n,fun | 3=>3 | 9=>9 | 2=>2 | 4=>4 | 171=>161 | 0=>0 | 53=>162 | 37=>24 | 5=>5 | 173=>165 | 212=>196 | 51=>173 | 20=>20 | 213=>197 | 46=>137 | 232=>212 | 233=>213 | n=>n,fun | 17=>5 | 18=>6 | 19=>7 | n=>n⟩
theorem Tryz.laysM171:Go.Proofs.LaysM.n171 Tryz.prog Tryz.laysM171_ren := {
 mixed:=by kernel_rfl
 f129:=Tryz.func176.trans (congrArg some (by kernel_rfl))
 f171:=Tryz.func42.trans (congrArg some (by kernel_rfl))
 f243:=Tryz.func84.trans (congrArg some (by kernel_rfl))
 f246:=Tryz.func116.trans (congrArg some (by kernel_rfl))
 f283:=Tryz.func141.trans (congrArg some (by kernel_rfl))
 f284:=Tryz.func142.trans (congrArg some (by kernel_rfl))
 f285:=Tryz.func143.trans (congrArg some (by kernel_rfl))
 f286:=Tryz.func144.trans (congrArg some (by kernel_rfl))
 f317:=Tryz.func177.trans (congrArg some (by kernel_rfl))
 f318:=Tryz.func178.trans (congrArg some (by kernel_rfl))
 f319:=Tryz.func179.trans (congrArg some (by kernel_rfl))
 f320:=Tryz.func180.trans (congrArg some (by kernel_rfl))
 f337:=Tryz.func192.trans (congrArg some (by kernel_rfl))
 f338:=Tryz.func193.trans (congrArg some (by kernel_rfl))
 t0:=Tryz.underlying0
 a0:=Tryz.isAgg0
 z0:=Tryz.sizeOf0
 v0:=Tryz.zeroValue0
 t2:=Tryz.underlying2
 a2:=Tryz.isAgg2
 z2:=Tryz.sizeOf2
 v2:=Tryz.zeroValue2
 t3:=Tryz.underlying3
 a3:=Tryz.isAgg3
 z3:=Tryz.sizeOf3
 v3:=Tryz.zeroValue3
 t4:=Tryz.underlying4
 a4:=Tryz.isAgg4
 z4:=Tryz.sizeOf4
 v4:=Tryz.zeroValue4
 t5:=Tryz.underlying5
 a5:=Tryz.isAgg5
 z5:=Tryz.sizeOf5
 v5:=Tryz.zeroValue5
 t9:=Tryz.underlying9
 a9:=Tryz.isAgg9
 z9:=Tryz.sizeOf9
 v9:=Tryz.zeroValue9
 t20:=Tryz.underlying20
 a20:=Tryz.isAgg20
 z20:=Tryz.sizeOf20
 v20:=Tryz.zeroValue20
 t37:=Tryz.underlying24
 a37:=Tryz.isAgg24
 z37:=Tryz.sizeOf24
 v37:=Tryz.zeroValue24
 t46:=Tryz.underlying137
 a46:=Tryz.isAgg137
 z46:=Tryz.sizeOf137
 v46:=Tryz.zeroValue137
 t51:=Tryz.underlying173
 a51:=Tryz.isAgg173
 z51:=Tryz.sizeOf173
 v51:=Tryz.zeroValue173
 t53:=Tryz.underlying162
 a53:=Tryz.isAgg162
 z53:=Tryz.sizeOf162
 v53:=Tryz.zeroValue162
 t171:=Tryz.underlying161
 a171:=Tryz.isAgg161
 z171:=Tryz.sizeOf161
 v171:=Tryz.zeroValue161
 t173:=Tryz.underlying165
 a173:=Tryz.isAgg165
 z173:=Tryz.sizeOf165
 v173:=Tryz.zeroValue165
 t212:=Tryz.underlying196
 a212:=Tryz.isAgg196
 z212:=Tryz.sizeOf196
 v212:=Tryz.zeroValue196
 t213:=Tryz.underlying197
 a213:=Tryz.isAgg197
 z213:=Tryz.sizeOf197
 t232:=Tryz.underlying212
 a232:=Tryz.isAgg212
 z232:=Tryz.sizeOf212
 v232:=Tryz.zeroValue212
 t233:=Tryz.underlying213
 a233:=Tryz.isAgg213
 z233:=Tryz.sizeOf213
 v233:=Tryz.zeroValue213
 g17:=by kernel_rfl
 g18:=by kernel_rfl
 g19:=by kernel_rfl
 i0:=by kernel_rfl
 i2:=by kernel_rfl
 i3:=by kernel_rfl
 i4:=by kernel_rfl
 i5:=by kernel_rfl
 i9:=by kernel_rfl
 i20:=by kernel_rfl
 i37:=by kernel_rfl
 i46:=by kernel_rfl
 i51:=by kernel_rfl
 i53:=by kernel_rfl
 i171:=by kernel_rfl
 i173:=by kernel_rfl
 i212:=by kernel_rfl
 i232:=by kernel_rfl
 i233:=by kernel_rfl
 m17:=by kernel_rfl
 m18:=by kernel_rfl
 m19:=by kernel_rfl }
open Go.RowKit Go.Sort Go.Lib in
theorem Tryz.strconv_Itoa (n:Int) (h0 : -9223372036854775808≤n) (h1:n≤9223372036854775807) (w:World) (htab:Lib.TabIs Tryz.prog w "internal/strconv.uint64pow10" .u64 Lib.pow10Tab) :
  Calls Tryz.prog 42 #[.int .i64 n] w fun e w'=>e = .returned (.string ⟨(Lib.itoa n).toArray⟩)∧∃ k os,w'=grow (w.drewN k) os:=Any.strconv_Itoa Tryz.laysM171 n h0 h1 w htab
def Tryz.lays146_ren:Go.Shelf.Ren:=⟨fun | 146=>10 | 221=>32 | 268=>62 | 138=>63 | 143=>64 | 195=>94 | 197=>95 | 218=>96 | 219=>97 | 260=>120 | 217=>121 | 225=>122 | 224=>123 | 267=>124 | 266=>147 | 314=>148 | n=>n,fun | 9=>9 | 31=>27 | 3=>3 | 4=>4 | 0=>0 | 105=>119 | 21=>21 | 5=>5 | 46=>137 | 119=>169 | 139=>172 | 138=>171 | 146=>174 | 51=>173 | n=>n,fun | 1=>0 | 3=>1 | 4=>2 | n=>n⟩
theorem Tryz.lays146:Go.Proofs.Lays.n146 Tryz.prog Tryz.lays146_ren := {
 mixed:=by kernel_rfl
 f138:=Tryz.func63.trans (congrArg some (by kernel_rfl))
 f143:=Tryz.func64.trans (congrArg some (by kernel_rfl))
 f146:=Tryz.func10.trans (congrArg some (by kernel_rfl))
 f195:=Tryz.func94.trans (congrArg some (by kernel_rfl))
 f197:=Tryz.func95.trans (congrArg some (by kernel_rfl))
 f217:=Tryz.func121.trans (congrArg some (by kernel_rfl))
 f218:=Tryz.func96.trans (congrArg some (by kernel_rfl))
 f219:=Tryz.func97.trans (congrArg some (by kernel_rfl))
 f221:=Tryz.func32.trans (congrArg some (by kernel_rfl))
 f224:=Tryz.func123.trans (congrArg some (by kernel_rfl))
 f225:=Tryz.func122.trans (congrArg some (by kernel_rfl))
 f260:=Tryz.func120.trans (congrArg some (by kernel_rfl))
 f266:=Tryz.func147.trans (congrArg some (by kernel_rfl))
 f267:=Tryz.func124.trans (congrArg some (by kernel_rfl))
 f268:=Tryz.func62.trans (congrArg some (by kernel_rfl))
 f314:=Tryz.func148.trans (congrArg some (by kernel_rfl))
 t0:=Tryz.underlying0
 a0:=Tryz.isAgg0
 z0:=Tryz.sizeOf0
 v0:=Tryz.zeroValue0
 t3:=Tryz.underlying3
 a3:=Tryz.isAgg3
 z3:=Tryz.sizeOf3
 v3:=Tryz.zeroValue3
 t4:=Tryz.underlying4
 a4:=Tryz.isAgg4
 z4:=Tryz.sizeOf4
 v4:=Tryz.zeroValue4
 t5:=Tryz.underlying5
 a5:=Tryz.isAgg5
 z5:=Tryz.sizeOf5
 v5:=Tryz.zeroValue5
 t9:=Tryz.underlying9
 a9:=Tryz.isAgg9
 z9:=Tryz.sizeOf9
 v9:=Tryz.zeroValue9
 t21:=Tryz.underlying21
 a21:=Tryz.isAgg21
 z21:=Tryz.sizeOf21
 v21:=Tryz.zeroValue21
 t31:=Tryz.underlying27
 a31:=Tryz.isAgg27
 z31:=Tryz.sizeOf27
 v31:=Tryz.zeroValue27
 t46:=Tryz.underlying137
 a46:=Tryz.isAgg137
 z46:=Tryz.sizeOf137
 v46:=Tryz.zeroValue137
 t51:=Tryz.underlying173
 a51:=Tryz.isAgg173
 z51:=Tryz.sizeOf173
 v51:=Tryz.zeroValue173
 t105:=Tryz.underlying119
 a105:=Tryz.isAgg119
 z105:=Tryz.sizeOf119
 v105:=Tryz.zeroValue119
 t119:=Tryz.underlying169
 a119:=Tryz.isAgg169
 z119:=Tryz.sizeOf169
 t138:=Tryz.underlying171
 a138:=Tryz.isAgg171
 z138:=Tryz.sizeOf171
 v138:=Tryz.zeroValue171
 t139:=Tryz.underlying172
 a139:=Tryz.isAgg172
 z139:=Tryz.sizeOf172
 v139:=Tryz.zeroValue172
 t146:=Tryz.underlying174
 a146:=Tryz.isAgg174
 z146:=Tryz.sizeOf174
 v146:=Tryz.zeroValue174
 g1:=by kernel_rfl
 g3:=by kernel_rfl
 g4:=by kernel_rfl }
open Go.RowKit Go.Lib in
theorem Tryz.strings_Split (s sep:ByteArray) (m:Int) (w:World) (hs:s.size<4294967281) (hm:w.cell? ⟨0,0,none⟩=some (.int .i64 m)) (h1:1≤sep.size) :
  Calls Tryz.prog 10 #[.string s, .string sep] w fun e w' =>
   e = .returned (.slice (some ⟨w.heap.size,0,none⟩) (Lib.countB s sep+1) (Lib.countB s sep+1))∧w'=w.alloc (.cells ((Lib.splitB sep 0 (Lib.countB s sep) s).map Value.string).toArray 9):=Any.strings_Split Tryz.lays146 (by kernel_rfl) s sep m w hs hm h1
end Go.Proofs
namespace Go.Proofs.YthcpbojmalgdbaaGreatDoor.Q
open Go.RowKit Go.Proofs.YthcpbojmalgdbaaGreatDoorW.PrintWords Go.Proofs.YthcpbojmalgdbaaGreatDoorW.PrintLast Go.Proofs.YthcpbojmalgdbaaGreatDoorW.PrintMore Go.Proofs.YthcpbojmalgdbaaGreatDoor.Core
structure Gl (w:World):Prop where
 tab:Lib.TabIs Tryz.prog w "internal/strconv.uint64pow10" .u64 Lib.pow10Tab
 mx:∃ m:Int,w.cell? ⟨0,0,none⟩=some (.int .i64 m)
theorem pow10_at:∃ g,Tryz.prog.globalNamed "internal/strconv.uint64pow10" = some g:=by
 refine ⟨(Tryz.prog.globalNamed "internal/strconv.uint64pow10").getD 0,?_⟩
 kernel_rfl
theorem Gl.below {w w':World} (h:Gl w) (hb:Below w.heap.size w w'):Gl w':=by
 obtain ⟨g,hg⟩:=pow10_at
 refine ⟨?_,?_⟩
 ·have ht:=h.tab
  have hc:=ht.cell hg 0 (by decide)
  exact var?_below hb hg (World.block_lt_of_cell? _ _ hc) ht
 ·obtain ⟨m,hm⟩:=h.mx
  exact ⟨m,pw_cell_below hb hm⟩
theorem below_grow {B:Nat} {w W:World} (h:Below B w W) (hB:B≤W.heap.size) (os:Array Obj):Below B w (Sort.grow W os):=by
 refine ⟨h.os,h.tape,h.output,?_,fun i hi => ?_⟩
 ·have:=h.size
  show _≤(W.heap++os).size
  rw [Array.size_append]
  omega
 ·rw [← h.block i hi]
  show (W.heap++os)[i]? = _
  exact Array.getElem?_append_left (by omega)
theorem itoa_any (n:Int) (h0:0≤n) (h1:n≤1000000000000) (w:World) (hg:Gl w):Calls Tryz.prog 42 #[.int .i64 n] w fun e w'=>e = .returned (.string (decS n))∧Below w.heap.size w w':=by
 refine (Tryz.strconv_Itoa n (by omega) (by omega) w hg.tab).mono ?_
 rintro e w' ⟨rfl,k,os,rfl⟩
 exact ⟨rfl,below_grow (pw_below_drewN (Below.refl _ _) k) (Nat.le_refl _) os⟩
theorem split_any (s:ByteArray) (c:UInt8) (sep:ByteArray) (hsep:sep=⟨#[c]⟩) (w:World) (hs:s.size≤100000000) (hg:Gl w) :
  Calls Tryz.prog 10 #[.string s, .string sep] w fun e w'=>∃ v,e = .returned v∧Kd.R Kd.string 9 w' w.heap.size (fun _=>True) v (cutB c s)∧Below w.heap.size w w':=by
 obtain ⟨m,hm⟩:=hg.mx
 subst hsep
 refine (Tryz.strings_Split s ⟨#[c]⟩ m w (by omega) hm (Nat.le_refl 1)).mono ?_
 rintro e w' ⟨rfl,rfl⟩
 have hl:=(cutB_len c s).2
 refine ⟨_,rfl,?_,below_alloc (Below.refl _ _) _⟩
 rw [cutS,cutS_len]
 exact Kd.R_of_own (enc:=Value.string) (h1:=fun _=>rfl) (xs:=cutB c s) ⟨by simp [encs], .inr ⟨w.heap.size,(cutB c s).length,((cutB c s).map Value.string).toArray,rfl,Nat.le_refl _,heap_alloc_new w _,Nat.le_refl _,by unfold maxLen;omega,by simp,by simp [encs,List.take_of_length_le]⟩⟩ (fun _ _=>trivial)
def decV (s:ByteArray):Int:=if numB s<0 then 0 else numB s
def decO (s:ByteArray):Bool:=decide (0≤numB s)
theorem decO_bad {s:ByteArray} (h:numB s = -1):decV s=0∧decO s=false:=by
 unfold decV decO
 rw [h]
 exact ⟨rfl,rfl⟩
theorem decV_ok {s:ByteArray} (h:0≤numB s):decV s=numB s∧decO s=true:=by
 unfold decV decO
 exact ⟨if_neg (by omega),decide_eq_true h⟩
theorem ret_dec {a b:Int} {x y:Bool} (h:a=b) (h':x=y):Ending.returned (.tuple #[.int .i64 a, .bool x]) = .returned (.tuple #[.int .i64 b, .bool y]):=by rw [h,h']
theorem decimal_bad {s:ByteArray} {k:Nat} (hk:k<s.size) (h:¬ (48≤(s[k]'hk).toNat∧(s[k]'hk).toNat≤57)):numB s = -1:=by
 unfold numB
 exact numL_bad (.inr (.inr ⟨s[k]'hk,List.mem_of_getElem? (byte_here hk),h⟩))
theorem decimal_ok {s:ByteArray} (h1:1≤s.size) (h5:s.size≤5) (h0:¬ (1<s.size∧(Core.bt s).head? = some 48)) (hd:∀ b∈Core.bt s,48≤b.toNat∧b.toNat≤57):Lib.atoi s.data.toList=some (numB s)∧0≤numB s:=by
 have e:=bt_size s
 obtain ⟨m,e1,e2,e3⟩:=atoi_digits (s:=Core.bt s) (by omega) (by omega) hd
 have e4:numB s=numFrom 0 (Core.bt s):=numL_digits (by omega) (by omega) (by rwa [← e]) hd
 rw [e4,e2]
 exact ⟨e1,by omega⟩
set_option maxRecDepth 100000 in
set_option maxHeartbeats 4000000 in
theorem decimal_any (s:ByteArray) (w:World):Calls Tryz.prog 33 #[.string s] w fun e w'=>e = .returned (.tuple #[.int .i64 (decV s), .bool (decO s)])∧Below w.heap.size w w':=by
 cases hi:inB s.size 1 5 with
 | false =>
  have HI:=Lib.hid hi
  have HN:=Lib.hid (decO_bad (numB_bad (.inl (inB_15' hi))))
  clear hi
  go_enter Tryz.func33,Tryz.ntmps33
  go_wp2_with (go_at_call 65;refine (impl_in_any _ _ _ _).mono ?_;rintro e w' ⟨rfl,rfl⟩;rw [HI.out])
  go_ret2
  exact ⟨ret_dec HN.out.1.symm HN.out.2.symm,Below.refl _ _⟩
 | true =>
  obtain ⟨h1,h5⟩:=inB_15 hi
  have HI:=Lib.hid hi
  clear hi
  have hpos:0<s.size:=h1
  by_cases h2:1<s.size
  ·have e2:decide ((1:Int)<s.size)=true:=decide_eq_true (by omega)
   by_cases hz:s[0]'hpos=48
   ·have e3:(((((s[0]'hpos).toNat:Nat):Int)) == 48)=true:=byte_eq (c:=48) rfl hz
    have HN:=Lib.hid (decO_bad (numB_bad (s:=s) (.inr ⟨h2,by rw [head_here hpos,hz]⟩)))
    clear hz
    go_enter Tryz.func33,Tryz.ntmps33
    go_wp2_with (go_at_call 65;refine (impl_in_any _ _ _ _).mono ?_;rintro e w' ⟨rfl,rfl⟩;rw [HI.out])
    go_ret2
    exact ⟨ret_dec HN.out.1.symm HN.out.2.symm,Below.refl _ _⟩
   ·have e3:(((((s[0]'hpos).toNat:Nat):Int)) == 48)=false:=byte_ne (c:=48) rfl hz
    have HN:Hid (¬ (1<s.size∧(Core.bt s).head? = some 48)):=fun h=>hz (Option.some.inj ((head_here hpos).symm.trans h.2))
    clear hz
    go_enter Tryz.func33,Tryz.ntmps33
    go_wp2_with (go_at_call 65;refine (impl_in_any _ _ _ _).mono ?_;rintro e w' ⟨rfl,rfl⟩;rw [HI.out])
    go_loop [4] (fun vk=>∃ (k:Nat),k≤s.size∧vk = .int .i64 k∧Hid (∀ b∈(Core.bt s).take k,48≤b.toNat∧b.toNat≤57)) (fun vk=>s.size-(intOf vk).toNat)
    case atStart=>exact ⟨0,Nat.zero_le _,rfl,by show ∀ b∈_,_;simp⟩
    case round =>
     obtain ⟨k,hk,rfl,hN⟩:=hrel
     by_cases hlt:k<s.size
     ·rcases digit_cases (s[k]'hlt) with ⟨c1,ho⟩ | ⟨c1,c2,ho⟩ | ⟨c1,c2,ho⟩
      ·have HB:=Lib.hid (decO_bad (decimal_bad hlt ho.out))
       go_wp2
       go_ret2
       exact ⟨ret_dec HB.out.1.symm HB.out.2.symm,Below.refl _ _⟩
      ·have HB:=Lib.hid (decO_bad (decimal_bad hlt ho.out))
       go_wp2
       go_ret2
       exact ⟨ret_dec HB.out.1.symm HB.out.2.symm,Below.refl _ _⟩
      ·go_wp2
       go_round
       case rel =>
        refine ⟨k+1,hlt,by go_num,fun b hb => ?_⟩
        rw [List.take_add_one,byte_here hlt] at hb
        rcases List.mem_append.1 hb with h | h
        ·exact hN.out b h
        ·rw [Option.toList_some] at h
         rw [List.mem_singleton.1 h]
         exact ho.out
       case measure=>simp [intOf];omega
     ·obtain rfl:k=s.size:=by omega
      have hd:=hN.out
      rw [List.take_of_length_le (by rw [bt_size];exact Nat.le_refl _)] at hd
      obtain ⟨ha,hp⟩:=decimal_ok h1 h5 HN.out hd
      have HD:=Lib.hid (decV_ok hp)
      have HA:=Lib.hid ha
      clear ha hp hd
      go_wp2_with (go_at_call 66;refine (Tryz.strconv_Atoi s (numB s) (by omega) HA.out w).mono ?_;rintro e w' ⟨rfl,t,rfl⟩)
      go_ret2
      exact ⟨ret_dec HD.out.1.symm HD.out.2.symm,bytes_below (Below.refl _ _) (Nat.le_refl _) _ _⟩
  ·have e2:decide ((1:Int)<s.size)=false:=decide_eq_false (by omega)
   have HN:Hid (¬ (1<s.size∧(Core.bt s).head? = some 48)):=fun h=>h2 h.1
   go_enter Tryz.func33,Tryz.ntmps33
   go_wp2_with (go_at_call 65;refine (impl_in_any _ _ _ _).mono ?_;rintro e w' ⟨rfl,rfl⟩;rw [HI.out])
   go_loop [4] (fun vk=>∃ (k:Nat),k≤s.size∧vk = .int .i64 k∧Hid (∀ b∈(Core.bt s).take k,48≤b.toNat∧b.toNat≤57)) (fun vk=>s.size-(intOf vk).toNat)
   case atStart=>exact ⟨0,Nat.zero_le _,rfl,by show ∀ b∈_,_;simp⟩
   case round =>
    obtain ⟨k,hk,rfl,hN⟩:=hrel
    by_cases hlt:k<s.size
    ·rcases digit_cases (s[k]'hlt) with ⟨c1,ho⟩ | ⟨c1,c2,ho⟩ | ⟨c1,c2,ho⟩
     ·have HB:=Lib.hid (decO_bad (decimal_bad hlt ho.out))
      go_wp2
      go_ret2
      exact ⟨ret_dec HB.out.1.symm HB.out.2.symm,Below.refl _ _⟩
     ·have HB:=Lib.hid (decO_bad (decimal_bad hlt ho.out))
      go_wp2
      go_ret2
      exact ⟨ret_dec HB.out.1.symm HB.out.2.symm,Below.refl _ _⟩
     ·go_wp2
      go_round
      case rel =>
       refine ⟨k+1,hlt,by go_num,fun b hb => ?_⟩
       rw [List.take_add_one,byte_here hlt] at hb
       rcases List.mem_append.1 hb with h | h
       ·exact hN.out b h
       ·rw [Option.toList_some] at h
        rw [List.mem_singleton.1 h]
        exact ho.out
      case measure=>simp [intOf];omega
    ·obtain rfl:k=s.size:=by omega
     have hd:=hN.out
     rw [List.take_of_length_le (by rw [bt_size];exact Nat.le_refl _)] at hd
     obtain ⟨ha,hp⟩:=decimal_ok h1 h5 HN.out hd
     have HD:=Lib.hid (decV_ok hp)
     have HA:=Lib.hid ha
     clear ha hp hd
     go_wp2_with (go_at_call 66;refine (Tryz.strconv_Atoi s (numB s) (by omega) HA.out w).mono ?_;rintro e w' ⟨rfl,t,rfl⟩)
     go_ret2
     exact ⟨ret_dec HD.out.1.symm HD.out.2.symm,bytes_below (Below.refl _ _) (Nat.le_refl _) _ _⟩
structure Ses (w0 V:World) (S:Nat) (b:Book):Prop where
 box:∃ v0 v1 v2,V.heap[S]? = some (.cells #[v0,v1,v2] 39 (0,0))∧RdB V (S+1) v0 v1 v2 b
 L:Below w0.heap.size w0 V
 hS:w0.heap.size≤S
 g0:Gl w0
theorem Ses.gl {w0 V:World} {S:Nat} {b:Book} (h:Ses w0 V S b):Gl V:=h.g0.below h.L
theorem Ses.below {w0 V V1:World} {S:Nat} {b:Book} (h:Ses w0 V S b) (hb:Below V.heap.size V V1):Ses w0 V1 S b:=by
 obtain ⟨v0,v1,v2,hx,hr⟩:=h.box
 exact ⟨⟨v0,v1,v2,blk_below hx hb,hr.below hb⟩,below_next h.L h.L.size hb,h.hS,h.g0⟩
theorem Ses.form {w0 V:World} {S:Nat} {b:Book} (h:Ses w0 V S b):∃ A0 c0 A1 c1 A2 c2,V.heap[S]? = some (.cells #[.slice A0 b.f0.length c0, .slice A1 b.f1.length c1, .slice A2 b.f2.length c2] 39 (0,0))∧RdB V (S+1) (.slice A0 b.f0.length c0) (.slice A1 b.f1.length c1) (.slice A2 b.f2.length c2) b:=by
 obtain ⟨v0,v1,v2,hx,hr⟩:=h.box
 obtain ⟨A0,c0,A1,c1,A2,c2,rfl,rfl,rfl⟩:=hr.form
 exact ⟨A0,c0,A1,c1,A2,c2,hx,hr⟩
theorem Ses.lt {w0 V:World} {S:Nat} {b:Book} (h:Ses w0 V S b):S<V.heap.size:=by
 obtain ⟨v0,v1,v2,hx,hr⟩:=h.box
 exact blk_lt hx
theorem keep_own {w V:World} {S:Nat} (h:KeepBut w V S none) (j:Nat) (u:Value):KeepBut w (V.setCell ⟨S,j,none⟩ u) S none :=
 ⟨by simpa [World.setCell] using h.1,fun i hi hg hr=>(Below.heap_setCell V ⟨S,j,none⟩ u i hg).trans (h.2 i hi hg hr)⟩
theorem keep_own3 {w V:World} {S:Nat} (h:KeepBut w V S none) (u0 u1 u2:Value):KeepBut w (((V.setCell ⟨S,0,none⟩ u0).setCell ⟨S,1,none⟩ u1).setCell ⟨S,2,none⟩ u2) S none:=keep_own (keep_own (keep_own h 0 u0) 1 u1) 2 u2
theorem keep_bel {w V V1:World} {S:Nat} (h:KeepBut w V S none) (hb:Below V.heap.size V V1):KeepBut w V1 S none:=h.trans (KeepBut.of_below hb S none) (.inl rfl)
theorem Ses.put {w0 V:World} {S:Nat} {b b':Book} {u0 u1 u2:Value} (h:Ses w0 V S b) (hr:RdB V (S+1) u0 u1 u2 b'):Ses w0 (((V.setCell ⟨S,0,none⟩ u0).setCell ⟨S,1,none⟩ u1).setCell ⟨S,2,none⟩ u2) S b':=by
 obtain ⟨v0,v1,v2,hx,_⟩:=h.box
 exact ⟨⟨u0,u1,u2,blk_set (blk_set (blk_set hx 0 u0) 1 u1) 2 u2,((hr.setOld (p:=⟨S,0,none⟩) (Nat.lt_succ_self S) u0).setOld (p:=⟨S,1,none⟩) (Nat.lt_succ_self S) u1).setOld (p:=⟨S,2,none⟩) (Nat.lt_succ_self S) u2⟩,
  ((h.L.setCell (p:=⟨S,0,none⟩) h.hS u0).setCell (p:=⟨S,1,none⟩) h.hS u1).setCell (p:=⟨S,2,none⟩) h.hS u2,h.hS,h.g0⟩
theorem slots_one {b:Book} {k:Nat} {f:Flight} {x:Int} (hf:b.f1[k]? = some f) (hx:b.f2[k]? = some x):slotsTo b k++(f.f0++⟨#[64]⟩++slotT x++⟨#[32]⟩)=slotsTo b (k+1):=(slotsTo_step hf hx).symm
set_option maxRecDepth 100000 in
set_option maxHeartbeats 4000000 in
theorem slotsM_any {w0 w:World} {S:Nat} {b:Book} (h:Ses w0 w S b) (hok:okB b=true) :
  Calls Tryz.prog 39 #[.pointer (some ⟨S,0,none⟩)] w fun e w'=>e = .returned (.string (slotsT b))∧Below w.heap.size w w':=by
 obtain ⟨A0,c0,A1,c1,A2,c2,hbox,hrd⟩:=h.form
 have HG:=Lib.hid h.gl
 have HR1:=Lib.hid hrd.form_D.2.1
 have HR2:=Lib.hid hrd.form_D.2.2
 have HOK:=Lib.hid hok
 have hl:=okB_len hok
 have h8:=(flightsB_parts (slotsB_parts (fitsB_parts hok).2.1).1).1
 have HL:=Lib.hid hl
 have HD:=Lib.hid (delay_bounds hok)
 have HZ:=Lib.hid (slotsTo_size hok)
 have HX:=Lib.hid hbox
 have xb:=(blk_cell hbox 1).trans rfl
 clear h hbox hrd hok hl
 go_enter Tryz.func39,Tryz.ntmps39
 go_wp2
 go_loopw [3,13] (fun vo vk wr=>∃ (k:Nat) (o:ByteArray),vk = .int .i64 k∧vo = .string o∧k≤b.f1.length∧Hid (o=slotsTo b k)∧Hid (Below w.heap.size w wr)) (fun _ vk _=>b.f1.length-(intOf vk).toNat)
 case atStart=>exact ⟨0,_,rfl,rfl,Nat.zero_le _,rfl,Below.refl _ _⟩
 case round =>
  clear xb
  obtain ⟨k,o,rfl,rfl,hk,HO,HB⟩:=hrel
  obtain ⟨wq,rfl⟩:∃ wo:World,wo=wr:=⟨_,rfl⟩
  have ho:o.size≤28*k:=by rw [HO.out];exact HZ.out k hk
  by_cases hlt:k<b.f1.length
  ·have j1:(k:Int)<b.f1.length:=by omega
   have hk2:k<b.f2.length:=by rw [HL.out];exact hlt
   have j2:(k:Int)<b.f2.length:=by omega
   obtain ⟨ad,f,A3,c3,rfl,hf,f0,f1,f2,f3,hl3,hr3⟩:=flightAt (Kd.C_below HR1.out HB.out) k hlt
   have hb4:Below wq.heap.size wq (wq.alloc (.cells #[.string f.f0, .int .i64 f.f1, .int .i64 f.f2, .slice A3 f.f3.length c3] 45)):=below_alloc (Below.refl _ _) _
   have T4:=Lib.hid (blk_new wq (.cells #[.string f.f0, .int .i64 f.f1, .int .i64 f.f2, .slice A3 f.f3.length c3] 45))
   have HB4:=Lib.hid (below_next HB.out HB.out.size hb4)
   clear hb4
   go_upto_region 5 with (fail)
   clear f0 f1 f2 f3
   obtain ⟨W4,hW4⟩:∃ W,W=wq.alloc (.cells #[.string f.f0, .int .i64 f.f1, .int .i64 f.f2, .slice A3 f.f3.length c3] 45):=⟨_,rfl⟩
   rw [← hW4] at T4 HB4 ⊢
   clear hW4
   have xc:=(blk_cell (blk_below HX.out HB4.out) 2).trans rfl
   have t0:=(blk_cell T4.out 0).trans rfl
   obtain ⟨ad2,x,rfl,hx,cx⟩:=intAt (Kd.C_below HR2.out HB4.out) k hk2
   have hn:=name_small HOK.out hf
   have HE:=Lib.hid (slots_one hf hx)
   have hxs:=slot_small HOK.out hx
   have q1:¬ (9223372036854775807:Nat)<f.f0.size+1:=by omega
   by_cases hneg:x<0
   ·have e1:decide (0≤x)=false:=decide_eq_false (by omega)
    have e1':decide (x ≥ 0)=false:=decide_eq_false (by omega)
    have q2:¬ (9223372036854775807:Nat)<f.f0.size+1+1:=by omega
    have q3:¬ (9223372036854775807:Nat)<f.f0.size+1+1+1:=by omega
    have q4:¬ (9223372036854775807:Nat)<o.size+(f.f0.size+1+1+1):=by omega
    have HT:Hid (slotT x=⟨#[45]⟩):=if_pos hneg
    clear hf hx hneg
    go_wp2
    go_roundw
    case rel=>exact ⟨k+1,_,by go_num,rfl,hlt,by show _=_;rw [← HE.out,HT.out,HO.out],HB4⟩
    case measure=>simp [intOf];omega
   ·have e1:decide (0≤x)=true:=decide_eq_true (by omega)
    have e1':decide (x ≥ 0)=true:=decide_eq_true (by omega)
    have hz:=decS_size (n:=x) (by omega) (by omega)
    have q2:¬ (9223372036854775807:Nat)<f.f0.size+1+(decS x).size:=by omega
    have q3:¬ (9223372036854775807:Nat)<f.f0.size+1+(decS x).size+1:=by omega
    have q4:¬ (9223372036854775807:Nat)<o.size+(f.f0.size+1+(decS x).size+1):=by omega
    have HT:Hid (slotT x=decS x):=if_neg hneg
    have QI:=Lib.hid (itoa_any x (by omega) (by omega) W4 (HG.out.below HB4.out))
    clear hf hx hneg
    go_wp2_with (fail)
    refine QI.out.mono ?_
    rintro e w5 ⟨rfl,hb⟩
    have t0:=(blk_cell (blk_below T4.out hb) 0).trans rfl
    have HB5:=Lib.hid (below_next HB4.out HB4.out.size hb)
    clear hb
    go_wp2
    go_roundw
    case rel=>exact ⟨k+1,_,by go_num,rfl,hlt,by show _=_;rw [← HE.out,HT.out,HO.out],HB5⟩
    case measure=>simp [intOf];omega
  ·obtain rfl:k=b.f1.length:=by omega
   have hdl:=HD.out
   have hz:=decS_size (n:=delayN b.f1 b.f2) hdl.1 (by omega)
   have q1:¬ (9223372036854775807:Nat)<o.size+5:=by omega
   have q2:¬ (9223372036854775807:Nat)<o.size+5+(decS (delayN b.f1 b.f2)).size:=by omega
   have m1:=After.cell ((blk_cell (blk_below HX.out HB.out) 1).trans rfl)
   have m2:=After.cell ((blk_cell (blk_below HX.out HB.out) 2).trans rfl)
   have QD:=Lib.hid (fun (u:After wq)=>impl_delay_any A1 c1 b.f1 A2 c2 b.f2 u.w (Kd.C_below HR1.out (below_next HB.out HB.out.size u.hb)) (Kd.C_below HR2.out (below_next HB.out HB.out.size u.hb)))
   have QI:=Lib.hid (fun (u:After wq)=>itoa_any (delayN b.f1 b.f2) hdl.1 (by omega) u.w (HG.out.below (below_next HB.out HB.out.size u.hb)))
   go_wp2
   refine wp_region_after (by kernel_rfl) (by kernel_rfl) ?_
   repeat (go_big_quiet_step (first | (go_at_call 75;exact calls_after (QD.out _)) | (go_at_call 42;exact calls_after (QI.out _))))
   refine wpQuiet_nil ?_
   intro _ hw'
   obtain ⟨u,hw''⟩:=hw'
   subst hw''
   go_wp2
   go_ret
   exact ⟨ret_str (by rw [HO.out];rfl),below_next HB.out HB.out.size u.hb⟩
set_option maxRecDepth 100000 in
set_option maxHeartbeats 4000000 in
theorem came_any {w0 w:World} {S:Nat} {b b':Book} {u0 u1 u2:Value} {code:Int} (h:Ses w0 w S b) (hr:RdB w (S+1) u0 u1 u2 b') (h0:0≤code) (h9:code≤9) (hsame:code≠0→b'=b) :
  Calls Tryz.prog 36 #[.pointer (some ⟨S,0,none⟩), .agg #[u0,u1,u2], .int .i64 code] w fun e w'=>e = .returned (.string (tCode++decS code))∧Ses w0 w' S b'∧KeepBut w w' S none:=by
 obtain ⟨A0,c0,A1,c1,A2,c2,rfl,rfl,rfl⟩:=hr.form
 have hb1:Below w.heap.size w (w.alloc (.cells #[.slice A0 b'.f0.length c0, .slice A1 b'.f1.length c1, .slice A2 b'.f2.length c2] 33)):=below_alloc (Below.refl _ _) _
 have H1:=Lib.hid (h.below hb1)
 have R1:=Lib.hid (hr.below hb1)
 have T1:=Lib.hid (blk_new w (.cells #[.slice A0 b'.f0.length c0, .slice A1 b'.f1.length c1, .slice A2 b'.f2.length c2] 33))
 have K1:=Lib.hid (KeepBut.of_below hb1 S none)
 have hSl:=h.lt
 clear h hr hb1
 have hz:=decS_size (n:=code) h0 (by omega)
 have q1:¬ (9223372036854775807:Nat)<5+(decS code).size:=by omega
 go_enter Tryz.func36,Tryz.ntmps36
 go_upto_region 1 with (fail)
 obtain ⟨W1,hW1⟩:∃ W,W=w.alloc (.cells #[.slice A0 b'.f0.length c0, .slice A1 b'.f1.length c1, .slice A2 b'.f2.length c2] 33):=⟨_,rfl⟩
 rw [← hW1] at H1 R1 T1 K1 ⊢
 clear hW1
 have t0:=(blk_cell T1.out 0).trans rfl
 have t1:=(blk_cell T1.out 1).trans rfl
 have t2:=(blk_cell T1.out 2).trans rfl
 obtain ⟨v0,v1,v2,hx,_⟩:=H1.out.box
 have HX:=Lib.hid hx
 clear hx
 have cz0:=(blk_cell HX.out 0).trans rfl
 have cz1:=(blk_cell HX.out 1).trans rfl
 have cz2:=(blk_cell HX.out 2).trans rfl
 have fz0:=blk_frozen HX.out 0
 have fz1:=blk_frozen HX.out 1
 have fz2:=blk_frozen HX.out 2
 by_cases hc:code=0
 ·subst hc
  have H2:=Lib.hid (H1.out.put R1.out)
  have K2:=Lib.hid (keep_own3 K1.out (.slice A0 b'.f0.length c0) (.slice A1 b'.f1.length c1) (.slice A2 b'.f2.length c2))
  go_upto_region 3 with (fail)
  clear t0 t1 t2 cz0 cz1 cz2 fz0 fz1 fz2
  obtain ⟨W2,hW2⟩:∃ W,W=((W1.setCell ⟨S,0,none⟩ (.slice A0 b'.f0.length c0)).setCell ⟨S,1,none⟩ (.slice A1 b'.f1.length c1)).setCell ⟨S,2,none⟩ (.slice A2 b'.f2.length c2):=⟨_,rfl⟩
  rw [← hW2] at H2 K2 ⊢
  clear hW2
  go_wp2_with (fail)
  refine (itoa_any 0 (by omega) (by omega) _ H2.out.gl).mono ?_
  rintro e w5 ⟨rfl,hb⟩
  have H5:=Lib.hid (H2.out.below hb)
  have K5:=Lib.hid (keep_bel K2.out hb)
  clear hb
  go_wp2
  go_ret
  exact ⟨rfl,H5.out,K5.out⟩
 ·have e1:(code == 0)=false:=by rw [beq_eq_false_iff_ne];exact hc
  have HS:=Lib.hid (hsame hc)
  clear hc t0 t1 t2 cz0 cz1 cz2 fz0 fz1 fz2
  go_wp2_with (fail)
  refine (itoa_any code h0 (by omega) _ H1.out.gl).mono ?_
  rintro e w5 ⟨rfl,hb⟩
  have H5:=Lib.hid (H1.out.below hb)
  have K5:=Lib.hid (keep_bel K1.out hb)
  clear hb
  go_wp2
  go_ret
  exact ⟨rfl,by rw [HS.out];exact H5.out,K5.out⟩
def addL (b:Book) (ws:List ByteArray):Book×ByteArray :=
 if numB (ws.getD 2 ByteArray.empty)<0∨numB (ws.getD 3 ByteArray.empty)<0 then (b,tBad)
 else match visitsR (ws.drop 4) with
  | none=>(b,tBad)
  | some vs=>((addR b ⟨ws.getD 1 ByteArray.empty,numB (ws.getD 2 ByteArray.empty),numB (ws.getD 3 ByteArray.empty),vs⟩).1,tCode++decS (addR b ⟨ws.getD 1 ByteArray.empty,numB (ws.getD 2 ByteArray.empty),numB (ws.getD 3 ByteArray.empty),vs⟩).2)
theorem addL_bad {b:Book} {ws:List ByteArray} (h:numB (ws.getD 2 ByteArray.empty)<0∨numB (ws.getD 3 ByteArray.empty)<0):addL b ws=(b,tBad):=if_pos h
theorem addL_none {b:Book} {ws:List ByteArray} (h:visitsR (ws.drop 4)=none):addL b ws=(b,tBad):=by
 unfold addL
 rw [h]
 split <;> rfl
theorem addL_some {b:Book} {ws:List ByteArray} {vs:List Visit} (h2:¬ numB (ws.getD 2 ByteArray.empty)<0) (h3:¬ numB (ws.getD 3 ByteArray.empty)<0) (h:visitsR (ws.drop 4)=some vs) :
  addL b ws=((addR b ⟨ws.getD 1 ByteArray.empty,numB (ws.getD 2 ByteArray.empty),numB (ws.getD 3 ByteArray.empty),vs⟩).1,tCode++decS (addR b ⟨ws.getD 1 ByteArray.empty,numB (ws.getD 2 ByteArray.empty),numB (ws.getD 3 ByteArray.empty),vs⟩).2):=by
 unfold addL
 rw [if_neg (fun hh=>hh.elim h2 h3),h]
theorem addR_same {b:Book} (hok:okB b=true) (f:Flight) (h:(addR b f).2≠0):(addR b f).1=b:=by
 unfold addR at h ⊢
 rw [if_neg (by rw [hok];decide)] at h ⊢
 split
 ·rfl
 ·rename_i h1
  rw [if_neg h1] at h
  split
  ·rfl
  ·rename_i h2
   rw [if_neg h2] at h
   split
   ·rfl
   ·rename_i h3
    rw [if_neg h3] at h
    exact absurd rfl h
theorem get_word {ws:List ByteArray} {k:Nat} (h:k<ws.length):ws[k]? = some (ws.getD k ByteArray.empty):=by
 rw [List.getD_eq_getElem?_getD,List.getElem?_eq_getElem h]
 rfl
theorem visits_flight:∀ q,q∈52 :: k52.E→q≠45:=by decide
theorem C_words4 {w:World} {g c n:Nat} {ws:List ByteArray} (h:Kd.C Kd.string w (some ⟨g,0,none⟩) ws.length ws) (h5:5≤ws.length) (hc:ws.length≤c) (hn:n=ws.length-4):Kd.C Kd.string w (some ⟨g,4,none⟩) (ws.drop 4).length (ws.drop 4):=by
 have t:=Kd.C_drop h (m:=4) (by omega) hc
 rw [if_neg (by omega)] at t
 exact t
set_option maxRecDepth 100000 in
set_option maxHeartbeats 16000000 in
theorem addM_any {w0 w:World} {S:Nat} {b:Book} (h:Ses w0 w S b) (hok:okB b=true) {lo g c:Nat} {ok:Nat→Prop} (ws:List ByteArray) (hw:Kd.R Kd.string 9 w lo ok (.slice (some ⟨g,0,none⟩) ws.length c) ws) (h5:5≤ws.length) (hsz:∀ s∈ws,s.size≤1000000) (hlen:ws.length≤1000000) :
  Calls Tryz.prog 35 #[.pointer (some ⟨S,0,none⟩), .slice (some ⟨g,0,none⟩) ws.length c] w fun e w'=>e = .returned (.string (addL b ws).2)∧Ses w0 w' S (addL b ws).1∧KeepBut w w' S none:=by
 obtain ⟨_,hcap,hC⟩:=Kd.R_reads' hw
 have HC:=Lib.hid hC
 have H0:=Lib.hid h
 have HOK:=Lib.hid hok
 have HS:=Lib.hid hsz
 have i1:(1:Int)<ws.length:=by omega
 have i2:(2:Int)<ws.length:=by omega
 have i3:(3:Int)<ws.length:=by omega
 have HW:=Lib.hid hw
 have g2:=strCell hw 2 (get_word (by omega))
 obtain ⟨n1,hn1⟩:∃ x,x=ws.getD 1 ByteArray.empty:=⟨_,rfl⟩
 obtain ⟨n2,hn2⟩:∃ x,x=ws.getD 2 ByteArray.empty:=⟨_,rfl⟩
 obtain ⟨n3,hn3⟩:∃ x,x=ws.getD 3 ByteArray.empty:=⟨_,rfl⟩
 rw [← hn2] at g2
 have N1:=Lib.hid hn1
 have N2:=Lib.hid hn2
 have N3:=Lib.hid hn3
 clear h hok hsz hw hC hn1 hn2 hn3
 go_enter Tryz.func35,Tryz.ntmps35
 go_wp2_with (fail)
 refine (decimal_any n2 _).mono ?_
 rintro e w1 ⟨rfl,hb⟩
 have H1:=Lib.hid (H0.out.below hb)
 have B1:=Lib.hid hb
 have g3:=strCell (Kd.R_below HW.out hb) 3 (get_word (by omega))
 rw [← N3.out] at g3
 clear g2 hb
 go_wp2_with (fail)
 refine (decimal_any n3 _).mono ?_
 rintro e w2 ⟨rfl,hb⟩
 have H2:=Lib.hid (H1.out.below hb)
 have B2:=Lib.hid (below_next B1.out B1.out.size hb)
 have g1:=strCell (Kd.R_below HW.out B2.out) 1 (get_word (by omega))
 rw [← N1.out] at g1
 clear g3 hb H1 B1
 by_cases hb2:numB n2<0
 ·have e2:decO n2=false:=decide_eq_false (by omega)
  have HL:=Lib.hid (addL_bad (b:=b) (ws:=ws) (.inl (by rw [← N2.out];exact hb2)))
  clear hb2
  go_wp2
  go_ret
  rw [HL.out]
  exact ⟨rfl,H2.out,KeepBut.of_below B2.out S none⟩
 have e2:=(decV_ok (s:=n2) (by omega)).2
 have v2:=Lib.hid (decV_ok (s:=n2) (by omega)).1
 by_cases hb3:numB n3<0
 ·have e3:decO n3=false:=decide_eq_false (by omega)
  have HL:=Lib.hid (addL_bad (b:=b) (ws:=ws) (.inr (by rw [← N3.out];exact hb3)))
  clear hb3
  go_wp2
  go_ret
  rw [HL.out]
  exact ⟨rfl,H2.out,KeepBut.of_below B2.out S none⟩
 have e3:=(decV_ok (s:=n3) (by omega)).2
 have v3:=Lib.hid (decV_ok (s:=n3) (by omega)).1
 rw [v2.out,v3.out]
 have HB2:=Lib.hid (show ¬ numB (ws.getD 2 ByteArray.empty)<0 by rw [← N2.out];exact hb2)
 have HB3:=Lib.hid (show ¬ numB (ws.getD 3 ByteArray.empty)<0 by rw [← N3.out];exact hb3)
 clear hb2 hb3 v2 v3
 have hal:Below w2.heap.size w2 (w2.alloc (.cells #[.string n1, .int .i64 (numB n2), .int .i64 (numB n3), .slice none 0 0] 45)):=below_alloc (Below.refl _ _) _
 have T3:=Lib.hid (blk_new w2 (.cells #[.string n1, .int .i64 (numB n2), .int .i64 (numB n3), .slice none 0 0] 45))
 have H3:=Lib.hid (H2.out.below hal)
 have B3:=Lib.hid (below_next B2.out B2.out.size hal)
 have t4:(4:Int)≤ws.length:=by omega
 have t4c:(ws.length:Int)≤c:=by omega
 have hc4:¬ c=4:=by omega
 have hdl:(ws.drop 4).length=ws.length-4:=List.length_drop
 obtain ⟨T,hT⟩:∃ n,n=w2.heap.size:=⟨_,rfl⟩
 rw [← hT] at T3
 have hTw:w.heap.size≤T:=by have:=B2.out.size;omega
 clear hal H2 B2
 go_wp2
 have HDL:=Lib.hid hdl
 have HCP:=Lib.hid (C_words4 (n:=ws.length-4) HC.out h5 hcap rfl)
 obtain ⟨D,hD⟩:∃ D,D=ws.drop 4:=⟨_,rfl⟩
 rw [← hD] at HDL HCP
 have HDD:=Lib.hid hD
 clear hD hdl
 rw [← hT]
 clear hT
 clear g1 e2 e3 t4 t4c hc4
 go_loopw [46] (fun vk wr=>∃ (k:Nat) (vs:List Visit) (A3:Option Addr) (c3:Nat),vk = .int .i64 k∧k≤ws.length-4∧Hid (visitsR (D.take k)=some vs)∧Hid (wr.heap[T]? = some (.cells #[.string n1, .int .i64 (numB n2), .int .i64 (numB n3), .slice A3 vs.length c3] 45 (0,0)))∧Hid (Kd.R k52 52 wr w.heap.size (fun _=>True) (.slice A3 vs.length c3) vs)∧Hid (Below w.heap.size w wr)) (fun vk _=>ws.length-4-(intOf vk).toNat)
 case atStart=>exact ⟨0,[],none,0,rfl,Nat.zero_le _,rfl,T3,Kd.R_nil _ _ _ _ _,B3⟩
 case round =>
  obtain ⟨k,vs,A3,c3,rfl,hk,HV,HT,HO,HB⟩:=hrel
  clear T3 H3 B3
  obtain ⟨wq,rfl⟩:∃ wo:World,wo=wr:=⟨_,rfl⟩
  have zr:=HB.out.size
  have HVL:=Lib.hid (visitsR_len HV.out)
  have hvl:vs.length≤1000000:=by rw [HVL.out,List.length_take];omega
  by_cases hlt:k<ws.length-4
  ·have j1:(k:Int)<((ws.length-4:Nat):Int):=by omega
   obtain ⟨ad,s,had,hs,cs⟩:=strAt (Kd.C_below HCP.out HB.out) k (by rw [HDL.out];exact hlt)
   injection had with had
   subst had
   rw [Addr.add_lit] at cs
   have hss:=HS.out s (List.mem_of_mem_drop (by have:=List.mem_of_getElem? hs;rw [HDD.out] at this;exact this))
   have HSK:=Lib.hid hs
   clear hs
   go_wp2_with (fail)
   refine (split_any s 58 ⟨#[58]⟩ rfl _ (by omega) (H0.out.below HB.out).gl).mono ?_
   rintro e w4 ⟨p,rfl,hp,hb⟩
   obtain ⟨Ap,cp,rfl⟩:=Kd.R_slice hp
   have hBd:Hid (∀ j,(Value.slice A3 vs.length c3).ownBlock=some j→j<wq.heap.size):=fun j hj=>Kd.R_lt HO.out j hj
   have HO4:=Lib.hid (Kd.R_below HO.out hb)
   have HT4:=Lib.hid (blk_below HT.out hb)
   have HB4:=Lib.hid (below_next HB.out HB.out.size hb)
   have HP:=Lib.hid hp
   have z4:=hb.size
   clear hp hb HO HT HB cs
   by_cases h3:(cutB 58 s).length=3
   case neg =>
    have e3:((((cutB 58 s).length:Nat):Int) != 3)=true:=by rw [bne_iff_ne];omega
    have HL:=Lib.hid (addL_none (b:=b) (ws:=ws) (by rw [← HDD.out];exact visits_end HSK.out HV.out (visit_short h3)))
    clear h3
    go_wp2
    go_ret
    rw [HL.out]
    exact ⟨rfl,(H0.out.below HB4.out),KeepBut.of_below HB4.out S none⟩
   obtain ⟨a,bb,dd,hcut,hv⟩:=visit_three h3
   have HCt:=Lib.hid hcut
   have HVR:=Lib.hid hv
   clear hv hcut
   have e3:((((cutB 58 s).length:Nat):Int) != 3)=false:=by rw [h3];rfl
   have i0':0<(cutB 58 s).length:=by omega
   have i1':(1:Int)<(cutB 58 s).length:=by omega
   have i2':(2:Int)<(cutB 58 s).length:=by omega
   obtain ⟨gp,cp',hform,hg0,hg1,csp,hcsp⟩:=Kd.R_form HP.out (by omega)
   injection hform with ea en ec
   subst ea ec
   clear en hcsp csp h3
   have p1:=strCell HP.out 1 (y:=bb) (by rw [HCt.out];rfl)
   go_wp2_with (fail)
   refine (decimal_any bb _).mono ?_
   rintro e w5 ⟨rfl,hb⟩
   have HO5:=Lib.hid (Kd.R_below HO4.out hb)
   have HT5:=Lib.hid (blk_below HT4.out hb)
   have HB5:=Lib.hid (below_next HB4.out HB4.out.size hb)
   have HP5:=Lib.hid (Kd.R_below HP.out hb)
   have z5:=hb.size
   clear hb HO4 HT4 HB4 HP
   clear p1
   have p2:=strCell HP5.out 2 (y:=dd) (by rw [HCt.out];rfl)
   go_wp2_with (fail)
   refine (decimal_any dd _).mono ?_
   rintro e w6 ⟨rfl,hb⟩
   have HO6:=Lib.hid (Kd.R_below HO5.out hb)
   have HT6:=Lib.hid (blk_below HT5.out hb)
   have HB6:=Lib.hid (below_next HB5.out HB5.out.size hb)
   have HP6:=Lib.hid (Kd.R_below HP5.out hb)
   have z6:=hb.size
   clear hb HO5 HT5 HB5 HP5
   clear p2
   by_cases hbb:numB bb<0
   case pos =>
    have ebb:decO bb=false:=decide_eq_false (by omega)
    have HL:=Lib.hid (addL_none (b:=b) (ws:=ws) (by rw [← HDD.out];exact visits_end HSK.out HV.out (by rw [HVR.out,if_pos (.inl hbb)])))
    clear hbb
    go_wp2
    go_ret
    rw [HL.out]
    exact ⟨rfl,(H0.out.below HB6.out),KeepBut.of_below HB6.out S none⟩
   have ebb:=(decV_ok (s:=bb) (by omega)).2
   have vbb:=Lib.hid (decV_ok (s:=bb) (by omega)).1
   by_cases hdd:numB dd<0
   case pos =>
    have edd:decO dd=false:=decide_eq_false (by omega)
    have HL:=Lib.hid (addL_none (b:=b) (ws:=ws) (by rw [← HDD.out];exact visits_end HSK.out HV.out (by rw [HVR.out,if_pos (.inr hdd)])))
    clear hdd
    go_wp2
    go_ret
    rw [HL.out]
    exact ⟨rfl,(H0.out.below HB6.out),KeepBut.of_below HB6.out S none⟩
   have edd:=(decV_ok (s:=dd) (by omega)).2
   have vdd:=Lib.hid (decV_ok (s:=dd) (by omega)).1
   have HM:=Lib.hid (visits_more HSK.out HV.out (v:=⟨a,numB bb,numB dd⟩) (by rw [HVR.out,if_neg (fun h=>h.elim hbb hdd)]))
   rw [vbb.out,vdd.out]
   clear hbb hdd vbb vdd
   have p0:=strCell HP6.out 0 (y:=a) (by rw [HCt.out];rfl)
   have t3:=(blk_cell HT6.out 3).trans rfl
   have hS0:Hid (w6.cell? ⟨T,3,none⟩=some (.slice A3 vs.length c3)∧w6.cell? ⟨gp,0,none⟩=some (.string a)):=⟨t3,p0⟩
   have KS:Hid (∀ V,Below w6.heap.size w6 V→V.cell? ⟨T,3,none⟩=some (.slice A3 vs.length c3)∧V.cell? ⟨gp,0,none⟩=some (.string a)):=fun V h=>⟨pw_cell_below h hS0.out.1,pw_cell_below h hS0.out.2⟩
   have hTo:Hid (∀ j,(Value.slice A3 vs.length c3).ownBlock=some j→T≠j):=fun j hj e=>by subst e;obtain ⟨cs_,h1⟩:=Kd.R_typed HO6.out T hj;exact blk_ne h1 HT6.out (by decide) rfl
   have hOl:Hid (∀ j,(Value.slice A3 vs.length c3).ownBlock=some j→w.heap.size≤j):=fun j hj=>Kd.R_base HO6.out j hj
   have hgpo:Hid (∀ j,(Value.slice A3 vs.length c3).ownBlock=some j→gp≠j):=fun j hj e=>by have:=hBd.out j hj;omega
   clear hS0 t3 p0
   go_upto_region 16 with (fail)
   have HOd:=Lib.hid (Kd.R_drewN HO6.out 1)
   have HBd:Hid (Below w.heap.size w w6.drew):=pw_below_drewN HB6.out 1
   have zd:Hid (w.heap.size≤w6.drew.heap.size):=HB6.out.size
   have b0:Hid (Below w6.heap.size w6 w6.drew):=pw_below_drewN (Below.refl _ _) 1
   refine start_ (n:=12) (S:=fun w'=>w'.cell? ⟨T,3,none⟩=some (.slice A3 vs.length c3)∧w'.cell? ⟨gp,0,none⟩=some (.string a)) (ds:=[11]) #[false,false,false,false,false,false,false,false,false,false,false,false] (by kernel_rfl) rfl rfl (KS.out _ b0.out) (fun hHeld => ?_)
   refine pureA 0 (h := ?_)
   refine pureA 2 (h := ?_)
   refine pureA 3 (h := ?_)
   refine pureA 5 (h := ?_)
   refine pureA 6 (h := ?_)
   refine takeA 1 hHeld (h := ?_)
   refine takeA 4 hHeld (h := ?_)
   refine pureA 7 (h := ?_)
   refine oneA 8 (h:=fun K hK => ?_)
   go_simp
   refine hK.out _ _ (KS.out _ (b0.out.trans ((below_alloc (Below.refl _ _) _).mono b0.out.size))) (fun hHeld => ?_)
   clear hK K
   refine oneA 9 (h:=fun K hK => ?_)
   refine Kd.R_append_step k52 (w0:=w) w.heap.size (by rfl) (.tmp 76) (.tmp 83) 43 52 (.agg #[.string ByteArray.empty, .int .i64 0, .int .i64 0]) 32 (by rfl) Tryz.underlying43 infoVisit rfl (by decide) (by decide) (.slice A3 vs.length c3) vs (⟨a,numB bb,numB dd⟩:Visit) [.string a, .int .i64 (numB bb), .int .i64 (numB dd)] (fun _=>True) (fun _=>False) (by rfl) (by rfl) (k52_mkM _ _ _ (⟨a,numB bb,numB dd⟩:Visit)) (fun _ h=>h.elim) (fun _ _=>trivial) HOd.out HBd.out zd.out (by omega) ?_
   intro v9 w9 ho hb hg hat
   obtain ⟨A9,c9,rfl⟩:=Kd.R_slice ho
   rw [List.length_append,List.length_singleton] at ho ⊢
   have HT9:=Lib.hid (blk_grown (show w6.drew.heap[T]? = _ from HT6.out) hg (fun e=>hTo.out T e.symm rfl))
   have HO9:=Lib.hid ho
   have HB9:=Lib.hid hb
   have p9:=hg.cell (KS.out _ b0.out).2 (fun e=>hgpo.out _ e.symm rfl)
   have f9:=blk_frozen HT9.out 3
   have c9_:=(blk_cell HT9.out 3).trans rfl
   clear ho hb hat hg
   refine hK.out _ _ (⟨c9_,p9⟩) (fun hHeld => ?_)
   clear hK K
   refine pureA 10 (h := ?_)
   refine lastA 11 (h:=fun K hK => ?_)
   go_simp
   refine hK.out _ _ ?_
   clear hK K
   refine doneA (h := ?_)
   have HTx:Hid ((w9.setCell ⟨T,3,none⟩ (.slice A9 (vs.length+1) c9)).heap[T]? = some (.cells #[.string n1, .int .i64 (numB n2), .int .i64 (numB n3), .slice A9 (vs.length+1) c9] 45 (0,0))):=blk_set HT9.out 3 (.slice A9 (vs.length+1) c9)
   have HOx:=Lib.hid (Kd.R_set HO9.out HT9.out visits_flight 3 (.slice A9 (vs.length+1) c9))
   have HBx:Hid (Below w.heap.size w (w9.setCell ⟨T,3,none⟩ (.slice A9 (vs.length+1) c9))):=HB9.out.setCell (p:=⟨T,3,none⟩) hTw (.slice A9 (vs.length+1) c9)
   clear HT9 HO9 HB9 f9 c9_ p9 KS HOd HBd zd b0 hTo hOl hgpo HO6 HT6 HB6 HP6
   go_wp2
   go_roundw
   case rel=>exact ⟨k+1,_,A9,c9,by go_num,hlt,HM.out,(by have t:=HTx.out;show _=_;rw [List.length_append,List.length_singleton];exact t),(by have t:=HOx.out;show Kd.R _ _ _ _ _ _ _;rw [List.length_append,List.length_singleton];exact t),HBx⟩
   case measure=>simp [intOf];omega
  ·obtain rfl:k=ws.length-4:=by omega
   have HVE:Hid (visitsR (ws.drop 4)=some vs):=by have t:=HV.out;rw [← HDL.out,List.take_length,HDD.out] at t;exact t
   have HL:=Lib.hid (addL_some (b:=b) (ws:=ws) (by have:=HB2.out;omega) (by have:=HB3.out;omega) HVE.out)
   obtain ⟨f,hf⟩:∃ f:Flight,f=⟨n1,numB n2,numB n3,vs⟩:=⟨_,rfl⟩
   have HLf:Hid (addL b ws=((addR b f).1,tCode++decS (addR b f).2)):=by show _=_;rw [HL.out,hf,N1.out,N2.out,N3.out]
   obtain ⟨f0_,f1_,f2_,f3_⟩:f.f0=n1∧f.f1=numB n2∧f.f2=numB n3∧f.f3=vs:=by subst hf;exact ⟨rfl,rfl,rfl,rfl⟩
   have F0:=Lib.hid f0_
   have F1:=Lib.hid f1_
   have F2:=Lib.hid f2_
   have F3:=Lib.hid f3_
   clear f0_ f1_ f2_ f3_ hf HL
   have HSe:=Lib.hid (H0.out.below HB.out)
   obtain ⟨A0,c0,A1,c1,A2,c2,hbx,hrd⟩:=HSe.out.form
   have hCv:=(Kd.R_reads' HO.out)
   have HCv:=Lib.hid hCv.2.2
   have hcv:=hCv.2.1
   clear hCv
   have hS0:Hid (wq.cell? ⟨S,0,none⟩=some (.slice A0 b.f0.length c0)∧wq.cell? ⟨S,1,none⟩=some (.slice A1 b.f1.length c1)∧wq.cell? ⟨S,2,none⟩=some (.slice A2 b.f2.length c2)∧wq.cell? ⟨T,0,none⟩=some (.string n1)∧wq.cell? ⟨T,1,none⟩=some (.int .i64 (numB n2))∧wq.cell? ⟨T,2,none⟩=some (.int .i64 (numB n3))∧wq.cell? ⟨T,3,none⟩=some (.slice A3 vs.length c3)):=⟨(blk_cell hbx 0).trans rfl,(blk_cell hbx 1).trans rfl,(blk_cell hbx 2).trans rfl,(blk_cell HT.out 0).trans rfl,(blk_cell HT.out 1).trans rfl,(blk_cell HT.out 2).trans rfl,(blk_cell HT.out 3).trans rfl⟩
   have KS:Hid (∀ V,Below wq.heap.size wq V→V.cell? ⟨S,0,none⟩=some (.slice A0 b.f0.length c0)∧V.cell? ⟨S,1,none⟩=some (.slice A1 b.f1.length c1)∧V.cell? ⟨S,2,none⟩=some (.slice A2 b.f2.length c2)∧V.cell? ⟨T,0,none⟩=some (.string n1)∧V.cell? ⟨T,1,none⟩=some (.int .i64 (numB n2))∧V.cell? ⟨T,2,none⟩=some (.int .i64 (numB n3))∧V.cell? ⟨T,3,none⟩=some (.slice A3 vs.length c3)):=fun V h=>⟨pw_cell_below h hS0.out.1,pw_cell_below h hS0.out.2.1,pw_cell_below h hS0.out.2.2.1,pw_cell_below h hS0.out.2.2.2.1,pw_cell_below h hS0.out.2.2.2.2.1,pw_cell_below h hS0.out.2.2.2.2.2.1,pw_cell_below h hS0.out.2.2.2.2.2.2⟩
   have HRD:=Lib.hid hrd
   clear hS0 hbx hrd
   go_upto_region 18 with (fail)
   have b0:Hid (Below wq.heap.size wq wq.drew):=pw_below_drewN (Below.refl _ _) 1
   refine start_ (n:=11) (S:=fun w'=>w'.cell? ⟨S,0,none⟩=some (.slice A0 b.f0.length c0)∧w'.cell? ⟨S,1,none⟩=some (.slice A1 b.f1.length c1)∧w'.cell? ⟨S,2,none⟩=some (.slice A2 b.f2.length c2)∧w'.cell? ⟨T,0,none⟩=some (.string n1)∧w'.cell? ⟨T,1,none⟩=some (.int .i64 (numB n2))∧w'.cell? ⟨T,2,none⟩=some (.int .i64 (numB n3))∧w'.cell? ⟨T,3,none⟩=some (.slice A3 vs.length c3)) (ds:=[9,10]) #[false,false,false,false,false,false,false,false,false,false,false] (by kernel_rfl) rfl rfl (KS.out _ b0.out) (fun hHeld => ?_)
   refine pureA 0 (h := ?_)
   refine pureA 1 (h := ?_)
   refine pureA 2 (h := ?_)
   refine pureA 3 (h := ?_)
   refine takeA 4 hHeld (h := ?_)
   refine takeA 5 hHeld (h := ?_)
   generalize wq.drew=V0 at hHeld b0 ⊢
   refine oneA 6 (h:=fun K hK => ?_)
   go_simp
   have hCV:=Kd.C_below HCv.out b0.out
   have hCF:Kd.C k52 V0 A3 f.f3.length f.f3:=by rw [F3.out];exact hCV
   have hrb:=(HRD.out.below b0.out).form_D
   have qa:=impl_flowAdd_any A0 c0 A1 c1 A2 c2 b f A3 c3 V0 hrb.1 hrb.2.1 hrb.2.2 hCF (by rw [F3.out];exact hcv)
   rw [F0.out,F1.out,F2.out,F3.out] at qa
   refine qa.mono ?_
   rintro e w7 ⟨u0,u1,u2,rfl,ho,hb⟩
   go_simp
   have b7:Hid (Below wq.heap.size wq w7):=b0.out.trans (hb.mono b0.out.size)
   have HO7:=Lib.hid ho
   have z7:Hid (wq.heap.size≤V0.heap.size):=b0.out.size
   clear ho hb qa hCF hCV hrb
   refine hK.out _ _ (KS.out _ b7.out) (fun hHeld => ?_)
   clear hK K
   refine pureA 7 (h := ?_)
   refine pureA 8 (h := ?_)
   refine lastA 9 (h:=fun K hK => ?_)
   go_simp
   have hc:=addR_code b f
   have hSl:=HSe.out.lt
   refine (came_any (HSe.out.below b7.out) (HO7.out.rd.lower (by have:=z7.out;omega)) hc.1 (by omega) (addR_same HOK.out f)).mono ?_
   rintro e w8 ⟨rfl,hses,hkb⟩
   go_simp
   have H8:=Lib.hid hses
   have K8:=Lib.hid ((KeepBut.of_below (below_next HB.out HB.out.size b7.out) S none).trans hkb (.inl rfl))
   clear hses hkb hc
   refine hK.out _ _ ?_
   clear hK K
   refine lastA 10 (h:=fun K hK => ?_)
   go_simp
   refine hK.out _ _ ?_
   clear hK K
   refine doneA (h := ?_)
   go_wp2
   go_ret
   rw [HLf.out]
   exact ⟨rfl,H8.out,K8.out⟩
theorem S_caps {e base:Nat} {ok:Nat→Prop} {w:World} {v:Value} {xs:List Cap} (h:Kd.R k80 e w base ok v xs):Kd.S k80 e w base ok v xs:=by
 obtain ⟨h0,inner,ho,hr⟩:=h
 refine ⟨fun _=>0,h0,inner,by rw [List.length_zipIdx];exact ho,by rw [List.length_zipIdx];exact hr.1,fun j p hj => ?_⟩
 rw [List.getElem?_zipIdx,Nat.zero_add] at hj
 obtain ⟨x,hx,rfl⟩:=Option.map_eq_some_iff.1 hj
 have t:k80.M w base (fun k=>ok k∧some k≠v.ownBlock) x (List.take (Kd.tag (fun _=>0) k80).sz (List.drop (j*(Kd.tag (fun _=>0) k80).sz) inner)):=hr.2 j x hx
 have e1:=k80_openM t
 show Kd.M k80 w base _ x _
 rw [e1]
 exact k80_mkM _ _ _ x
theorem OwnB.capNum {w:World} {base g n c:Nat} {v1 v2:Value} {b:Book} (h:OwnB w base (.slice (some ⟨g,0,none⟩) n c) v1 v2 b) (k:Nat) (hk:k<b.f0.length) {x:Cap} (hx:b.f0[k]? = some x) (t:Int) :
  OwnB (w.setCell ⟨g,k*2+1,none⟩ (.int .i64 t)) base (.slice (some ⟨g,0,none⟩) n c) v1 v2 ⟨b.f0.set k ⟨x.f0,t⟩,b.f1,b.f2⟩:=by
 have hn:=(Kd.R_reads' h.caps).1
 obtain ⟨cs,hc⟩:=Kd.R_typed h.caps g rfl
 obtain ⟨y,x0,x1,xf0,xf1,_,hs2⟩:=capSetAt h.caps k (by omega)
 obtain ⟨ad,z,hz,hzk,z0,z1⟩:=capAt (Kd.R_reads' h.caps).2.2 k hk
 injection hz with hz
 subst hz
 rw [Addr.add_lit,Nat.zero_add] at z0
 have hyx:y.f0=x.f0:=by
  rw [x0] at z0
  injection z0 with e1
  injection e1 with e1
  rw [hx] at hzk
  rw [Option.some.inj hzk]
  exact e1
 have h2:=hs2 t
 rw [hyx] at h2
 exact ⟨h2,Kd.S_set h.flights hc flights_cap _ _,Kd.R_set h.slots hc ints_cap _ _⟩
structure CapV (w V:World) (B:Nat) (x0 x1 x2:Value) (x:Book):Prop where
 X:V.heap[B]? = some (.cells #[x0,x1,x2] 33 (0,0))
 O:OwnB V w.heap.size x0 x1 x2 x
 L:Below w.heap.size w V
 hB:w.heap.size≤B
theorem CapV.below {w V V1:World} {B:Nat} {x0 x1 x2:Value} {x:Book} (h:CapV w V B x0 x1 x2 x) (hb:Below V.heap.size V V1):CapV w V1 B x0 x1 x2 x :=
 ⟨blk_below h.X hb,h.O.below hb,below_next h.L h.L.size hb,h.hB⟩
set_option maxRecDepth 100000 in
set_option maxHeartbeats 16000000 in
theorem capM_any {w0 w:World} {S:Nat} {b:Book} (h:Ses w0 w S b) (hok:okB b=true) (sec:ByteArray) (n:Int) :
  Calls Tryz.prog 34 #[.pointer (some ⟨S,0,none⟩), .string sec, .int .i64 n] w fun e w'=>e = .returned (.string (capR b sec n).2)∧Ses w0 w' S (capR b sec n).1∧KeepBut w w' S none:=by
 have H0:=Lib.hid h
 have hSl:=h.lt
 obtain ⟨A0,c0,A1,c1,A2,c2,hbx,hrd⟩:=h.form
 have hr:=hrd.form_D
 obtain ⟨m0,m1,m2,m3⟩:=fits_small (show fitsB b.f0 b.f1 b.f2=true from hok)
 have QC:=Lib.hid (impl_copy_any A0 c0 A1 c1 A2 c2 b w hr.1 hr.2.1 hr.2.2 m0 m1 m2 m3)
 have HM0:=Lib.hid m0
 have xa:=(blk_cell hbx 0).trans rfl
 have xb:=(blk_cell hbx 1).trans rfl
 have xc:=(blk_cell hbx 2).trans rfl
 clear h hbx hrd hr m1 m2 m3 hok
 go_enter Tryz.func34,Tryz.ntmps34
 go_wp2_with (fail)
 refine QC.out.mono ?_
 rintro e w1 ⟨u0,u1,u2,rfl,ho,hb⟩
 have z1:=hb.size
 obtain ⟨AX,cX,CX,dX,DX,eX,rfl,rfl,rfl,_,_,_⟩:=ho.form
 obtain ⟨B,hB⟩:∃ n,n=w1.heap.size:=⟨_,rfl⟩
 have C1:Hid (CapV w (w1.alloc (.cells #[.slice AX b.f0.length cX, .slice CX b.f1.length dX, .slice DX b.f2.length eX] 33)) B (.slice AX b.f0.length cX) (.slice CX b.f1.length dX) (.slice DX b.f2.length eX) b) :=
  ⟨by rw [hB];exact blk_new w1 _,ho.below (below_alloc (Below.refl _ _) _),hb.trans ((below_alloc (Below.refl w1.heap.size w1) _).mono hb.size),by omega⟩
 clear ho hb QC xa xb xc
 go_wp2
 rw [← hB]
 clear hB
 go_loopw [8] (fun vk wr=>∃ k:Nat,vk = .int .i64 k∧k≤b.f0.length∧Hid (capAtB b.f0 sec=k+cntQ (fun g=>lessB g.f0 sec) (b.f0.drop k))∧Hid (CapV w wr B (.slice AX b.f0.length cX) (.slice CX b.f1.length dX) (.slice DX b.f2.length eX) b)) (fun vk _=>b.f0.length-(intOf vk).toNat)
 case atStart=>exact ⟨0,rfl,Nat.zero_le _,by show _=_;simp [capAtB],C1⟩
 case round =>
  obtain ⟨k,rfl,hk,HPL,C2⟩:=hrel
  clear C1
  obtain ⟨wq,rfl⟩:∃ wo:World,wo=wr:=⟨_,rfl⟩
  go_upto_region 3 with (fail)
  go_cut [28] (fun s27 wx=>s27 = .bool (decide (k<capAtB b.f0 sec))∧wx=wq)
  case first =>
   have xa:=(blk_cell C2.out.X 0).trans rfl
   by_cases hlt:k<b.f0.length
   ·have j1:(k:Int)<(b.f0.length:Int):=by omega
    obtain ⟨ad,g,rfl,hg,g0,g1⟩:=capAt (Kd.R_reads' C2.out.O.caps).2.2 k hlt
    have hst:=cap_step hg HPL.out
    cases hq:lessB g.f0 sec with
    | true =>
     rw [hq,if_pos rfl] at hst
     have hd:decide (k<capAtB b.f0 sec)=true:=decide_eq_true (by omega)
     have hbl:Op.bytesLess g.f0.toList sec.toList=true:=hq
     have HD:=Lib.hid hd
     clear hst hd hg hq
     go_wp2_with (fail)
     go_meet
     exact ⟨by rw [HD.out],rfl⟩
    | false =>
     rw [hq,if_neg (by decide)] at hst
     have hd:decide (k<capAtB b.f0 sec)=false:=decide_eq_false (by omega)
     have hbl:Op.bytesLess g.f0.toList sec.toList=false:=hq
     have HD:=Lib.hid hd
     clear hst hd hg hq
     go_wp2_with (fail)
     go_meet
     exact ⟨by rw [HD.out],rfl⟩
   ·have j1:¬ (k:Int)<(b.f0.length:Int):=by omega
    have hst:=cap_end (by omega) HPL.out
    have hd:decide (k<capAtB b.f0 sec)=false:=decide_eq_false (by omega)
    have HD:=Lib.hid hd
    clear hst hd
    go_wp2_with (fail)
    go_meet
    exact ⟨by rw [HD.out],rfl⟩
  case rest =>
   obtain ⟨rfl,hwx⟩:=hcut
   rw [hwx]
   clear hwx
   by_cases hgo:k<capAtB b.f0 sec
   ·have hd:decide (k<capAtB b.f0 sec)=true:=decide_eq_true hgo
    have hlt:k<b.f0.length:=by have:=capAtB_le b.f0 sec;omega
    have HN:Hid (capAtB b.f0 sec=k+1+cntQ (fun g=>lessB g.f0 sec) (b.f0.drop (k+1))):=by
     have hst:=cap_step (List.getElem?_eq_getElem hlt) HPL.out
     split at hst
     ·exact hst
     ·omega
    rw [hd]
    clear hd
    go_wp2
    go_roundw
    case rel=>exact ⟨k+1,by go_num,hlt,HN,C2⟩
    case measure=>simp [intOf];omega
   ·have hd:decide (k<capAtB b.f0 sec)=false:=decide_eq_false hgo
    have HK:Hid (capAtB b.f0 sec=k):=by have:=HPL.out;show _=_;omega
    rw [hd]
    clear hgo hd HPL
    have xa:=(blk_cell C2.out.X 0).trans rfl
    go_upto_region 5 with (fail)
    by_cases hm:(b.f0[k]?).map (fun c=>c.f0)=some sec
    ·obtain ⟨x,hx,hxs⟩:=Option.map_eq_some_iff.1 hm
     have hlt:k<b.f0.length:=some_lt hx
     have j1:(k:Int)<(b.f0.length:Int):=by omega
     have hpos:0<b.f0.length:=by omega
     obtain ⟨g,cg,hform,hg0,hg1,csg,hcsg⟩:=Kd.R_form C2.out.O.caps hpos
     injection hform with ea en ec
     subst ea ec
     clear en hcsg csg
     obtain ⟨y,y0,y1,yf0,yf1,_,_⟩:=capSetAt C2.out.O.caps k hlt
     obtain ⟨y',yx,y0'⟩:∃ y':Cap,b.f0[k]? = some y'∧wq.cell? ⟨g,k*2,none⟩=some (.string y'.f0):=by
      obtain ⟨ad,z,hz,hzk,z0,z1⟩:=capAt (Kd.R_reads' C2.out.O.caps).2.2 k hlt
      injection hz with hz
      subst hz
      exact ⟨z,hzk,(by rw [Addr.add_lit,Nat.zero_add] at z0;exact z0)⟩
     have hys:y.f0=sec:=by
      rw [y0] at y0'
      injection y0' with e1
      injection e1 with e1
      rw [e1]
      rw [hx] at yx
      rw [← Option.some.inj yx]
      exact hxs
     have e1:=str_same hys
     have HSET:Hid (capIn b.f0 sec n=b.f0.set k ⟨sec,n⟩):=by have:=capIn_set (l:=b.f0) (n:=sec) (t:=n) (by rw [HK.out];exact hm);rw [HK.out] at this;exact this
     have hBg:B≠g:=fun e=>by subst e;obtain ⟨cs,h1⟩:=Kd.R_typed C2.out.O.caps B rfl;exact blk_ne h1 C2.out.X (by decide) rfl
     have C7:Hid (CapV w (wq.setCell ⟨g,k*2+1,none⟩ (.int .i64 n)) B (.slice (some ⟨g,0,none⟩) b.f0.length cX) (.slice CX b.f1.length dX) (.slice DX b.f2.length eX) ⟨b.f0.set k ⟨sec,n⟩,b.f1,b.f2⟩):=⟨(Below.heap_setCell _ ⟨g,k*2+1,none⟩ _ _ hBg).trans C2.out.X,(by have t:=C2.out.O.capNum k hlt hx n;rw [hxs] at t;exact t),C2.out.L.setCell (p:=⟨g,k*2+1,none⟩) hg0 (.int .i64 n),C2.out.hB⟩
     clear hx hxs yx y0' hys hm
     go_upto_region 8 with (fail)
     clear xa y0 y1 yf0 yf1 e1 C2
     obtain ⟨wz,hwz⟩:∃ V,V=(wq.setCell ⟨g,k*2+1,none⟩ (.int .i64 n)):=⟨_,rfl⟩
     rw [← hwz] at C7 ⊢
     clear hwz
     have HLS:Hid ((b.f0.set k ⟨sec,n⟩).length=b.f0.length):=List.length_set ..
     have xa:=(blk_cell C7.out.X 0).trans rfl
     have xb:=(blk_cell C7.out.X 1).trans rfl
     have xc:=(blk_cell C7.out.X 2).trans rfl
     have HNB:Hid ((⟨capIn b.f0 sec n,b.f1,b.f2⟩:Book)=⟨b.f0.set k ⟨sec,n⟩,b.f1,b.f2⟩):=by show _=_;rw [HSET.out]
     have hcaps:=(Kd.R_reads' C7.out.O.caps).2.2
     have qb:=impl_bookOk_any (some ⟨g,0,none⟩) cX (⟨b.f0.set k ⟨sec,n⟩,b.f1,b.f2⟩:Book).f0 CX dX b.f1 DX eX b.f2 wz hcaps (Kd.S_reads' C7.out.O.flights).2.2 (Kd.R_reads' C7.out.O.slots).2.2
     dsimp only at qb
     rw [HLS.out] at qb
     have QB:=Lib.hid qb
     clear qb
     go_wp2_with (fail)
     refine QB.out.mono ?_
     rintro e w9 ⟨rfl,hb9⟩
     have C9:=Lib.hid (C7.out.below hb9)
     have H9:=Lib.hid (H0.out.below C9.out.L)
     clear hb9 xa xb xc hcaps QB C7
     obtain ⟨ok_,hok_⟩:∃ x,x=fitsB (⟨b.f0.set k ⟨sec,n⟩,b.f1,b.f2⟩:Book).f0 b.f1 b.f2:=⟨_,rfl⟩
     have HOK:=Lib.hid hok_
     rw [← hok_]
     clear hok_
     cases ok_ with
     | false =>
      have HCR:Hid (capR b sec n=(b,tNo)):=by
       show _=_
       unfold capR
       rw [HNB.out,if_neg (by show ¬ fitsB (⟨b.f0.set k ⟨sec,n⟩,b.f1,b.f2⟩:Book).f0 b.f1 b.f2=true;rw [← HOK.out];decide)]
      go_wp2
      go_ret
      rw [HCR.out]
      exact ⟨rfl,H9.out,KeepBut.of_below C9.out.L S none⟩
     | true =>
      have cb0:=(blk_cell C9.out.X 0).trans rfl
      have cb1:=(blk_cell C9.out.X 1).trans rfl
      have cb2:=(blk_cell C9.out.X 2).trans rfl
      obtain ⟨y0,y1,y2,hx9,_⟩:=H9.out.box
      have HX9:=Lib.hid hx9
      clear hx9
      have cz0:=(blk_cell HX9.out 0).trans rfl
      have fz0:=blk_frozen HX9.out 0
      have cz1:=(blk_cell HX9.out 1).trans rfl
      have fz1:=blk_frozen HX9.out 1
      have cz2:=(blk_cell HX9.out 2).trans rfl
      have fz2:=blk_frozen HX9.out 2
      have HP:=Lib.hid (H9.out.put (C9.out.O.rd.lower (base':=S+1) hSl))
      have KP:=Lib.hid (keep_own3 (KeepBut.of_below C9.out.L S none) (.slice (some ⟨g,0,none⟩) b.f0.length cX) (.slice CX b.f1.length dX) (.slice DX b.f2.length eX))
      have HCR:Hid (capR b sec n=(⟨b.f0.set k ⟨sec,n⟩,b.f1,b.f2⟩,tOk)):=by
       show _=_
       unfold capR
       rw [HNB.out,if_pos (show okB ⟨b.f0.set k ⟨sec,n⟩,b.f1,b.f2⟩=true from HOK.out.symm)]
      go_wp2
      go_ret
      rw [HCR.out]
      exact ⟨rfl,HP.out,KP.out⟩
    have HINS:Hid (capIn b.f0 sec n=insAt k ⟨sec,n⟩ b.f0):=by have:=capIn_ins (l:=b.f0) (n:=sec) (t:=n) (by rw [HK.out];exact hm);rw [HK.out] at this;exact this
    have he6:Hid (∀ (hlt:k<b.f0.length),¬ (b.f0[k]'hlt).f0=sec):=fun hlt he=>hm (by rw [List.getElem?_eq_getElem hlt];exact congrArg some he)
    clear hm
    go_cut [45] (fun s45 wy=>s45 = .bool false∧wy=wq)
    case first =>
     by_cases hlt:k<b.f0.length
     ·have j1:(k:Int)<(b.f0.length:Int):=by omega
      obtain ⟨ad,g,rfl,hg,g0,g1⟩:=capAt (Kd.R_reads' C2.out.O.caps).2.2 k hlt
      have e1:=str_other (show ¬ g.f0=sec from fun e=>he6.out hlt (by rw [List.getElem?_eq_getElem hlt] at hg;rw [Option.some.inj hg];exact e))
      clear hg
      go_wp2_with (fail)
      go_meet
      exact ⟨rfl,rfl⟩
     ·have j1:¬ (k:Int)<(b.f0.length:Int):=by omega
      go_wp2_with (fail)
      go_meet
      exact ⟨rfl,rfl⟩
    case rest =>
     obtain ⟨rfl,hwy⟩:=hcut
     rw [hwy]
     clear hwy
     have QI:=Lib.hid (insert_caps_any AX b.f0.length cX k b.f0 ⟨sec,n⟩ [.string sec, .int .i64 n] w.heap.size (fun _=>False) wq (Kd.S_mono (S_caps C2.out.O.caps) (fun _ _=>⟨trivial,fun h=>h⟩)) (k80_mkM _ _ _ (⟨sec,n⟩:Cap)) (fun j h=>h.elim) hk HM0.out C2.out.L.size)
     go_wp2_with (fail)
     refine QI.out.mono ?_
     rintro e w7 ⟨v7,rfl,hS7,hB7,hg7⟩
     obtain ⟨A7,c7,rfl⟩:=Kd.S_slice hS7
     have X7:=Lib.hid (blk_grown C2.out.X hg7 (Kd.R_ne C2.out.O.caps C2.out.X (by decide)))
     have O7:Hid (OwnB w7 w.heap.size (.slice A7 (insAt k ⟨sec,n⟩ b.f0).length c7) (.slice CX b.f1.length dX) (.slice DX b.f2.length eX) ⟨insAt k ⟨sec,n⟩ b.f0,b.f1,b.f2⟩):=⟨Kd.S_R hS7,Kd.S_over' C2.out.O.flights (Kd.R_typed C2.out.O.caps) (by decide) hg7,Kd.R_over' C2.out.O.slots (Kd.R_typed C2.out.O.caps) (by decide) hg7⟩
     have C8:Hid (CapV w (w7.setCell ⟨B,0,none⟩ (.slice A7 (insAt k (⟨sec,n⟩:Cap) b.f0).length c7)) B (.slice A7 (insAt k (⟨sec,n⟩:Cap) b.f0).length c7) (.slice CX b.f1.length dX) (.slice DX b.f2.length eX) ⟨insAt k ⟨sec,n⟩ b.f0,b.f1,b.f2⟩):=⟨blk_set X7.out 0 _,O7.out.cell X7.out 0 _,(C2.out.L.trans hB7).setCell (p:=⟨B,0,none⟩) C2.out.hB _,C2.out.hB⟩
     have p0_:=blk_frozen X7.out 0
     have k0_:=(blk_cell X7.out 0).trans rfl
     clear hS7 hB7 hg7 QI C2 xa O7
     go_upto_region 8 with (fail)
     clear p0_ k0_ X7
     obtain ⟨wz,hwz⟩:∃ V,V=(w7.setCell ⟨B,0,none⟩ (.slice A7 (insAt k (⟨sec,n⟩:Cap) b.f0).length c7)):=⟨_,rfl⟩
     rw [← hwz] at C8 ⊢
     clear hwz
     have xa:=(blk_cell C8.out.X 0).trans rfl
     have xb:=(blk_cell C8.out.X 1).trans rfl
     have xc:=(blk_cell C8.out.X 2).trans rfl
     have HNB:Hid ((⟨capIn b.f0 sec n,b.f1,b.f2⟩:Book)=⟨insAt k ⟨sec,n⟩ b.f0,b.f1,b.f2⟩):=by show _=_;rw [HINS.out]
     have hcaps:=(Kd.R_reads' C8.out.O.caps).2.2
     have qb:=impl_bookOk_any A7 c7 (⟨insAt k ⟨sec,n⟩ b.f0,b.f1,b.f2⟩:Book).f0 CX dX b.f1 DX eX b.f2 wz hcaps (Kd.S_reads' C8.out.O.flights).2.2 (Kd.R_reads' C8.out.O.slots).2.2
     dsimp only at qb
     have QB:=Lib.hid qb
     clear qb
     go_wp2_with (fail)
     refine QB.out.mono ?_
     rintro e w9 ⟨rfl,hb9⟩
     have C9:=Lib.hid (C8.out.below hb9)
     have H9:=Lib.hid (H0.out.below C9.out.L)
     clear hb9 xa xb xc hcaps QB C8
     obtain ⟨ok_,hok_⟩:∃ x,x=fitsB (⟨insAt k ⟨sec,n⟩ b.f0,b.f1,b.f2⟩:Book).f0 b.f1 b.f2:=⟨_,rfl⟩
     have HOK:=Lib.hid hok_
     rw [← hok_]
     clear hok_
     cases ok_ with
     | false =>
      have HCR:Hid (capR b sec n=(b,tNo)):=by
       show _=_
       unfold capR
       rw [HNB.out,if_neg (by show ¬ fitsB (⟨insAt k ⟨sec,n⟩ b.f0,b.f1,b.f2⟩:Book).f0 b.f1 b.f2=true;rw [← HOK.out];decide)]
      go_wp2
      go_ret
      rw [HCR.out]
      exact ⟨rfl,H9.out,KeepBut.of_below C9.out.L S none⟩
     | true =>
      have cb0:=(blk_cell C9.out.X 0).trans rfl
      have cb1:=(blk_cell C9.out.X 1).trans rfl
      have cb2:=(blk_cell C9.out.X 2).trans rfl
      obtain ⟨y0,y1,y2,hx9,_⟩:=H9.out.box
      have HX9:=Lib.hid hx9
      clear hx9
      have cz0:=(blk_cell HX9.out 0).trans rfl
      have fz0:=blk_frozen HX9.out 0
      have cz1:=(blk_cell HX9.out 1).trans rfl
      have fz1:=blk_frozen HX9.out 1
      have cz2:=(blk_cell HX9.out 2).trans rfl
      have fz2:=blk_frozen HX9.out 2
      have HP:=Lib.hid (H9.out.put (C9.out.O.rd.lower (base':=S+1) hSl))
      have KP:=Lib.hid (keep_own3 (KeepBut.of_below C9.out.L S none) (.slice A7 (insAt k (⟨sec,n⟩:Cap) b.f0).length c7) (.slice CX b.f1.length dX) (.slice DX b.f2.length eX))
      have HCR:Hid (capR b sec n=(⟨insAt k ⟨sec,n⟩ b.f0,b.f1,b.f2⟩,tOk)):=by
       show _=_
       unfold capR
       rw [HNB.out,if_pos (show okB ⟨insAt k ⟨sec,n⟩ b.f0,b.f1,b.f2⟩=true from HOK.out.symm)]
      go_wp2
      go_ret
      rw [HCR.out]
      exact ⟨rfl,HP.out,KP.out⟩
end Go.Proofs.YthcpbojmalgdbaaGreatDoor.Q
