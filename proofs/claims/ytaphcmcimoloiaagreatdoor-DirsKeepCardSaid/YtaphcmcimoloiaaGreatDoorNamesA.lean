/-
 DERIVED: THE SHELF's CONTRACTS AT THIS DUMP,IN PLAIN WORDS (tools/lay-plain.mjs out of 'TryzShelf.lean',which tools/lay-shelf.mjs wrote): THE SAME DECLARATIONS UNDER THE SAME NAMES: 'import','namespace','open','def','theorem' AND NOTHING ELSE: no command of the shelf's: FOR A HAND-IN. Each laying: the table of numbers ('.._ren') and one theorem,a field a fact of the dump's own or the kernel's comparison; each contract: ONE APPLICATION.
-/
import Derived.Shelf.Strings.Trim
import Derived.Shelf.Small.Utf8
import Derived.Shelf.Small.Bits
import Derived.Shelf.Strings.Shaped
import Derived.Shelf.Strings.Runes
import Derived.Shelf.Strings.AsciiSet
import Derived.Shelf.Strings.Repeat
import Derived.Shelf.Unicode.DecodeSlow
import Derived.Shelf.Slices.Turned
import Derived.Shelf.Slices.Clone
import Derived.Shelf.SlicesG.Cmp
import Derived.Shelf.SortM.Plain
import Derived.Shelf.SortM.SortNone
import Derived.Test.YtaphcmcimoloiaaGreatDoorProg
import Derived.Lib.SplitLaws
import Derived.WalkSpells
import Derived.WalkLawsBesides
import Derived.Lib.Hide
namespace Go.Proofs
open Go.Shelf
def Tryz.lays160_ren:Go.Shelf.Ren:=⟨fun | 160=>264 | 232=>304 | 231=>303 | 227=>305 | 234=>307 | 233=>306 | 236=>309 | 235=>308 | 228=>328 | 271=>331 | 151=>330 | 197=>329 | 120=>340 | 152=>339 | 260=>338 | 137=>342 | 119=>343 | 224=>312 | 225=>311 | 217=>310 | 266=>332 | n=>n,fun | 9=>9 | 4=>4 | 3=>3 | 5=>5 | 117=>380 | 116=>379 | 0=>0 | 124=>383 | 21=>21 | 105=>396 | 46=>290 | 119=>405 | 139=>408 | 138=>407 | n=>n,fun | 3=>1 | 4=>2 | n=>n⟩
theorem Tryz.lays160:Go.Proofs.Lays.n160 Tryz.prog Tryz.lays160_ren:={
 mixed:=by kernel_rfl
 f119:=Tryz.func343.trans (congrArg some (by kernel_rfl))
 f120:=Tryz.func340.trans (congrArg some (by kernel_rfl))
 f137:=Tryz.func342.trans (congrArg some (by kernel_rfl))
 f151:=Tryz.func330.trans (congrArg some (by kernel_rfl))
 f152:=Tryz.func339.trans (congrArg some (by kernel_rfl))
 f160:=Tryz.func264.trans (congrArg some (by kernel_rfl))
 f197:=Tryz.func329.trans (congrArg some (by kernel_rfl))
 f217:=Tryz.func310.trans (congrArg some (by kernel_rfl))
 f224:=Tryz.func312.trans (congrArg some (by kernel_rfl))
 f225:=Tryz.func311.trans (congrArg some (by kernel_rfl))
 f227:=Tryz.func305.trans (congrArg some (by kernel_rfl))
 f228:=Tryz.func328.trans (congrArg some (by kernel_rfl))
 f231:=Tryz.func303.trans (congrArg some (by kernel_rfl))
 f232:=Tryz.func304.trans (congrArg some (by kernel_rfl))
 f233:=Tryz.func306.trans (congrArg some (by kernel_rfl))
 f234:=Tryz.func307.trans (congrArg some (by kernel_rfl))
 f235:=Tryz.func308.trans (congrArg some (by kernel_rfl))
 f236:=Tryz.func309.trans (congrArg some (by kernel_rfl))
 f260:=Tryz.func338.trans (congrArg some (by kernel_rfl))
 f266:=Tryz.func332.trans (congrArg some (by kernel_rfl))
 f271:=Tryz.func331.trans (congrArg some (by kernel_rfl))
 t0:=Tryz.underlying0
 a0:=Tryz.isAgg0
 z0:=Tryz.sizeOf0
 v0:=Tryz.zeroValue0
 t3:=Tryz.underlying3
 a3:=Tryz.isAgg3
 z3:=Tryz.sizeOf3
 v3:=Tryz.zeroValue3
 t4:=Tryz.underlying4
 a4:=Tryz.isAgg4
 z4:=Tryz.sizeOf4
 v4:=Tryz.zeroValue4
 t5:=Tryz.underlying5
 a5:=Tryz.isAgg5
 z5:=Tryz.sizeOf5
 v5:=Tryz.zeroValue5
 t9:=Tryz.underlying9
 a9:=Tryz.isAgg9
 z9:=Tryz.sizeOf9
 v9:=Tryz.zeroValue9
 t21:=Tryz.underlying21
 a21:=Tryz.isAgg21
 z21:=Tryz.sizeOf21
 v21:=Tryz.zeroValue21
 t46:=Tryz.underlying290
 a46:=Tryz.isAgg290
 z46:=Tryz.sizeOf290
 v46:=Tryz.zeroValue290
 t105:=Tryz.underlying396
 a105:=Tryz.isAgg396
 z105:=Tryz.sizeOf396
 v105:=Tryz.zeroValue396
 t116:=Tryz.underlying379
 a116:=Tryz.isAgg379
 z116:=Tryz.sizeOf379
 t117:=Tryz.underlying380
 a117:=Tryz.isAgg380
 z117:=Tryz.sizeOf380
 v117:=Tryz.zeroValue380
 t119:=Tryz.underlying405
 a119:=Tryz.isAgg405
 z119:=Tryz.sizeOf405
 t124:=Tryz.underlying383
 a124:=Tryz.isAgg383
 z124:=Tryz.sizeOf383
 v124:=Tryz.zeroValue383
 t138:=Tryz.underlying407
 a138:=Tryz.isAgg407
 z138:=Tryz.sizeOf407
 v138:=Tryz.zeroValue407
 t139:=Tryz.underlying408
 a139:=Tryz.isAgg408
 z139:=Tryz.sizeOf408
 v139:=Tryz.zeroValue408
 g3:=by kernel_rfl
 g4:=by kernel_rfl }
def Tryz.lays143_ren:Go.Shelf.Ren:=⟨fun | 143=>202 | 219=>267 | 217=>310 | 225=>311 | 224=>312 | 267=>313 | 266=>332 | 314=>333 | n=>n,fun | 9=>9 | 3=>3 | 4=>4 | 5=>5 | 46=>290 | 146=>356 | 51=>338 | n=>n,fun | 1=>0 | n=>n⟩
theorem Tryz.lays143:Go.Proofs.Lays.n143 Tryz.prog Tryz.lays143_ren:={
 mixed:=by kernel_rfl
 f143:=Tryz.func202.trans (congrArg some (by kernel_rfl))
 f217:=Tryz.func310.trans (congrArg some (by kernel_rfl))
 f219:=Tryz.func267.trans (congrArg some (by kernel_rfl))
 f224:=Tryz.func312.trans (congrArg some (by kernel_rfl))
 f225:=Tryz.func311.trans (congrArg some (by kernel_rfl))
 f266:=Tryz.func332.trans (congrArg some (by kernel_rfl))
 f267:=Tryz.func313.trans (congrArg some (by kernel_rfl))
 f314:=Tryz.func333.trans (congrArg some (by kernel_rfl))
 t3:=Tryz.underlying3
 a3:=Tryz.isAgg3
 z3:=Tryz.sizeOf3
 v3:=Tryz.zeroValue3
 t4:=Tryz.underlying4
 a4:=Tryz.isAgg4
 z4:=Tryz.sizeOf4
 v4:=Tryz.zeroValue4
 t5:=Tryz.underlying5
 a5:=Tryz.isAgg5
 z5:=Tryz.sizeOf5
 v5:=Tryz.zeroValue5
 t9:=Tryz.underlying9
 a9:=Tryz.isAgg9
 z9:=Tryz.sizeOf9
 v9:=Tryz.zeroValue9
 t46:=Tryz.underlying290
 a46:=Tryz.isAgg290
 z46:=Tryz.sizeOf290
 v46:=Tryz.zeroValue290
 t51:=Tryz.underlying338
 a51:=Tryz.isAgg338
 z51:=Tryz.sizeOf338
 v51:=Tryz.zeroValue338
 t146:=Tryz.underlying356
 a146:=Tryz.isAgg356
 z146:=Tryz.sizeOf356
 v146:=Tryz.zeroValue356
 g1:=by kernel_rfl }
open Go.RowKit Go.Lib in
theorem Tryz.strings_Index_one (s:ByteArray) (c:UInt8) (w:World) :
 Calls Tryz.prog 202 #[.string s,.string ⟨#[c]⟩] w fun e w'=>e = .returned (.int .i64 (Lib.indexByte s.data.toList c))∧w' = w:=Any.strings_Index_one Tryz.lays143 s c w
def Tryz.lays144_ren:Go.Shelf.Ren:=⟨fun | 144=>133 | 143=>202 | 219=>267 | 217=>310 | 225=>311 | 224=>312 | 267=>313 | 266=>332 | 314=>333 | n=>n,fun | 9=>9 | 4=>4 | 3=>3 | 5=>5 | 46=>290 | 146=>356 | 51=>338 | n=>n,fun | 1=>0 | n=>n⟩
theorem Tryz.lays144:Go.Proofs.Lays.n144 Tryz.prog Tryz.lays144_ren:={
 mixed:=by kernel_rfl
 f143:=Tryz.func202.trans (congrArg some (by kernel_rfl))
 f144:=Tryz.func133.trans (congrArg some (by kernel_rfl))
 f217:=Tryz.func310.trans (congrArg some (by kernel_rfl))
 f219:=Tryz.func267.trans (congrArg some (by kernel_rfl))
 f224:=Tryz.func312.trans (congrArg some (by kernel_rfl))
 f225:=Tryz.func311.trans (congrArg some (by kernel_rfl))
 f266:=Tryz.func332.trans (congrArg some (by kernel_rfl))
 f267:=Tryz.func313.trans (congrArg some (by kernel_rfl))
 f314:=Tryz.func333.trans (congrArg some (by kernel_rfl))
 t3:=Tryz.underlying3
 a3:=Tryz.isAgg3
 z3:=Tryz.sizeOf3
 v3:=Tryz.zeroValue3
 t4:=Tryz.underlying4
 a4:=Tryz.isAgg4
 z4:=Tryz.sizeOf4
 v4:=Tryz.zeroValue4
 t5:=Tryz.underlying5
 a5:=Tryz.isAgg5
 z5:=Tryz.sizeOf5
 v5:=Tryz.zeroValue5
 t9:=Tryz.underlying9
 a9:=Tryz.isAgg9
 z9:=Tryz.sizeOf9
 v9:=Tryz.zeroValue9
 t46:=Tryz.underlying290
 a46:=Tryz.isAgg290
 z46:=Tryz.sizeOf290
 v46:=Tryz.zeroValue290
 t51:=Tryz.underlying338
 a51:=Tryz.isAgg338
 z51:=Tryz.sizeOf338
 v51:=Tryz.zeroValue338
 t146:=Tryz.underlying356
 a146:=Tryz.isAgg356
 z146:=Tryz.sizeOf356
 v146:=Tryz.zeroValue356
 g1:=by kernel_rfl }
open Go.RowKit Go.Lib in
theorem Tryz.strings_Contains (s sub:ByteArray) (m:Int) (w:World) (hs:s.size<4294967281) (hm:w.cell? ⟨0,0,none⟩=some (.int .i64 m)) :
 Calls Tryz.prog 133 #[.string s,.string sub] w fun e w'=>e = .returned (.bool (Lib.contains s.data.toList sub.data.toList))∧w' = w:=Any.strings_Contains Tryz.lays144 s sub m w hs hm
def Tryz.laysM138_ren:Go.Shelf.Ren:=⟨fun | 138=>201 | 195=>265 | 218=>266 | 143=>202 | 219=>267 | 217=>310 | 225=>311 | 224=>312 | 267=>313 | 266=>332 | 314=>333 | n=>n,fun | 9=>9 | 3=>3 | 4=>4 | 5=>5 | 0=>0 | 46=>290 | 146=>356 | 51=>338 | n=>n,fun | 1=>0 | n=>n⟩
theorem Tryz.laysM138:Go.Proofs.LaysM.n138 Tryz.prog Tryz.laysM138_ren:={
 mixed:=by kernel_rfl
 f138:=Tryz.func201.trans (congrArg some (by kernel_rfl))
 f143:=Tryz.func202.trans (congrArg some (by kernel_rfl))
 f195:=Tryz.func265.trans (congrArg some (by kernel_rfl))
 f217:=Tryz.func310.trans (congrArg some (by kernel_rfl))
 f218:=Tryz.func266.trans (congrArg some (by kernel_rfl))
 f219:=Tryz.func267.trans (congrArg some (by kernel_rfl))
 f224:=Tryz.func312.trans (congrArg some (by kernel_rfl))
 f225:=Tryz.func311.trans (congrArg some (by kernel_rfl))
 f266:=Tryz.func332.trans (congrArg some (by kernel_rfl))
 f267:=Tryz.func313.trans (congrArg some (by kernel_rfl))
 f314:=Tryz.func333.trans (congrArg some (by kernel_rfl))
 t0:=Tryz.underlying0
 a0:=Tryz.isAgg0
 z0:=Tryz.sizeOf0
 v0:=Tryz.zeroValue0
 t3:=Tryz.underlying3
 a3:=Tryz.isAgg3
 z3:=Tryz.sizeOf3
 v3:=Tryz.zeroValue3
 t4:=Tryz.underlying4
 a4:=Tryz.isAgg4
 z4:=Tryz.sizeOf4
 v4:=Tryz.zeroValue4
 t5:=Tryz.underlying5
 a5:=Tryz.isAgg5
 z5:=Tryz.sizeOf5
 v5:=Tryz.zeroValue5
 t9:=Tryz.underlying9
 a9:=Tryz.isAgg9
 z9:=Tryz.sizeOf9
 v9:=Tryz.zeroValue9
 t46:=Tryz.underlying290
 a46:=Tryz.isAgg290
 z46:=Tryz.sizeOf290
 v46:=Tryz.zeroValue290
 t51:=Tryz.underlying338
 a51:=Tryz.isAgg338
 z51:=Tryz.sizeOf338
 v51:=Tryz.zeroValue338
 t146:=Tryz.underlying356
 a146:=Tryz.isAgg356
 z146:=Tryz.sizeOf356
 v146:=Tryz.zeroValue356
 g1:=by kernel_rfl
 i0:=by kernel_rfl
 i3:=by kernel_rfl
 i4:=by kernel_rfl
 i5:=by kernel_rfl
 i9:=by kernel_rfl
 i46:=by kernel_rfl
 i51:=by kernel_rfl
 i146:=by kernel_rfl
 m1:=by kernel_rfl
 s1_3:=fun w h=>Go.Proofs.cell_of_shapedOpen_int (zero:=#[.int .i64 0]) (t:=3) h (of_decide_eq_true (by kernel_rfl)) (by kernel_rfl) rfl (by kernel_rfl) (by kernel_rfl) Tryz.underlying3 }
def Tryz.lays105_ren:Go.Shelf.Ren:=⟨fun | 105=>146 | 212=>217 | 99=>218 | 165=>219 | 166=>102 | 170=>220 | 169=>104 | 263=>280 | 264=>281 | 206=>282 | 240=>180 | 241=>283 | 276=>242 | 277=>317 | n=>n,fun | 9=>9 | 3=>3 | 4=>4 | 20=>20 | 0=>0 | 46=>290 | 109=>314 | 5=>5 | 72=>170 | 76=>173 | 51=>338 | 146=>356 | 53=>340 | 148=>358 | 70=>168 | 37=>53 | 75=>172 | 127=>276 | 164=>327 | 80=>113 | n=>n,fun | n=>n⟩
theorem Tryz.lays105:Go.Proofs.Lays.n105 Tryz.prog Tryz.lays105_ren:={
 mixed:=by kernel_rfl
 f99:=Tryz.func218.trans (congrArg some (by kernel_rfl))
 f105:=Tryz.func146.trans (congrArg some (by kernel_rfl))
 f165:=Tryz.func219.trans (congrArg some (by kernel_rfl))
 f166:=Tryz.func102.trans (congrArg some (by kernel_rfl))
 f169:=Tryz.func104.trans (congrArg some (by kernel_rfl))
 f170:=Tryz.func220.trans (congrArg some (by kernel_rfl))
 f206:=Tryz.func282.trans (congrArg some (by kernel_rfl))
 f212:=Tryz.func217.trans (congrArg some (by kernel_rfl))
 f240:=Tryz.func180.trans (congrArg some (by kernel_rfl))
 f241:=Tryz.func283.trans (congrArg some (by kernel_rfl))
 f263:=Tryz.func280.trans (congrArg some (by kernel_rfl))
 f264:=Tryz.func281.trans (congrArg some (by kernel_rfl))
 f276:=Tryz.func242.trans (congrArg some (by kernel_rfl))
 f277:=Tryz.func317.trans (congrArg some (by kernel_rfl))
 t0:=Tryz.underlying0
 a0:=Tryz.isAgg0
 z0:=Tryz.sizeOf0
 v0:=Tryz.zeroValue0
 t3:=Tryz.underlying3
 a3:=Tryz.isAgg3
 z3:=Tryz.sizeOf3
 v3:=Tryz.zeroValue3
 t4:=Tryz.underlying4
 a4:=Tryz.isAgg4
 z4:=Tryz.sizeOf4
 v4:=Tryz.zeroValue4
 t5:=Tryz.underlying5
 a5:=Tryz.isAgg5
 z5:=Tryz.sizeOf5
 v5:=Tryz.zeroValue5
 t9:=Tryz.underlying9
 a9:=Tryz.isAgg9
 z9:=Tryz.sizeOf9
 v9:=Tryz.zeroValue9
 t20:=Tryz.underlying20
 a20:=Tryz.isAgg20
 z20:=Tryz.sizeOf20
 v20:=Tryz.zeroValue20
 t37:=Tryz.underlying53
 a37:=Tryz.isAgg53
 z37:=Tryz.sizeOf53
 v37:=Tryz.zeroValue53
 t46:=Tryz.underlying290
 a46:=Tryz.isAgg290
 z46:=Tryz.sizeOf290
 v46:=Tryz.zeroValue290
 t51:=Tryz.underlying338
 a51:=Tryz.isAgg338
 z51:=Tryz.sizeOf338
 v51:=Tryz.zeroValue338
 t53:=Tryz.underlying340
 a53:=Tryz.isAgg340
 z53:=Tryz.sizeOf340
 v53:=Tryz.zeroValue340
 t70:=Tryz.underlying168
 a70:=Tryz.isAgg168
 z70:=Tryz.sizeOf168
 v70:=Tryz.zeroValue168
 t72:=Tryz.underlying170
 a72:=Tryz.isAgg170
 z72:=Tryz.sizeOf170
 v72:=Tryz.zeroValue170
 t75:=Tryz.underlying172
 a75:=Tryz.isAgg172
 z75:=Tryz.sizeOf172
 v75:=Tryz.zeroValue172
 t76:=Tryz.underlying173
 a76:=Tryz.isAgg173
 z76:=Tryz.sizeOf173
 v76:=Tryz.zeroValue173
 t109:=Tryz.underlying314
 a109:=Tryz.isAgg314
 z109:=Tryz.sizeOf314
 v109:=Tryz.zeroValue314
 t127:=Tryz.underlying276
 a127:=Tryz.isAgg276
 z127:=Tryz.sizeOf276
 v127:=Tryz.zeroValue276
 t146:=Tryz.underlying356
 a146:=Tryz.isAgg356
 z146:=Tryz.sizeOf356
 v146:=Tryz.zeroValue356
 t148:=Tryz.underlying358
 a148:=Tryz.isAgg358
 z148:=Tryz.sizeOf358
 v148:=Tryz.zeroValue358
 t164:=Tryz.underlying327
 a164:=Tryz.isAgg327
 z164:=Tryz.sizeOf327
 v164:=Tryz.zeroValue327 }
theorem Tryz.Builder_Extra_105:Builder.Extra Tryz.prog Tryz.lays105_ren:={
 sizeBuilder:=by kernel_rfl
 liesBuilder:=by kernel_rfl
 t5:=Tryz.underlying5
 a5:=Tryz.isAgg5
 z5:=Tryz.sizeOf5
 v5:=Tryz.zeroValue5
 infoByte:=by kernel_rfl
 cellsByte:=by kernel_rfl
 sizeByte:=by kernel_rfl
 neB5:=by decide }
open Go.RowKit Go.Lib in
theorem Tryz.strings_Repeat (s:ByteArray) (c:Nat) (w:World) (hc:c≤9223372036854775807) (hlen:s.size*c≤140737488355328) :
 Calls Tryz.prog 146 #[.string s,.int .i64 c] w fun e w'=>e = .returned (.string ⟨(Lib.repeatL s.data.toList c).toArray⟩)∧Below w.heap.size w w':=Any.strings_Repeat Tryz.lays105 Tryz.Builder_Extra_105 s c w hc hlen
def Tryz.laysNm215_ren:Go.Shelf.Ren:=⟨fun | 15=>292 | n=>n,fun | 22=>48 | 3=>3 | 4=>4 | n=>n,fun | n=>n⟩
theorem Tryz.laysNm215:Go.Proofs.Lays2.n15 Tryz.prog Tryz.laysNm215_ren:={
 mixed:=by kernel_rfl
 f15:=Tryz.func292.trans (congrArg some (by kernel_rfl))
 t3:=Tryz.underlying3
 a3:=Tryz.isAgg3
 z3:=Tryz.sizeOf3
 v3:=Tryz.zeroValue3
 t4:=Tryz.underlying4
 a4:=Tryz.isAgg4
 z4:=Tryz.sizeOf4
 v4:=Tryz.zeroValue4
 t22:=Tryz.underlying48
 a22:=Tryz.isAgg48
 z22:=Tryz.sizeOf48
 v22:=Tryz.zeroValue48
 i3:=by kernel_rfl }
open Go.RowKit Go.Lib in
theorem Tryz.slices_Clone_int (b off n c:Nat) (zs:List Int) (w:World) (hz:n≤zs.length) (hbig:n*8≤140737488355328) (hc:∀j,j<zs.length→w.cell? ⟨b,off+j,none⟩=some (.int .i64 (zs.getD j 0))) :
 Calls Tryz.prog 292 #[.slice (some ⟨b,off,none⟩) n c] w fun e w'=>∃v',e = .returned v'∧w'.ownsRow w.heap.size 3 1 v' n ((zs.take n).map (Value.int .i64))∧v'≠.slice none 0 0∧Below w.heap.size w w':=Any.slices_Clone_int Tryz.laysNm215 b off n c zs w hz hbig hc
open Go.RowKit Go.Lib in
theorem Tryz.slices_Clone_int_nil (n c:Nat) (w:World) :
 Calls Tryz.prog 292 #[.slice none n c] w fun e w'=>e = .returned (.slice none 0 0)∧w' = w:=Any.slices_Clone_int_nil Tryz.laysNm215 n c w
open Go.RowKit Go.Lib in
theorem Tryz.slices_Clone_int_zero (a:Addr) (c:Nat) (w:World) :
 Calls Tryz.prog 292 #[.slice (some a) 0 c] w fun e w'=>∃v',e = .returned v'∧w'.ownsRow w.heap.size 3 1 v' 0 []∧v'≠.slice none 0 0∧Below w.heap.size w w':=Any.slices_Clone_int_zero Tryz.laysNm215 a c w
def Tryz.laysSlM5_f227_ren:Go.Shelf.Ren:=⟨fun | 5=>227 | 8=>188 | 7=>285 | 19=>254 | 20=>255 | 10=>318 | 11=>319 | 12=>320 | 13=>321 | 14=>322 | 15=>323 | 16=>324 | 17=>325 | 18=>326 | 30=>335 | 31=>295 | 32=>296 | 33=>336 | 34=>337 | 35=>215 | 40=>341 | n=>n,fun | 23=>48 | 25=>3 | 3=>3 | 32=>290 | 22=>48 | 0=>0 | 44=>338 | 46=>340 | 4=>4 | 36=>332 | 35=>331 | 41=>298 | 5=>5 | 9=>9 | 53=>368 | 57=>372 | 63=>392 | 64=>393 | n=>n,fun | n=>n⟩
theorem Tryz.laysSlM5_f227:Go.Proofs.SlLaysM.n5 Tryz.prog Tryz.laysSlM5_f227_ren:={
 mixed:=by kernel_rfl
 f5:=⟨Tryz.f227.name,by decide,Tryz.func227.trans (congrArg some (by kernel_rfl))⟩
 f7:=⟨Tryz.f285.name,by decide,Tryz.func285.trans (congrArg some (by kernel_rfl))⟩
 f8:=Tryz.func188.trans (congrArg some (by kernel_rfl))
 f10:=⟨Tryz.f318.name,by decide,Tryz.func318.trans (congrArg some (by kernel_rfl))⟩
 f11:=⟨Tryz.f319.name,by decide,Tryz.func319.trans (congrArg some (by kernel_rfl))⟩
 f12:=⟨Tryz.f320.name,by decide,Tryz.func320.trans (congrArg some (by kernel_rfl))⟩
 f13:=⟨Tryz.f321.name,by decide,Tryz.func321.trans (congrArg some (by kernel_rfl))⟩
 f14:=⟨Tryz.f322.name,by decide,Tryz.func322.trans (congrArg some (by kernel_rfl))⟩
 f15:=⟨Tryz.f323.name,by decide,Tryz.func323.trans (congrArg some (by kernel_rfl))⟩
 f16:=⟨Tryz.f324.name,by decide,Tryz.func324.trans (congrArg some (by kernel_rfl))⟩
 f17:=⟨Tryz.f325.name,by decide,Tryz.func325.trans (congrArg some (by kernel_rfl))⟩
 f18:=⟨Tryz.f326.name,by decide,Tryz.func326.trans (congrArg some (by kernel_rfl))⟩
 f19:=Tryz.func254.trans (congrArg some (by kernel_rfl))
 f20:=Tryz.func255.trans (congrArg some (by kernel_rfl))
 f30:=⟨Tryz.f335.name,by decide,Tryz.func335.trans (congrArg some (by kernel_rfl))⟩
 f31:=Tryz.func295.trans (congrArg some (by kernel_rfl))
 f32:=Tryz.func296.trans (congrArg some (by kernel_rfl))
 f33:=⟨Tryz.f336.name,by decide,Tryz.func336.trans (congrArg some (by kernel_rfl))⟩
 f34:=⟨Tryz.f337.name,by decide,Tryz.func337.trans (congrArg some (by kernel_rfl))⟩
 f35:=⟨Tryz.f215.name,by decide,Tryz.func215.trans (congrArg some (by kernel_rfl))⟩
 f40:=⟨Tryz.f341.name,by decide,Tryz.func341.trans (congrArg some (by kernel_rfl))⟩
 t0:=Tryz.underlying0
 a0:=Tryz.isAgg0
 z0:=Tryz.sizeOf0
 v0:=Tryz.zeroValue0
 t3:=Tryz.underlying3
 a3:=Tryz.isAgg3
 z3:=Tryz.sizeOf3
 v3:=Tryz.zeroValue3
 t4:=Tryz.underlying4
 a4:=Tryz.isAgg4
 z4:=Tryz.sizeOf4
 v4:=Tryz.zeroValue4
 t5:=Tryz.underlying5
 a5:=Tryz.isAgg5
 z5:=Tryz.sizeOf5
 v5:=Tryz.zeroValue5
 t9:=Tryz.underlying9
 a9:=Tryz.isAgg9
 z9:=Tryz.sizeOf9
 v9:=Tryz.zeroValue9
 t22:=Tryz.underlying48
 a22:=Tryz.isAgg48
 z22:=Tryz.sizeOf48
 v22:=Tryz.zeroValue48
 t23:=Tryz.underlying48
 a23:=Tryz.isAgg48
 z23:=Tryz.sizeOf48
 v23:=Tryz.zeroValue48
 t25:=Tryz.underlying3
 a25:=Tryz.isAgg3
 z25:=Tryz.sizeOf3
 v25:=Tryz.zeroValue3
 t32:=Tryz.underlying290
 a32:=Tryz.isAgg290
 z32:=Tryz.sizeOf290
 v32:=Tryz.zeroValue290
 t35:=Tryz.underlying331
 a35:=Tryz.isAgg331
 z35:=Tryz.sizeOf331
 v35:=Tryz.zeroValue331
 t36:=Tryz.underlying332
 a36:=Tryz.isAgg332
 z36:=Tryz.sizeOf332
 v36:=Tryz.zeroValue332
 t41:=Tryz.underlying298
 a41:=Tryz.isAgg298
 z41:=Tryz.sizeOf298
 v41:=Tryz.zeroValue298
 t44:=Tryz.underlying338
 a44:=Tryz.isAgg338
 z44:=Tryz.sizeOf338
 v44:=Tryz.zeroValue338
 t46:=Tryz.underlying340
 a46:=Tryz.isAgg340
 z46:=Tryz.sizeOf340
 v46:=Tryz.zeroValue340
 t53:=Tryz.underlying368
 a53:=Tryz.isAgg368
 z53:=Tryz.sizeOf368
 v53:=Tryz.zeroValue368
 t57:=Tryz.underlying372
 a57:=Tryz.isAgg372
 z57:=Tryz.sizeOf372
 v57:=Tryz.zeroValue372
 t63:=Tryz.underlying392
 a63:=Tryz.isAgg392
 z63:=Tryz.sizeOf392
 v63:=Tryz.zeroValue392
 t64:=Tryz.underlying393
 a64:=Tryz.isAgg393
 z64:=Tryz.sizeOf393
 v64:=Tryz.zeroValue393 }
open Go.Sort Go.RowKit in
theorem Tryz.slices_Sort_int (blk off cap:Nat) (zs:List Int) (w:World) (hH:Holds (Value.int .i64) w blk off zs.toArray) (hblk:blk<w.heap.size) (hsz:zs.length<4611686018427387904) :
 Calls Tryz.prog 227 #[.slice (some ⟨blk,off,none⟩) zs.length cap] w fun e w'=>
  e = .returned (.tuple #[])∧∃n os,w' = grow (putRow (Value.int .i64) (Sort.ahead w n) blk off (zs.mergeSort fun x y=>decide (x≤y)).toArray) os:=AnyM.slices_Sort_int Tryz.laysSlM5_f227 blk off cap zs w hH hblk hsz
open Go.RowKit Go.Sort in
theorem Tryz.slices_Sort_int_none (p:Option Addr) (cap:Nat) (w:World) :
 Calls Tryz.prog 227 #[.slice p 0 cap] w fun e w'=>e = .returned (.tuple #[])∧w' = w:=AnyM.slices_Sort_int_none Tryz.laysSlM5_f227 p cap w
end Go.Proofs
namespace Go.Proofs.YtaphcmcimoloiaaGreatDoor.Txt
open Go
def nameL (l:List UInt8):Bool:=decide (1≤l.length) && decide (l.length≤13) && !(l == [46]) && !(l == [46,46]) && !l.contains 47 && !l.contains 0
def nameB (s:ByteArray):Bool:=nameL s.data.toList
def ofL (l:List UInt8):ByteArray:=⟨l.toArray⟩
theorem q11z (l:List UInt8):(ofL l).data.toList=l:=by simp[ofL]
theorem q108z (s:ByteArray):ofL s.data.toList=s:=by cases s; simp[ofL]
theorem ext {a b:ByteArray} (h:a.data.toList=b.data.toList):a=b:=by rw[←q108z a,h,q108z]
theorem q85z {s:ByteArray} (h:nameB s=true):1≤s.size∧s.size≤13:=by
 unfold nameB nameL at h
 simp only[Bool.and_eq_true,decide_eq_true_eq] at h
 rw[Lib.size_eq]
 omega
end Go.Proofs.YtaphcmcimoloiaaGreatDoor.Txt
namespace Go.Proofs.YtaphcmcimoloiaaGreatDoor
open Go.RowKit
def Texts (w:World) (v:Value) (l:List ByteArray):Prop:=
 ∃(ad:Option Addr) (cap:Nat),v = .slice ad l.length cap∧l.length≤cap∧cap≤maxLen ∧
  (0<l.length→∃b off,ad=some ⟨b,off,none⟩∧b<w.heap.size∧∀j x,l[j]? = some x→w.cell? ⟨b,off+j,none⟩=some (.string x))
theorem Texts.void (w:World):Texts w (.slice Option.none 0 0) []:=⟨Option.none,0,rfl,Nat.le_refl _,Nat.zero_le _,fun h=>absurd h (by simp)⟩
def MaxOk (w:World):Prop:=∃m,w.cell? ⟨0,0,Option.none⟩=some (.int .i64 m)
theorem MaxOk.below {w w':World} (h:MaxOk w) (hb:Below w.heap.size w w'):MaxOk w':=
 let ⟨m,hm⟩:=h
 ⟨m,(hb.cell (World.block_lt_of_cell? _ _ hm)).trans hm⟩
theorem q75z {a b:Bool} (h:a=b):Ending.returned (.bool a) = .returned (.bool b):=by rw[h]
end Go.Proofs.YtaphcmcimoloiaaGreatDoor
namespace Go.Proofs.YtaphcmcimoloiaaGreatDoor
open Go.RowKit Txt
theorem nameB_dot {s:ByteArray} (h:(s.toList == [46])=true):nameB s=false:=by
 unfold nameB nameL
 rw[←Lib.toList_data,h]
 simp
theorem nameB_dots {s:ByteArray} (h:(s.toList == [46,46])=true):nameB s=false:=by
 unfold nameB nameL
 rw[←Lib.toList_data,h]
 simp
theorem nameB_short {s:ByteArray} (h:s.size<1):nameB s=false:=by
 unfold nameB nameL
 rw[Lib.size_eq] at h
 rw[decide_eq_false (by omega)]
 simp
theorem nameB_long {s:ByteArray} (h:13<s.size):nameB s=false:=by
 unfold nameB nameL
 rw[Lib.size_eq] at h
 rw[decide_eq_false (p:=s.data.toList.length≤13) (by omega)]
 simp
theorem nameB_slash {s:ByteArray} (h:s.data.toList.contains 47=true):nameB s=false:=by
 unfold nameB nameL
 rw[h]
 simp
theorem nameB_zero {s:ByteArray} (h:s.data.toList.contains 0=true):nameB s=false:=by
 unfold nameB nameL
 rw[h]
 simp
theorem nameB_good {s:ByteArray} (h1:1≤s.size) (h2:s.size≤13) (h3:(s.toList == [46])=false) (h4:(s.toList == [46,46])=false) (h5:s.data.toList.contains 47=false) (h6:s.data.toList.contains 0=false):nameB s=true:=by
 unfold nameB nameL
 rw[Lib.toList_data] at h3 h4
 rw[h3,h4,h5,h6]
 rw[Lib.size_eq] at h1 h2
 rw[decide_eq_true h1,decide_eq_true h2]
 rfl
theorem contains_one (c:UInt8):∀l:List UInt8,Lib.contains l [c]=l.contains c
 | []=>by simp[Lib.contains,Lib.index]
 | b :: r=>by
   have ih:=contains_one c r
   have hge:=Lib.index_ge r [c]
   unfold Lib.contains at ih ⊢
   rw[Lib.index]
   by_cases hb:c=b
   ·subst hb; simp[List.isPrefixOf]
   ·have hp:([c]:List UInt8).isPrefixOf (b :: r)=false:=by simp[List.isPrefixOf,hb]
    rw[hp,List.contains_cons,←ih,beq_eq_false_iff_ne.2 hb,Bool.false_or,decide_eq_decide]
    simp only[Bool.false_eq_true,if_false]
    split
    ·rename_i h
     rw[beq_iff_eq.1 h]
    ·rename_i h
     have:Lib.index r [c]≠-1:=fun e=>h (beq_iff_eq.2 e)
     omega
theorem q77z (s:ByteArray) (c:UInt8) (b:Bool) (h:s.data.toList.contains c=b) (w:World) (hm:MaxOk w) (hs:s.size≤13) :
 Calls Tryz.prog 133 #[.string s,.string ⟨#[c]⟩] w fun e w'=>e = .returned (.bool b)∧w=w':=by
 obtain⟨m,hm⟩:=hm
 refine(Tryz.strings_Contains s ⟨#[c]⟩ m w (by omega) hm).mono ?_
 rintro e w' ⟨rfl,rfl⟩
 exact⟨q75z ((contains_one c _).trans h),rfl⟩
set_option maxHeartbeats 400000 in
theorem name_any (s:ByteArray) (w:World) (hm:MaxOk w) (hs:s.size≤maxLen) :
 Calls Tryz.prog 49 #[.string s] w fun e w'=>e = .returned (.bool (nameB s))∧w=w':=by
 unfold maxLen at hs
 by_cases h1:s.size<1
 ·have H:=Lib.hid (nameB_short h1)
  have h0:s.toList.isEmpty=true:=by
   rw[Lib.toList_data,List.isEmpty_iff]
   exact List.length_eq_zero_iff.1 (by rw[←Lib.size_eq]; omega)
  go_enter Tryz.func49,Tryz.ntmps49
  go_wp2
  go_ret
  exact⟨q75z H.out.symm,rfl⟩
 have h0:s.toList.isEmpty=false:=by
  rw[Lib.toList_data,List.isEmpty_eq_false_iff]
  intro e
  rw[Lib.size_eq,e] at h1
  exact h1 (by simp)
 by_cases h2:13<s.size
 ·have H:=Lib.hid (nameB_long h2)
  go_enter Tryz.func49,Tryz.ntmps49
  go_wp2
  go_ret
  exact⟨q75z H.out.symm,rfl⟩
 have h2':s.size≤13:=by omega
 cases h3:(s.toList == [46]) with
 | true=>
   have H:=Lib.hid (nameB_dot h3)
   go_enter Tryz.func49,Tryz.ntmps49
   go_wp2
   go_ret
   exact⟨q75z H.out.symm,rfl⟩
 | false=>
 cases h4:(s.toList == [46,46]) with
 | true=>
   have H:=Lib.hid (nameB_dots h4)
   go_enter Tryz.func49,Tryz.ntmps49
   go_wp2
   go_ret
   exact⟨q75z H.out.symm,rfl⟩
 | false=>
 cases h5:s.data.toList.contains 47 with
 | true=>
   have H:=Lib.hid (nameB_slash h5)
   have H5:=Lib.hid h5
   clear h5
   go_enter Tryz.func49,Tryz.ntmps49
   go_wp2_with (go_at_call 133; refine(q77z _ 47 true H5.out _ hm h2').mono ?_; rintro e w' ⟨rfl,rfl⟩)
   go_ret
   exact⟨q75z H.out.symm,rfl⟩
 | false=>
 cases h6:s.data.toList.contains 0 with
 | true=>
   have H:=Lib.hid (nameB_zero h6)
   have H5:=Lib.hid h5
   have H6:=Lib.hid h6
   clear h5 h6
   go_enter Tryz.func49,Tryz.ntmps49
   go_wp2_with fail
   refine(q77z _ 47 false H5.out _ hm h2').mono ?_
   rintro e w' ⟨rfl,rfl⟩
   go_wp2_with fail
   refine(q77z _ 0 true H6.out _ hm h2').mono ?_
   rintro e w' ⟨rfl,rfl⟩
   go_wp2
   go_ret
   exact⟨q75z H.out.symm,rfl⟩
 | false=>
   have H:=Lib.hid (nameB_good (s:=s) (by omega) h2' h3 h4 h5 h6)
   have H5:=Lib.hid h5
   have H6:=Lib.hid h6
   clear h5 h6
   go_enter Tryz.func49,Tryz.ntmps49
   go_wp2_with fail
   refine(q77z _ 47 false H5.out _ hm h2').mono ?_
   rintro e w' ⟨rfl,rfl⟩
   go_wp2_with fail
   refine(q77z _ 0 false H6.out _ hm h2').mono ?_
   rintro e w' ⟨rfl,rfl⟩
   go_wp2
   go_ret
   exact⟨q75z H.out.symm,rfl⟩
theorem text_eq (x y:ByteArray):(x.toList == y.toList)=decide (x=y):=by
 rw[Bool.eq_iff_iff,beq_iff_eq,decide_eq_true_iff,Lib.toList_data,Lib.toList_data]
 exact⟨fun h=>Txt.ext h,fun h=>by rw[h]⟩
theorem Texts.own {w:World} {base:Nat} {e:TypeId} {v:Value} {l:List ByteArray} (h:w.ownsRow base e 1 v l.length (l.map Value.string)):Texts w v l:=by
 rcases h.2 with ⟨rfl,h0⟩ | ⟨g,cap,cur,rfl,hb,hh,hle,hm,hsz,hcur⟩
 ·rw[List.length_eq_zero_iff.1 h0]
  exact Texts.void w
 ·refine⟨_,cap,rfl,hle,hm,fun hp=>⟨g,0,rfl,?_,fun j x hx=>?_⟩⟩
  ·exact(Array.getElem?_eq_some_iff.1 hh).1
  ·rw[Nat.zero_add,h.cellAt j (by have:=(List.getElem?_eq_some_iff.1 hx).1; omega),List.getElem?_map,hx]
   rfl
theorem Tryz.infoText:(Tryz.prog.info? 9).map (fun i=>(i.zero,i.size,i.bytes))=some (some (.string ByteArray.empty),1,16):=by kernel_rfl
end Go.Proofs.YtaphcmcimoloiaaGreatDoor
namespace Go.Proofs.YtaphcmcimoloiaaGreatDoor
open Go Go.RowKit
def q49z (n:Nat) (w:World) (v:Value) (l:List ByteArray):Prop:=∃e,w.ownsRow n e 1 v l.length (l.map Value.string)
theorem q49z.void (n:Nat) (w:World):q49z n w (.slice none 0 0) []:=⟨0,rfl,Or.inl ⟨rfl,rfl⟩⟩
theorem q49z.texts {n:Nat} {w:World} {v:Value} {l:List ByteArray} (h:q49z n w v l):Texts w v l:=let ⟨_,h⟩:=h; Texts.own h
end Go.Proofs.YtaphcmcimoloiaaGreatDoor
namespace Go.Proofs.YtaphcmcimoloiaaGreatDoor
open Go.RowKit Txt
end Go.Proofs.YtaphcmcimoloiaaGreatDoor
