/-
  DERIVED: THE SHELF's CONTRACTS AT THIS DUMP, IN PLAIN WORDS (tools/lay-plain.mjs out of 'TryzSortF.lean', which tools/lay-shelf.mjs wrote): THE SAME DECLARATIONS UNDER THE SAME NAMES: 'import', 'namespace', 'open', 'def', 'theorem' AND NOTHING ELSE: no command of the shelf's: FOR A HAND-IN. Each laying: the table of numbers ('.._ren') and one theorem, a field a fact of the dump's own or the kernel's comparison; each contract: ONE APPLICATION.
-/
import Derived.Shelf.SlGeneric
import Derived.Shelf.SlSortCmp.NoneTotal
import Derived.Ground.SlsfProg
import Derived.Test.YtaphcmcimoloiaaGreatDoorProg
namespace Go.Proofs
open Go.Shelf
def Tryz.sortf141_ren : Go.Shelf.Ren := ⟨fun | 6 => 141 | 15 => 188 | 14 => 214 | 28 => 254 | 29 => 255 | 20 => 272 | 21 => 273 | 22 => 274 | 23 => 275 | 24 => 276 | 25 => 277 | 26 => 278 | 27 => 279 | 46 => 314 | 47 => 295 | 48 => 296 | 49 => 315 | 50 => 316 | 57 => 334 | n => n, fun | 22 => 22 | 24 => 107 | 25 => 234 | 3 => 3 | 39 => 290 | 0 => 0 | 53 => 338 | 55 => 340 | 4 => 4 | 46 => 332 | 45 => 331 | 50 => 298 | 5 => 5 | 9 => 9 | 66 => 368 | 70 => 372 | 76 => 392 | 77 => 393 | n => n, fun | n => n⟩
theorem Tryz.sortf141 : Go.Proofs.SlLaysF0.n6 Tryz.prog Tryz.sortf141_ren := {
  mixed := by kernel_rfl
  f6 := ⟨Tryz.f141.name, by decide, Tryz.func141.trans (congrArg some (by kernel_rfl))⟩
  f14 := ⟨Tryz.f214.name, by decide, Tryz.func214.trans (congrArg some (by kernel_rfl))⟩
  f15 := Tryz.func188.trans (congrArg some (by kernel_rfl))
  f20 := ⟨Tryz.f272.name, by decide, Tryz.func272.trans (congrArg some (by kernel_rfl))⟩
  f21 := ⟨Tryz.f273.name, by decide, Tryz.func273.trans (congrArg some (by kernel_rfl))⟩
  f22 := ⟨Tryz.f274.name, by decide, Tryz.func274.trans (congrArg some (by kernel_rfl))⟩
  f23 := ⟨Tryz.f275.name, by decide, Tryz.func275.trans (congrArg some (by kernel_rfl))⟩
  f24 := ⟨Tryz.f276.name, by decide, Tryz.func276.trans (congrArg some (by kernel_rfl))⟩
  f25 := ⟨Tryz.f277.name, by decide, Tryz.func277.trans (congrArg some (by kernel_rfl))⟩
  f26 := ⟨Tryz.f278.name, by decide, Tryz.func278.trans (congrArg some (by kernel_rfl))⟩
  f27 := ⟨Tryz.f279.name, by decide, Tryz.func279.trans (congrArg some (by kernel_rfl))⟩
  f28 := Tryz.func254.trans (congrArg some (by kernel_rfl))
  f29 := Tryz.func255.trans (congrArg some (by kernel_rfl))
  f46 := ⟨Tryz.f314.name, by decide, Tryz.func314.trans (congrArg some (by kernel_rfl))⟩
  f47 := Tryz.func295.trans (congrArg some (by kernel_rfl))
  f48 := Tryz.func296.trans (congrArg some (by kernel_rfl))
  f49 := ⟨Tryz.f315.name, by decide, Tryz.func315.trans (congrArg some (by kernel_rfl))⟩
  f50 := ⟨Tryz.f316.name, by decide, Tryz.func316.trans (congrArg some (by kernel_rfl))⟩
  f57 := ⟨Tryz.f334.name, by decide, Tryz.func334.trans (congrArg some (by kernel_rfl))⟩
  t0 := Tryz.underlying0
  a0 := Tryz.isAgg0
  z0 := Tryz.sizeOf0
  v0 := Tryz.zeroValue0
  t3 := Tryz.underlying3
  a3 := Tryz.isAgg3
  z3 := Tryz.sizeOf3
  v3 := Tryz.zeroValue3
  t4 := Tryz.underlying4
  a4 := Tryz.isAgg4
  z4 := Tryz.sizeOf4
  v4 := Tryz.zeroValue4
  t5 := Tryz.underlying5
  a5 := Tryz.isAgg5
  z5 := Tryz.sizeOf5
  v5 := Tryz.zeroValue5
  t9 := Tryz.underlying9
  a9 := Tryz.isAgg9
  z9 := Tryz.sizeOf9
  v9 := Tryz.zeroValue9
  t22 := Tryz.underlying22
  a22 := Tryz.isAgg22
  z22 := Tryz.sizeOf22
  v22 := Tryz.zeroValue22
  t25 := Tryz.underlying234
  a25 := Tryz.isAgg234
  z25 := Tryz.sizeOf234
  v25 := Tryz.zeroValue234
  t39 := Tryz.underlying290
  a39 := Tryz.isAgg290
  z39 := Tryz.sizeOf290
  v39 := Tryz.zeroValue290
  t45 := Tryz.underlying331
  a45 := Tryz.isAgg331
  z45 := Tryz.sizeOf331
  v45 := Tryz.zeroValue331
  t46 := Tryz.underlying332
  a46 := Tryz.isAgg332
  z46 := Tryz.sizeOf332
  v46 := Tryz.zeroValue332
  t50 := Tryz.underlying298
  a50 := Tryz.isAgg298
  z50 := Tryz.sizeOf298
  v50 := Tryz.zeroValue298
  t53 := Tryz.underlying338
  a53 := Tryz.isAgg338
  z53 := Tryz.sizeOf338
  v53 := Tryz.zeroValue338
  t55 := Tryz.underlying340
  a55 := Tryz.isAgg340
  z55 := Tryz.sizeOf340
  v55 := Tryz.zeroValue340
  t66 := Tryz.underlying368
  a66 := Tryz.isAgg368
  z66 := Tryz.sizeOf368
  v66 := Tryz.zeroValue368
  t70 := Tryz.underlying372
  a70 := Tryz.isAgg372
  z70 := Tryz.sizeOf372
  v70 := Tryz.zeroValue372
  t76 := Tryz.underlying392
  a76 := Tryz.isAgg392
  z76 := Tryz.sizeOf392
  v76 := Tryz.zeroValue392
  t77 := Tryz.underlying393
  a77 := Tryz.isAgg393
  z77 := Tryz.sizeOf393
  v77 := Tryz.zeroValue393 }
end Go.Proofs
