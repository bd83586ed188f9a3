/-
  DERIVED: THE SHELF's CONTRACTS AT THIS DUMP, IN PLAIN WORDS (tools/lay-plain.mjs out of 'TryzSortM.lean', which tools/lay-shelf.mjs wrote): THE SAME DECLARATIONS UNDER THE SAME NAMES: 'import', 'namespace', 'open', 'def', 'theorem' AND NOTHING ELSE: no command of the shelf's: FOR A HAND-IN. Each laying: the table of numbers ('.._ren') and one theorem, a field a fact of the dump's own or the kernel's comparison; each contract: ONE APPLICATION.
-/
import Derived.Shelf.SlGeneric
import Derived.Shelf.SortM.Plain
import Derived.Shelf.SortM.SortNone
import Derived.Ground.SlgmProg
import Derived.Test.YtaphcmcimoloiaaGreatDoorProg
namespace Go.Proofs
open Go.Shelf
def Tryz.sort114_ren : Go.Shelf.Ren := ⟨fun | 6 => 114 | 8 => 188 | 9 => 187 | 19 => 254 | 20 => 255 | 21 => 245 | 22 => 246 | 23 => 247 | 24 => 248 | 25 => 249 | 26 => 250 | 27 => 251 | 28 => 252 | 29 => 253 | 36 => 294 | 31 => 295 | 32 => 296 | 37 => 297 | 38 => 298 | 39 => 299 | 41 => 327 | n => n, fun | 27 => 28 | 29 => 9 | 3 => 3 | 32 => 290 | 26 => 28 | 0 => 0 | 44 => 338 | 46 => 340 | 4 => 4 | 36 => 332 | 35 => 331 | 41 => 298 | 5 => 5 | 9 => 9 | 53 => 368 | 57 => 372 | 63 => 392 | 64 => 393 | n => n, fun | n => n⟩
theorem Tryz.sort114 : Go.Proofs.SlLaysM.n6 Tryz.prog Tryz.sort114_ren := {
  mixed := by kernel_rfl
  f6 := ⟨Tryz.f114.name, by decide, Tryz.func114.trans (congrArg some (by kernel_rfl))⟩
  f8 := Tryz.func188.trans (congrArg some (by kernel_rfl))
  f9 := ⟨Tryz.f187.name, by decide, Tryz.func187.trans (congrArg some (by kernel_rfl))⟩
  f19 := Tryz.func254.trans (congrArg some (by kernel_rfl))
  f20 := Tryz.func255.trans (congrArg some (by kernel_rfl))
  f21 := ⟨Tryz.f245.name, by decide, Tryz.func245.trans (congrArg some (by kernel_rfl))⟩
  f22 := ⟨Tryz.f246.name, by decide, Tryz.func246.trans (congrArg some (by kernel_rfl))⟩
  f23 := ⟨Tryz.f247.name, by decide, Tryz.func247.trans (congrArg some (by kernel_rfl))⟩
  f24 := ⟨Tryz.f248.name, by decide, Tryz.func248.trans (congrArg some (by kernel_rfl))⟩
  f25 := ⟨Tryz.f249.name, by decide, Tryz.func249.trans (congrArg some (by kernel_rfl))⟩
  f26 := ⟨Tryz.f250.name, by decide, Tryz.func250.trans (congrArg some (by kernel_rfl))⟩
  f27 := ⟨Tryz.f251.name, by decide, Tryz.func251.trans (congrArg some (by kernel_rfl))⟩
  f28 := ⟨Tryz.f252.name, by decide, Tryz.func252.trans (congrArg some (by kernel_rfl))⟩
  f29 := ⟨Tryz.f253.name, by decide, Tryz.func253.trans (congrArg some (by kernel_rfl))⟩
  f31 := Tryz.func295.trans (congrArg some (by kernel_rfl))
  f32 := Tryz.func296.trans (congrArg some (by kernel_rfl))
  f36 := ⟨Tryz.f294.name, by decide, Tryz.func294.trans (congrArg some (by kernel_rfl))⟩
  f37 := ⟨Tryz.f297.name, by decide, Tryz.func297.trans (congrArg some (by kernel_rfl))⟩
  f38 := ⟨Tryz.f298.name, by decide, Tryz.func298.trans (congrArg some (by kernel_rfl))⟩
  f39 := ⟨Tryz.f299.name, by decide, Tryz.func299.trans (congrArg some (by kernel_rfl))⟩
  f41 := ⟨Tryz.f327.name, by decide, Tryz.func327.trans (congrArg some (by kernel_rfl))⟩
  t0 := Tryz.underlying0
  a0 := Tryz.isAgg0
  z0 := Tryz.sizeOf0
  v0 := Tryz.zeroValue0
  t3 := Tryz.underlying3
  a3 := Tryz.isAgg3
  z3 := Tryz.sizeOf3
  v3 := Tryz.zeroValue3
  t4 := Tryz.underlying4
  a4 := Tryz.isAgg4
  z4 := Tryz.sizeOf4
  v4 := Tryz.zeroValue4
  t5 := Tryz.underlying5
  a5 := Tryz.isAgg5
  z5 := Tryz.sizeOf5
  v5 := Tryz.zeroValue5
  t9 := Tryz.underlying9
  a9 := Tryz.isAgg9
  z9 := Tryz.sizeOf9
  v9 := Tryz.zeroValue9
  t26 := Tryz.underlying28
  a26 := Tryz.isAgg28
  z26 := Tryz.sizeOf28
  v26 := Tryz.zeroValue28
  t27 := Tryz.underlying28
  a27 := Tryz.isAgg28
  z27 := Tryz.sizeOf28
  v27 := Tryz.zeroValue28
  t29 := Tryz.underlying9
  a29 := Tryz.isAgg9
  z29 := Tryz.sizeOf9
  v29 := Tryz.zeroValue9
  t32 := Tryz.underlying290
  a32 := Tryz.isAgg290
  z32 := Tryz.sizeOf290
  v32 := Tryz.zeroValue290
  t35 := Tryz.underlying331
  a35 := Tryz.isAgg331
  z35 := Tryz.sizeOf331
  v35 := Tryz.zeroValue331
  t36 := Tryz.underlying332
  a36 := Tryz.isAgg332
  z36 := Tryz.sizeOf332
  v36 := Tryz.zeroValue332
  t41 := Tryz.underlying298
  a41 := Tryz.isAgg298
  z41 := Tryz.sizeOf298
  v41 := Tryz.zeroValue298
  t44 := Tryz.underlying338
  a44 := Tryz.isAgg338
  z44 := Tryz.sizeOf338
  v44 := Tryz.zeroValue338
  t46 := Tryz.underlying340
  a46 := Tryz.isAgg340
  z46 := Tryz.sizeOf340
  v46 := Tryz.zeroValue340
  t53 := Tryz.underlying368
  a53 := Tryz.isAgg368
  z53 := Tryz.sizeOf368
  v53 := Tryz.zeroValue368
  t57 := Tryz.underlying372
  a57 := Tryz.isAgg372
  z57 := Tryz.sizeOf372
  v57 := Tryz.zeroValue372
  t63 := Tryz.underlying392
  a63 := Tryz.isAgg392
  z63 := Tryz.sizeOf392
  v63 := Tryz.zeroValue392
  t64 := Tryz.underlying393
  a64 := Tryz.isAgg393
  z64 := Tryz.sizeOf393
  v64 := Tryz.zeroValue393 }
end Go.Proofs
