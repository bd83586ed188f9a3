/-
  DERIVED: THE SHELF's CONTRACTS AT THIS DUMP, IN PLAIN WORDS (tools/lay-plain.mjs out of 'TryzIterI.lean', which tools/lay-shelf.mjs wrote): THE SAME DECLARATIONS UNDER THE SAME NAMES: 'import', 'namespace', 'open', 'def', 'theorem' AND NOTHING ELSE: no command of the shelf's: FOR A HAND-IN. Each laying: the table of numbers ('.._ren') and one theorem, a field a fact of the dump's own or the kernel's comparison; each contract: ONE APPLICATION.
-/
import Derived.Shelf.SlGeneric
import Derived.Shelf.SlIterI.Nil
import Derived.Shelf.SlIterI.Sorted
import Derived.Ground.GgzProg
import Derived.Test.YtgofmnhfajmbfaaGreatDoorProg
namespace Go.Proofs
open Go.Shelf
def Tryz.sorted133_ren : Go.Shelf.Ren := ⟨fun | 6 => 133 | 8 => 197 | 9 => 193 | 11 => 256 | 13 => 156 | 12 => 254 | 23 => 218 | 24 => 219 | 14 => 287 | 15 => 288 | 16 => 289 | 17 => 290 | 18 => 291 | 19 => 292 | 20 => 293 | 21 => 294 | 22 => 295 | 25 => 309 | 26 => 263 | 27 => 264 | 28 => 310 | 29 => 311 | 30 => 157 | 31 => 322 | n => n, fun | 26 => 3 | 28 => 215 | 24 => 58 | 0 => 0 | 3 => 3 | 37 => 241 | 48 => 292 | 50 => 294 | 4 => 4 | 40 => 286 | 39 => 285 | 45 => 255 | 5 => 5 | 9 => 9 | 51 => 334 | 55 => 338 | 57 => 360 | 58 => 361 | 33 => 183 | n => n, fun | n => n⟩
theorem Tryz.sorted133 : Go.Proofs.SlLaysZI.n6 Tryz.prog Tryz.sorted133_ren := {
  mixed := by kernel_rfl
  f6 := ⟨Tryz.f133.name, by decide, Tryz.func133.trans (congrArg some (by kernel_rfl))⟩
  f8 := ⟨Tryz.f197.name, by decide, Tryz.func197.trans (congrArg some (by kernel_rfl))⟩
  f11 := ⟨Tryz.f256.name, by decide, Tryz.func256.trans (congrArg some (by kernel_rfl))⟩
  t0 := Tryz.underlying0
  a0 := Tryz.isAgg0
  z0 := Tryz.sizeOf0
  v0 := Tryz.zeroValue0
  t24 := Tryz.underlying58
  a24 := Tryz.isAgg58
  z24 := Tryz.sizeOf58
  v24 := Tryz.zeroValue58
  t26 := Tryz.underlying3
  a26 := Tryz.isAgg3
  z26 := Tryz.sizeOf3
  v26 := Tryz.zeroValue3
  t28 := Tryz.underlying215
  a28 := Tryz.isAgg215
  z28 := Tryz.sizeOf215
  v28 := Tryz.zeroValue215
  i26 := by kernel_rfl }
def Tryz.keys134_ren : Go.Shelf.Ren := ⟨fun | 7 => 134 | 10 => 198 | n => n, fun | 23 => 138 | 26 => 3 | 3 => 4 | 28 => 215 | 0 => 0 | 27 => 214 | 33 => 183 | 4 => 4 | n => n, fun | n => n⟩
theorem Tryz.keys134 : Go.Proofs.SlLaysZI.n7 Tryz.prog Tryz.keys134_ren := {
  mixed := by kernel_rfl
  f7 := ⟨Tryz.f134.name, by decide, Tryz.func134.trans (congrArg some (by kernel_rfl))⟩
  f10 := ⟨Tryz.f198.name, by decide, Tryz.func198.trans (congrArg some (by kernel_rfl))⟩
  t0 := Tryz.underlying0
  a0 := Tryz.isAgg0
  z0 := Tryz.sizeOf0
  v0 := Tryz.zeroValue0
  t4 := Tryz.underlying4
  a4 := Tryz.isAgg4
  z4 := Tryz.sizeOf4
  v4 := Tryz.zeroValue4
  t23 := Tryz.underlying138
  a23 := Tryz.isAgg138
  z23 := Tryz.sizeOf138
  v23 := Tryz.zeroValue138
  t26 := Tryz.underlying3
  a26 := Tryz.isAgg3
  z26 := Tryz.sizeOf3
  v26 := Tryz.zeroValue3
  t27 := Tryz.underlying214
  a27 := Tryz.isAgg214
  z27 := Tryz.sizeOf214
  v27 := Tryz.zeroValue214
  t28 := Tryz.underlying215
  a28 := Tryz.isAgg215
  z28 := Tryz.sizeOf215
  v28 := Tryz.zeroValue215
  t33 := Tryz.underlying183
  a33 := Tryz.isAgg183
  z33 := Tryz.sizeOf183
  v33 := Tryz.zeroValue183 }
def Tryz.keys169_ren : Go.Shelf.Ren := ⟨fun | 7 => 169 | 10 => 236 | n => n, fun | 23 => 115 | 26 => 3 | 3 => 3 | 28 => 215 | 0 => 0 | 27 => 214 | 33 => 183 | 4 => 4 | n => n, fun | n => n⟩
theorem Tryz.keys169 : Go.Proofs.SlLaysZI.n7 Tryz.prog Tryz.keys169_ren := {
  mixed := by kernel_rfl
  f7 := ⟨Tryz.f169.name, by decide, Tryz.func169.trans (congrArg some (by kernel_rfl))⟩
  f10 := ⟨Tryz.f236.name, by decide, Tryz.func236.trans (congrArg some (by kernel_rfl))⟩
  t0 := Tryz.underlying0
  a0 := Tryz.isAgg0
  z0 := Tryz.sizeOf0
  v0 := Tryz.zeroValue0
  t4 := Tryz.underlying4
  a4 := Tryz.isAgg4
  z4 := Tryz.sizeOf4
  v4 := Tryz.zeroValue4
  t23 := Tryz.underlying115
  a23 := Tryz.isAgg115
  z23 := Tryz.sizeOf115
  v23 := Tryz.zeroValue115
  t26 := Tryz.underlying3
  a26 := Tryz.isAgg3
  z26 := Tryz.sizeOf3
  v26 := Tryz.zeroValue3
  t27 := Tryz.underlying214
  a27 := Tryz.isAgg214
  z27 := Tryz.sizeOf214
  v27 := Tryz.zeroValue214
  t28 := Tryz.underlying215
  a28 := Tryz.isAgg215
  z28 := Tryz.sizeOf215
  v28 := Tryz.zeroValue215
  t33 := Tryz.underlying183
  a33 := Tryz.isAgg183
  z33 := Tryz.sizeOf183
  v33 := Tryz.zeroValue183 }
end Go.Proofs
