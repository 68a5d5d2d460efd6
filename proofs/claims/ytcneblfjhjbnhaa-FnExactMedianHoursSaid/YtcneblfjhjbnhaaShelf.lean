/-
  DERIVED: THE SHELF's CONTRACTS AT THIS DUMP, IN PLAIN WORDS (tools/lay-plain.mjs out of 'YtcneblfjhjbnhaaShelf.lean', which tools/lay-shelf.mjs wrote): THE SAME DECLARATIONS UNDER THE SAME NAMES: 'import', 'namespace', 'open', 'def', 'theorem' AND NOTHING ELSE: no command of the shelf's: FOR A HAND-IN. Each laying: the table of numbers ('.._ren') and one theorem, a field a fact of the dump's own or the kernel's comparison; each contract: ONE APPLICATION.
-/
import Derived.Shelf.Small.Bits
import Derived.Shelf.Small.Wraps
import Derived.Shelf.Strconv.Itoa0
import Derived.Shelf.Sort.Plain
import Derived.Shelf.Slices.Turned
import Derived.Ground.Names2Prog
import Derived.Shelf.Slices.SearchI
import Derived.Shelf.Slices.In.SortNone
import Derived.Test.YtcneblfjhjbnhaaProg
namespace Go.Proofs
open Go.Shelf
def Try.lays189_ren : Go.Shelf.Ren := ⟨fun | 189 => 183 | 125 => 286 | 257 => 285 | 128 => 339 | 129 => 340 | 294 => 330 | 295 => 331 | 296 => 332 | 297 => 333 | 298 => 334 | 299 => 335 | 216 => 336 | 300 => 337 | 301 => 338 | 328 => 360 | 329 => 361 | 330 => 362 | 331 => 363 | 332 => 364 | 215 => 325 | 343 => 369 | n => n, fun | 28 => 24 | 3 => 3 | 46 => 258 | 0 => 0 | 51 => 281 | 53 => 154 | 4 => 4 | 183 => 276 | 182 => 275 | 131 => 34 | 5 => 5 | 9 => 9 | 218 => 295 | 222 => 299 | 228 => 303 | 229 => 182 | n => n, fun | n => n⟩
theorem Try.lays189 : Go.Proofs.Lays.n189 Try.prog Try.lays189_ren := {
  mixed := by kernel_rfl
  f125 := Try.func286.trans (congrArg some (by kernel_rfl))
  f128 := Try.func339.trans (congrArg some (by kernel_rfl))
  f129 := Try.func340.trans (congrArg some (by kernel_rfl))
  f189 := Try.func183.trans (congrArg some (by kernel_rfl))
  f215 := Try.func325.trans (congrArg some (by kernel_rfl))
  f216 := Try.func336.trans (congrArg some (by kernel_rfl))
  f257 := Try.func285.trans (congrArg some (by kernel_rfl))
  f294 := Try.func330.trans (congrArg some (by kernel_rfl))
  f295 := Try.func331.trans (congrArg some (by kernel_rfl))
  f296 := Try.func332.trans (congrArg some (by kernel_rfl))
  f297 := Try.func333.trans (congrArg some (by kernel_rfl))
  f298 := Try.func334.trans (congrArg some (by kernel_rfl))
  f299 := Try.func335.trans (congrArg some (by kernel_rfl))
  f300 := Try.func337.trans (congrArg some (by kernel_rfl))
  f301 := Try.func338.trans (congrArg some (by kernel_rfl))
  f328 := Try.func360.trans (congrArg some (by kernel_rfl))
  f329 := Try.func361.trans (congrArg some (by kernel_rfl))
  f330 := Try.func362.trans (congrArg some (by kernel_rfl))
  f331 := Try.func363.trans (congrArg some (by kernel_rfl))
  f332 := Try.func364.trans (congrArg some (by kernel_rfl))
  f343 := Try.func369.trans (congrArg some (by kernel_rfl))
  t0 := Try.underlying0
  a0 := Try.isAgg0
  z0 := Try.sizeOf0
  v0 := Try.zeroValue0
  t3 := Try.underlying3
  a3 := Try.isAgg3
  z3 := Try.sizeOf3
  v3 := Try.zeroValue3
  t4 := Try.underlying4
  a4 := Try.isAgg4
  z4 := Try.sizeOf4
  v4 := Try.zeroValue4
  t5 := Try.underlying5
  a5 := Try.isAgg5
  z5 := Try.sizeOf5
  v5 := Try.zeroValue5
  t9 := Try.underlying9
  a9 := Try.isAgg9
  z9 := Try.sizeOf9
  v9 := Try.zeroValue9
  t28 := Try.underlying24
  a28 := Try.isAgg24
  z28 := Try.sizeOf24
  v28 := Try.zeroValue24
  t46 := Try.underlying258
  a46 := Try.isAgg258
  z46 := Try.sizeOf258
  v46 := Try.zeroValue258
  t51 := Try.underlying281
  a51 := Try.isAgg281
  z51 := Try.sizeOf281
  v51 := Try.zeroValue281
  t53 := Try.underlying154
  a53 := Try.isAgg154
  z53 := Try.sizeOf154
  v53 := Try.zeroValue154
  t131 := Try.underlying34
  a131 := Try.isAgg34
  z131 := Try.sizeOf34
  v131 := Try.zeroValue34
  t182 := Try.underlying275
  a182 := Try.isAgg275
  z182 := Try.sizeOf275
  v182 := Try.zeroValue275
  t183 := Try.underlying276
  a183 := Try.isAgg276
  z183 := Try.sizeOf276
  v183 := Try.zeroValue276
  t218 := Try.underlying295
  a218 := Try.isAgg295
  z218 := Try.sizeOf295
  v218 := Try.zeroValue295
  t222 := Try.underlying299
  a222 := Try.isAgg299
  z222 := Try.sizeOf299
  v222 := Try.zeroValue299
  t228 := Try.underlying303
  a228 := Try.isAgg303
  z228 := Try.sizeOf303
  v228 := Try.zeroValue303
  t229 := Try.underlying182
  a229 := Try.isAgg182
  z229 := Try.sizeOf182
  v229 := Try.zeroValue182 }
open Go.Sort Go.RowKit in
theorem Try.slices_Sort_int (blk off cap : Nat) (zs : List Int) (w : World) (hH : Holds (Value.int .i64) w blk off zs.toArray) (hblk : blk < w.heap.size) (hsz : zs.length < 4611686018427387904) :
    Calls Try.prog 183 #[.slice (some ⟨blk, off, none⟩) zs.length cap] w fun e w' =>
      e = .returned (.tuple #[]) ∧ ∃ n os, w' = grow (putRow (Value.int .i64) (Sort.ahead w n) blk off (zs.mergeSort fun x y => decide (x ≤ y)).toArray) os := Any.slices_Sort_int Try.lays189 blk off cap zs w hH hblk hsz
end Go.Proofs
