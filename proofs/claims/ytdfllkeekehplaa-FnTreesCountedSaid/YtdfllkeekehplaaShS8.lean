/- The library's contract of the sort of texts. -/
import Derived.Shelf.Sort.Plain
import Derived.Test.YtdfllkeekehplaaProg
namespace Go.Proofs
open Go.Shelf Go.Sort
def Try.lays190_ren : Go.Shelf.Ren := ⟨fun | 190 => 290 | 125 => 332 | 258 => 331 | 128 => 353 | 129 => 354 | 302 => 344 | 303 => 345 | 304 => 346 | 305 => 347 | 306 => 348 | 307 => 349 | 308 => 350 | 309 => 351 | 310 => 352 | 333 => 366 | 329 => 367 | 330 => 368 | 334 => 369 | 335 => 370 | 336 => 371 | 344 => 375 | n => n, fun | 31 => 31 | 9 => 9 | 3 => 3 | 46 => 225 | 0 => 0 | 51 => 249 | 53 => 97 | 4 => 4 | 183 => 242 | 182 => 241 | 131 => 28 | 5 => 5 | 218 => 253 | 222 => 257 | 228 => 261 | 229 => 24 | n => n, fun | n => n⟩
theorem Try.lays190 : Go.Proofs.Lays.n190 Try.prog Try.lays190_ren := {
  mixed := by kernel_rfl
  f125 := Try.func332.trans (congrArg some (by kernel_rfl))
  f128 := Try.func353.trans (congrArg some (by kernel_rfl))
  f129 := Try.func354.trans (congrArg some (by kernel_rfl))
  f190 := Try.func290.trans (congrArg some (by kernel_rfl))
  f258 := Try.func331.trans (congrArg some (by kernel_rfl))
  f302 := Try.func344.trans (congrArg some (by kernel_rfl))
  f303 := Try.func345.trans (congrArg some (by kernel_rfl))
  f304 := Try.func346.trans (congrArg some (by kernel_rfl))
  f305 := Try.func347.trans (congrArg some (by kernel_rfl))
  f306 := Try.func348.trans (congrArg some (by kernel_rfl))
  f307 := Try.func349.trans (congrArg some (by kernel_rfl))
  f308 := Try.func350.trans (congrArg some (by kernel_rfl))
  f309 := Try.func351.trans (congrArg some (by kernel_rfl))
  f310 := Try.func352.trans (congrArg some (by kernel_rfl))
  f329 := Try.func367.trans (congrArg some (by kernel_rfl))
  f330 := Try.func368.trans (congrArg some (by kernel_rfl))
  f333 := Try.func366.trans (congrArg some (by kernel_rfl))
  f334 := Try.func369.trans (congrArg some (by kernel_rfl))
  f335 := Try.func370.trans (congrArg some (by kernel_rfl))
  f336 := Try.func371.trans (congrArg some (by kernel_rfl))
  f344 := Try.func375.trans (congrArg some (by kernel_rfl))
  t0 := Try.underlying0
  a0 := Try.isAgg0
  z0 := Try.sizeOf0
  v0 := Try.zeroValue0
  t3 := Try.underlying3
  a3 := Try.isAgg3
  z3 := Try.sizeOf3
  v3 := Try.zeroValue3
  t4 := Try.underlying4
  a4 := Try.isAgg4
  z4 := Try.sizeOf4
  v4 := Try.zeroValue4
  t5 := Try.underlying5
  a5 := Try.isAgg5
  z5 := Try.sizeOf5
  v5 := Try.zeroValue5
  t9 := Try.underlying9
  a9 := Try.isAgg9
  z9 := Try.sizeOf9
  v9 := Try.zeroValue9
  t31 := Try.underlying31
  a31 := Try.isAgg31
  z31 := Try.sizeOf31
  v31 := Try.zeroValue31
  t46 := Try.underlying225
  a46 := Try.isAgg225
  z46 := Try.sizeOf225
  v46 := Try.zeroValue225
  t51 := Try.underlying249
  a51 := Try.isAgg249
  z51 := Try.sizeOf249
  v51 := Try.zeroValue249
  t53 := Try.underlying97
  a53 := Try.isAgg97
  z53 := Try.sizeOf97
  v53 := Try.zeroValue97
  t131 := Try.underlying28
  a131 := Try.isAgg28
  z131 := Try.sizeOf28
  v131 := Try.zeroValue28
  t182 := Try.underlying241
  a182 := Try.isAgg241
  z182 := Try.sizeOf241
  v182 := Try.zeroValue241
  t183 := Try.underlying242
  a183 := Try.isAgg242
  z183 := Try.sizeOf242
  v183 := Try.zeroValue242
  t218 := Try.underlying253
  a218 := Try.isAgg253
  z218 := Try.sizeOf253
  v218 := Try.zeroValue253
  t222 := Try.underlying257
  a222 := Try.isAgg257
  z222 := Try.sizeOf257
  v222 := Try.zeroValue257
  t228 := Try.underlying261
  a228 := Try.isAgg261
  z228 := Try.sizeOf261
  v228 := Try.zeroValue261
  t229 := Try.underlying24
  a229 := Try.isAgg24
  z229 := Try.sizeOf24
  v229 := Try.zeroValue24 }
theorem Try.slices_Sort (blk off cap : Nat) (ss : List (List UInt8)) (w : World) (hH : Holds encStr w blk off ss.toArray) (hblk : blk < w.heap.size) (hsz : ss.length < 4611686018427387904) :
    Calls Try.prog 290 #[.slice (some ⟨blk, off, none⟩) ss.length cap] w fun e w' =>
      e = .returned (.tuple #[]) ∧ ∃ n os, w' = grow (putRow encStr (Sort.ahead w n) blk off (ss.mergeSort fun x y => decide (x ≤ y)).toArray) os := Any.slices_Sort_string Try.lays190 blk off cap ss w hH hblk hsz
end Go.Proofs
