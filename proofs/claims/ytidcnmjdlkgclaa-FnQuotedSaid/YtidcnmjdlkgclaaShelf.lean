/- Contracts of Go's library at this program, as the kit's shelf lays them: chosen and written down by a program of this session (wip/shelf.py). -/
import Derived.Shelf.Small.Bits
import Derived.Shelf.Strconv.Itoa0
import Derived.Shelf.Sort.Plain
import Derived.Shelf.Slices.Turned
import Derived.Shelf.Slices.In.SortNone
import Derived.Test.YtidcnmjdlkgclaaProg
namespace Go.Proofs
open Go.Shelf
def Try.lays190_ren : Go.Shelf.Ren := ⟨fun | 190 => 87 | 125 => 143 | 258 => 142 | 128 => 185 | 129 => 186 | 302 => 176 | 303 => 177 | 304 => 178 | 305 => 179 | 306 => 180 | 307 => 181 | 308 => 182 | 309 => 183 | 310 => 184 | 333 => 204 | 329 => 205 | 330 => 206 | 334 => 207 | 335 => 208 | 336 => 209 | 344 => 220 | n => n, fun | 31 => 28 | 9 => 9 | 3 => 3 | 46 => 182 | 0 => 0 | 51 => 236 | 53 => 238 | 4 => 4 | 183 => 228 | 182 => 227 | 131 => 233 | 5 => 5 | 218 => 249 | 222 => 253 | 228 => 263 | 229 => 264 | n => n, fun | n => n⟩
theorem Try.lays190 : Go.Proofs.Lays.n190 Try.prog Try.lays190_ren := {
  mixed := by kernel_rfl
  f125 := Try.func143.trans (congrArg some (by kernel_rfl))
  f128 := Try.func185.trans (congrArg some (by kernel_rfl))
  f129 := Try.func186.trans (congrArg some (by kernel_rfl))
  f190 := Try.func87.trans (congrArg some (by kernel_rfl))
  f258 := Try.func142.trans (congrArg some (by kernel_rfl))
  f302 := Try.func176.trans (congrArg some (by kernel_rfl))
  f303 := Try.func177.trans (congrArg some (by kernel_rfl))
  f304 := Try.func178.trans (congrArg some (by kernel_rfl))
  f305 := Try.func179.trans (congrArg some (by kernel_rfl))
  f306 := Try.func180.trans (congrArg some (by kernel_rfl))
  f307 := Try.func181.trans (congrArg some (by kernel_rfl))
  f308 := Try.func182.trans (congrArg some (by kernel_rfl))
  f309 := Try.func183.trans (congrArg some (by kernel_rfl))
  f310 := Try.func184.trans (congrArg some (by kernel_rfl))
  f329 := Try.func205.trans (congrArg some (by kernel_rfl))
  f330 := Try.func206.trans (congrArg some (by kernel_rfl))
  f333 := Try.func204.trans (congrArg some (by kernel_rfl))
  f334 := Try.func207.trans (congrArg some (by kernel_rfl))
  f335 := Try.func208.trans (congrArg some (by kernel_rfl))
  f336 := Try.func209.trans (congrArg some (by kernel_rfl))
  f344 := Try.func220.trans (congrArg some (by kernel_rfl))
  t0 := Try.underlying0
  a0 := Try.isAgg0
  z0 := Try.sizeOf0
  v0 := Try.zeroValue0
  t3 := Try.underlying3
  a3 := Try.isAgg3
  z3 := Try.sizeOf3
  v3 := Try.zeroValue3
  t4 := Try.underlying4
  a4 := Try.isAgg4
  z4 := Try.sizeOf4
  v4 := Try.zeroValue4
  t5 := Try.underlying5
  a5 := Try.isAgg5
  z5 := Try.sizeOf5
  v5 := Try.zeroValue5
  t9 := Try.underlying9
  a9 := Try.isAgg9
  z9 := Try.sizeOf9
  v9 := Try.zeroValue9
  t31 := Try.underlying28
  a31 := Try.isAgg28
  z31 := Try.sizeOf28
  v31 := Try.zeroValue28
  t46 := Try.underlying182
  a46 := Try.isAgg182
  z46 := Try.sizeOf182
  v46 := Try.zeroValue182
  t51 := Try.underlying236
  a51 := Try.isAgg236
  z51 := Try.sizeOf236
  v51 := Try.zeroValue236
  t53 := Try.underlying238
  a53 := Try.isAgg238
  z53 := Try.sizeOf238
  v53 := Try.zeroValue238
  t131 := Try.underlying233
  a131 := Try.isAgg233
  z131 := Try.sizeOf233
  v131 := Try.zeroValue233
  t182 := Try.underlying227
  a182 := Try.isAgg227
  z182 := Try.sizeOf227
  v182 := Try.zeroValue227
  t183 := Try.underlying228
  a183 := Try.isAgg228
  z183 := Try.sizeOf228
  v183 := Try.zeroValue228
  t218 := Try.underlying249
  a218 := Try.isAgg249
  z218 := Try.sizeOf249
  v218 := Try.zeroValue249
  t222 := Try.underlying253
  a222 := Try.isAgg253
  z222 := Try.sizeOf253
  v222 := Try.zeroValue253
  t228 := Try.underlying263
  a228 := Try.isAgg263
  z228 := Try.sizeOf263
  v228 := Try.zeroValue263
  t229 := Try.underlying264
  a229 := Try.isAgg264
  z229 := Try.sizeOf264
  v229 := Try.zeroValue264 }
open Go.Sort Go.RowKit in
theorem Try.slices_Sort_string (blk off cap : Nat) (ss : List (List UInt8)) (w : World) (hH : Holds encStr w blk off ss.toArray) (hblk : blk < w.heap.size) (hsz : ss.length < 4611686018427387904) :
    Calls Try.prog 87 #[.slice (some ⟨blk, off, none⟩) ss.length cap] w fun e w' =>
      e = .returned (.tuple #[]) ∧ ∃ n os, w' = grow (putRow encStr (Sort.ahead w n) blk off (ss.mergeSort fun x y => decide (x ≤ y)).toArray) os := Any.slices_Sort_string Try.lays190 blk off cap ss w hH hblk hsz
open Go.RowKit Go.Sort in
theorem Try.slices_Sort_string_none (p : Option Addr) (cap : Nat) (w : World) :
    Calls Try.prog 87 #[.slice p 0 cap] w fun e w' => e = .returned (.tuple #[]) ∧ w' = w := Any.slices_Sort_string_none Try.lays190 p cap w
end Go.Proofs
