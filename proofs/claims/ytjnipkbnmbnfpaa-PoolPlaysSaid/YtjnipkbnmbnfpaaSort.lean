/-
  DERIVED: THE SHELF's CONTRACTS AT THIS DUMP, IN PLAIN WORDS (tools/lay-plain.mjs out of 'YtjnipkbnmbnfpaaSort.lean', which tools/lay-shelf.mjs wrote): THE SAME DECLARATIONS UNDER THE SAME NAMES: 'import', 'namespace', 'open', 'def', 'theorem' AND NOTHING ELSE: no command of the shelf's: FOR A HAND-IN. Each laying: the table of numbers ('.._ren') and one theorem, a field a fact of the dump's own or the kernel's comparison; each contract: ONE APPLICATION.
-/
import Derived.Shelf.Sort.Plain
import Derived.Shelf.Slices.In.SortNone
import Derived.Test.YtjnipkbnmbnfpaaProg
namespace Go.Proofs
open Go.Shelf
def Try.lays189_ren : Go.Shelf.Ren := ⟨fun | 189 => 138 | 125 => 157 | 257 => 156 | 128 => 173 | 129 => 174 | 294 => 164 | 295 => 165 | 296 => 166 | 297 => 167 | 298 => 168 | 299 => 169 | 216 => 170 | 300 => 171 | 301 => 172 | 328 => 178 | 329 => 179 | 330 => 180 | 331 => 181 | 332 => 182 | 215 => 183 | 343 => 185 | n => n, fun | 28 => 27 | 3 => 3 | 46 => 224 | 0 => 0 | 51 => 236 | 53 => 238 | 4 => 4 | 183 => 230 | 182 => 229 | 131 => 200 | 5 => 5 | 9 => 9 | 218 => 243 | 222 => 247 | 228 => 250 | 229 => 251 | n => n, fun | n => n⟩
theorem Try.lays189 : Go.Proofs.Lays.n189 Try.prog Try.lays189_ren := {
  mixed := by kernel_rfl
  f125 := Try.func157.trans (congrArg some (by kernel_rfl))
  f128 := Try.func173.trans (congrArg some (by kernel_rfl))
  f129 := Try.func174.trans (congrArg some (by kernel_rfl))
  f189 := Try.func138.trans (congrArg some (by kernel_rfl))
  f215 := Try.func183.trans (congrArg some (by kernel_rfl))
  f216 := Try.func170.trans (congrArg some (by kernel_rfl))
  f257 := Try.func156.trans (congrArg some (by kernel_rfl))
  f294 := Try.func164.trans (congrArg some (by kernel_rfl))
  f295 := Try.func165.trans (congrArg some (by kernel_rfl))
  f296 := Try.func166.trans (congrArg some (by kernel_rfl))
  f297 := Try.func167.trans (congrArg some (by kernel_rfl))
  f298 := Try.func168.trans (congrArg some (by kernel_rfl))
  f299 := Try.func169.trans (congrArg some (by kernel_rfl))
  f300 := Try.func171.trans (congrArg some (by kernel_rfl))
  f301 := Try.func172.trans (congrArg some (by kernel_rfl))
  f328 := Try.func178.trans (congrArg some (by kernel_rfl))
  f329 := Try.func179.trans (congrArg some (by kernel_rfl))
  f330 := Try.func180.trans (congrArg some (by kernel_rfl))
  f331 := Try.func181.trans (congrArg some (by kernel_rfl))
  f332 := Try.func182.trans (congrArg some (by kernel_rfl))
  f343 := Try.func185.trans (congrArg some (by kernel_rfl))
  t0 := Try.underlying0
  a0 := Try.isAgg0
  z0 := Try.sizeOf0
  v0 := Try.zeroValue0
  t3 := Try.underlying3
  a3 := Try.isAgg3
  z3 := Try.sizeOf3
  v3 := Try.zeroValue3
  t4 := Try.underlying4
  a4 := Try.isAgg4
  z4 := Try.sizeOf4
  v4 := Try.zeroValue4
  t5 := Try.underlying5
  a5 := Try.isAgg5
  z5 := Try.sizeOf5
  v5 := Try.zeroValue5
  t9 := Try.underlying9
  a9 := Try.isAgg9
  z9 := Try.sizeOf9
  v9 := Try.zeroValue9
  t28 := Try.underlying27
  a28 := Try.isAgg27
  z28 := Try.sizeOf27
  v28 := Try.zeroValue27
  t46 := Try.underlying224
  a46 := Try.isAgg224
  z46 := Try.sizeOf224
  v46 := Try.zeroValue224
  t51 := Try.underlying236
  a51 := Try.isAgg236
  z51 := Try.sizeOf236
  v51 := Try.zeroValue236
  t53 := Try.underlying238
  a53 := Try.isAgg238
  z53 := Try.sizeOf238
  v53 := Try.zeroValue238
  t131 := Try.underlying200
  a131 := Try.isAgg200
  z131 := Try.sizeOf200
  v131 := Try.zeroValue200
  t182 := Try.underlying229
  a182 := Try.isAgg229
  z182 := Try.sizeOf229
  v182 := Try.zeroValue229
  t183 := Try.underlying230
  a183 := Try.isAgg230
  z183 := Try.sizeOf230
  v183 := Try.zeroValue230
  t218 := Try.underlying243
  a218 := Try.isAgg243
  z218 := Try.sizeOf243
  v218 := Try.zeroValue243
  t222 := Try.underlying247
  a222 := Try.isAgg247
  z222 := Try.sizeOf247
  v222 := Try.zeroValue247
  t228 := Try.underlying250
  a228 := Try.isAgg250
  z228 := Try.sizeOf250
  v228 := Try.zeroValue250
  t229 := Try.underlying251
  a229 := Try.isAgg251
  z229 := Try.sizeOf251
  v229 := Try.zeroValue251 }
open Go.Sort Go.RowKit in
theorem Try.slices_Sort_int (blk off cap : Nat) (zs : List Int) (w : World) (hH : Holds (Value.int .i64) w blk off zs.toArray) (hblk : blk < w.heap.size) (hsz : zs.length < 4611686018427387904) :
    Calls Try.prog 138 #[.slice (some ⟨blk, off, none⟩) zs.length cap] w fun e w' =>
      e = .returned (.tuple #[]) ∧ ∃ n os, w' = grow (putRow (Value.int .i64) (Sort.ahead w n) blk off (zs.mergeSort fun x y => decide (x ≤ y)).toArray) os := Any.slices_Sort_int Try.lays189 blk off cap zs w hH hblk hsz
open Go.RowKit Go.Sort in
/-- .. and plain. (LAID: no walk: one application.) -/
theorem Try.slices_Sort_int_none (p : Option Addr) (cap : Nat) (w : World) :
    Calls Try.prog 138 #[.slice p 0 cap] w fun e w' => e = .returned (.tuple #[]) ∧ w' = w := Any.slices_Sort_int_none Try.lays189 p cap w
end Go.Proofs
