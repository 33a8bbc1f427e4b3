/-
  DERIVED: THE SHELF's CONTRACTS AT THIS DUMP, IN PLAIN WORDS (tools/lay-plain.mjs out of 'TryzShelf.lean', which tools/lay-shelf.mjs wrote): THE SAME DECLARATIONS UNDER THE SAME NAMES: 'import', 'namespace', 'open', 'def', 'theorem' AND NOTHING ELSE: no command of the shelf's: FOR A HAND-IN. Each laying: the table of numbers ('.._ren') and one theorem, a field a fact of the dump's own or the kernel's comparison; each contract: ONE APPLICATION.
-/
import Derived.Shelf.Sort.Plain
import Derived.Shelf.Slices.CompactI
import Derived.Shelf.Slices.In.SortNone2
import Derived.Shelf.Slices.Empties2
import Derived.Test.YtknaemlnhediaaaGreatDoorProg
namespace Go.Proofs
open Go.Shelf
def Tryz.lays191_ren : Go.Shelf.Ren := ⟨fun | 191 => 105 | 189 => 179 | 125 => 236 | 257 => 235 | 128 => 285 | 129 => 286 | 294 => 276 | 295 => 277 | 296 => 278 | 297 => 279 | 298 => 280 | 299 => 281 | 216 => 282 | 300 => 283 | 301 => 284 | 328 => 312 | 329 => 313 | 330 => 314 | 331 => 315 | 332 => 316 | 215 => 317 | 343 => 332 | n => n, fun | 28 => 65 | 0 => 0 | 3 => 3 | 46 => 280 | 51 => 323 | 53 => 283 | 4 => 4 | 183 => 316 | 182 => 315 | 131 => 157 | 5 => 5 | 9 => 9 | 218 => 340 | 222 => 344 | 228 => 360 | 229 => 269 | n => n, fun | n => n⟩
theorem Tryz.lays191 : Go.Proofs.Lays.n191 Tryz.prog Tryz.lays191_ren := {
  mixed := by kernel_rfl
  f125 := Tryz.func236.trans (congrArg some (by kernel_rfl))
  f128 := Tryz.func285.trans (congrArg some (by kernel_rfl))
  f129 := Tryz.func286.trans (congrArg some (by kernel_rfl))
  f189 := Tryz.func179.trans (congrArg some (by kernel_rfl))
  f191 := Tryz.func105.trans (congrArg some (by kernel_rfl))
  f215 := Tryz.func317.trans (congrArg some (by kernel_rfl))
  f216 := Tryz.func282.trans (congrArg some (by kernel_rfl))
  f257 := Tryz.func235.trans (congrArg some (by kernel_rfl))
  f294 := Tryz.func276.trans (congrArg some (by kernel_rfl))
  f295 := Tryz.func277.trans (congrArg some (by kernel_rfl))
  f296 := Tryz.func278.trans (congrArg some (by kernel_rfl))
  f297 := Tryz.func279.trans (congrArg some (by kernel_rfl))
  f298 := Tryz.func280.trans (congrArg some (by kernel_rfl))
  f299 := Tryz.func281.trans (congrArg some (by kernel_rfl))
  f300 := Tryz.func283.trans (congrArg some (by kernel_rfl))
  f301 := Tryz.func284.trans (congrArg some (by kernel_rfl))
  f328 := Tryz.func312.trans (congrArg some (by kernel_rfl))
  f329 := Tryz.func313.trans (congrArg some (by kernel_rfl))
  f330 := Tryz.func314.trans (congrArg some (by kernel_rfl))
  f331 := Tryz.func315.trans (congrArg some (by kernel_rfl))
  f332 := Tryz.func316.trans (congrArg some (by kernel_rfl))
  f343 := Tryz.func332.trans (congrArg some (by kernel_rfl))
  t0 := Tryz.underlying0
  a0 := Tryz.isAgg0
  z0 := Tryz.sizeOf0
  v0 := Tryz.zeroValue0
  t3 := Tryz.underlying3
  a3 := Tryz.isAgg3
  z3 := Tryz.sizeOf3
  v3 := Tryz.zeroValue3
  t4 := Tryz.underlying4
  a4 := Tryz.isAgg4
  z4 := Tryz.sizeOf4
  v4 := Tryz.zeroValue4
  t5 := Tryz.underlying5
  a5 := Tryz.isAgg5
  z5 := Tryz.sizeOf5
  v5 := Tryz.zeroValue5
  t9 := Tryz.underlying9
  a9 := Tryz.isAgg9
  z9 := Tryz.sizeOf9
  v9 := Tryz.zeroValue9
  t28 := Tryz.underlying65
  a28 := Tryz.isAgg65
  z28 := Tryz.sizeOf65
  v28 := Tryz.zeroValue65
  t46 := Tryz.underlying280
  a46 := Tryz.isAgg280
  z46 := Tryz.sizeOf280
  v46 := Tryz.zeroValue280
  t51 := Tryz.underlying323
  a51 := Tryz.isAgg323
  z51 := Tryz.sizeOf323
  v51 := Tryz.zeroValue323
  t53 := Tryz.underlying283
  a53 := Tryz.isAgg283
  z53 := Tryz.sizeOf283
  v53 := Tryz.zeroValue283
  t131 := Tryz.underlying157
  a131 := Tryz.isAgg157
  z131 := Tryz.sizeOf157
  v131 := Tryz.zeroValue157
  t182 := Tryz.underlying315
  a182 := Tryz.isAgg315
  z182 := Tryz.sizeOf315
  v182 := Tryz.zeroValue315
  t183 := Tryz.underlying316
  a183 := Tryz.isAgg316
  z183 := Tryz.sizeOf316
  v183 := Tryz.zeroValue316
  t218 := Tryz.underlying340
  a218 := Tryz.isAgg340
  z218 := Tryz.sizeOf340
  v218 := Tryz.zeroValue340
  t222 := Tryz.underlying344
  a222 := Tryz.isAgg344
  z222 := Tryz.sizeOf344
  v222 := Tryz.zeroValue344
  t228 := Tryz.underlying360
  a228 := Tryz.isAgg360
  z228 := Tryz.sizeOf360
  v228 := Tryz.zeroValue360
  t229 := Tryz.underlying269
  a229 := Tryz.isAgg269
  z229 := Tryz.sizeOf269
  v229 := Tryz.zeroValue269 }
open Go.Sort Go.RowKit in
theorem Tryz.sort_Ints (blk off cap : Nat) (zs : List Int) (w : World) (hH : Holds (Value.int .i64) w blk off zs.toArray) (hblk : blk < w.heap.size) (hsz : zs.length < 4611686018427387904) :
    Calls Tryz.prog 105 #[.slice (some ⟨blk, off, none⟩) zs.length cap] w fun e w' =>
      e = .returned (.tuple #[]) ∧ ∃ n os, w' = grow (putRow (Value.int .i64) (Sort.ahead w n) blk off (zs.mergeSort fun x y => decide (x ≤ y)).toArray) os := Any.sort_Ints Tryz.lays191 blk off cap zs w hH hblk hsz
def Tryz.laysNm220_ren : Go.Shelf.Ren := ⟨fun | 20 => 106 | n => n, fun | 22 => 65 | 3 => 3 | 4 => 4 | 0 => 0 | n => n, fun | n => n⟩
theorem Tryz.laysNm220 : Go.Proofs.Lays2.n20 Tryz.prog Tryz.laysNm220_ren := {
  mixed := by kernel_rfl
  f20 := Tryz.func106.trans (congrArg some (by kernel_rfl))
  t0 := Tryz.underlying0
  a0 := Tryz.isAgg0
  z0 := Tryz.sizeOf0
  v0 := Tryz.zeroValue0
  t3 := Tryz.underlying3
  a3 := Tryz.isAgg3
  z3 := Tryz.sizeOf3
  v3 := Tryz.zeroValue3
  t4 := Tryz.underlying4
  a4 := Tryz.isAgg4
  z4 := Tryz.sizeOf4
  v4 := Tryz.zeroValue4
  t22 := Tryz.underlying65
  a22 := Tryz.isAgg65
  z22 := Tryz.sizeOf65
  v22 := Tryz.zeroValue65
  i3 := by kernel_rfl }
open Go.RowKit Go.Lib Go.Sort in
theorem Tryz.slices_Compact_int (blk off cap : Nat) (zs : List Int) (w : World) (hH : Holds (Value.int .i64) w blk off zs.toArray) (hsz : zs.length ≤ 9223372036854775807) (hcap : zs.length ≤ cap) :
    Calls Tryz.prog 106 #[.slice (some ⟨blk, off, none⟩) zs.length cap] w fun e w' => e = .returned (.slice (some ⟨blk, off, none⟩) (Lib.compact zs).length cap) ∧ ∃ q, w' = putRow (Value.int .i64) (Sort.ahead w q) blk off (Lib.compact zs ++ List.replicate (zs.length - (Lib.compact zs).length) 0).toArray := Any.slices_Compact_int Tryz.laysNm220 blk off cap zs w hH hsz hcap
open Go.RowKit Go.Lib Go.Sort in
theorem Tryz.slices_Compact_int_empty (a : Option Addr) (cap : Nat) (w : World) :
    Calls Tryz.prog 106 #[.slice a 0 cap] w fun e w' => e = .returned (.slice a 0 cap) ∧ w' = w := Any.slices_Compact_int_empty Tryz.laysNm220 a cap w
open Go.RowKit Go.Sort in
theorem Tryz.sort_Ints_none (p : Option Addr) (cap : Nat) (w : World) :
    Calls Tryz.prog 105 #[.slice p 0 cap] w fun e w' => e = .returned (.tuple #[]) ∧ w' = w := Any.sort_Ints_none Tryz.lays191 p cap w
end Go.Proofs
