/- Contract: the library's sort of a list of strings that is one's own. -/
import Derived.Test.YtfecepjdjikenaaLeaf
import Derived.Ground.NamesProg
import Derived.Shelf.Lay
import Derived.Shelf.Slices.In.SortAlone
import Derived.Sort.EveryDepth
import Derived.Sort.OwnSorted
namespace Go.Proofs
open Go.Shelf
def Try.laysSort_ren : Go.Shelf.Ren := ⟨fun | 125 => 101 | 128 => 117 | 129 => 118 | 190 => 82 | 258 => 100 | 302 => 108 | 303 => 109 | 304 => 110 | 305 => 111 | 306 => 112 | 307 => 113 | 308 => 114 | 309 => 115 | 310 => 116 | 329 => 123 | 330 => 124 | 333 => 122 | 334 => 125 | 335 => 126 | 336 => 127 | 344 => 130 | n => n, fun | 31 => 58 | 46 => 107 | 51 => 120 | 53 => 93 | 131 => 32 | 182 => 112 | 183 => 113 | 218 => 124 | 222 => 128 | 228 => 131 | 229 => 132 | n => n, fun n => n⟩
theorem Try.laysSort : Lays.n190 Try.prog Try.laysSort_ren where
  mixed := by kernel_rfl
  f125 := Try.func101.trans (congrArg some (by kernel_rfl))
  f128 := Try.func117.trans (congrArg some (by kernel_rfl))
  f129 := Try.func118.trans (congrArg some (by kernel_rfl))
  f190 := Try.func82.trans (congrArg some (by kernel_rfl))
  f258 := Try.func100.trans (congrArg some (by kernel_rfl))
  f302 := Try.func108.trans (congrArg some (by kernel_rfl))
  f303 := Try.func109.trans (congrArg some (by kernel_rfl))
  f304 := Try.func110.trans (congrArg some (by kernel_rfl))
  f305 := Try.func111.trans (congrArg some (by kernel_rfl))
  f306 := Try.func112.trans (congrArg some (by kernel_rfl))
  f307 := Try.func113.trans (congrArg some (by kernel_rfl))
  f308 := Try.func114.trans (congrArg some (by kernel_rfl))
  f309 := Try.func115.trans (congrArg some (by kernel_rfl))
  f310 := Try.func116.trans (congrArg some (by kernel_rfl))
  f329 := Try.func123.trans (congrArg some (by kernel_rfl))
  f330 := Try.func124.trans (congrArg some (by kernel_rfl))
  f333 := Try.func122.trans (congrArg some (by kernel_rfl))
  f334 := Try.func125.trans (congrArg some (by kernel_rfl))
  f335 := Try.func126.trans (congrArg some (by kernel_rfl))
  f336 := Try.func127.trans (congrArg some (by kernel_rfl))
  f344 := Try.func130.trans (congrArg some (by kernel_rfl))
  t0 := Try.underlying0
  a0 := Try.isAgg0
  z0 := Try.sizeOf0
  v0 := Try.zeroValue0
  t3 := Try.underlying3
  a3 := Try.isAgg3
  z3 := Try.sizeOf3
  v3 := Try.zeroValue3
  t4 := Try.underlying4
  a4 := Try.isAgg4
  z4 := Try.sizeOf4
  v4 := Try.zeroValue4
  t5 := Try.underlying5
  a5 := Try.isAgg5
  z5 := Try.sizeOf5
  v5 := Try.zeroValue5
  t9 := Try.underlying9
  a9 := Try.isAgg9
  z9 := Try.sizeOf9
  v9 := Try.zeroValue9
  t31 := Try.underlying58
  a31 := Try.isAgg58
  z31 := Try.sizeOf58
  v31 := Try.zeroValue58
  t46 := Try.underlying107
  a46 := Try.isAgg107
  z46 := Try.sizeOf107
  v46 := Try.zeroValue107
  t51 := Try.underlying120
  a51 := Try.isAgg120
  z51 := Try.sizeOf120
  v51 := Try.zeroValue120
  t53 := Try.underlying93
  a53 := Try.isAgg93
  z53 := Try.sizeOf93
  v53 := Try.zeroValue93
  t131 := Try.underlying32
  a131 := Try.isAgg32
  z131 := Try.sizeOf32
  v131 := Try.zeroValue32
  t182 := Try.underlying112
  a182 := Try.isAgg112
  z182 := Try.sizeOf112
  v182 := Try.zeroValue112
  t183 := Try.underlying113
  a183 := Try.isAgg113
  z183 := Try.sizeOf113
  v183 := Try.zeroValue113
  t218 := Try.underlying124
  a218 := Try.isAgg124
  z218 := Try.sizeOf124
  v218 := Try.zeroValue124
  t222 := Try.underlying128
  a222 := Try.isAgg128
  z222 := Try.sizeOf128
  v222 := Try.zeroValue128
  t228 := Try.underlying131
  a228 := Try.isAgg131
  z228 := Try.sizeOf131
  v228 := Try.zeroValue131
  t229 := Try.underlying132
  a229 := Try.isAgg132
  z229 := Try.sizeOf132
  v229 := Try.zeroValue132
end Go.Proofs
namespace Go.Proofs.Ytfecepjdjikenaa
open Go.RowKit Go.Shelf Go.Sort
theorem sortS_any (blk off cap : Nat) (zs : List (List UInt8)) (w : World) (hH : Holds encStr w blk off zs.toArray) (hblk : blk < w.heap.size) (hsz : zs.length < 4611686018427387904) :
    Calls Try.prog 82 #[.slice (some ⟨blk, off, none⟩) zs.length cap] w fun e w' =>
      e = .returned (.tuple #[]) ∧ ∃ n os, w' = grow (putRow encStr (Sort.ahead w n) blk off (zs.mergeSort fun x y => decide (x ≤ y)).toArray) os :=
  calls_of_every_depth fun D => AnyS.slices_Sort_string_alone Try.laysSort D blk off cap zs w hH hblk hsz
end Go.Proofs.Ytfecepjdjikenaa
