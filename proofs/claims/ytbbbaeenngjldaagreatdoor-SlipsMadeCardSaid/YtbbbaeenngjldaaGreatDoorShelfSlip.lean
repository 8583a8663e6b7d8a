/- What is proved here: contracts of functions of the library at this program, each one application of a theorem of the kit. No condition beyond those stated. -/
/-
  DERIVED: THE SHELF's CONTRACTS AT THIS DUMP, IN PLAIN WORDS (tools/lay-plain.mjs out of 'TryzShelfSlip.lean', which tools/lay-shelf.mjs wrote): THE SAME DECLARATIONS UNDER THE SAME NAMES: 'import', 'namespace', 'open', 'def', 'theorem' AND NOTHING ELSE: no command of the shelf's: FOR A HAND-IN. Each laying: the table of numbers ('.._ren') and one theorem, a field a fact of the dump's own or the kernel's comparison; each contract: ONE APPLICATION.
-/
import Derived.Shelf.Sort.Plain
import Derived.Shelf.Slices.In.SortNone
import Derived.Shelf.Slices.CompactS
import Derived.Test.YtbbbaeenngjldaaGreatDoorProg
namespace Go.Proofs
open Go.Shelf
def Tryz.lays190_ren : Go.Shelf.Ren := ⟨fun | 190 => 115 | 125 => 218 | 258 => 217 | 128 => 307 | 129 => 308 | 302 => 298 | 303 => 299 | 304 => 300 | 305 => 301 | 306 => 302 | 307 => 303 | 308 => 304 | 309 => 305 | 310 => 306 | 333 => 354 | 329 => 355 | 330 => 356 | 334 => 357 | 335 => 358 | 336 => 232 | 344 => 386 | n => n, fun | 31 => 35 | 9 => 9 | 3 => 3 | 46 => 328 | 0 => 0 | 51 => 406 | 53 => 408 | 4 => 4 | 183 => 400 | 182 => 399 | 131 => 247 | 5 => 5 | 218 => 452 | 222 => 456 | 228 => 483 | 229 => 484 | n => n, fun | n => n⟩
theorem Tryz.lays190 : Go.Proofs.Lays.n190 Tryz.prog Tryz.lays190_ren := {
  mixed := by kernel_rfl
  f125 := Tryz.func218.trans (congrArg some (by kernel_rfl))
  f128 := Tryz.func307.trans (congrArg some (by kernel_rfl))
  f129 := Tryz.func308.trans (congrArg some (by kernel_rfl))
  f190 := Tryz.func115.trans (congrArg some (by kernel_rfl))
  f258 := Tryz.func217.trans (congrArg some (by kernel_rfl))
  f302 := Tryz.func298.trans (congrArg some (by kernel_rfl))
  f303 := Tryz.func299.trans (congrArg some (by kernel_rfl))
  f304 := Tryz.func300.trans (congrArg some (by kernel_rfl))
  f305 := Tryz.func301.trans (congrArg some (by kernel_rfl))
  f306 := Tryz.func302.trans (congrArg some (by kernel_rfl))
  f307 := Tryz.func303.trans (congrArg some (by kernel_rfl))
  f308 := Tryz.func304.trans (congrArg some (by kernel_rfl))
  f309 := Tryz.func305.trans (congrArg some (by kernel_rfl))
  f310 := Tryz.func306.trans (congrArg some (by kernel_rfl))
  f329 := Tryz.func355.trans (congrArg some (by kernel_rfl))
  f330 := Tryz.func356.trans (congrArg some (by kernel_rfl))
  f333 := Tryz.func354.trans (congrArg some (by kernel_rfl))
  f334 := Tryz.func357.trans (congrArg some (by kernel_rfl))
  f335 := Tryz.func358.trans (congrArg some (by kernel_rfl))
  f336 := Tryz.func232.trans (congrArg some (by kernel_rfl))
  f344 := Tryz.func386.trans (congrArg some (by kernel_rfl))
  t0 := Tryz.underlying0
  a0 := Tryz.isAgg0
  z0 := Tryz.sizeOf0
  v0 := Tryz.zeroValue0
  t3 := Tryz.underlying3
  a3 := Tryz.isAgg3
  z3 := Tryz.sizeOf3
  v3 := Tryz.zeroValue3
  t4 := Tryz.underlying4
  a4 := Tryz.isAgg4
  z4 := Tryz.sizeOf4
  v4 := Tryz.zeroValue4
  t5 := Tryz.underlying5
  a5 := Tryz.isAgg5
  z5 := Tryz.sizeOf5
  v5 := Tryz.zeroValue5
  t9 := Tryz.underlying9
  a9 := Tryz.isAgg9
  z9 := Tryz.sizeOf9
  v9 := Tryz.zeroValue9
  t31 := Tryz.underlying35
  a31 := Tryz.isAgg35
  z31 := Tryz.sizeOf35
  v31 := Tryz.zeroValue35
  t46 := Tryz.underlying328
  a46 := Tryz.isAgg328
  z46 := Tryz.sizeOf328
  v46 := Tryz.zeroValue328
  t51 := Tryz.underlying406
  a51 := Tryz.isAgg406
  z51 := Tryz.sizeOf406
  v51 := Tryz.zeroValue406
  t53 := Tryz.underlying408
  a53 := Tryz.isAgg408
  z53 := Tryz.sizeOf408
  v53 := Tryz.zeroValue408
  t131 := Tryz.underlying247
  a131 := Tryz.isAgg247
  z131 := Tryz.sizeOf247
  v131 := Tryz.zeroValue247
  t182 := Tryz.underlying399
  a182 := Tryz.isAgg399
  z182 := Tryz.sizeOf399
  v182 := Tryz.zeroValue399
  t183 := Tryz.underlying400
  a183 := Tryz.isAgg400
  z183 := Tryz.sizeOf400
  v183 := Tryz.zeroValue400
  t218 := Tryz.underlying452
  a218 := Tryz.isAgg452
  z218 := Tryz.sizeOf452
  v218 := Tryz.zeroValue452
  t222 := Tryz.underlying456
  a222 := Tryz.isAgg456
  z222 := Tryz.sizeOf456
  v222 := Tryz.zeroValue456
  t228 := Tryz.underlying483
  a228 := Tryz.isAgg483
  z228 := Tryz.sizeOf483
  v228 := Tryz.zeroValue483
  t229 := Tryz.underlying484
  a229 := Tryz.isAgg484
  z229 := Tryz.sizeOf484
  v229 := Tryz.zeroValue484 }
open Go.RowKit Go.Sort in
theorem Tryz.slices_SortS (blk off cap : Nat) (ss : List (List UInt8)) (w : World) (hH : Holds encStr w blk off ss.toArray) (hblk : blk < w.heap.size) (hsz : ss.length < 4611686018427387904) :
    Calls Tryz.prog 115 #[.slice (some ⟨blk, off, none⟩) ss.length cap] w fun e w' =>
      e = .returned (.tuple #[]) ∧ ∃ n os, w' = grow (putRow encStr (Sort.ahead w n) blk off (ss.mergeSort fun x y => decide (x ≤ y)).toArray) os := Any.slices_Sort_string Tryz.lays190 blk off cap ss w hH hblk hsz
open Go.RowKit Go.Sort in
theorem Tryz.slices_SortS_none (a : Option Addr) (cap : Nat) (w : World) :
    Calls Tryz.prog 115 #[.slice a 0 cap] w fun e w' => e = .returned (.tuple #[]) ∧ w' = w := Any.slices_Sort_string_none Tryz.lays190 a cap w
def Tryz.lays194_ren : Go.Shelf.Ren := ⟨fun | 194 => 116 | n => n, fun | 31 => 35 | 9 => 9 | 3 => 3 | 4 => 4 | 0 => 0 | n => n, fun | n => n⟩
theorem Tryz.lays194 : Go.Proofs.Lays.n194 Tryz.prog Tryz.lays194_ren := {
  mixed := by kernel_rfl
  f194 := Tryz.func116.trans (congrArg some (by kernel_rfl))
  t0 := Tryz.underlying0
  a0 := Tryz.isAgg0
  z0 := Tryz.sizeOf0
  v0 := Tryz.zeroValue0
  t3 := Tryz.underlying3
  a3 := Tryz.isAgg3
  z3 := Tryz.sizeOf3
  v3 := Tryz.zeroValue3
  t4 := Tryz.underlying4
  a4 := Tryz.isAgg4
  z4 := Tryz.sizeOf4
  v4 := Tryz.zeroValue4
  t9 := Tryz.underlying9
  a9 := Tryz.isAgg9
  z9 := Tryz.sizeOf9
  v9 := Tryz.zeroValue9
  t31 := Tryz.underlying35
  a31 := Tryz.isAgg35
  z31 := Tryz.sizeOf35
  v31 := Tryz.zeroValue35 }
open Go.RowKit Go.Sort in
theorem Tryz.slices_CompactS (blk off cap : Nat) (zs : List (List UInt8)) (w : World) (hH : Holds encStr w blk off zs.toArray) (hsz : zs.length ≤ 9223372036854775807) (hcap : zs.length ≤ cap) :
    Calls Tryz.prog 116 #[.slice (some ⟨blk, off, none⟩) zs.length cap] w fun e w' => e = .returned (.slice (some ⟨blk, off, none⟩) (Lib.compact zs).length cap) ∧ ∃ q, w' = putRow encStr (Sort.ahead w q) blk off (Lib.compact zs ++ List.replicate (zs.length - (Lib.compact zs).length) []).toArray := Any.slices_Compact_string Tryz.lays194 blk off cap zs w hH hsz hcap
open Go.RowKit Go.Sort in
theorem Tryz.slices_CompactS_empty (a : Option Addr) (cap : Nat) (w : World) :
    Calls Tryz.prog 116 #[.slice a 0 cap] w fun e w' => e = .returned (.slice a 0 cap) ∧ w' = w := Any.slices_Compact_string_empty Tryz.lays194 a cap w
end Go.Proofs
