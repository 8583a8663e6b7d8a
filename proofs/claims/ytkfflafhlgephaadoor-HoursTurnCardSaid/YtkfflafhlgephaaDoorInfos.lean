/- What is proved here: facts of types of this program. No condition. -/
import Derived.Test.YtkfflafhlgephaaDoorIntRows
namespace Go.Proofs.YtkfflafhlgephaaDoor
open Go.RowKit

theorem mem_getD {xs : List Int} {i : Nat} (h : i < xs.length) : xs.getD i 0 ∈ xs := by
  rw [List.getD_eq_getElem?_getD, List.getElem?_eq_getElem h]; exact List.getElem_mem h

theorem Tryd.infoInt : (Tryd.prog.info? 3).map (fun i => (i.zero, i.size, i.bytes)) = some (some (.int .i64 0), 1, 8) := by kernel_rfl
end Go.Proofs.YtkfflafhlgephaaDoor
