/- What is proved here: two rows of the call's own, the sound and what of it is there. No condition. -/
import Derived.Test.YtdjlchhfpomaiaaDoorPlayMath
import Derived.Test.YtdjlchhfpomaiaaDoorRowF
set_option linter.unusedVariables false
set_option linter.unusedSimpArgs false
namespace Go.Proofs.YtdjlchhfpomaiaaDoor
open Go.RowKit

structure PlayRows (w : World) (base g h n : Nat) (st : List Int × List Bool) : Prop where
  len1 : st.1.length = n
  len2 : st.2.length = n
  ne : g ≠ h
  bg : base ≤ g
  bh : base ≤ h
  ints : w.ownsRow base 3 1 (.slice (some ⟨g, 0, none⟩) n n) n (st.1.map (Value.int .i64))
  bools : w.ownsRow base 4 1 (.slice (some ⟨h, 0, none⟩) n n) n (st.2.map Value.bool)

theorem PlayRows.below {w w' : World} {base g h n : Nat} {st : List Int × List Bool} (p : PlayRows w base g h n st) (hb : Below w.heap.size w w') : PlayRows w' base g h n st :=
  ⟨p.len1, p.len2, p.ne, p.bg, p.bh, p.ints.kept_below hb, p.bools.kept_below hb⟩

theorem PlayRows.int {w : World} {base g h n : Nat} {st : List Int × List Bool} (p : PlayRows w base g h n st) {i : Nat} (hi : i < n) : w.cell? ⟨g, i, none⟩ = some (.int .i64 (st.1.getD i 0)) ∧ w.frozen? ⟨g, i, none⟩ = false := by
  refine ⟨?_, p.ints.frozenAt i⟩
  rw [p.ints.cellAt i (by omega)]
  exact getD_map_int .i64 st.1 i (by rw [p.len1]; exact hi)

theorem PlayRows.bool {w : World} {base g h n : Nat} {st : List Int × List Bool} (p : PlayRows w base g h n st) {i : Nat} (hi : i < n) : w.cell? ⟨h, i, none⟩ = some (.bool (st.2.getD i true)) ∧ w.frozen? ⟨h, i, none⟩ = false := by
  refine ⟨?_, p.bools.frozenAt i⟩
  rw [p.bools.cellAt i (by omega)]
  have : i < st.2.length := by rw [p.len2]; exact hi
  simp [List.getD_eq_getElem?_getD, List.getElem?_eq_getElem this]

theorem map_set_int (k : IntKind) (xs : List Int) (i : Nat) (v : Int) : (xs.set i v).map (Value.int k) = (xs.map (Value.int k)).set i (.int k v) := by
  rw [List.map_set]
theorem map_set_bool (xs : List Bool) (i : Nat) (v : Bool) : (xs.set i v).map Value.bool = (xs.map Value.bool).set i (.bool v) := by
  rw [List.map_set]

theorem PlayRows.setInt {w : World} {base g h n : Nat} {st : List Int × List Bool} (p : PlayRows w base g h n st) (i : Nat) (v : Int) : PlayRows (w.setCell ⟨g, i, none⟩ (.int .i64 v)) base g h n (st.1.set i v, st.2) := by
  refine ⟨by simp [p.len1], p.len2, p.ne, p.bg, p.bh, ?_, ?_⟩
  · rw [map_set_int]; exact (p.ints.stored i (.int .i64 v)).1
  · exact ownsRow_setCell_other p.bools (by simp [Value.ownBlock]; exact fun e => p.ne e.symm) _

theorem PlayRows.setBool {w : World} {base g h n : Nat} {st : List Int × List Bool} (p : PlayRows w base g h n st) (i : Nat) (v : Bool) : PlayRows (w.setCell ⟨h, i, none⟩ (.bool v)) base g h n (st.1, st.2.set i v) := by
  refine ⟨p.len1, by simp [p.len2], p.ne, p.bg, p.bh, ?_, ?_⟩
  · exact ownsRow_setCell_other p.ints (by simp [Value.ownBlock]; exact fun e => p.ne e) _
  · rw [map_set_bool]; exact (p.bools.stored i (.bool v)).1
end Go.Proofs.YtdjlchhfpomaiaaDoor
