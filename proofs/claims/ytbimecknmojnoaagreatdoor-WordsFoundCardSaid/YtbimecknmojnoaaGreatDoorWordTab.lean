/- What is proved here: tables of numbers that the call makes. No condition beyond those stated. -/
import Derived.Test.YtbimecknmojnoaaGreatDoorWordFew
import Derived.Test.YtbimecknmojnoaaGreatDoorStrMath
set_option linter.unusedVariables false
set_option linter.unusedSimpArgs false
namespace Go.Proofs.YtbimecknmojnoaaGreatDoor
open Go.RowKit

theorem Tryz.infoInt : (Tryz.prog.info? 3).map (fun i => (i.zero, i.size, i.bytes)) = some (some (.int .i64 0), 1, 8) := by kernel_rfl
def tabL (f : Nat → Nat) (n : Nat) : List Value := (List.range n).map fun j => Value.int .i64 (f j)
theorem tabL_len (f : Nat → Nat) (n : Nat) : (tabL f n).length = n := by simp [tabL]
theorem tabL_at {f : Nat → Nat} {n k : Nat} (hk : k < n) : (tabL f n)[k]? = some (.int .i64 (f k)) := by simp [tabL, hk]
theorem tabL_set (f : Nat → Nat) (n k v : Nat) : (tabL f n).set k (.int .i64 v) = tabL (fun j => if j = k then v else f j) n := by
  apply List.ext_getElem
  · simp [tabL]
  · intro i h1 h2
    rw [List.getElem_set]
    simp only [tabL, List.getElem_map, List.getElem_range]
    by_cases h : k = i
    · subst h; simp
    · rw [if_neg h, if_neg (fun e => h e.symm)]
theorem tabL_zero (n : Nat) : tabL (fun _ => 0) n = List.replicate n (.int .i64 0) := by
  unfold tabL
  rw [List.map_const']
  simp
/-- A table of the call's own. -/
def TabRow (w : World) (base g n : Nat) (f : Nat → Nat) : Prop := w.ownsRow base 3 1 (.slice (some ⟨g, 0, none⟩) n n) n (tabL f n)
theorem TabRow.start {w : World} {base g n : Nat} (h : w.ownsRow base 3 1 (.slice (some ⟨g, 0, none⟩) n n) n (madeCells (Value.int .i64 0).cells (n * 1)).toList) : TabRow w base g n fun _ => 0 := by
  rw [made_ints] at h
  unfold TabRow
  rw [tabL_zero]
  simpa using h
theorem TabRow.at {w : World} {base g n : Nat} {f : Nat → Nat} (h : TabRow w base g n f) {k : Nat} (hk : k < n) : w.cell? ⟨g, k, none⟩ = some (.int .i64 (f k)) := by
  rw [World.ownsRow.cellAt h k (by omega), tabL_at hk]
theorem TabRow.set {w : World} {base g n : Nat} {f : Nat → Nat} (h : TabRow w base g n f) (k v : Nat) : TabRow (w.setCell ⟨g, k, none⟩ (.int .i64 v)) base g n (fun j => if j = k then v else f j) ∧ w.frozen? ⟨g, k, none⟩ = false := by
  have := (World.ownsRow.stored h k (.int .i64 v)).1
  rw [tabL_set] at this
  exact ⟨this, World.ownsRow.frozenAt h k⟩
theorem TabRow.below {w w' : World} {base g n : Nat} {f : Nat → Nat} (h : TabRow w base g n f) (hb : Below w.heap.size w w') : TabRow w' base g n f := own_keep h hb
theorem TabRow.lt {w : World} {base g n : Nat} {f : Nat → Nat} (h : TabRow w base g n f) (hn : 0 < n) : base ≤ g ∧ g < w.heap.size := by
  obtain ⟨m, rfl⟩ : ∃ m, n = m + 1 := ⟨n - 1, by omega⟩
  obtain ⟨g', c, he, h1, h2⟩ := own_row1 h
  simp at he
  obtain ⟨rfl, rfl⟩ := he
  exact ⟨h1, h2⟩
theorem made_strs (n : Nat) : (madeCells (Value.string ⟨#[]⟩).cells (n * 1)).toList = List.replicate n (.string ⟨#[]⟩) := by
  unfold madeCells
  apply List.ext_getElem
  · simp
  · intro i h1 h2; simp [Value.cells, Nat.mod_one]
theorem FillRow.startS {w : World} {base : Nat} {e : TypeId} {g n : Nat} {vals : List Value} (hl : vals.length = n) (h : w.ownsRow base e 1 (.slice (some ⟨g, 0, none⟩) n n) n (madeCells (Value.string ⟨#[]⟩).cells (n * 1)).toList) : FillRow w base e g n 0 vals (.string ⟨#[]⟩) := by
  rw [made_strs] at h
  exact ⟨hl, by simpa using h⟩
end Go.Proofs.YtbimecknmojnoaaGreatDoor
