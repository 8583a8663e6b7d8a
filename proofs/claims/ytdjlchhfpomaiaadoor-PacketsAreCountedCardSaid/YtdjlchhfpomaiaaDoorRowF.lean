/- What is proved here: small facts on a row of integers of the call's own, told by a function of the place. No condition. -/
import Derived.Test.YtdjlchhfpomaiaaDoorIntRows
namespace Go.Proofs.YtdjlchhfpomaiaaDoor
open Go.RowKit

/-- A row of n integers of the call's own at block g; the one at place i is f i. -/
def RowF (k : IntKind) (w : World) (base : Nat) (e : TypeId) (g n : Nat) (f : Nat → Int) : Prop :=
  w.ownsRow base e 1 (.slice (some ⟨g, 0, none⟩) n n) n ((List.range n).map (fun i => Value.int k (f i)))

theorem range_set {α : Type} (n j : Nat) (f : Nat → α) (v : α) : ((List.range n).map f).set j v = (List.range n).map (fun i => if i = j then v else f i) := by
  apply List.ext_getElem
  · simp
  · intro i h1 h2
    simp at h1 h2
    rw [List.getElem_set]
    by_cases h : j = i
    · subst h; simp
    · rw [if_neg h]; simp [show ¬ i = j from fun e => h e.symm]

theorem RowF.start {k : IntKind} {w : World} {base : Nat} {e : TypeId} {g n : Nat} (h : w.ownsRow base e 1 (.slice (some ⟨g, 0, none⟩) n n) n (madeCells (Value.int k 0).cells (n * 1)).toList) : RowF k w base e g n (fun _ => 0) := by
  rw [made_ints] at h
  unfold RowF
  have : (List.range n).map (fun _ => Value.int k 0) = List.replicate n (Value.int k 0) := by
    apply List.ext_getElem <;> simp
  rwa [this]

theorem RowF.at {k : IntKind} {w : World} {base : Nat} {e : TypeId} {g n : Nat} {f : Nat → Int} (h : RowF k w base e g n f) {j : Nat} (hj : j < n) : w.cell? ⟨g, j, none⟩ = some (.int k (f j)) ∧ w.frozen? ⟨g, j, none⟩ = false := by
  refine ⟨?_, h.frozenAt j⟩
  rw [h.cellAt j (by omega)]
  simp [hj]

theorem RowF.set {k : IntKind} {w : World} {base : Nat} {e : TypeId} {g n : Nat} {f f' : Nat → Int} (h : RowF k w base e g n f) {j : Nat} {v : Int} (hf : ∀ i, f' i = if i = j then v else f i) : RowF k (w.setCell ⟨g, j, none⟩ (.int k v)) base e g n f' := by
  have hs := (h.stored j (.int k v)).1
  rw [range_set] at hs
  unfold RowF
  have : (List.range n).map (fun i => Value.int k (f' i)) = (List.range n).map (fun i => if i = j then Value.int k v else Value.int k (f i)) := by
    apply List.map_congr_left
    intro i _
    rw [hf i]
    split <;> rfl
  rwa [this]

theorem RowF.congr {k : IntKind} {w : World} {base : Nat} {e : TypeId} {g n : Nat} {f f' : Nat → Int} (h : RowF k w base e g n f) (hf : ∀ i, i < n → f' i = f i) : RowF k w base e g n f' := by
  unfold RowF
  have : (List.range n).map (fun i => Value.int k (f' i)) = (List.range n).map (fun i => Value.int k (f i)) :=
    List.map_congr_left fun i hi => by rw [hf i (List.mem_range.1 hi)]
  rwa [this]

theorem RowF.below {k : IntKind} {w w' : World} {base : Nat} {e : TypeId} {g n : Nat} {f : Nat → Int} (h : RowF k w base e g n f) (hb : Below w.heap.size w w') : RowF k w' base e g n f := h.kept_below hb

theorem RowF.list {k : IntKind} {w : World} {base : Nat} {e : TypeId} {g n : Nat} {f : Nat → Int} (h : RowF k w base e g n f) {xs : List Int} (hl : xs.length = n) (hx : ∀ i, i < n → xs.getD i 0 = f i) : w.ownsRow base e 1 (.slice (some ⟨g, 0, none⟩) n n) xs.length (xs.map (Value.int k)) := by
  unfold RowF at h
  subst hl
  have : (List.range xs.length).map (fun i => Value.int k (f i)) = xs.map (Value.int k) := by
    apply List.ext_getElem
    · simp
    · intro i h1 h2
      simp at h1 h2
      simp [← hx i h1, List.getD_eq_getElem?_getD, List.getElem?_eq_getElem h1]
  rwa [this] at h
end Go.Proofs.YtdjlchhfpomaiaaDoor
