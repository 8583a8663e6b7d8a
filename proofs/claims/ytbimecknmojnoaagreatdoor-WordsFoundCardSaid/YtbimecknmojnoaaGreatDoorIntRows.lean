/- What is proved here: small facts on slices of integers in memory. No condition. -/
import Derived.Test.YtbimecknmojnoaaGreatDoorBase
namespace Go.Proofs.YtbimecknmojnoaaGreatDoor
open Go.RowKit

/-- A slice of n integers of one kind that lies in memory. -/
def IRow (k : IntKind) (w : World) (a : Option Addr) (n : Nat) (xs : List Int) : Prop :=
  n = xs.length ∧ (n = 0 ∨ ∃ b off, a = some ⟨b, off, none⟩ ∧ b < w.heap.size ∧ ∀ i, i < n → w.cell? ⟨b, off + i, none⟩ = some (.int k (xs.getD i 0)))

theorem IRow.below {k : IntKind} {w w' : World} {a : Option Addr} {n : Nat} {xs : List Int} (h : IRow k w a n xs) (hb : Below w.heap.size w w') : IRow k w' a n xs := by
  refine ⟨h.1, h.2.imp id ?_⟩
  rintro ⟨b, off, ha, hl, hc⟩
  exact ⟨b, off, ha, Nat.lt_of_lt_of_le hl hb.size, fun i hi => (hb.cell (p := ⟨b, off + i, none⟩) hl).trans (hc i hi)⟩

theorem IRow.keeps {k : IntKind} {w w' : World} {S : Nat} {a : Option Addr} {n : Nat} {xs : List Int} (h : IRow k w a n xs) (hk : Keeps S w w') (hS : ∀ b off, a = some ⟨b, off, none⟩ → b ≠ S) : IRow k w' a n xs := by
  refine ⟨h.1, h.2.imp id ?_⟩
  rintro ⟨b, off, ha, hl, hc⟩
  exact ⟨b, off, ha, Nat.lt_of_lt_of_le hl hk.size, fun i hi => (hk.cell (p := ⟨b, off + i, none⟩) hl (hS b off ha)).trans (hc i hi)⟩

theorem getD_map_int (k : IntKind) (xs : List Int) (i : Nat) (hi : i < xs.length) : (xs.map (Value.int k))[i]? = some (.int k (xs.getD i 0)) := by
  simp [List.getD_eq_getElem?_getD, List.getElem?_eq_getElem hi]

/-- A row of the call's own reads as such a slice. -/
theorem IRow.of_own {k : IntKind} {w : World} {base : Nat} {e : TypeId} {v : Value} {n : Nat} {xs : List Int} (h : w.ownsRow base e 1 v n (xs.map (Value.int k))) : ∃ a cap, v = .slice a n cap ∧ IRow k w a n xs := by
  have hl : n = xs.length := by have := h.1; simp at this; omega
  rcases h.2 with ⟨rfl, rfl⟩ | ⟨g, cap, cur, rfl, hb, hg, _⟩
  · exact ⟨none, 0, rfl, hl, Or.inl rfl⟩
  · refine ⟨some ⟨g, 0, none⟩, cap, rfl, hl, Or.inr ⟨g, 0, rfl, (h.lt g rfl).2, fun i hi => ?_⟩⟩
    rw [Nat.zero_add, h.cellAt i (by omega), getD_map_int k xs i (by omega)]

/-- The same, with where it lies. -/
theorem IRow.of_own_at {k : IntKind} {w : World} {base : Nat} {e : TypeId} {v : Value} {n : Nat} {xs : List Int} (h : w.ownsRow base e 1 v n (xs.map (Value.int k))) : ∃ a cap, v = .slice a n cap ∧ IRow k w a n xs ∧ ∀ b off, a = some ⟨b, off, none⟩ → base ≤ b := by
  obtain ⟨a, cap, hv, hr⟩ := IRow.of_own h
  refine ⟨a, cap, hv, hr, fun b off ha => ?_⟩
  subst ha
  exact (h.lt b (by rw [hv]; rfl)).1

theorem made_ints (k : IntKind) (n : Nat) : (madeCells (Value.int k 0).cells (n * 1)).toList = List.replicate n (Value.int k 0) := by
  unfold madeCells
  apply List.ext_getElem
  · simp
  · intro i h1 h2; simp [Value.cells, Nat.mod_one]

/-- A list that is filled from its head on. -/
theorem fill_set {α : Type} (xs : List α) (z : α) (k : Nat) (hk : k < xs.length) : (xs.take k ++ List.replicate (xs.length - k) z).set k xs[k] = xs.take (k + 1) ++ List.replicate (xs.length - (k + 1)) z := by
  rw [List.set_append_right _ _ (by simp; omega)]
  have e1 : k - (xs.take k).length = 0 := by simp; omega
  rw [e1, show xs.length - k = (xs.length - (k + 1)) + 1 by omega, List.replicate_succ, List.set_cons_zero, List.take_succ_eq_append_getElem hk, List.append_assoc]
  rfl

/-- A row of n cells of the call's own at block g, the first k of which hold what they are to hold, the others z. -/
def FillRow (w : World) (base : Nat) (e : TypeId) (g n k : Nat) (vals : List Value) (z : Value) : Prop :=
  vals.length = n ∧ w.ownsRow base e 1 (.slice (some ⟨g, 0, none⟩) n n) n (vals.take k ++ List.replicate (n - k) z)

theorem FillRow.start {w : World} {base : Nat} {e : TypeId} {g n : Nat} {vals : List Value} {k : IntKind} (hl : vals.length = n) (h : w.ownsRow base e 1 (.slice (some ⟨g, 0, none⟩) n n) n (madeCells (Value.int k 0).cells (n * 1)).toList) : FillRow w base e g n 0 vals (.int k 0) := by
  rw [made_ints] at h
  exact ⟨hl, by simpa using h⟩

theorem FillRow.step {w : World} {base : Nat} {e : TypeId} {g n k : Nat} {vals : List Value} {z u : Value} (h : FillRow w base e g n k vals z) (hk : k < n) (hv : vals[k]? = some u) :
    FillRow (w.setCell ⟨g, k, none⟩ u) base e g n (k + 1) vals z ∧ (∃ c, w.cell? ⟨g, k, none⟩ = some c) ∧ w.frozen? ⟨g, k, none⟩ = false := by
  obtain ⟨hl, ho⟩ := h
  have hk2 : k < vals.length := by omega
  rw [List.getElem?_eq_getElem hk2] at hv
  injection hv with hv
  have hs := (ho.stored k u).1
  have hf := fill_set vals z k hk2
  rw [hv] at hf
  subst hl
  rw [hf] at hs
  refine ⟨⟨rfl, hs⟩, ?_, ho.frozenAt k⟩
  rw [ho.cellAt k (by omega), List.getElem?_eq_getElem (by simp; omega)]
  exact ⟨_, rfl⟩

theorem FillRow.done {w : World} {base : Nat} {e : TypeId} {g n : Nat} {vals : List Value} {z : Value} (h : FillRow w base e g n n vals z) : w.ownsRow base e 1 (.slice (some ⟨g, 0, none⟩) n n) n vals := by
  obtain ⟨hl, ho⟩ := h
  rw [List.take_of_length_le (by omega), Nat.sub_self] at ho
  simpa using ho

theorem FillRow.below {w w' : World} {base : Nat} {e : TypeId} {g n k : Nat} {vals : List Value} {z : Value} (h : FillRow w base e g n k vals z) (hb : Below w.heap.size w w') : FillRow w' base e g n k vals z := ⟨h.1, h.2.kept_below hb⟩

theorem map_at {f : Int → Int} {k : IntKind} {xs : List Int} {i : Nat} (hi : i < xs.length) : ((xs.map f).map (Value.int k))[i]? = some (.int k (f (xs.getD i 0))) := by
  simp [List.getD_eq_getElem?_getD, List.getElem?_eq_getElem hi]
end Go.Proofs.YtbimecknmojnoaaGreatDoor
