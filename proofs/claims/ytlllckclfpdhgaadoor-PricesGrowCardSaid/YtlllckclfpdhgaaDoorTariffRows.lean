/- What is proved here: small facts on rows of classes and of strings in memory. No condition. -/
import Derived.Test.YtlllckclfpdhgaaDoorPriceMath
import Derived.Test.YtlllckclfpdhgaaDoorPicks
namespace Go.Proofs.YtlllckclfpdhgaaDoor
open Go.RowKit
set_option linter.unusedVariables false

def flat (cs : List Cls) : List Value := cs.flatMap Cls.cells
theorem flat_length (cs : List Cls) : (flat cs).length = cs.length * 6 := by
  induction cs with
  | nil => rfl
  | cons c cs ih => simp only [flat, List.flatMap_cons, List.length_append, List.length_cons] at ih ⊢; rw [ih]; simp [Cls.cells]; omega
theorem flat_at : ∀ (cs : List Cls) (i j : Nat), i < cs.length → j < 6 → (flat cs)[i * 6 + j]? = (cs.getD i noCls).cells[j]?
  | c :: cs, 0, j, hi, hj => by
    simp only [flat, List.flatMap_cons, Nat.zero_mul, Nat.zero_add]
    rw [List.getElem?_append_left (by simp [Cls.cells]; omega)]
    rfl
  | c :: cs, i + 1, j, hi, hj => by
    have ih := flat_at cs i j (by simpa using hi) hj
    simp only [flat, List.flatMap_cons] at ih ⊢
    rw [List.getElem?_append_right (by simp [Cls.cells]; omega)]
    have e : (i + 1) * 6 + j - c.cells.length = i * 6 + j := by simp [Cls.cells]; omega
    rw [e, ih]
    rfl

theorem ClsRow.of_own {w : World} {base : Nat} {e : TypeId} {v : Value} {n : Nat} {cs : List Cls} (h : w.ownsRow base e 6 v n (flat cs)) (hn : n ≤ 200) : ∃ a cap, v = .slice a n cap ∧ ClsRow w a n cs ∧ ∀ b off, a = some ⟨b, off, none⟩ → base ≤ b := by
  have hl : n = cs.length := by have := h.1; rw [flat_length] at this; omega
  rcases h.2 with ⟨rfl, rfl⟩ | ⟨g, cap, cur, rfl, hb, hg, _⟩
  · exact ⟨none, 0, rfl, ⟨hl, by omega, Or.inl rfl⟩, fun b off e => by cases e⟩
  · refine ⟨some ⟨g, 0, none⟩, cap, rfl, ⟨hl, hn, Or.inr ⟨g, 0, rfl, (h.lt g rfl).2, fun i hi j hj => ?_⟩⟩, fun b off e => ?_⟩
    · rw [Nat.zero_add, h.cellAt (i * 6 + j) (by omega), flat_at cs i j (by omega) hj]
    · cases e; exact hb

theorem ClsRow.keeps {w w' : World} {S : Nat} {a : Option Addr} {n : Nat} {cs : List Cls} (h : ClsRow w a n cs) (hk : Keeps S w w') (hS : ∀ b off, a = some ⟨b, off, none⟩ → b ≠ S) : ClsRow w' a n cs := by
  refine ⟨h.1, h.2.1, h.2.2.imp id ?_⟩
  rintro ⟨b, off, ha, hl, hc⟩
  exact ⟨b, off, ha, Nat.lt_of_lt_of_le hl hk.size, fun i hi j hj => (hk.cell (p := ⟨b, off + i * 6 + j, none⟩) hl (hS b off ha)).trans (hc i hi j hj)⟩
theorem StrRow.keeps {w w' : World} {S : Nat} {a : Option Addr} {n : Nat} {ss : List (List UInt8)} (h : StrRow w a n ss) (hk : Keeps S w w') (hS : ∀ b off, a = some ⟨b, off, none⟩ → b ≠ S) : StrRow w' a n ss := by
  refine ⟨h.1, h.2.1, h.2.2.imp id ?_⟩
  rintro ⟨b, off, ha, hl, hc⟩
  exact ⟨b, off, ha, Nat.lt_of_lt_of_le hl hk.size, fun i hi => (hk.cell (p := ⟨b, off + i, none⟩) hl (hS b off ha)).trans (hc i hi)⟩
theorem TariffAt.keeps {w w' : World} {S : Nat} {a : Option Addr} {n : Nat} {cs : List Cls} {free : Int} {a2 : Option Addr} {n2 : Nat} {ss : List (List UInt8)} (h : TariffAt w a n cs free a2 n2 ss) (hk : Keeps S w w') (h1 : ∀ b off, a = some ⟨b, off, none⟩ → b ≠ S) (h2 : ∀ b off, a2 = some ⟨b, off, none⟩ → b ≠ S) : TariffAt w' a n cs free a2 n2 ss :=
  ⟨h.row.keeps hk h1, h.good, h.sorted, h.ins.keeps hk h2, h.keys, h.order, h.free0, h.free1⟩

theorem far_grown {X w1 : World} {row : Option Nat} {b : Nat} (h : X.grownBy w1 row) (hb : b < X.heap.size) (hn : row ≠ some b) : (∀ o, w1.cell? ⟨b, o, none⟩ = X.cell? ⟨b, o, none⟩) ∧ ∀ o, w1.frozen? ⟨b, o, none⟩ = X.frozen? ⟨b, o, none⟩ :=
  ⟨fun o => World.cell?_of_block (w := X) (a := ⟨b, o, none⟩) (h.block b hb (fun e => hn e.symm)), fun o => World.frozen?_of_block (w := X) (a := ⟨b, o, none⟩) (h.block b hb (fun e => hn e.symm))⟩

def homeL : List UInt8 := [104, 111, 109, 101]
def nearL : List UInt8 := [110, 101, 97, 114]
def farL : List UInt8 := [102, 97, 114]

/-- The insides that a stream's tariffs have. -/
def insides : List (List (List UInt8)) := [[], [homeL], [homeL, nearL]]
theorem insides_ok : ∀ ss ∈ insides, (∀ i, i < ss.length → isKeyB (ss.getD i []) = true ∧ (ss.getD i []).length ≤ 1000) ∧ (∀ i, 0 < i → i < ss.length → leS (ss.getD i []) (ss.getD (i - 1) []) = false) ∧ ss.length ≤ 200 := by
  intro ss h
  simp only [insides, List.mem_cons, List.not_mem_nil, or_false] at h
  rcases h with rfl | rfl | rfl
  · exact ⟨fun i hi => by simp at hi, fun i h0 hi => by simp at hi, by decide⟩
  · refine ⟨fun i hi => ?_, fun i h0 hi => by simp at hi; omega, by decide⟩
    obtain rfl : i = 0 := by simp at hi; omega
    decide
  · refine ⟨fun i hi => ?_, fun i h0 hi => ?_, by decide⟩
    · have : i = 0 ∨ i = 1 := by simp at hi; omega
      rcases this with rfl | rfl <;> decide
    · obtain rfl : i = 1 := by simp at hi; omega
      decide
end Go.Proofs.YtlllckclfpdhgaaDoor
