/- What is proved here: when hours are open, on lists; rows of three integers in memory. No condition. -/
import Derived.Test.YtkfflafhlgephaaDoorTurnMath
set_option linter.unusedVariables false
set_option linter.unusedSimpArgs false
namespace Go.Proofs.YtkfflafhlgephaaDoor
open Go.RowKit

/-- Three numbers: a row of hours (days, from, to), or a holiday (day, from, to). -/
structure Tri where
  a : Int
  b : Int
  c : Int
def Tri.cells (x : Tri) : List Value := [.int .i64 x.a, .int .i64 x.b, .int .i64 x.c]
def noTri : Tri := ⟨0, 0, 0⟩
def flatT (l : List Tri) : List Value := l.flatMap Tri.cells
theorem flatT_length (cs : List Tri) : (flatT cs).length = cs.length * 3 := by
  induction cs with
  | nil => rfl
  | cons c cs ih => simp only [flatT, List.flatMap_cons, List.length_append, List.length_cons] at ih ⊢; rw [ih]; simp [Tri.cells]; omega
theorem flatT_at : ∀ (cs : List Tri) (i j : Nat), i < cs.length → j < 3 → (flatT cs)[i * 3 + j]? = (cs.getD i noTri).cells[j]?
  | c :: cs, 0, j, hi, hj => by
    simp only [flatT, List.flatMap_cons, Nat.zero_mul, Nat.zero_add]
    rw [List.getElem?_append_left (by simp [Tri.cells]; omega)]
    rfl
  | c :: cs, i + 1, j, hi, hj => by
    have ih := flatT_at cs i j (by simpa using hi) hj
    simp only [flatT, List.flatMap_cons] at ih ⊢
    rw [List.getElem?_append_right (by simp [Tri.cells]; omega)]
    have e : (i + 1) * 3 + j - c.cells.length = i * 3 + j := by simp [Tri.cells]; omega
    rw [e, ih]
    rfl
theorem flatT_snoc (l : List Tri) (x : Tri) : flatT (l ++ [x]) = flatT l ++ x.cells := by simp [flatT]

/-- Such rows that lie in memory. -/
structure TriRow (w : World) (a : Option Addr) (n : Nat) (l : List Tri) : Prop where
  len : n = l.length
  row : n = 0 ∨ ∃ b off, a = some ⟨b, off, none⟩ ∧ b < w.heap.size ∧ ∀ i, i < n → ∀ j, j < 3 → w.cell? ⟨b, off + i * 3 + j, none⟩ = (l.getD i noTri).cells[j]?
theorem TriRow.below {w w' : World} {a : Option Addr} {n : Nat} {l : List Tri} (h : TriRow w a n l) (hb : Below w.heap.size w w') : TriRow w' a n l := by
  refine ⟨h.len, h.row.imp id ?_⟩
  rintro ⟨b, off, ha, hl, hc⟩
  exact ⟨b, off, ha, Nat.lt_of_lt_of_le hl hb.size, fun i hi j hj => (hb.cell (p := ⟨b, off + i * 3 + j, none⟩) hl).trans (hc i hi j hj)⟩
theorem TriRow.keeps {w w' : World} {S : Nat} {a : Option Addr} {n : Nat} {l : List Tri} (h : TriRow w a n l) (hk : Keeps S w w') (hS : ∀ b off, a = some ⟨b, off, none⟩ → b ≠ S) : TriRow w' a n l := by
  refine ⟨h.len, h.row.imp id ?_⟩
  rintro ⟨b, off, ha, hl, hc⟩
  exact ⟨b, off, ha, Nat.lt_of_lt_of_le hl hk.size, fun i hi j hj => (hk.cell (p := ⟨b, off + i * 3 + j, none⟩) hl (hS b off ha)).trans (hc i hi j hj)⟩
theorem TriRow.of_own {w : World} {base : Nat} {e : TypeId} {v : Value} {n : Nat} {l : List Tri} (h : w.ownsRow base e 3 v n (flatT l)) : ∃ a cap, v = .slice a n cap ∧ TriRow w a n l ∧ ∀ b off, a = some ⟨b, off, none⟩ → base ≤ b := by
  have hl : n = l.length := by have := h.1; rw [flatT_length] at this; omega
  rcases h.2 with ⟨rfl, rfl⟩ | ⟨g, cap, cur, rfl, hb, hg, _⟩
  · exact ⟨none, 0, rfl, ⟨hl, Or.inl rfl⟩, fun b off e => by cases e⟩
  · refine ⟨some ⟨g, 0, none⟩, cap, rfl, ⟨hl, Or.inr ⟨g, 0, rfl, (h.lt g rfl).2, fun i hi j hj => ?_⟩⟩, fun b off e => ?_⟩
    · rw [Nat.zero_add, h.cellAt (i * 3 + j) (by omega), flatT_at l i j (by omega) hj]
    · cases e; exact hb
theorem tri_cells {w : World} {b o : Nat} {x : Tri} (h : ∀ j, j < 3 → w.cell? ⟨b, o + j, none⟩ = x.cells[j]?) : w.cell? ⟨b, o, none⟩ = some (.int .i64 x.a) ∧ w.cell? ⟨b, o + 1, none⟩ = some (.int .i64 x.b) ∧ w.cell? ⟨b, o + 2, none⟩ = some (.int .i64 x.c) :=
  ⟨h 0 (by omega), h 1 (by omega), h 2 (by omega)⟩

/-- Right hours. -/
structure HoursOk (zone : Int) (rows hols : List Tri) : Prop where
  z0 : -1440 ≤ zone
  z1 : zone ≤ 1440
  few1 : rows.length ≤ 50
  few2 : hols.length ≤ 200
  row : ∀ i, i < rows.length → 1 ≤ (rows.getD i noTri).a ∧ (rows.getD i noTri).a ≤ 127 ∧ 0 ≤ (rows.getD i noTri).b ∧ (rows.getD i noTri).b < (rows.getD i noTri).c ∧ (rows.getD i noTri).c ≤ 1440
  hol : ∀ i, i < hols.length → 0 ≤ (hols.getD i noTri).a ∧ (hols.getD i noTri).a ≤ 4000 ∧ (((hols.getD i noTri).b = 0 ∧ (hols.getD i noTri).c = 0) ∨ (0 ≤ (hols.getD i noTri).b ∧ (hols.getD i noTri).b < (hols.getD i noTri).c ∧ (hols.getD i noTri).c ≤ 1440))
  ord : ∀ i, 0 < i → i < hols.length → (hols.getD (i - 1) noTri).a < (hols.getD i noTri).a

def localI (zone at_ : Int) : Int := at_ + zone * 60000
def dayI (zone at_ : Int) : Int := localI zone at_ / 86400000
def minI (zone at_ : Int) : Int := (localI zone at_ - dayI zone at_ * 86400000) / 60000
def bitB (days wd : Int) : Bool := decide (days / 2 ^ wd.toNat % 2 = 1)
def fitsB (m : Int) (x : Tri) : Bool := decide (x.b ≤ m) && decide (m < x.c)
def rowB (wd m : Int) (x : Tri) : Bool := bitB x.a wd && fitsB m x
/-- Are the hours open? -/
def openI (zone : Int) (rows hols : List Tri) (at_ : Int) : Bool :=
  match hols.find? (fun d => decide (d.a = dayI zone at_)) with
  | some d => fitsB (minI zone at_) d
  | none => rows.any (rowB (dayI zone at_ % 7) (minI zone at_))

theorem open_minute (zone : Int) (rows hols : List Tri) (a b : Int) (h : a / 60000 = b / 60000) : openI zone rows hols a = openI zone rows hols b := by
  have h1 : dayI zone a = dayI zone b := by unfold dayI localI; omega
  have h2 : minI zone a = minI zone b := by unfold minI; rw [h1]; unfold localI; omega
  unfold openI
  rw [h1, h2]

theorem find_at {p : Tri → Bool} : ∀ (l : List Tri) (k : Nat), k < l.length → (∀ i, i < k → p (l.getD i noTri) = false) → p (l.getD k noTri) = true → l.find? p = some (l.getD k noTri)
  | c :: cs, 0, _, _, h => by simp at h; simp [h]
  | c :: cs, k + 1, hk, hn, h => by
    have h0 := hn 0 (by omega)
    simp at h0
    have := find_at cs k (by simpa using hk) (fun i hi => by have := hn (i + 1) (by omega); simpa using this) (by simpa using h)
    simp only [List.find?_cons, h0]
    simpa using this
theorem find_no {p : Tri → Bool} (l : List Tri) (h : ∀ i, i < l.length → p (l.getD i noTri) = false) : l.find? p = none := by
  rw [List.find?_eq_none]
  intro x hx
  obtain ⟨i, hi, e⟩ := List.getElem_of_mem hx
  have := h i hi
  rw [List.getD_eq_getElem?_getD, List.getElem?_eq_getElem hi, Option.getD_some, e] at this
  simp [this]
theorem any_no {p : Tri → Bool} (l : List Tri) (h : ∀ i, i < l.length → p (l.getD i noTri) = false) : l.any p = false := by
  rw [List.any_eq_false]
  intro x hx
  obtain ⟨i, hi, e⟩ := List.getElem_of_mem hx
  have := h i hi
  rw [List.getD_eq_getElem?_getD, List.getElem?_eq_getElem hi, Option.getD_some, e] at this
  simp [this]
theorem any_yes {p : Tri → Bool} (l : List Tri) (k : Nat) (hk : k < l.length) (h : p (l.getD k noTri) = true) : l.any p = true := by
  rw [List.any_eq_true]
  refine ⟨l.getD k noTri, ?_, h⟩
  rw [List.getD_eq_getElem?_getD, List.getElem?_eq_getElem hk]
  exact List.getElem_mem hk

theorem day_range {zone at_ : Int} (z0 : -1440 ≤ zone) (z1 : zone ≤ 1440) (a0 : 0 ≤ at_) (a1 : at_ ≤ 345686400000) : -1 ≤ dayI zone at_ ∧ dayI zone at_ ≤ 4002 ∧ 0 ≤ minI zone at_ ∧ minI zone at_ ≤ 1439 := by
  unfold minI dayI localI
  omega

theorem floor_down (a b : Int) (hb : 0 < b) : (a.tmod b < 0 → a.tdiv b - 1 = a / b) ∧ (¬ a.tmod b < 0 → a.tdiv b = a / b) := by
  have h1 := Int.mul_tdiv_add_tmod a b
  have h2 := Int.tmod_lt_of_pos a hb
  have h3 : -b < a.tmod b := Int.lt_tmod_of_pos a hb
  constructor
  · intro h
    exact ((Int.ediv_emod_unique (a := a) (r := a.tmod b + b) hb).2 ⟨by rw [Int.mul_sub]; omega, by omega, by omega⟩).1.symm
  · intro h
    exact ((Int.ediv_emod_unique (a := a) (r := a.tmod b) hb).2 ⟨by omega, by omega, by omega⟩).1.symm
end Go.Proofs.YtkfflafhlgephaaDoor
