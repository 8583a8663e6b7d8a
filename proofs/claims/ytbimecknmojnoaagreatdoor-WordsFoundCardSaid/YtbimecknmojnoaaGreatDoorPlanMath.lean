/- What is proved here: plans of numbers, on lists: what is wrong with one, and how a number is split. Rows of them in memory. No condition. -/
import Derived.Test.YtbimecknmojnoaaGreatDoorNumber
import Derived.Test.YtbimecknmojnoaaGreatDoorStrs
set_option linter.unusedVariables false
set_option linter.unusedSimpArgs false
namespace Go.Proofs.YtbimecknmojnoaaGreatDoor
open Go.RowKit

structure Area where
  pre : List UInt8
  low : Int
  high : Int
def noArea : Area := ⟨[], 0, 0⟩
def Area.cells (x : Area) : List Value := [.string ⟨x.pre.toArray⟩, .int .i64 x.low, .int .i64 x.high]
structure Ctry where
  code : List UInt8
  abroad : List UInt8
  trunk : List UInt8
  aa : Option Addr
  an : Nat
  ac : Nat
  areas : List Area
def noCtry : Ctry := ⟨[], [], [], none, 0, 0, []⟩
def Ctry.cells (x : Ctry) : List Value := [.string ⟨x.code.toArray⟩, .string ⟨x.abroad.toArray⟩, .string ⟨x.trunk.toArray⟩, .slice x.aa x.an x.ac]
def Ctry.val (x : Ctry) : Value := .agg x.cells.toArray

/-- The first error of some. -/
def firstErr (f : Nat → Int) (n : Nat) : Int := match (List.range n).find? (fun i => f i != 0) with | some i => f i | none => 0
theorem first_none {f : Nat → Int} {n : Nat} (h : ∀ j, j < n → f j = 0) : firstErr f n = 0 := by
  unfold firstErr
  rw [List.find?_eq_none.2 (fun i hi => by simp [h i (by simpa using hi)])]
theorem first_some {f : Nat → Int} {n k : Nat} (h : ∀ j, j < k → f j = 0) (hk : k < n) (hn : f k ≠ 0) : firstErr f n = f k := by
  have hs : ((List.range n).find? (fun i => f i != 0)).isSome = true := by
    rw [List.find?_isSome]; exact ⟨k, by simpa using hk, by simpa using hn⟩
  obtain ⟨x, hx⟩ := Option.isSome_iff_exists.1 hs
  have e : firstErr f n = f x := by unfold firstErr; rw [hx]
  have hp := List.find?_some hx
  simp at hp
  have hge : k ≤ x := by
    rcases Nat.lt_or_ge x k with h1 | h1
    · exact absurd (h x h1) hp
    · exact h1
  rw [List.find?_eq_some_iff_getElem] at hx
  obtain ⟨_, i, hi, he, hj⟩ := hx
  simp at he
  subst he
  rcases Nat.lt_or_eq_of_le hge with h1 | h1
  · have := hj k h1
    simp at this
    exact absurd this hn
  · rw [e, ← h1]

def prevArea (c : Ctry) (i : Nat) : Area := c.areas.getD (i - 1) noArea
def areaBad (code pre : List UInt8) (low high : Int) : Bool := decide (low ≤ pre.length) || (decide (high < low) || (decide (15 - (code.length : Int) < high) || decide (low < 4 - (code.length : Int))))
def areaErrOf (c : Ctry) (i : Nat) (a p : Area) : Int :=
  if digitsB a.pre 1 8 = false then 3
  else if (decide (0 < i) && leS a.pre p.pre) = true then 7
  else if ((decide (0 < i) && Lib.hasPrefix a.pre p.pre) || (Lib.hasPrefix (c.trunk ++ a.pre) c.abroad || Lib.hasPrefix c.abroad (c.trunk ++ a.pre))) = true then 13
  else if areaBad c.code a.pre a.low a.high = true then 1 else 0
def areaErr (c : Ctry) (i : Nat) : Int := areaErrOf c i (c.areas.getD i noArea) (prevArea c i)
def ctryErrOf (l : List Ctry) (i : Nat) (c p : Ctry) : Int :=
  if digitsB c.code 1 3 = false then 3 else if (c.code.headD 0 == 48) = true then 3
  else if (decide (0 < i) && leS c.code p.code) = true then 7
  else if ((l.take i).any fun d => Lib.hasPrefix c.code d.code) = true then 13
  else if digitsB c.abroad 1 4 = false then 3 else if digitsB c.trunk 0 2 = false then 3 else if Lib.hasPrefix c.trunk c.abroad = true then 3
  else if 300 < c.an then 2 else 0
def ctryErr (l : List Ctry) (i : Nat) : Int := ctryErrOf l i (l.getD i noCtry) (l.getD (i - 1) noCtry)
def partErr (l : List Ctry) (i : Nat) : Int := if ctryErr l i ≠ 0 then ctryErr l i else firstErr (areaErr (l.getD i noCtry)) (l.getD i noCtry).areas.length
def planErr (l : List Ctry) : Int := if 100 < l.length then 2 else firstErr (partErr l) l.length

/-! ### In memory -/
structure AreaRow (w : World) (a : Option Addr) (n : Nat) (l : List Area) : Prop where
  len : n = l.length
  row : n = 0 ∨ ∃ b off, a = some ⟨b, off, none⟩ ∧ b < w.heap.size ∧ ∀ i, i < n → ∀ j, j < 3 → w.cell? ⟨b, off + i * 3 + j, none⟩ = (l.getD i noArea).cells[j]?
structure AreaFine (x : Area) : Prop where
  pre : x.pre.length ≤ 100
  l0 : -4000000000000 ≤ x.low
  l1 : x.low ≤ 4000000000000
  h0 : -4000000000000 ≤ x.high
  h1 : x.high ≤ 4000000000000
structure CtryFine (w : World) (x : Ctry) : Prop where
  code : x.code.length ≤ 100
  abroad : x.abroad.length ≤ 100
  trunk : x.trunk.length ≤ 100
  many : x.an ≤ 1000
  row : AreaRow w x.aa x.an x.areas
  each : ∀ i, i < x.areas.length → AreaFine (x.areas.getD i noArea)
structure CtryRow (w : World) (a : Option Addr) (n : Nat) (l : List Ctry) : Prop where
  len : n = l.length
  few : n ≤ 1000
  row : n = 0 ∨ ∃ b off, a = some ⟨b, off, none⟩ ∧ b < w.heap.size ∧ ∀ i, i < n → ∀ j, j < 4 → w.cell? ⟨b, off + i * 4 + j, none⟩ = (l.getD i noCtry).cells[j]?
  each : ∀ i, i < l.length → CtryFine w (l.getD i noCtry)
theorem AreaRow.below {w w' : World} {a : Option Addr} {n : Nat} {l : List Area} (h : AreaRow w a n l) (hb : Below w.heap.size w w') : AreaRow w' a n l := by
  refine ⟨h.len, h.row.imp id ?_⟩
  rintro ⟨b, off, ha, hl, hc⟩
  exact ⟨b, off, ha, Nat.lt_of_lt_of_le hl hb.size, fun i hi j hj => (hb.cell (p := ⟨b, off + i * 3 + j, none⟩) hl).trans (hc i hi j hj)⟩
theorem CtryFine.below {w w' : World} {x : Ctry} (h : CtryFine w x) (hb : Below w.heap.size w w') : CtryFine w' x := ⟨h.code, h.abroad, h.trunk, h.many, h.row.below hb, h.each⟩
theorem CtryRow.below {w w' : World} {a : Option Addr} {n : Nat} {l : List Ctry} (h : CtryRow w a n l) (hb : Below w.heap.size w w') : CtryRow w' a n l := by
  refine ⟨h.len, h.few, h.row.imp id ?_, fun i hi => (h.each i hi).below hb⟩
  rintro ⟨b, off, ha, hl, hc⟩
  exact ⟨b, off, ha, Nat.lt_of_lt_of_le hl hb.size, fun i hi j hj => (hb.cell (p := ⟨b, off + i * 4 + j, none⟩) hl).trans (hc i hi j hj)⟩
theorem area_cells {w : World} {b o : Nat} {x : Area} (h : ∀ j, j < 3 → w.cell? ⟨b, o + j, none⟩ = x.cells[j]?) : w.cell? ⟨b, o, none⟩ = some (.string ⟨x.pre.toArray⟩) ∧ w.cell? ⟨b, o + 1, none⟩ = some (.int .i64 x.low) ∧ w.cell? ⟨b, o + 2, none⟩ = some (.int .i64 x.high) :=
  ⟨h 0 (by omega), h 1 (by omega), h 2 (by omega)⟩
theorem ctry_cells {w : World} {b o : Nat} {x : Ctry} (h : ∀ j, j < 4 → w.cell? ⟨b, o + j, none⟩ = x.cells[j]?) : w.cell? ⟨b, o, none⟩ = some (.string ⟨x.code.toArray⟩) ∧ w.cell? ⟨b, o + 1, none⟩ = some (.string ⟨x.abroad.toArray⟩) ∧ w.cell? ⟨b, o + 2, none⟩ = some (.string ⟨x.trunk.toArray⟩) ∧ w.cell? ⟨b, o + 3, none⟩ = some (.slice x.aa x.an x.ac) :=
  ⟨h 0 (by omega), h 1 (by omega), h 2 (by omega), h 3 (by omega)⟩
end Go.Proofs.YtbimecknmojnoaaGreatDoor
