/- What is proved here: digits, and what a right plan says of its areas: lists alone. No condition beyond those stated. -/
import Derived.Test.YtbimecknmojnoaaGreatDoorPlanMath
import Derived.Test.YtbimecknmojnoaaGreatDoorSplitMath
set_option linter.unusedVariables false
set_option linter.unusedSimpArgs false
namespace Go.Proofs.YtbimecknmojnoaaGreatDoor
open Go.RowKit

def digs (l : List UInt8) : Bool := l.all fun c => decide (48 ≤ c.toNat) && decide (c.toNat ≤ 57)
theorem digs_app (a b : List UInt8) : digs (a ++ b) = (digs a && digs b) := by simp [digs, List.all_append]

theorem plan_area {l : List Ctry} (h : planErr l = 0) : ∀ i, i < l.length → ∀ z, z < (l.getD i noCtry).areas.length → areaErr (l.getD i noCtry) z = 0 := by
  unfold planErr at h
  split at h
  · cases h
  intro i hi z hz
  have := first_zero h i hi
  unfold partErr at this
  split at this
  · rename_i h1; exact absurd this h1
  · exact first_zero this z hz
theorem area_parts {c : Ctry} {z : Nat} (h : areaErr c z = 0) : digitsB (c.areas.getD z noArea).pre 1 8 = true ∧ Lib.hasPrefix (c.trunk ++ (c.areas.getD z noArea).pre) c.abroad = false ∧ Lib.hasPrefix c.abroad (c.trunk ++ (c.areas.getD z noArea).pre) = false ∧ (((c.areas.getD z noArea).pre.length : Int) < (c.areas.getD z noArea).low ∧ (c.areas.getD z noArea).low ≤ (c.areas.getD z noArea).high ∧ (c.areas.getD z noArea).high ≤ 15 - (c.code.length : Int) ∧ 4 - (c.code.length : Int) ≤ (c.areas.getD z noArea).low) := by
  unfold areaErr areaErrOf at h
  generalize c.areas.getD z noArea = a at h ⊢
  split at h
  · cases h
  rename_i h1
  split at h
  · cases h
  split at h
  · cases h
  rename_i h3
  split at h
  · cases h
  rename_i h4
  simp only [Bool.or_eq_true, not_or, Bool.not_eq_true] at h3
  have h4' : areaBad c.code a.pre a.low a.high = false := by simpa using h4
  unfold areaBad at h4'
  simp only [Bool.or_eq_false_iff, decide_eq_false_iff_not] at h4'
  exact ⟨by simpa using h1, h3.2.1, h3.2.2, by omega⟩

end Go.Proofs.YtbimecknmojnoaaGreatDoor
