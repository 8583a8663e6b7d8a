/- What is proved here: slices.Equal at two slices of the call's own that hold the same strings. Condition: they lie in memory as stated. -/
import Derived.Test.YtbimecknmojnoaaGreatDoorWayOwn
set_option linter.unusedVariables false
set_option linter.unusedSimpArgs false
namespace Go.Proofs.YtbimecknmojnoaaGreatDoor
open Go.RowKit

theorem equal_none (w : World) (a a2 : Option Addr) (c c2 : Nat) : Calls Tryz.prog 14 #[.slice a 0 c, .slice a2 0 c2] w fun e w' => e = .returned (.bool true) ∧ Below w.heap.size w w' := by
  go_enter Tryz.func14, Tryz.ntmps14
  go_wp2_with fail
  go_loopw [13] (fun i wr => i = .int .i64 0 ∧ Hid (Below w.heap.size w wr)) (fun _ _ => 0)
  case atStart => exact ⟨rfl, (by (try show Below _ _ _); repeat (with_reducible first | exact Below.refl _ _ | assumption | exact Hid.out (by assumption) | refine ext_alloc ?_ | refine ext_drewN ?_ | refine ext_drew ?_ | refine ext_setCell ?_ (Nat.le_refl _) | refine ext_setCell ?_ (Nat.le_succ _) | refine ext_trans ?_ (by assumption) | (refine ext_setCell ?_ (by simp)) | (refine ext_setCell ?_ (by simp at *; omega))))⟩
  case round =>
    obtain ⟨rfl, HB⟩ := hrel
    go_wp2_with fail
    go_ret
    exact ⟨rfl, (by (try show Below _ _ _); repeat (with_reducible first | exact Below.refl _ _ | assumption | exact Hid.out (by assumption) | refine ext_alloc ?_ | refine ext_drewN ?_ | refine ext_drew ?_ | refine ext_setCell ?_ (Nat.le_refl _) | refine ext_setCell ?_ (Nat.le_succ _) | refine ext_trans ?_ (by assumption) | (refine ext_setCell ?_ (by simp)) | (refine ext_setCell ?_ (by simp at *; omega))))⟩
theorem equal_words {w : World} {base base2 : Nat} {v v2 : Value} {n n2 : Nat} {xs ys : List (List UInt8)} (h : w.ownsRow base 9 1 v n (xs.map encS)) (h2 : w.ownsRow base2 9 1 v2 n2 (ys.map encS)) (he : xs = ys) (hn : n ≤ 100000) :
    Calls Tryz.prog 14 #[v, v2] w fun e w' => e = .returned (.bool true) ∧ Below w.heap.size w w' := by
  subst he
  have hl : xs.length = n := by have := h.1; simpa using this
  have hl2 : xs.length = n2 := by have := h2.1; simpa using this
  subst hl
  subst hl2
  by_cases h0 : xs.length = 0
  · obtain ⟨a, c, rfl⟩ := own_shape h
    obtain ⟨a2, c2, rfl⟩ := own_shape h2
    rw [h0]
    exact equal_none w a a2 c c2
  · obtain ⟨m, hm⟩ : ∃ m, xs.length = m + 1 := ⟨xs.length - 1, by omega⟩
    rw [hm] at h h2 hn
    obtain ⟨g, c, rfl, _, _⟩ := own_row1 h
    obtain ⟨g2, c2, rfl, _, _⟩ := own_row1 h2
    refine (Tryz.slices_eqS g 0 (m + 1) c g2 0 (m + 1) c2 (xs.map fun x => ⟨x.toArray⟩) (xs.map fun x => ⟨x.toArray⟩) w (by simp; omega) (by simp; omega) (by omega) (by omega) (fun j hj => ?_) (fun j hj => ?_)).mono ?_
    · have hj' : j < xs.length := by simpa using hj
      rw [Nat.zero_add, h.cellAt j (by omega)]
      simp [encS, hj']
    · have hj' : j < xs.length := by simpa using hj
      rw [Nat.zero_add, h2.cellAt j (by omega)]
      simp [encS, hj']
    · rintro e w' ⟨rfl, q, rfl⟩
      exact ⟨by simp, ext_drewN (Below.refl _ _)⟩
end Go.Proofs.YtbimecknmojnoaaGreatDoor
