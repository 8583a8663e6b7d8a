/- What is proved here: what voice.Ends answers at the one box and message that the statements' test of readiness asks for. No condition. -/
import Derived.Test.YtkfflafhlgephaaDoorNumber
import Derived.LoopN
namespace Go.Proofs.YtkfflafhlgephaaDoor
open Go.RowKit
set_option linter.unusedVariables false

theorem within_v (n lo hi : Int) (w : World) (h1 : lo ≤ n) (h2 : n ≤ hi) :
    Calls Tryd.prog 69 #[.int .i64 n, .int .i64 lo, .int .i64 hi] w fun e w' => e = .returned (.bool true) ∧ w = w' := by
  go_enter Tryd.func69, Tryd.ntmps69
  go_wp2
  go_ret
  exact ⟨rfl, rfl⟩

theorem isKey_b (w : World) : Calls Tryd.prog 61 #[.string ⟨#[98]⟩] w fun e w' => e = .returned (.bool true) ∧ Below w.heap.size w w' := isKey_any [98] w (by decide)
theorem isKey_m (w : World) : Calls Tryd.prog 61 #[.string ⟨#[109]⟩] w fun e w' => e = .returned (.bool true) ∧ Below w.heap.size w w' := isKey_any [109] w (by decide)

def aBox : Value := .agg #[.string ⟨#[98]⟩, .int .i64 1, .int .i64 1, .int .i64 0, .int .i64 0, .slice none 0 0, .bool false, .int .i64 0, .int .i64 0]
def aMess : Value := .agg #[.string ⟨#[109]⟩, .string ⟨#[]⟩, .int .i64 0, .int .i64 1, .int .i64 1, .int .i64 0]

set_option maxHeartbeats 1000000 in
theorem checkBox_one (w : World) :
    Calls Tryd.prog 98 #[aBox] w fun e w' => e = .returned (.int .i64 0) ∧ Below w.heap.size w w' := by
  unfold aBox
  go_enter Tryd.func98, Tryd.ntmps98
  go_wp2_with (go_at_call 69; refine (within_v _ _ _ _ (by omega) (by omega)).mono ?_; rintro e w' ⟨rfl, rfl⟩)
  refine wp_loop_rounds 1 ?_
  rw [rounds_succ]
  go_wp2_with (go_at_call 69; refine (within_v _ _ _ _ (by omega) (by omega)).mono ?_; rintro e w' ⟨rfl, rfl⟩)
  go_ret
  exact ⟨rfl, (by (try show Below _ _ _); repeat (with_reducible first | exact Below.refl _ _ | assumption | exact Hid.out (by assumption) | refine ext_alloc ?_ | refine ext_drewN ?_ | refine ext_drew ?_ | refine ext_setCell ?_ (Nat.le_refl _) | refine ext_setCell ?_ (Nat.le_succ _) | refine ext_trans ?_ (by assumption) | (refine ext_setCell ?_ (by simp)) | (refine ext_setCell ?_ (by simp at *; omega))))⟩

set_option maxHeartbeats 1000000 in
theorem checkBoxes_one (w : World) (b : Nat) (hb : b < w.heap.size) (h0 : w.cell? ⟨b, 0, none⟩ = some (.string ⟨#[98]⟩)) (h1 : w.cell? ⟨b, 1, none⟩ = some (.int .i64 1)) (h2 : w.cell? ⟨b, 2, none⟩ = some (.int .i64 1)) (h3 : w.cell? ⟨b, 3, none⟩ = some (.int .i64 0)) (h4 : w.cell? ⟨b, 4, none⟩ = some (.int .i64 0)) (h5 : w.cell? ⟨b, 5, none⟩ = some (.slice none 0 0)) (h6 : w.cell? ⟨b, 6, none⟩ = some (.bool false)) (h7 : w.cell? ⟨b, 7, none⟩ = some (.int .i64 0)) (h8 : w.cell? ⟨b, 8, none⟩ = some (.int .i64 0)) :
    Calls Tryd.prog 68 #[.slice (some ⟨b, 0, none⟩) 1 1] w fun e w' => e = .returned (.int .i64 0) ∧ Below w.heap.size w w' := by
  go_enter Tryd.func68, Tryd.ntmps68
  go_wp2_with fail
  refine wp_loop_rounds 2 ?_
  rw [rounds_succ]
  go_wp2_with fail
  refine (isKey_b _).mono ?_
  rintro e w1 ⟨rfl, hB1⟩
  obtain ⟨hc, hf⟩ := bcell hB1
  go_wp2_with fail
  go_quiet (fail)
  go_wp2_with fail
  refine (checkBox_one _).mono ?_
  rintro e w2 ⟨rfl, hB2⟩
  go_wp2_with fail
  rw [rounds_succ]
  go_wp2_with fail
  go_ret
  exact ⟨rfl, (by (try show Below _ _ _); repeat (with_reducible first | exact Below.refl _ _ | assumption | exact Hid.out (by assumption) | refine ext_alloc ?_ | refine ext_drewN ?_ | refine ext_drew ?_ | refine ext_setCell ?_ (Nat.le_refl _) | refine ext_setCell ?_ (Nat.le_succ _) | refine ext_trans ?_ (by assumption) | (refine ext_setCell ?_ (by simp)) | (refine ext_setCell ?_ (by simp at *; omega))))⟩

set_option maxHeartbeats 1000000 in
theorem ends_one (w : World) : Calls Tryd.prog 70 #[aBox, aMess] w fun e w' => e = .returned (.int .i64 86400000) ∧ Below w.heap.size w w' := by
  unfold aBox aMess
  go_enter Tryd.func70, Tryd.ntmps70
  go_wp2_with fail
  go_ret
  exact ⟨rfl, (by (try show Below _ _ _); repeat (with_reducible first | exact Below.refl _ _ | assumption | exact Hid.out (by assumption) | refine ext_alloc ?_ | refine ext_drewN ?_ | refine ext_drew ?_ | refine ext_setCell ?_ (Nat.le_refl _) | refine ext_setCell ?_ (Nat.le_succ _) | refine ext_trans ?_ (by assumption) | (refine ext_setCell ?_ (by simp)) | (refine ext_setCell ?_ (by simp at *; omega))))⟩

set_option maxHeartbeats 2000000 in
theorem ends_ready (w : World) : Calls Tryd.prog 35 #[aBox, aMess] w fun e w' => e = .returned (.tuple #[.int .i64 86400000, .int .i64 0]) ∧ Below w.heap.size w w' := by
  unfold aBox aMess
  go_enter Tryd.func35, Tryd.ntmps35
  go_wp2_with fail
  refine (checkBoxes_one _ _ ?_ ?_ ?_ ?_ ?_ ?_ ?_ ?_ ?_ ?_).mono ?_
  iterate 10 (focus (first | (simp; done) | (go_simp; done)))
  rintro e w1 ⟨rfl, hB1⟩
  obtain ⟨hc, hf⟩ := bcell hB1
  go_wp2_with fail
  refine (isKey_m _).mono ?_
  rintro e w2 ⟨rfl, hB2⟩
  obtain ⟨hc2, hf2⟩ := bcell hB2
  have hz0 : w.heap.size < w1.heap.size := by have := hB1.size; simp at this; omega
  have hz1 : w.heap.size + 1 < w1.heap.size := by have := hB1.size; simp at this; omega
  go_wp2_with (first | (go_at_call 33; refine (isMoment_any _ _).mono ?_; rintro e w' ⟨rfl, rfl⟩) | (go_at_call 69; refine (within_v _ _ _ _ (by omega) (by omega)).mono ?_; rintro e w' ⟨rfl, rfl⟩))
  refine (ends_one _).mono ?_
  rintro e w3 ⟨rfl, hB3⟩
  go_wp2_with fail
  go_ret2
  exact ⟨rfl, (by (try show Below _ _ _); repeat (with_reducible first | exact Below.refl _ _ | assumption | exact Hid.out (by assumption) | refine ext_alloc ?_ | refine ext_drewN ?_ | refine ext_drew ?_ | refine ext_setCell ?_ (Nat.le_refl _) | refine ext_setCell ?_ (Nat.le_succ _) | refine ext_trans ?_ (by assumption) | (refine ext_setCell ?_ (by simp)) | (refine ext_setCell ?_ (by simp at *; omega))))⟩
end Go.Proofs.YtkfflafhlgephaaDoor
