/- What is proved here: slices.Reverse at a plan of three countries. Condition: the plan lies in memory as stated. -/
import Derived.Test.YthajppcmmmkfcaaGreatDoorPlanDraw
import Derived.BigRegion
set_option linter.unusedVariables false
set_option linter.unusedSimpArgs false
namespace Go.Proofs.YthajppcmmmkfcaaGreatDoor
open Go.RowKit

def rowCells (x y z : Ctry) : List Value := x.cells ++ y.cells ++ z.cells

set_option maxRecDepth 100000 in
set_option maxHeartbeats 2000000 in
theorem reverse3 (w : World) (P : Nat) (x y z : Ctry) (hP : P < w.heap.size) (hc : ∀ j, j < 12 → w.cell? ⟨P, j, none⟩ = (rowCells x y z)[j]?) (hf : ∀ j, w.frozen? ⟨P, j, none⟩ = false) :
    Calls Tryz.prog 43 #[.slice (some ⟨P, 0, none⟩) 3 3] w fun e w' => e = .returned (.tuple #[]) ∧ (∀ j, j < 12 → w'.cell? ⟨P, j, none⟩ = (rowCells z y x)[j]?) ∧ Keeps P w w' := by
  obtain ⟨c0, a0, t0, s0, n0, m0, r0⟩ := x
  obtain ⟨c1, a1, t1, s1, n1, m1, r1⟩ := y
  obtain ⟨c2, a2, t2, s2, n2, m2, r2⟩ := z
  have k0 := hc 0 (by omega)
  have k1 := hc 1 (by omega)
  have k2 := hc 2 (by omega)
  have k3 := hc 3 (by omega)
  have k4 := hc 4 (by omega)
  have k5 := hc 5 (by omega)
  have k6 := hc 6 (by omega)
  have k7 := hc 7 (by omega)
  have k8 := hc 8 (by omega)
  have k9 := hc 9 (by omega)
  have k10 := hc 10 (by omega)
  have k11 := hc 11 (by omega)
  simp only [rowCells, Ctry.cells, List.cons_append, List.nil_append, List.getElem?_cons_zero, List.getElem?_cons_succ] at k0 k1 k2 k3 k4 k5 k6 k7 k8 k9 k10 k11
  clear hc
  go_enter Tryz.func43, Tryz.ntmps43
  go_wp2_with fail
  go_loopw [2, 3] (fun i j wr => (i = .int .i64 0 ∧ j = .int .i64 2 ∧ wr = w) ∨ (i = .int .i64 1 ∧ j = .int .i64 1 ∧ Hid ((∀ j, j < 12 → wr.cell? ⟨P, j, none⟩ = (rowCells ⟨c2, a2, t2, s2, n2, m2, r2⟩ ⟨c1, a1, t1, s1, n1, m1, r1⟩ ⟨c0, a0, t0, s0, n0, m0, r0⟩)[j]?) ∧ Keeps P w wr))) (fun i _ _ => 1 - (intOf i).toNat)
  case atStart => exact Or.inl ⟨rfl, rfl, rfl⟩
  case round =>
    rcases hrel with ⟨rfl, rfl, rfl⟩ | ⟨rfl, rfl, HF⟩
    · go_upto_region 3 with (fail)
      go_region
      go_wp2_with fail
      go_roundw
      case rel =>
        refine Or.inr ⟨by go_num, by go_num, ?_⟩
        refine ⟨fun j hj => ?_, ?_⟩
        · match j, hj with
          | 0, _ | 1, _ | 2, _ | 3, _ | 4, _ | 5, _ | 6, _ | 7, _ | 8, _ | 9, _ | 10, _ | 11, _ => simp only [rowCells, Ctry.cells, List.cons_append, List.nil_append, List.getElem?_cons_zero, List.getElem?_cons_succ]; go_simp
        · refine Keeps.drew ?_
          refine Keeps.setCell ?_ (by rfl) _
          refine Keeps.setCell ?_ (by rfl) _
          refine Keeps.setCell ?_ (by rfl) _
          refine Keeps.setCell ?_ (by rfl) _
          refine Keeps.setCell ?_ (by rfl) _
          refine Keeps.setCell ?_ (by rfl) _
          refine Keeps.setCell ?_ (by rfl) _
          refine Keeps.setCell ?_ (by rfl) _
          exact Keeps.refl _ _
      case measure => simp [intOf]
    · clear k0 k1 k2 k3 k4 k5 k6 k7 k8 k9 k10 k11
      go_wp2_with fail
      (try simp only [Exit.inBlock, Exit.then])
      first | (refine bodyPost_end (results_none rfl _ _ _) rfl ?_) | (refine bodyPost_ret (results_none rfl _ _ _) rfl ?_)
      exact ⟨rfl, HF.out⟩
end Go.Proofs.YthajppcmmmkfcaaGreatDoor
