/- What is proved here: what CheckPlan of package number answers. Condition: the plan lies in memory as stated. -/
import Derived.Test.YtbimecknmojnoaaGreatDoorPlanCtry
set_option linter.unusedVariables false
set_option linter.unusedSimpArgs false
namespace Go.Proofs.YtbimecknmojnoaaGreatDoor
open Go.RowKit

set_option maxRecDepth 100000 in
set_option maxHeartbeats 2000000 in
theorem checkPlan_any (w : World) (a : Option Addr) (n cap : Nat) (l : List Ctry) (hr : CtryRow w a n l) (hcap : n ≤ cap) : Calls Tryz.prog 175 #[.slice a n cap] w (ErrPost (planErr l) w) := by
  have hfew := hr.few
  have hlen := hr.len
  have HR := Lib.hid hr
  have HDEF : Hid (planErr l = if 100 < l.length then 2 else firstErr (partErr l) l.length) := rfl
  generalize planErr l = R at HDEF ⊢
  clear hr
  by_cases h100 : 100 < n
  · have HF : Hid (R = 2) := by show _ = _; rw [HDEF.out, if_pos (by omega)]
    go_enter Tryz.func175, Tryz.ntmps175
    go_wp2_with fail
    go_ret
    exact ⟨by rw [HF.out]; rfl, Below.refl _ _⟩
  have HD : Hid (R = firstErr (partErr l) n) := by show _ = _; rw [HDEF.out, if_neg (by omega), ← hlen]
  have HLEN := Lib.hid hlen
  clear HDEF hlen
  go_enter Tryz.func175, Tryz.ntmps175
  go_wp2_with fail
  go_loopw [13] (fun it wr => ∃ k : Nat, k ≤ n ∧ it = .int .i64 k ∧ Hid (Below w.heap.size w wr) ∧ Hid (∀ j, j < k → partErr l j = 0)) (fun it _ => n - (intOf it).toNat)
  case atStart => exact ⟨0, Nat.zero_le _, rfl, Below.refl _ _, fun j hj => absurd hj (by omega)⟩
  case round =>
    obtain ⟨wo, rfl⟩ : ∃ wo : World, wo = wr := ⟨_, rfl⟩
    obtain ⟨k, hk, rfl, HB, HN⟩ := hrel
    by_cases hlt : k < n
    · have HRK := Lib.hid (HR.out.below HB.out)
      rcases HRK.out.row with h0 | ⟨b, off, rfl, hb, hcl⟩
      · omega
      obtain ⟨c0, c1, c2, c3⟩ := ctry_cells (hcl k hlt)
      have HFI := Lib.hid (HRK.out.each k (by rw [← HLEN.out]; exact hlt))
      have HPE : Hid (partErr l k = if ctryErr l k ≠ 0 then ctryErr l k else firstErr (areaErr (l.getD k noCtry)) (l.getD k noCtry).areas.length) := rfl
      have HFE : Hid (partErr l k ≠ 0 → R = partErr l k) := fun h9 => HD.out.trans (first_some HN.out hlt h9)
      have HST : Hid (partErr l k = 0 → ∀ j, j < k + 1 → partErr l j = 0) := fun h9 j hj => by
        rcases Nat.lt_or_eq_of_le (Nat.lt_succ_iff.1 hj) with h | h
        · exact HN.out j h
        · subst h; exact h9
      generalize partErr l k = PE at HPE HFE HST
      generalize hcc : l.getD k noCtry = c at c0 c1 c2 c3 HPE HFI
      have HCC := Lib.hid hcc
      clear hcc hcl
      as_aux_lemma =>
        go_wp2_with fail
        refine Calls.mono (checkCountry_any _ _ n cap l ?_ hcap k hlt) ?_
        · exact HRK.out.below (ext_alloc (Below.refl _ _))
        rintro e w1 ⟨rfl, hb1⟩
        have HB1 : Hid (Below w.heap.size w w1) := ext_trans (ext_alloc HB.out) hb1
        have hz1 : wo.heap.size < w1.heap.size := by have := hb1.size; simp at this; omega
        obtain ⟨qc, qf⟩ := bcell hb1
        have d0 : w1.cell? ⟨wo.heap.size, 0, none⟩ = some (.string ⟨c.code.toArray⟩) := (qc _ 0 (by simp)).trans (by go_simp)
        have d1 : w1.cell? ⟨wo.heap.size, 1, none⟩ = some (.string ⟨c.abroad.toArray⟩) := (qc _ 1 (by simp)).trans (by go_simp)
        have d2 : w1.cell? ⟨wo.heap.size, 2, none⟩ = some (.string ⟨c.trunk.toArray⟩) := (qc _ 2 (by simp)).trans (by go_simp)
        have d3 : w1.cell? ⟨wo.heap.size, 3, none⟩ = some (.slice c.aa c.an c.ac) := (qc _ 3 (by simp)).trans (by go_simp)
        have HF1 : Hid (CtryFine w1 c) := HFI.out.below (ext_trans (ext_alloc (Below.refl _ _)) hb1)
        generalize ctryErr l k = E1 at HPE ⊢
        clear qc qf hb1 c0 c1 c2 c3 HFI
        as_aux_lemma =>
          by_cases he : E1 = 0
          · subst he
            have HPF : Hid (PE = firstErr (areaErr c) c.an) := by show _ = _; rw [HPE.out, HF1.out.row.len]; rfl
            clear HPE
            have hmany := HF1.out.many
            as_aux_lemma =>
              go_wp2_with fail
              go_loopw [27] (fun it wq => ∃ j : Nat, j ≤ c.an ∧ it = .int .i64 j ∧ Hid (Below w1.heap.size w1 wq) ∧ Hid (∀ j9, j9 < j → areaErr c j9 = 0)) (fun it _ => c.an - (intOf it).toNat)
              case atStart => exact ⟨0, Nat.zero_le _, rfl, Below.refl _ _, fun j hj => absurd hj (by omega)⟩
              case round =>
                obtain ⟨j, hj, rfl, HBQ, HNQ⟩ := hrel
                have hzq : wo.heap.size < wr.heap.size := Nat.lt_of_lt_of_le hz1 HBQ.out.size
                have e0 := (HBQ.out.cell (p := ⟨wo.heap.size, 0, none⟩) hz1).trans d0
                have e1 := (HBQ.out.cell (p := ⟨wo.heap.size, 1, none⟩) hz1).trans d1
                have e2 := (HBQ.out.cell (p := ⟨wo.heap.size, 2, none⟩) hz1).trans d2
                have e3 := (HBQ.out.cell (p := ⟨wo.heap.size, 3, none⟩) hz1).trans d3
                clear d0 d1 d2 d3
                as_aux_lemma =>
                  by_cases hlj : j < c.an
                  · go_wp2_with fail
                    refine Calls.mono (checkArea_any _ c ?_ j hlj) ?_
                    · exact HF1.out.below HBQ.out
                    rintro e w3 ⟨rfl, hb3⟩
                    have HBQ3 := Lib.hid (ext_trans HBQ.out hb3)
                    have HFA : Hid (areaErr c j ≠ 0 → R = areaErr c j) := fun h9 => by
                      have h1 : PE = areaErr c j := HPF.out.trans (first_some HNQ.out hlj h9)
                      rw [HFE.out (by rw [h1]; exact h9), h1]
                    have HSA : Hid (areaErr c j = 0 → ∀ j9, j9 < j + 1 → areaErr c j9 = 0) := fun h9 j9 hj9 => by
                      rcases Nat.lt_or_eq_of_le (Nat.lt_succ_iff.1 hj9) with h | h
                      · exact HNQ.out j9 h
                      · subst h; exact h9
                    generalize areaErr c j = E2 at HFA HSA ⊢
                    clear e0 e1 e2 e3 hb3
                    as_aux_lemma =>
                      by_cases he2 : E2 = 0
                      · subst he2
                        go_wp2_with fail
                        go_roundw
                        case rel => exact ⟨j + 1, by omega, by go_num, HBQ3.out, HSA.out trivial⟩
                        case measure => simp [intOf]; omega
                      · have HF : Hid (R = E2) := HFA.out he2
                        go_wp2_with fail
                        go_ret
                        exact ⟨by rw [HF.out]; rfl, ext_trans HB1.out HBQ3.out⟩
                  · have hjn : j = c.an := by omega
                    have HPZ : Hid (PE = 0) := HPF.out.trans (first_none (fun j9 h9 => HNQ.out j9 (by omega)))
                    go_wp2_with fail
                    go_roundw
                    case rel => exact ⟨k + 1, by omega, by go_num, ext_trans HB1.out HBQ.out, HST.out HPZ.out⟩
                    case measure => simp [intOf]; omega
          · have HF : Hid (R = E1) := by
              show _ = _
              have h1 : PE = E1 := by rw [HPE.out, if_pos he]
              rw [HFE.out (by rw [h1]; exact he), h1]
            go_wp2_with fail
            go_ret
            exact ⟨by rw [HF.out]; rfl, HB1.out⟩
    · have hkn : k = n := by omega
      subst hkn
      have HF : Hid (R = 0) := HD.out.trans (first_none HN.out)
      go_wp2_with fail
      go_ret
      exact ⟨by rw [HF.out]; rfl, HB.out⟩
end Go.Proofs.YtbimecknmojnoaaGreatDoor
