/- What is proved here: the walk of the statement PlansSplit: it answers true. Condition: the slice that came in lies in memory. -/
import Derived.Test.YthajppcmmmkfcaaDoorPlanDrawn
import Derived.Test.YthajppcmmmkfcaaDoorPlanNumber
import Derived.Test.YthajppcmmmkfcaaDoorSplitTop
import Derived.Test.YthajppcmmmkfcaaDoorPlanFault
import Derived.Test.YthajppcmmmkfcaaDoorRefSplit
import Derived.Test.YthajppcmmmkfcaaDoorNumbered
import Derived.Deep.MidRow
import Derived.Deep.DeepCutAuto
set_option linter.unusedVariables false
set_option linter.unusedSimpArgs false
namespace Go.Proofs.YthajppcmmmkfcaaDoor
open Go.RowKit

set_option maxRecDepth 100000 in
set_option maxHeartbeats 4000000 in
theorem plans_true (w : World) (a : Option Addr) (len cap : Nat) (zs : List Int) (hr : ArgRow w a len cap zs) :
    Calls Tryd.prog 3 #[.slice a len cap] w fun e w' => e = .returned (.bool true) ∧ Below w.heap.size w w' := by
  have HS0 := Lib.hid (stream_start hr)
  clear hr
  go_enter Tryd.func3, Tryd.ntmps3
  go_wp2_with fail
  refine (countries_any w.heap.size 0 _ HS0.out (by omega)).mono ?_
  rintro e w1 ⟨P, l, rfl, hrow, hna, hst1, hk1⟩
  have HR := Lib.hid hrow
  have HNA := Lib.hid hna
  have HS1 := Lib.hid hst1
  have HK1 := Lib.hid hk1
  have HLEN : Hid (3 = l.length) := (hrow w1 (Keeps.refl _ _)).len
  clear hrow hna hst1 hk1 HS0
  as_aux_lemma =>
    go_wp2_with fail
    refine (number_any w.heap.size 20 _ (some ⟨P, 0, none⟩) 3 3 l HS1.out (by omega) HR.out (by omega) (by omega) HNA.out).mono ?_
    rintro e w2 ⟨s, rfl, hs, hst2, hk2⟩
    have HK2 := Lib.hid (HK1.out.trans hk2)
    have HR2 : Hid (∀ w9, Below w2.heap.size w2 w9 → CtryRow w9 (some ⟨P, 0, none⟩) 3 l) := fun w9 h9 => HR.out w9 (hk2.trans (Keeps.of_below h9))
    clear hst2 hk2 HR HS1 HK1
    have hs' : s.length ≤ 1000 := by omega
    have HSAME : Hid (planErr l = 0 → splitR l s = splitP l s) := split_same s
    as_aux_lemma =>
      go_wp2_with fail
      refine (numSplit_any _ (some ⟨P, 0, none⟩) 3 3 l (HR2.out _ (Below.refl _ _)) (by omega) (by omega) HNA.out s hs').mono ?_
      rintro e w3 ⟨rfl, hb3⟩
      have HB3 := Lib.hid hb3
      have HT : Hid (splitTop l s = if planErr l = 0 then splitP l s else noSpl (planErr l)) := rfl
      generalize splitTop l s = T at HT ⊢
      obtain ⟨er, co, ar, re⟩ := T
      clear hb3
      simp only
      as_aux_lemma =>
        go_wp2_with fail
        refine (planFault_any _ (some ⟨P, 0, none⟩) 3 3 l (HR2.out _ (by (try show Below _ _ _); repeat (with_reducible first | exact Below.refl _ _ | assumption | exact Hid.out (by assumption) | refine ext_alloc ?_ | refine ext_drewN ?_ | refine ext_drew ?_ | refine ext_setCell ?_ (Nat.le_refl _) | refine ext_setCell ?_ (Nat.le_succ _) | refine ext_trans ?_ (by assumption) | (refine ext_setCell ?_ (by simp)) | (refine ext_setCell ?_ (by simp at *; omega))))) (by omega)).mono ?_
        rintro e w4 ⟨rfl, hb4⟩
        have c0 : w4.cell? ⟨w3.heap.size, 0, none⟩ = some (.string ⟨co.toArray⟩) := (hb4.cell (p := ⟨w3.heap.size, 0, none⟩) (by simp)).trans (by go_simp)
        have c1 : w4.cell? ⟨w3.heap.size, 1, none⟩ = some (.string ⟨ar.toArray⟩) := (hb4.cell (p := ⟨w3.heap.size, 1, none⟩) (by simp)).trans (by go_simp)
        have c2 : w4.cell? ⟨w3.heap.size, 2, none⟩ = some (.string ⟨re.toArray⟩) := (hb4.cell (p := ⟨w3.heap.size, 2, none⟩) (by simp)).trans (by go_simp)
        have hz4 : w3.heap.size < w4.heap.size := by have := hb4.size; simp at this; omega
        have HB4 : Hid (Below w2.heap.size w2 w4) := ext_trans (ext_alloc HB3.out) hb4
        clear hb4
        generalize w3.heap.size = D at *
        as_aux_lemma =>
          go_wp2_with fail
          refine (checkPlan_any _ (some ⟨P, 0, none⟩) 3 3 l (HR2.out _ HB4.out) (by omega)).mono ?_
          rintro e w5 ⟨rfl, hb5⟩
          have C0 := (hb5.cell (p := ⟨D, 0, none⟩) hz4).trans c0
          have C1 := (hb5.cell (p := ⟨D, 1, none⟩) hz4).trans c1
          have C2 := (hb5.cell (p := ⟨D, 2, none⟩) hz4).trans c2
          have hz5 : D < w5.heap.size := Nat.lt_of_lt_of_le hz4 hb5.size
          have HB5 : Hid (Below w2.heap.size w2 w5) := ext_trans HB4.out hb5
          clear hb5 c0 c1 c2 hz4 HB4 HB3
          by_cases hE : planErr l = 0
          · have HW : Hid (splitR l s = ⟨er, co, ar, re⟩) := by
              show _ = _
              rw [HSAME.out hE, HT.out, if_pos hE]
            have HRo := HR2.out w5 HB5.out
            have HSP := Lib.hid (fun w9 (h9 : CtryRow w9 (some ⟨P, 0, none⟩) 3 l) => splitOf_any w9 (some ⟨P, 0, none⟩) 3 3 l h9 (by omega) s hs')
            rw [HW.out] at HSP
            clear HRo HT HSAME HW
            generalize planErr l = E at *
            subst hE
            as_aux_lemma =>
              go_wp2_with fail
              refine (HSP.out _ (HR2.out _ (by (try show Below _ _ _); repeat (with_reducible first | exact Below.refl _ _ | assumption | exact Hid.out (by assumption) | refine ext_alloc ?_ | refine ext_drewN ?_ | refine ext_drew ?_ | refine ext_setCell ?_ (Nat.le_refl _) | refine ext_setCell ?_ (Nat.le_succ _) | refine ext_trans ?_ (by assumption) | (refine ext_setCell ?_ (by simp)) | (refine ext_setCell ?_ (by simp at *; omega)))))).mono ?_
              rintro e w6 ⟨rfl, hb6⟩
              have D0 := (hb6.cell (p := ⟨D, 0, none⟩) (by simp; omega)).trans ((by go_simp : _ = some (.string ⟨co.toArray⟩)))
              have D1 := (hb6.cell (p := ⟨D, 1, none⟩) (by simp; omega)).trans ((by go_simp : _ = some (.string ⟨ar.toArray⟩)))
              have D2 := (hb6.cell (p := ⟨D, 2, none⟩) (by simp; omega)).trans ((by go_simp : _ = some (.string ⟨re.toArray⟩)))
              have Z0 := (hb6.cell (p := ⟨w5.heap.size, 0, none⟩) (by simp)).trans ((by go_simp : _ = some (.string ⟨#[]⟩)))
              have Z1 := (hb6.cell (p := ⟨w5.heap.size, 1, none⟩) (by simp)).trans ((by go_simp : _ = some (.string ⟨#[]⟩)))
              have Z2 := (hb6.cell (p := ⟨w5.heap.size, 2, none⟩) (by simp)).trans ((by go_simp : _ = some (.string ⟨#[]⟩)))
              have F6 : ∀ j, w6.frozen? ⟨w5.heap.size, j, none⟩ = false := fun j => (hb6.frozen (p := ⟨w5.heap.size, j, none⟩) (by simp)).trans (by go_simp)
              have hz6 : w5.heap.size < w6.heap.size := by have := hb6.size; simp at this; omega
              have HB6 : Hid (Below w2.heap.size w2 w6) := ext_trans (ext_alloc HB5.out) hb6
              have hzz : w2.heap.size ≤ w5.heap.size := HB5.out.size
              clear hb6 C0 C1 C2 HB5 HSP
              simp only
              generalize w5.heap.size = G at *
              as_aux_lemma =>
                go_wp2_with fail
                refine (numbered_any _).mono ?_
                rintro e w7 ⟨rfl, hb7⟩
                have HF : Hid (Below w.heap.size w w7) := law_end (HK2.out.trans (Keeps.of_below (ext_trans (ext_setCell (ext_setCell (ext_setCell HB6.out (by exact hzz)) (by exact hzz)) (by exact hzz)) hb7)))
                clear hb7
                go_wp2_with fail
                go_ret
                exact ⟨rfl, HF.out⟩
          · have HNE : Hid ((⟨er, co, ar, re⟩ : Spl) = noSpl (planErr l)) := by
              show _ = _
              rw [HT.out, if_neg hE]
            have HQ := Lib.hid hE
            clear HT HSAME hE
            generalize planErr l = E at *
            injection HNE.out with e1 e2 e3 e4
            subst e1 e2 e3 e4
            have hE : er ≠ 0 := HQ.out
            clear HNE HQ
            as_aux_lemma =>
              go_wp2_with fail
              refine (numbered_any _).mono ?_
              rintro e w7 ⟨rfl, hb7⟩
              have HF : Hid (Below w.heap.size w w7) := law_end (HK2.out.trans (Keeps.of_below (ext_trans (ext_alloc HB5.out) hb7)))
              clear hb7
              go_wp2_with fail
              go_ret
              exact ⟨rfl, HF.out⟩
end Go.Proofs.YthajppcmmmkfcaaDoor
