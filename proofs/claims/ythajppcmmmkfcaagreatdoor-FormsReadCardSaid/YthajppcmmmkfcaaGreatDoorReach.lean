/- What is proved here: the number that is reached from a home, as the program reckons. Condition: the plan lies in memory as stated. -/
import Derived.Test.YthajppcmmmkfcaaGreatDoorFormBytes
import Derived.Test.YthajppcmmmkfcaaGreatDoorRefSplit
import Derived.Test.YthajppcmmmkfcaaGreatDoorSplitWalk
set_option linter.unusedVariables false
set_option linter.unusedSimpArgs false
namespace Go.Proofs.YthajppcmmmkfcaaGreatDoor
open Go.RowKit

theorem digits_len {s : List UInt8} {lo hi : Int} (h : digitsB s lo hi = true) : (s.length : Int) ≤ hi := by
  unfold digitsB at h
  simp only [Bool.and_eq_true, decide_eq_true_eq] at h
  omega
theorem trim_drop {s p : List UInt8} (h : Lib.hasPrefix s p = true) : Lib.trimPrefix s p = s.drop p.length := by unfold Lib.trimPrefix; rw [if_pos h]

set_option maxRecDepth 100000 in
set_option maxHeartbeats 4000000 in
theorem reached_any (w : World) (a : Option Addr) (n cap : Nat) (l : List Ctry) (hr : CtryRow w a n l) (hne : 1 ≤ n) (hna : ∀ i, i < l.length → 1 ≤ (l.getD i noCtry).an) (c : Ctry) (h1 : c.code.length ≤ 100) (h2 : c.abroad.length ≤ 100) (h3 : c.trunk.length ≤ 100) (code0 area d : List UInt8) (ha : area.length ≤ 100) (hd : d.length ≤ 1000) :
    Calls Tryz.prog 50 #[.slice a n cap, .agg c.cells.toArray, .agg #[.string ⟨code0.toArray⟩, .string ⟨area.toArray⟩], .string ⟨d.toArray⟩] w (StrPost (reachP l c area d) w) := by
  have HR := Lib.hid hr
  have HNA := Lib.hid hna
  obtain ⟨code, abroad, trunk, aa, an, ac, areas⟩ := c
  have HDEF : Hid (reachP l ⟨code, abroad, trunk, aa, an, ac, areas⟩ area d = if digitsB d 1 30 = false then ((3 : Int), ([] : List UInt8)) else match reachN ⟨code, abroad, trunk, aa, an, ac, areas⟩ area d with | none => (8, []) | some n => if (splitP l n).err ≠ 0 then ((splitP l n).err, []) else (0, n)) := rfl
  generalize reachP l ⟨code, abroad, trunk, aa, an, ac, areas⟩ area d = R at HDEF ⊢
  clear hr hna
  simp only [Ctry.cells] at h1 h2 h3 ⊢
  go_enter Tryz.func50, Tryz.ntmps50
  go_wp2_with fail
  refine (digitsOf_l d 1 30 _ (by omega)).mono ?_
  rintro e w1 ⟨rfl, hb1⟩
  have c0 : w1.cell? ⟨w.heap.size, 0, none⟩ = some (.string ⟨code.toArray⟩) := (hb1.cell (p := ⟨w.heap.size, 0, none⟩) (by simp; omega)).trans (by go_simp)
  have c1 : w1.cell? ⟨w.heap.size, 1, none⟩ = some (.string ⟨abroad.toArray⟩) := (hb1.cell (p := ⟨w.heap.size, 1, none⟩) (by simp; omega)).trans (by go_simp)
  have c2 : w1.cell? ⟨w.heap.size, 2, none⟩ = some (.string ⟨trunk.toArray⟩) := (hb1.cell (p := ⟨w.heap.size, 2, none⟩) (by simp; omega)).trans (by go_simp)
  have d1 : w1.cell? ⟨w.heap.size + 1, 1, none⟩ = some (.string ⟨area.toArray⟩) := (hb1.cell (p := ⟨w.heap.size + 1, 1, none⟩) (by simp)).trans (by go_simp)
  have HB1 : Hid (Below w.heap.size w w1) := ext_trans (ext_alloc (ext_alloc (Below.refl _ _))) hb1
  have HR1 := Lib.hid (HR.out.below HB1.out)
  have HLN : Hid (digitsB d 1 30 = true → (d.length : Int) ≤ 30) := digits_len
  clear hb1
  generalize digitsB d 1 30 = g at HDEF HLN ⊢
  cases g
  · have HF : Hid (R = (3, [])) := HDEF.out
    as_aux_lemma =>
      go_wp2_with fail
      go_ret2
      exact ⟨by rw [HF.out]; rfl, HB1.out⟩
  · have hdl : d.length ≤ 30 := by have := HLN.out rfl; omega
    have HD2 : Hid (R = match reachN ⟨code, abroad, trunk, aa, an, ac, areas⟩ area d with | none => (8, []) | some n => if (splitP l n).err ≠ 0 then ((splitP l n).err, []) else (0, n)) := HDEF.out
    clear HDEF HLN
    as_aux_lemma =>
      go_wp2_with fail
      refine (cutPrefix_l d abroad _).mono ?_
      rintro e w' ⟨rfl, rfl⟩
      have hta : (Lib.trimPrefix d abroad).length ≤ d.length := Lib.trimPrefix_le _ _
      cases hg1 : Lib.hasPrefix d abroad
      · skip
        as_aux_lemma =>
          go_wp2_with fail
          refine (cutPrefix_l d trunk _).mono ?_
          rintro e w' ⟨rfl, rfl⟩
          have htt : (Lib.trimPrefix d trunk).length ≤ d.length := Lib.trimPrefix_le _ _
          cases hg2 : Lib.hasPrefix d trunk
          · by_cases harea : area = []
            · have HF : Hid (R = (8, [])) := by
                show _ = _
                rw [HD2.out, show reachN ⟨code, abroad, trunk, aa, an, ac, areas⟩ area d = none by unfold reachN; simp only; rw [if_neg (by rw [hg1]; decide), if_neg (by rw [hg2]; decide), if_neg (by simp [harea])]]
              subst harea
              as_aux_lemma =>
                go_wp2_with fail
                go_ret2
                exact ⟨by rw [HF.out]; rfl, HB1.out⟩
            · have hne2 : area.isEmpty = false := by
                cases area with
                | nil => exact absurd rfl harea
                | cons x xs => rfl
              have HAE := Lib.hid harea
              have HG1 := Lib.hid hg1
              have HG2 := Lib.hid hg2
              clear harea
              have HF : Hid (R = if (splitP l ((([43] : List UInt8) ++ code) ++ area ++ d)).err ≠ 0 then ((splitP l ((([43] : List UInt8) ++ code) ++ area ++ d)).err, []) else (0, (([43] : List UInt8) ++ code) ++ area ++ d)) := by
                show _ = _
                rw [HD2.out, show reachN ⟨code, abroad, trunk, aa, an, ac, areas⟩ area d = some ((([43] : List UInt8) ++ code) ++ area ++ d) from (by unfold reachN; simp only; rw [if_neg (by rw [HG1.out]; decide), if_neg (by rw [HG2.out]; decide), if_pos HAE.out]; simp)]
              have hNl : ((([43] : List UInt8) ++ code) ++ area ++ d).length ≤ 1000 := by simp only [List.length_append, List.length_cons, List.length_nil]; omega
              as_aux_lemma =>
                go_wp2_with fail
                rw [cat_str, cat_str, cat_str]
                refine (split_any _ a n cap l (HR1.out.below (by (try show Below _ _ _); repeat (with_reducible first | exact Below.refl _ _ | assumption | exact Hid.out (by assumption) | refine ext_alloc ?_ | refine ext_drewN ?_ | refine ext_drew ?_ | refine ext_setCell ?_ (Nat.le_refl _) | refine ext_setCell ?_ (Nat.le_succ _) | refine ext_trans ?_ (by assumption) | (refine ext_setCell ?_ (by simp)) | (refine ext_setCell ?_ (by simp at *; omega))))) hne HNA.out ((([43] : List UInt8) ++ code) ++ area ++ d) hNl).mono ?_
                rintro e w5 ⟨y0, y1, y2, ya, yn, yc, y4, y5, y6, rfl, hb5⟩
                have HB5 : Hid (Below w.heap.size w w5) := ext_trans HB1.out hb5
                clear hb5
                generalize splitP l ((([43] : List UInt8) ++ code) ++ area ++ d) = X at HF
                generalize (([43] : List UInt8) ++ code) ++ area ++ d = M at *
                obtain ⟨er, x1, x2, x3⟩ := X
                simp only at HF ⊢
                by_cases he : er = 0
                · subst he
                  have HF2 : Hid (R = (0, M)) := HF.out
                  go_wp2_with fail
                  go_ret2
                  exact ⟨by rw [HF2.out]; rfl, ext_alloc HB5.out⟩
                · have HF2 : Hid (R = (er, [])) := by show _ = _; rw [HF.out, if_pos he]
                  go_wp2_with fail
                  go_ret2
                  exact ⟨by rw [HF2.out]; rfl, ext_alloc HB5.out⟩
          · have HG1 := Lib.hid hg1
            have HG2 := Lib.hid hg2
            have HF : Hid (R = if (splitP l ((([43] : List UInt8) ++ code) ++ Lib.trimPrefix d trunk)).err ≠ 0 then ((splitP l ((([43] : List UInt8) ++ code) ++ Lib.trimPrefix d trunk)).err, []) else (0, (([43] : List UInt8) ++ code) ++ Lib.trimPrefix d trunk)) := by
              show _ = _
              rw [HD2.out, show reachN ⟨code, abroad, trunk, aa, an, ac, areas⟩ area d = some ((([43] : List UInt8) ++ code) ++ Lib.trimPrefix d trunk) from (by unfold reachN; simp only; rw [if_neg (by rw [HG1.out]; decide), if_pos HG2.out, trim_drop HG2.out]; simp)]
            have hNl : ((([43] : List UInt8) ++ code) ++ Lib.trimPrefix d trunk).length ≤ 1000 := by simp only [List.length_append, List.length_cons, List.length_nil]; omega
            as_aux_lemma =>
              go_wp2_with fail
              rw [cat_str, cat_str]
              refine (split_any _ a n cap l (HR1.out.below (by (try show Below _ _ _); repeat (with_reducible first | exact Below.refl _ _ | assumption | exact Hid.out (by assumption) | refine ext_alloc ?_ | refine ext_drewN ?_ | refine ext_drew ?_ | refine ext_setCell ?_ (Nat.le_refl _) | refine ext_setCell ?_ (Nat.le_succ _) | refine ext_trans ?_ (by assumption) | (refine ext_setCell ?_ (by simp)) | (refine ext_setCell ?_ (by simp at *; omega))))) hne HNA.out ((([43] : List UInt8) ++ code) ++ Lib.trimPrefix d trunk) hNl).mono ?_
              rintro e w5 ⟨y0, y1, y2, ya, yn, yc, y4, y5, y6, rfl, hb5⟩
              have HB5 : Hid (Below w.heap.size w w5) := ext_trans HB1.out hb5
              clear hb5
              generalize splitP l ((([43] : List UInt8) ++ code) ++ Lib.trimPrefix d trunk) = X at HF
              generalize (([43] : List UInt8) ++ code) ++ Lib.trimPrefix d trunk = M at *
              obtain ⟨er, x1, x2, x3⟩ := X
              simp only at HF ⊢
              by_cases he : er = 0
              · subst he
                have HF2 : Hid (R = (0, M)) := HF.out
                go_wp2_with fail
                go_ret2
                exact ⟨by rw [HF2.out]; rfl, ext_alloc HB5.out⟩
              · have HF2 : Hid (R = (er, [])) := by show _ = _; rw [HF.out, if_pos he]
                go_wp2_with fail
                go_ret2
                exact ⟨by rw [HF2.out]; rfl, ext_alloc HB5.out⟩
      · have HG1 := Lib.hid hg1
        have HF : Hid (R = if (splitP l (([43] : List UInt8) ++ Lib.trimPrefix d abroad)).err ≠ 0 then ((splitP l (([43] : List UInt8) ++ Lib.trimPrefix d abroad)).err, []) else (0, ([43] : List UInt8) ++ Lib.trimPrefix d abroad)) := by
          show _ = _
          rw [HD2.out, show reachN ⟨code, abroad, trunk, aa, an, ac, areas⟩ area d = some (([43] : List UInt8) ++ Lib.trimPrefix d abroad) from (by unfold reachN; simp only; rw [if_pos HG1.out, trim_drop HG1.out]; simp)]
        have hNl : (([43] : List UInt8) ++ Lib.trimPrefix d abroad).length ≤ 1000 := by simp only [List.length_append, List.length_cons, List.length_nil]; omega
        as_aux_lemma =>
          go_wp2_with fail
          rw [cat_str]
          refine (split_any _ a n cap l (HR1.out.below (by (try show Below _ _ _); repeat (with_reducible first | exact Below.refl _ _ | assumption | exact Hid.out (by assumption) | refine ext_alloc ?_ | refine ext_drewN ?_ | refine ext_drew ?_ | refine ext_setCell ?_ (Nat.le_refl _) | refine ext_setCell ?_ (Nat.le_succ _) | refine ext_trans ?_ (by assumption) | (refine ext_setCell ?_ (by simp)) | (refine ext_setCell ?_ (by simp at *; omega))))) hne HNA.out (([43] : List UInt8) ++ Lib.trimPrefix d abroad) hNl).mono ?_
          rintro e w5 ⟨y0, y1, y2, ya, yn, yc, y4, y5, y6, rfl, hb5⟩
          have HB5 : Hid (Below w.heap.size w w5) := ext_trans HB1.out hb5
          clear hb5
          generalize splitP l (([43] : List UInt8) ++ Lib.trimPrefix d abroad) = X at HF
          generalize ([43] : List UInt8) ++ Lib.trimPrefix d abroad = M at *
          obtain ⟨er, x1, x2, x3⟩ := X
          simp only at HF ⊢
          by_cases he : er = 0
          · subst he
            have HF2 : Hid (R = (0, M)) := HF.out
            go_wp2_with fail
            go_ret2
            exact ⟨by rw [HF2.out]; rfl, ext_alloc HB5.out⟩
          · have HF2 : Hid (R = (er, [])) := by show _ = _; rw [HF.out, if_pos he]
            go_wp2_with fail
            go_ret2
            exact ⟨by rw [HF2.out]; rfl, ext_alloc HB5.out⟩
end Go.Proofs.YthajppcmmmkfcaaGreatDoor
