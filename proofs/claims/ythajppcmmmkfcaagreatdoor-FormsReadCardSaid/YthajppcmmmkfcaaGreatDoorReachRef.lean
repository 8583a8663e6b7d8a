/- What is proved here: the number that is reached from a home, as the reference reckons. Condition: the plan is right and lies in memory as stated; the home's country is in it. -/
import Derived.Test.YthajppcmmmkfcaaGreatDoorReach
import Derived.Test.YthajppcmmmkfcaaGreatDoorHomes
set_option linter.unusedVariables false
set_option linter.unusedSimpArgs false
namespace Go.Proofs.YthajppcmmmkfcaaGreatDoor
open Go.RowKit

theorem pre_le {s p : List UInt8} (h : Lib.hasPrefix s p = true) : p.length ≤ s.length := (List.isPrefixOf_iff_prefix.1 h).length_le

set_option maxRecDepth 100000 in
set_option maxHeartbeats 4000000 in
theorem reachedFrom_any (w : World) (a : Option Addr) (n cap : Nat) (l : List Ctry) (hr : CtryRow w a n l) (hcap : n ≤ cap) (hne : 1 ≤ n) (hE : planErr l = 0) (c : Ctry) (code0 area d : List UInt8) (hfc : (l.find? fun c => c.code == code0) = some c) (ha : area.length ≤ 100) (hd : d.length ≤ 1000) :
    Calls Tryz.prog 22 #[.slice a n cap, .agg #[.string ⟨code0.toArray⟩, .string ⟨area.toArray⟩], .string ⟨d.toArray⟩] w (StrPost (reachP l c area d) w) := by
  have HR := Lib.hid hr
  have HLEN := Lib.hid hr.len
  have hfew := hr.few
  have HE0 := Lib.hid hE
  have HFC := Lib.hid hfc
  rcases hr.row with h0 | ⟨b, off, rfl, hb, _⟩
  · omega
  have HDEF : Hid (reachP l c area d = if digitsB d 1 30 = false then ((3 : Int), ([] : List UInt8)) else match reachN c area d with | none => (8, []) | some n => if (splitP l n).err ≠ 0 then ((splitP l n).err, []) else (0, n)) := rfl
  generalize reachP l c area d = R at HDEF ⊢
  clear hr hE hfc
  go_enter Tryz.func22, Tryz.ntmps22
  go_wp2_with fail
  refine (digital_l d 1 30 _ (by omega)).mono ?_
  rintro e w1 ⟨rfl, hb1⟩
  have e0 : w1.cell? ⟨w.heap.size, 0, none⟩ = some (.string ⟨code0.toArray⟩) := (hb1.cell (p := ⟨w.heap.size, 0, none⟩) (by simp)).trans (by go_simp)
  have e1 : w1.cell? ⟨w.heap.size, 1, none⟩ = some (.string ⟨area.toArray⟩) := (hb1.cell (p := ⟨w.heap.size, 1, none⟩) (by simp)).trans (by go_simp)
  have HB1 : Hid (Below w.heap.size w w1) := ext_trans (ext_alloc (Below.refl _ _)) hb1
  have hz1 : w.heap.size < w1.heap.size := by have := hb1.size; simp at this; omega
  have HLN : Hid (digitsB d 1 30 = true → (d.length : Int) ≤ 30) := digits_len
  clear hb1
  generalize digitsB d 1 30 = g at HDEF HLN ⊢
  cases g
  · have HF : Hid (R = (3, [])) := HDEF.out
    as_aux_lemma =>
      go_wp2_with fail
      go_ret2
      exact ⟨by rw [HF.out]; rfl, HB1.out⟩
  · have hdl : d.length ≤ 30 := by have := HLN.out rfl; omega
    have HD2 : Hid (R = match reachN c area d with | none => (8, []) | some n => if (splitP l n).err ≠ 0 then ((splitP l n).err, []) else (0, n)) := HDEF.out
    clear HDEF HLN
    as_aux_lemma =>
      go_wp2_with fail
      refine (countryAt_any _ _ n cap l (HR.out.below HB1.out) hne code0).mono ?_
      rintro e w2 ⟨r, rfl, hcase, hb2⟩
      have e1' := (hb2.cell (p := ⟨w.heap.size, 1, none⟩) hz1).trans e1
      have HB2 : Hid (Below w.heap.size w w2) := ext_trans HB1.out hb2
      have hz2 : w.heap.size < w2.heap.size := Nat.lt_of_lt_of_le hz1 hb2.size
      have HR2 : Hid (∀ W, Below w2.heap.size w2 W → CtryRow W (some ⟨b, off, none⟩) n l) := fun W h => HR.out.below (ext_trans HB2.out h)
      clear hb2 e0 e1 hz1 HB1
      rcases hcase with ⟨rfl, hnone⟩ | ⟨k, rfl, hk, hsome⟩
      · rw [HFC.out] at hnone; cases hnone
      · have hck : l.getD k noCtry = c := by rw [HFC.out] at hsome; injection hsome with h; exact h.symm
        have hRw := HR2.out w2 (Below.refl _ _)
        rcases hRw.row with h0 | ⟨b9, off9, ha9, hb9, hcl⟩
        · omega
        injection ha9 with ha9
        injection ha9 with x1 x2
        subst x1 x2
        have hkn : k < n := by have := HLEN.out; omega
        have k0 := hcl k hkn 0 (by omega)
        have k1 := hcl k hkn 1 (by omega)
        have k2 := hcl k hkn 2 (by omega)
        have k3 := hcl k hkn 3 (by omega)
        have HFI := hRw.each k hk
        rw [hck] at k0 k1 k2 k3 HFI
        clear hcl hsome hck hRw
        obtain ⟨code, abroad, trunk, aa, an, ac, areas⟩ := c
        simp only [Ctry.cells, List.getElem?_cons_zero, List.getElem?_cons_succ, Nat.add_zero] at k0 k1 k2 k3
        have h1 : code.length ≤ 100 := HFI.code
        have h2 : abroad.length ≤ 100 := HFI.abroad
        have h3 : trunk.length ≤ 100 := HFI.trunk
        clear HFI
        have HPA := Lib.hid (fun w => hasPrefix_l d abroad w)
        have HPT := Lib.hid (fun w => hasPrefix_l d trunk w)
        have HLA : Hid (Lib.hasPrefix d abroad = true → abroad.length ≤ d.length) := pre_le
        have HLT : Hid (Lib.hasPrefix d trunk = true → trunk.length ≤ d.length) := pre_le
        as_aux_lemma =>
          go_wp2_with fail
          refine (HPA.out _).mono ?_
          rintro e w' ⟨rfl, rfl⟩
          cases hg1 : Lib.hasPrefix d abroad
          · have HG1 := Lib.hid hg1
            as_aux_lemma =>
              go_wp2_with fail
              refine (HPT.out _).mono ?_
              rintro e w' ⟨rfl, rfl⟩
              cases hg2 : Lib.hasPrefix d trunk
              · have HG2 := Lib.hid hg2
                by_cases harea : area = []
                · have HF : Hid (R = (8, [])) := by
                    show _ = _
                    rw [HD2.out, show reachN ⟨code, abroad, trunk, aa, an, ac, areas⟩ area d = none by unfold reachN; simp only; rw [if_neg (by rw [HG1.out]; decide), if_neg (by rw [HG2.out]; decide), if_neg (by simp [harea])]]
                  subst harea
                  as_aux_lemma =>
                    go_wp2_with fail
                    go_ret2
                    exact ⟨by rw [HF.out]; rfl, ext_alloc HB2.out⟩
                · have hne2 : area.isEmpty = false := by
                    cases area with
                    | nil => exact absurd rfl harea
                    | cons x xs => rfl
                  have HAE := Lib.hid harea
                  clear harea
                  have HF : Hid (R = if (splitP l ((([43] : List UInt8) ++ code) ++ area ++ d)).err ≠ 0 then ((splitP l ((([43] : List UInt8) ++ code) ++ area ++ d)).err, []) else (0, (([43] : List UInt8) ++ code) ++ area ++ d)) := by
                    show _ = _
                    rw [HD2.out, show reachN ⟨code, abroad, trunk, aa, an, ac, areas⟩ area d = some ((([43] : List UInt8) ++ code) ++ area ++ d) from (by unfold reachN; simp only; rw [if_neg (by rw [HG1.out]; decide), if_neg (by rw [HG2.out]; decide), if_pos HAE.out]; simp)]
                  have hNl : ((([43] : List UInt8) ++ code) ++ area ++ d).length ≤ 1000 := by simp only [List.length_append, List.length_cons, List.length_nil, List.length_drop]; omega
                  as_aux_lemma =>
                    go_wp2_with fail
                    rw [cat_str, cat_str, cat_str]
                    refine (splitOf_any _ _ n cap l (HR2.out _ (by (try show Below _ _ _); repeat (with_reducible first | exact Below.refl _ _ | assumption | exact Hid.out (by assumption) | refine ext_alloc ?_ | refine ext_drewN ?_ | refine ext_drew ?_ | refine ext_setCell ?_ (Nat.le_refl _) | refine ext_setCell ?_ (Nat.le_succ _) | refine ext_trans ?_ (by assumption) | (refine ext_setCell ?_ (by simp)) | (refine ext_setCell ?_ (by simp at *; omega))))) hcap ((([43] : List UInt8) ++ code) ++ area ++ d) hNl).mono ?_
                    rintro e w5 ⟨rfl, hb5⟩
                    have HB5 : Hid (Below w.heap.size w w5) := ext_trans (by (try show Below _ _ _); repeat (with_reducible first | exact Below.refl _ _ | assumption | exact Hid.out (by assumption) | refine ext_alloc ?_ | refine ext_drewN ?_ | refine ext_drew ?_ | refine ext_setCell ?_ (Nat.le_refl _) | refine ext_setCell ?_ (Nat.le_succ _) | refine ext_trans ?_ (by assumption) | (refine ext_setCell ?_ (by simp)) | (refine ext_setCell ?_ (by simp at *; omega)))) hb5
                    clear hb5
                    rw [split_same _ HE0.out]
                    generalize splitP l ((([43] : List UInt8) ++ code) ++ area ++ d) = X at HF
                    generalize (([43] : List UInt8) ++ code) ++ area ++ d = M at *
                    obtain ⟨er, x1, x2, x3⟩ := X
                    simp only at HF ⊢
                    by_cases he : er = 0
                    · subst he
                      have HF2 : Hid (R = (0, M)) := HF.out
                      go_wp2_with fail
                      go_ret2
                      exact ⟨by rw [HF2.out]; rfl, ext_alloc HB5.out⟩
                    · have HF2 : Hid (R = (er, [])) := by show _ = _; rw [HF.out, if_pos he]
                      go_wp2_with fail
                      go_ret2
                      exact ⟨by rw [HF2.out]; rfl, ext_alloc HB5.out⟩
              · have HG2 := Lib.hid hg2
                have htl := HLT.out hg2
                have HF : Hid (R = if (splitP l ((([43] : List UInt8) ++ code) ++ d.drop trunk.length)).err ≠ 0 then ((splitP l ((([43] : List UInt8) ++ code) ++ d.drop trunk.length)).err, []) else (0, (([43] : List UInt8) ++ code) ++ d.drop trunk.length)) := by
                  show _ = _
                  rw [HD2.out, show reachN ⟨code, abroad, trunk, aa, an, ac, areas⟩ area d = some ((([43] : List UInt8) ++ code) ++ d.drop trunk.length) from (by unfold reachN; simp only; rw [if_neg (by rw [HG1.out]; decide), if_pos HG2.out]; simp)]
                have hNl : ((([43] : List UInt8) ++ code) ++ d.drop trunk.length).length ≤ 1000 := by simp only [List.length_append, List.length_cons, List.length_nil, List.length_drop]; omega
                as_aux_lemma =>
                  go_wp2_with fail
                  go_quiet (fail)
                  go_wp2_with fail
                  rw [extract_drop, cat_str, cat_str]
                  refine (splitOf_any _ _ n cap l (HR2.out _ (by (try show Below _ _ _); repeat (with_reducible first | exact Below.refl _ _ | assumption | exact Hid.out (by assumption) | refine ext_alloc ?_ | refine ext_drewN ?_ | refine ext_drew ?_ | refine ext_setCell ?_ (Nat.le_refl _) | refine ext_setCell ?_ (Nat.le_succ _) | refine ext_trans ?_ (by assumption) | (refine ext_setCell ?_ (by simp)) | (refine ext_setCell ?_ (by simp at *; omega))))) hcap ((([43] : List UInt8) ++ code) ++ d.drop trunk.length) hNl).mono ?_
                  rintro e w5 ⟨rfl, hb5⟩
                  have HB5 : Hid (Below w.heap.size w w5) := ext_trans (by (try show Below _ _ _); repeat (with_reducible first | exact Below.refl _ _ | assumption | exact Hid.out (by assumption) | refine ext_alloc ?_ | refine ext_drewN ?_ | refine ext_drew ?_ | refine ext_setCell ?_ (Nat.le_refl _) | refine ext_setCell ?_ (Nat.le_succ _) | refine ext_trans ?_ (by assumption) | (refine ext_setCell ?_ (by simp)) | (refine ext_setCell ?_ (by simp at *; omega)))) hb5
                  clear hb5
                  rw [split_same _ HE0.out]
                  generalize splitP l ((([43] : List UInt8) ++ code) ++ d.drop trunk.length) = X at HF
                  generalize (([43] : List UInt8) ++ code) ++ d.drop trunk.length = M at *
                  obtain ⟨er, x1, x2, x3⟩ := X
                  simp only at HF ⊢
                  by_cases he : er = 0
                  · subst he
                    have HF2 : Hid (R = (0, M)) := HF.out
                    go_wp2_with fail
                    go_ret2
                    exact ⟨by rw [HF2.out]; rfl, ext_alloc HB5.out⟩
                  · have HF2 : Hid (R = (er, [])) := by show _ = _; rw [HF.out, if_pos he]
                    go_wp2_with fail
                    go_ret2
                    exact ⟨by rw [HF2.out]; rfl, ext_alloc HB5.out⟩
          · have HG1 := Lib.hid hg1
            have htl := HLA.out hg1
            have HF : Hid (R = if (splitP l (([43] : List UInt8) ++ d.drop abroad.length)).err ≠ 0 then ((splitP l (([43] : List UInt8) ++ d.drop abroad.length)).err, []) else (0, ([43] : List UInt8) ++ d.drop abroad.length)) := by
              show _ = _
              rw [HD2.out, show reachN ⟨code, abroad, trunk, aa, an, ac, areas⟩ area d = some (([43] : List UInt8) ++ d.drop abroad.length) from (by unfold reachN; simp only; rw [if_pos HG1.out]; simp)]
            have hNl : (([43] : List UInt8) ++ d.drop abroad.length).length ≤ 1000 := by simp only [List.length_append, List.length_cons, List.length_nil, List.length_drop]; omega
            as_aux_lemma =>
              go_wp2_with fail
              rw [extract_drop, cat_str]
              refine (splitOf_any _ _ n cap l (HR2.out _ (by (try show Below _ _ _); repeat (with_reducible first | exact Below.refl _ _ | assumption | exact Hid.out (by assumption) | refine ext_alloc ?_ | refine ext_drewN ?_ | refine ext_drew ?_ | refine ext_setCell ?_ (Nat.le_refl _) | refine ext_setCell ?_ (Nat.le_succ _) | refine ext_trans ?_ (by assumption) | (refine ext_setCell ?_ (by simp)) | (refine ext_setCell ?_ (by simp at *; omega))))) hcap (([43] : List UInt8) ++ d.drop abroad.length) hNl).mono ?_
              rintro e w5 ⟨rfl, hb5⟩
              have HB5 : Hid (Below w.heap.size w w5) := ext_trans (by (try show Below _ _ _); repeat (with_reducible first | exact Below.refl _ _ | assumption | exact Hid.out (by assumption) | refine ext_alloc ?_ | refine ext_drewN ?_ | refine ext_drew ?_ | refine ext_setCell ?_ (Nat.le_refl _) | refine ext_setCell ?_ (Nat.le_succ _) | refine ext_trans ?_ (by assumption) | (refine ext_setCell ?_ (by simp)) | (refine ext_setCell ?_ (by simp at *; omega)))) hb5
              clear hb5
              rw [split_same _ HE0.out]
              generalize splitP l (([43] : List UInt8) ++ d.drop abroad.length) = X at HF
              generalize ([43] : List UInt8) ++ d.drop abroad.length = M at *
              obtain ⟨er, x1, x2, x3⟩ := X
              simp only at HF ⊢
              by_cases he : er = 0
              · subst he
                have HF2 : Hid (R = (0, M)) := HF.out
                go_wp2_with fail
                go_ret2
                exact ⟨by rw [HF2.out]; rfl, ext_alloc HB5.out⟩
              · have HF2 : Hid (R = (er, [])) := by show _ = _; rw [HF.out, if_pos he]
                go_wp2_with fail
                go_ret2
                exact ⟨by rw [HF2.out]; rfl, ext_alloc HB5.out⟩
end Go.Proofs.YthajppcmmmkfcaaGreatDoor
