/- What is proved here: how Form of package number writes a number. Condition: the plan lies in memory as stated. -/
import Derived.Test.YthajppcmmmkfcaaGreatDoorGroups
import Derived.Test.YthajppcmmmkfcaaGreatDoorOpenWalk
set_option linter.unusedVariables false
set_option linter.unusedSimpArgs false
namespace Go.Proofs.YthajppcmmmkfcaaGreatDoor
open Go.RowKit

theorem spl_len {w : World} {a : Option Addr} {n : Nat} {l : List Ctry} (hr : CtryRow w a n l) (s : List UInt8) : (splitP l s).code.length ≤ 100 ∧ (splitP l s).area.length ≤ 100 ∧ (splitP l s).rest.length ≤ s.length := by
  unfold splitP
  split
  · simp [noSpl]
  · unfold splitIn
    cases hf : l.find? (fun c => Lib.hasPrefix (s.drop 1) c.code) with
    | none => simp [noSpl]
    | some c =>
      obtain ⟨i, hi, rfl⟩ := List.getElem_of_mem (List.mem_of_find?_eq_some hf)
      have hfin := hr.each i hi
      rw [show l.getD i noCtry = l[i] by simp [hi]] at hfin
      simp only [Option.bind_some]
      unfold inAreas
      cases hg : l[i].areas.find? (fun a => Lib.hasPrefix (s.drop (1 + l[i].code.length)) a.pre) with
      | none => simp [noSpl]
      | some x =>
        obtain ⟨j, hj, rfl⟩ := List.getElem_of_mem (List.mem_of_find?_eq_some hg)
        have hx := hfin.each j hj
        rw [show l[i].areas.getD j noArea = l[i].areas[j] by simp [hj]] at hx
        simp only [Option.map_some, Option.getD_some]
        unfold inArea
        split
        · simp [noSpl]
        · exact ⟨hfin.code, hx.pre, by simp⟩
theorem ctry_len {w : World} {a : Option Addr} {n : Nat} {l : List Ctry} (hr : CtryRow w a n l) {p : Ctry → Bool} {c : Ctry} (h : l.find? p = some c) : c.code.length ≤ 100 ∧ c.abroad.length ≤ 100 ∧ c.trunk.length ≤ 100 := by
  obtain ⟨i, hi, rfl⟩ := List.getElem_of_mem (List.mem_of_find?_eq_some h)
  have := hr.each i hi
  rw [show l.getD i noCtry = l[i] by simp [hi]] at this
  exact ⟨this.code, this.abroad, this.trunk⟩

def formTop (l : List Ctry) (code area n : List UInt8) : Int × List UInt8 :=
  if planErr l ≠ 0 then (planErr l, []) else match homeC l code area with
    | none => (8, [])
    | some c => if (splitP l n).err ≠ 0 then ((splitP l n).err, []) else (0, formP c (splitP l n))

set_option maxRecDepth 100000 in
set_option maxHeartbeats 4000000 in
theorem form_any (w : World) (a : Option Addr) (n cap : Nat) (l : List Ctry) (hr : CtryRow w a n l) (hcap : n ≤ cap) (hne : 1 ≤ n) (hna : ∀ i, i < l.length → 1 ≤ (l.getD i noCtry).an) (code0 area s : List UInt8) (hs : s.length ≤ 1000) :
    Calls Tryz.prog 29 #[.slice a n cap, .agg #[.string ⟨code0.toArray⟩, .string ⟨area.toArray⟩], .string ⟨s.toArray⟩] w (StrPost (formTop l code0 area s) w) := by
  have HR := Lib.hid hr
  have HNA := Lib.hid hna
  have HDEF : Hid (formTop l code0 area s = if planErr l ≠ 0 then (planErr l, ([] : List UInt8)) else match homeC l code0 area with | none => (8, []) | some c => if (splitP l s).err ≠ 0 then ((splitP l s).err, []) else (0, formP c (splitP l s))) := rfl
  generalize formTop l code0 area s = R at HDEF ⊢
  clear hr hna
  go_enter Tryz.func29, Tryz.ntmps29
  go_wp2_with fail
  refine (open_any _ a n cap l (HR.out.below (ext_alloc (Below.refl _ _))) hcap hne code0 area).mono ?_
  rintro e w1 ⟨hcase, hb1⟩
  have HB1 : Hid (Below w.heap.size w w1) := ext_trans (ext_alloc (Below.refl _ _)) hb1
  clear hb1
  rcases hcase with ⟨c, hpe, hhc, rfl⟩ | ⟨er, her, hcase, rfl⟩
  · have hcl := ctry_len HR.out (p := homeP code0 area) hhc
    have HD2 : Hid (R = if (splitP l s).err ≠ 0 then ((splitP l s).err, ([] : List UInt8)) else (0, formP c (splitP l s))) := by
      show _ = _
      rw [HDEF.out, if_neg (by simp [hpe]), hhc]
    clear HDEF hpe hhc
    generalize homeX c area = x
    obtain ⟨xp, xl, xh⟩ := x
    obtain ⟨code, abroad, trunk, aa, an, ac, areas⟩ := c
    obtain ⟨h1, h2, h3⟩ := hcl
    simp only [Ctry.cells, Area.cells] at h1 h2 h3 ⊢
    as_aux_lemma =>
      go_wp2_with fail
      refine (split_any _ a n cap l (HR.out.below (by (try show Below _ _ _); repeat (with_reducible first | exact Below.refl _ _ | assumption | exact Hid.out (by assumption) | refine ext_alloc ?_ | refine ext_drewN ?_ | refine ext_drew ?_ | refine ext_setCell ?_ (Nat.le_refl _) | refine ext_setCell ?_ (Nat.le_succ _) | refine ext_trans ?_ (by assumption) | (refine ext_setCell ?_ (by simp)) | (refine ext_setCell ?_ (by simp at *; omega))))) hne HNA.out s hs).mono ?_
      rintro e w5 ⟨y0, y1, y2, ya, yn, yc, y4, y5, y6, rfl, hb5⟩
      have c0 : w5.cell? ⟨w1.heap.size, 0, none⟩ = some (.string ⟨code.toArray⟩) := (hb5.cell (p := ⟨w1.heap.size, 0, none⟩) (by simp; omega)).trans (by go_simp)
      have c2 : w5.cell? ⟨w1.heap.size, 2, none⟩ = some (.string ⟨trunk.toArray⟩) := (hb5.cell (p := ⟨w1.heap.size, 2, none⟩) (by simp; omega)).trans (by go_simp)
      have hz5 : w1.heap.size < w5.heap.size := by have := hb5.size; simp at this; omega
      have HB5 : Hid (Below w.heap.size w w5) := ext_trans (by (try show Below _ _ _); repeat (with_reducible first | exact Below.refl _ _ | assumption | exact Hid.out (by assumption) | refine ext_alloc ?_ | refine ext_drewN ?_ | refine ext_drew ?_ | refine ext_setCell ?_ (Nat.le_refl _) | refine ext_setCell ?_ (Nat.le_succ _) | refine ext_trans ?_ (by assumption) | (refine ext_setCell ?_ (by simp)) | (refine ext_setCell ?_ (by simp at *; omega)))) hb5
      obtain ⟨z1, z2, z3⟩ := spl_len HR.out s
      clear hb5
      generalize splitP l s = X at HD2 z1 z2 z3 ⊢
      obtain ⟨er, x1, x2, x3⟩ := X
      simp only at HD2 z1 z2 z3 ⊢
      generalize w1.heap.size = G at *
      by_cases he : er = 0
      · subst he
        have HD3 := HD2
        by_cases hcode : x1 = code
        · obtain rfl : code = x1 := hcode.symm
          have HP : Hid (formP ⟨code, abroad, trunk, aa, an, ac, areas⟩ ⟨0, code, x2, x3⟩ = (((([40] : List UInt8) ++ trunk) ++ x2) ++ ([41, 32] : List UInt8)) ++ groupsB x3) := by
            show _ = _
            unfold formP formPre
            simp only
            rw [if_pos trivial]
            simp
          as_aux_lemma =>
            go_wp2_with fail
            rw [cat_str, cat_str, cat_str]
            have hPl : (((([40] : List UInt8) ++ trunk) ++ x2) ++ ([41, 32] : List UInt8)).length ≤ 400 := by simp only [List.length_append, List.length_cons, List.length_nil]; omega
            generalize ((([40] : List UInt8) ++ trunk) ++ x2) ++ ([41, 32] : List UInt8) = p0 at *
            go_loopw [12, 13] (fun y x wr => ∃ o r : List UInt8, y = .string ⟨o.toArray⟩ ∧ x = .string ⟨r.toArray⟩ ∧ Hid (o ++ groupsB r = p0 ++ groupsB x3) ∧ o.length + 2 * r.length ≤ 3000 ∧ Hid (Below w.heap.size w wr)) (fun _ x _ => strSz x)
            case atStart => exact ⟨p0, x3, rfl, rfl, rfl, by omega, (by (try show Below _ _ _); repeat (with_reducible first | exact Below.refl _ _ | assumption | exact Hid.out (by assumption) | refine ext_alloc ?_ | refine ext_drewN ?_ | refine ext_drew ?_ | refine ext_setCell ?_ (Nat.le_refl _) | refine ext_setCell ?_ (Nat.le_succ _) | refine ext_trans ?_ (by assumption) | (refine ext_setCell ?_ (by simp)) | (refine ext_setCell ?_ (by simp at *; omega))))⟩
            case round =>
              obtain ⟨o, r, rfl, rfl, HG, hlen, HBR⟩ := hrel
              by_cases hlt : 4 < r.length
              · have h3' : 3 ≤ r.length := by omega
                have HG2 : Hid ((o ++ (r.take 3 ++ [45])) ++ groupsB (r.drop 3) = p0 ++ groupsB x3) := by
                  show _ = _
                  rw [← HG.out, groups_more hlt]
                  simp
                have htk : (r.take 3).length = 3 := by simp; omega
                go_wp2_with fail
                rw [ext_take, extract_drop, cat_str, cat_str]
                go_roundw
                case rel => exact ⟨_, _, rfl, rfl, HG2, by simp; omega, HBR⟩
                case measure => rw [strSz_l, strSz_l]; simp; omega
              · have HF : Hid (R = (0, o ++ r)) := by
                  show _ = _
                  rw [HD3.out, if_neg (by simp), HP.out, ← HG.out, groups_end hlt]
                have hol : o.length ≤ 3000 := by omega
                go_wp2_with fail
                rw [cat_str]
                go_ret2
                exact ⟨by rw [HF.out]; rfl, HBR.out⟩
        · have hne2 : (x1 == code) = false := by simpa using hcode
          have hne3 : ¬ (x1 = code) := hcode
          have HP : Hid (formP ⟨code, abroad, trunk, aa, an, ac, areas⟩ ⟨0, x1, x2, x3⟩ = ((((([43] : List UInt8) ++ x1) ++ ([32] : List UInt8)) ++ x2) ++ ([32] : List UInt8)) ++ groupsB x3) := by
            show _ = _
            unfold formP formPre
            simp only
            rw [if_neg hne3]
            simp
          as_aux_lemma =>
            go_wp2_with fail
            simp only [cat_str]
            have hPl : ((((([43] : List UInt8) ++ x1) ++ ([32] : List UInt8)) ++ x2) ++ ([32] : List UInt8)).length ≤ 400 := by simp only [List.length_append, List.length_cons, List.length_nil]; omega
            generalize (((([43] : List UInt8) ++ x1) ++ ([32] : List UInt8)) ++ x2) ++ ([32] : List UInt8) = p0 at *
            go_loopw [12, 13] (fun y x wr => ∃ o r : List UInt8, y = .string ⟨o.toArray⟩ ∧ x = .string ⟨r.toArray⟩ ∧ Hid (o ++ groupsB r = p0 ++ groupsB x3) ∧ o.length + 2 * r.length ≤ 3000 ∧ Hid (Below w.heap.size w wr)) (fun _ x _ => strSz x)
            case atStart => exact ⟨p0, x3, rfl, rfl, rfl, by omega, (by (try show Below _ _ _); repeat (with_reducible first | exact Below.refl _ _ | assumption | exact Hid.out (by assumption) | refine ext_alloc ?_ | refine ext_drewN ?_ | refine ext_drew ?_ | refine ext_setCell ?_ (Nat.le_refl _) | refine ext_setCell ?_ (Nat.le_succ _) | refine ext_trans ?_ (by assumption) | (refine ext_setCell ?_ (by simp)) | (refine ext_setCell ?_ (by simp at *; omega))))⟩
            case round =>
              obtain ⟨o, r, rfl, rfl, HG, hlen, HBR⟩ := hrel
              by_cases hlt : 4 < r.length
              · have h3' : 3 ≤ r.length := by omega
                have HG2 : Hid ((o ++ (r.take 3 ++ [45])) ++ groupsB (r.drop 3) = p0 ++ groupsB x3) := by
                  show _ = _
                  rw [← HG.out, groups_more hlt]
                  simp
                have htk : (r.take 3).length = 3 := by simp; omega
                go_wp2_with fail
                rw [ext_take, extract_drop, cat_str, cat_str]
                go_roundw
                case rel => exact ⟨_, _, rfl, rfl, HG2, by simp; omega, HBR⟩
                case measure => rw [strSz_l, strSz_l]; simp; omega
              · have HF : Hid (R = (0, o ++ r)) := by
                  show _ = _
                  rw [HD3.out, if_neg (by simp), HP.out, ← HG.out, groups_end hlt]
                have hol : o.length ≤ 3000 := by omega
                go_wp2_with fail
                rw [cat_str]
                go_ret2
                exact ⟨by rw [HF.out]; rfl, HBR.out⟩
      · have HF2 : Hid (R = (er, [])) := by show _ = _; rw [HD2.out, if_pos he]
        as_aux_lemma =>
          go_wp2_with fail
          go_ret2
          exact ⟨by rw [HF2.out]; rfl, ext_alloc HB5.out⟩
  · have HF : Hid (R = (er, [])) := by
      show _ = _
      rcases hcase with h | ⟨h, rfl, h2⟩
      · rw [HDEF.out, if_pos (by rw [h]; exact her), h]
      · rw [HDEF.out, if_neg (by simp [h]), h2]
    clear HDEF hcase
    simp only [Ctry.cells, Area.cells, noCtry, noArea]
    as_aux_lemma =>
      go_wp2_with fail
      go_ret2
      exact ⟨by rw [HF.out]; rfl, (by (try show Below _ _ _); repeat (with_reducible first | exact Below.refl _ _ | assumption | exact Hid.out (by assumption) | refine ext_alloc ?_ | refine ext_drewN ?_ | refine ext_drew ?_ | refine ext_setCell ?_ (Nat.le_refl _) | refine ext_setCell ?_ (Nat.le_succ _) | refine ext_trans ?_ (by assumption) | (refine ext_setCell ?_ (by simp)) | (refine ext_setCell ?_ (by simp at *; omega))))⟩
end Go.Proofs.YthajppcmmmkfcaaGreatDoor
