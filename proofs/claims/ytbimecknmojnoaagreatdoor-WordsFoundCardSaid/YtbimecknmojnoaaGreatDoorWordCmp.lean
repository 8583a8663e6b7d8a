/- What is proved here: what slices.Compare answers at words that lie in memory. No condition beyond those stated. -/
import Derived.Test.YtbimecknmojnoaaGreatDoorWordWalk
set_option linter.unusedVariables false
set_option linter.unusedSimpArgs false
namespace Go.Proofs.YtbimecknmojnoaaGreatDoor
open Go.RowKit

theorem lessL_same (z : List Wd) : ∀ (x y : List Wd), lessL (z ++ x) (z ++ y) = lessL x y := by
  intro x y
  induction z with
  | nil => rfl
  | cons a z ih =>
    rw [List.cons_append, List.cons_append]
    conv => lhs; unfold lessL
    rw [less_irrefl, ih]
    simp
theorem lessL_at {x y : List Wd} {k : Nat} (hx : k < x.length) (hy : k < y.length) (he : x.take k = y.take k) (hne : x.getD k [] ≠ y.getD k []) : lessL x y = Op.bytesLess (x.getD k []) (y.getD k []) := by
  have h1 : x = y.take k ++ (x.getD k [] :: x.drop (k + 1)) := by
    rw [← he]
    conv => lhs; rw [← List.take_append_drop k x, List.drop_eq_getElem_cons hx]
    simp [hx]
  have h2 : y = y.take k ++ (y.getD k [] :: y.drop (k + 1)) := by
    conv => lhs; rw [← List.take_append_drop k y, List.drop_eq_getElem_cons hy]
    simp [hy]
  have h3 : lessL x y = lessL (y.take k ++ (x.getD k [] :: x.drop (k + 1))) (y.take k ++ (y.getD k [] :: y.drop (k + 1))) := congr (congrArg lessL h1) h2
  rw [h3, lessL_same]
  conv => lhs; unfold lessL
  rw [show (x.getD k [] == y.getD k []) = false by simpa using hne]
  simp
theorem take_more {x y : List Wd} {k : Nat} (hx : k < x.length) (hy : k < y.length) (he : x.take k = y.take k) (heq : x.getD k [] = y.getD k []) : x.take (k + 1) = y.take (k + 1) := by
  rw [List.take_add_one, List.take_add_one, he, List.getElem?_eq_getElem hx, List.getElem?_eq_getElem hy]
  simp [hx, hy] at heq
  rw [heq]
theorem isNaN_str (a : ByteArray) (w : World) : Calls Tryz.prog 188 #[.string a] w fun e w' => e = .returned (.bool false) ∧ w = w' := by
  go_enter Tryz.func188, Tryz.ntmps188
  go_wp2
  go_ret
  exact ⟨rfl, rfl⟩
def cmpS (a b : Wd) : Int := if Op.bytesLess a b = true then -1 else if a = b then 0 else 1
theorem cmpS_any (a b : Wd) (w : World) : Calls Tryz.prog 128 #[.string ⟨a.toArray⟩, .string ⟨b.toArray⟩] w fun e w' => e = .returned (.int .i64 (cmpS a b)) ∧ w = w' := by
  have hcon := isNaN_str
  unfold cmpS
  by_cases h1 : Op.bytesLess a b = true
  · rw [if_pos h1]
    go_enter Tryz.func128, Tryz.ntmps128
    go_wp2_with (go_at_call 188; refine (hcon _ _).mono ?_; rintro e w' ⟨rfl, rfl⟩)
    go_ret
    exact ⟨rfl, rfl⟩
  · rw [if_neg h1]
    have h1' : Op.bytesLess a b = false := by simpa using h1
    by_cases h2 : a = b
    · subst h2
      rw [if_pos rfl]
      go_enter Tryz.func128, Tryz.ntmps128
      go_wp2_with (go_at_call 188; refine (hcon _ _).mono ?_; rintro e w' ⟨rfl, rfl⟩)
      go_ret
      exact ⟨rfl, rfl⟩
    · rw [if_neg h2]
      have h3 : (a == b) = false := by simpa using h2
      go_enter Tryz.func128, Tryz.ntmps128
      go_wp2_with (go_at_call 188; refine (hcon _ _).mono ?_; rintro e w' ⟨rfl, rfl⟩)
      go_ret
      exact ⟨rfl, rfl⟩

set_option maxRecDepth 100000 in
set_option maxHeartbeats 2000000 in
theorem compareW_any (w : World) (a a2 : Option Addr) (n c c2 : Nat) (x y : List Wd) (h : WRow w a n x) (h2 : WRow w a2 n y) : Calls Tryz.prog 82 #[.slice a n c, .slice a2 n c2] w fun e w' => ∃ r : Int, e = .returned (.int .i64 r) ∧ (r < 0 ↔ lessL x y = true) ∧ Below w.heap.size w w' := by
  have HL := Lib.hid h.1
  have HL2 := Lib.hid h2.1
  have HR := Lib.hid h.2.2
  have HR2 := Lib.hid h2.2.2
  have hn := h.2.1
  clear h h2
  go_enter Tryz.func82, Tryz.ntmps82
  go_wp2_with fail
  go_loopw [11] (fun i wr => ∃ k : Nat, k ≤ n ∧ i = .int .i64 k ∧ Hid (x.take k = y.take k) ∧ Hid (Below w.heap.size w wr)) (fun i _ => n - (intOf i).toNat)
  case atStart => exact ⟨0, Nat.zero_le _, rfl, rfl, Below.refl _ _⟩
  case round =>
    obtain ⟨k, hk, rfl, HE, HB⟩ := hrel
    by_cases hlt : k < n
    · rcases HR.out with h0 | ⟨b, off, rfl, hb, hc⟩
      · omega
      rcases HR2.out with h0 | ⟨b2, off2, rfl, hb2, hc2⟩
      · omega
      have hbs := HB.out.size
      have c0 := (HB.out.cell (p := ⟨b, off + k, none⟩) hb).trans (hc k hlt)
      have c1 := (HB.out.cell (p := ⟨b2, off2 + k, none⟩) hb2).trans (hc2 k hlt)
      have zb : b < wr.heap.size := by omega
      have zb2 : b2 < wr.heap.size := by omega
      have hx : k < x.length := by rw [← HL.out]; exact hlt
      have hy : k < y.length := by rw [← HL2.out]; exact hlt
      have HM : Hid (x.getD k [] = y.getD k [] → x.take (k + 1) = y.take (k + 1)) := take_more hx hy HE.out
      have HA : Hid (x.getD k [] ≠ y.getD k [] → lessL x y = Op.bytesLess (x.getD k []) (y.getD k [])) := lessL_at hx hy HE.out
      clear hc hc2 hx hy HR HR2
      generalize x.getD k [] = u at c0 HM HA
      generalize y.getD k [] = v at c1 HM HA
      have hkn : ¬ ((n : Int) ≤ k) := by omega
      as_aux_lemma =>
        go_wp2_with fail
        refine (cmpS_any u v _).mono ?_
        rintro e w2 ⟨rfl, rfl⟩
        by_cases huv : u = v
        · subst huv
          have HM2 := Lib.hid (HM.out rfl)
          rw [show cmpS u u = 0 by unfold cmpS; rw [less_irrefl]; simp]
          as_aux_lemma =>
            go_wp2_with fail
            go_roundw
            case rel => exact ⟨k + 1, by omega, by go_num, HM2.out, (by (try show Below _ _ _); repeat (with_reducible first | exact Below.refl _ _ | assumption | exact Hid.out (by assumption) | refine ext_alloc ?_ | refine ext_drewN ?_ | refine ext_drew ?_ | refine ext_setCell ?_ (Nat.le_refl _) | refine ext_setCell ?_ (Nat.le_succ _) | refine ext_trans ?_ (by assumption) | (refine ext_setCell ?_ (by simp)) | (refine ext_setCell ?_ (by simp at *; omega))))⟩
            case measure => first | (simp [intOf]; done) | (simp [intOf]; omega)
        · have HA2 := Lib.hid (HA.out huv)
          have HR9 : Hid (cmpS u v < 0 ↔ lessL x y = true) := by
            show _ ↔ _
            rw [HA2.out]
            unfold cmpS
            cases Op.bytesLess u v <;> simp [huv]
          have hne : ¬ (cmpS u v = 0) := by
            unfold cmpS
            cases Op.bytesLess u v <;> simp [huv]
          clear huv
          generalize cmpS u v = r at HR9 hne
          as_aux_lemma =>
            go_wp2_with fail
            go_ret
            exact ⟨r, rfl, HR9.out, (by (try show Below _ _ _); repeat (with_reducible first | exact Below.refl _ _ | assumption | exact Hid.out (by assumption) | refine ext_alloc ?_ | refine ext_drewN ?_ | refine ext_drew ?_ | refine ext_setCell ?_ (Nat.le_refl _) | refine ext_setCell ?_ (Nat.le_succ _) | refine ext_trans ?_ (by assumption) | (refine ext_setCell ?_ (by simp)) | (refine ext_setCell ?_ (by simp at *; omega))))⟩
    · obtain rfl : k = n := by omega
      have HXY : Hid (x = y) := by
        have := HE.out
        rw [List.take_of_length_le (by rw [← HL.out]; omega), List.take_of_length_le (by rw [← HL2.out]; omega)] at this
        exact this
      as_aux_lemma =>
        go_wp2_with fail
        go_ret
        exact ⟨0, rfl, by rw [HXY.out, lessL_irrefl]; simp, HB.out⟩
end Go.Proofs.YtbimecknmojnoaaGreatDoor
