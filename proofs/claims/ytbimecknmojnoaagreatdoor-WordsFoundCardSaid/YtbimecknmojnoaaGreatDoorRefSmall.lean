/- What is proved here: what the small tests of the reference answer (in, digital, Form), and the test that PlanFault hands on. Condition: a string that an int can count. -/
import Derived.Test.YtbimecknmojnoaaGreatDoorSplitWalk
set_option linter.unusedVariables false
set_option linter.unusedSimpArgs false
namespace Go.Proofs.YtbimecknmojnoaaGreatDoor
open Go.RowKit

theorem in_any (n lo hi : Int) (w : World) : Calls Tryz.prog 77 #[.int .i64 n, .int .i64 lo, .int .i64 hi] w fun e w' => e = .returned (.bool (decide (lo ≤ n) && decide (n ≤ hi))) ∧ w = w' := by
  by_cases h1 : lo ≤ n
  · go_enter Tryz.func77, Tryz.ntmps77
    go_wp2
    go_ret
    exact ⟨by rw [decide_eq_true h1]; rfl, rfl⟩
  · go_enter Tryz.func77, Tryz.ntmps77
    go_wp2
    go_ret
    exact ⟨by rw [decide_eq_false (show ¬ lo ≤ n by omega)]; rfl, rfl⟩

theorem digital_l (s : List UInt8) (lo hi : Int) (w : World) (hs : s.length ≤ 1000000) : Calls Tryz.prog 76 #[.string ⟨s.toArray⟩, .int .i64 lo, .int .i64 hi] w fun e w' => e = .returned (.bool (digitsB s lo hi)) ∧ Below w.heap.size w w' := by
  have hcon := trim_digits ⟨s.toArray⟩
  have hd : Hid (digitsB s lo hi = ((decide (lo ≤ (s.length : Int)) && decide ((s.length : Int) ≤ hi)) && (Lib.trimS s digitSet).isEmpty)) := by show _ = _; rw [Bool.and_assoc]; rfl
  have hcon : ∀ w, Calls Tryz.prog 78 #[.string ⟨s.toArray⟩, .string ⟨#[48, 49, 50, 51, 52, 53, 54, 55, 56, 57]⟩] w fun e w' => e = .returned (.string ⟨(Lib.trimS s digitSet).toArray⟩) ∧ Below w.heap.size w w' := fun w => hcon w (by show s.length ≤ _; omega)
  generalize Lib.trimS s digitSet = r at hcon hd
  generalize hg : (decide (lo ≤ (s.length : Int)) && decide ((s.length : Int) ≤ hi)) = g at hd
  have HG := Lib.hid hg
  have HCON := Lib.hid hcon
  clear hg hcon
  go_enter Tryz.func76, Tryz.ntmps76
  go_wp2_with fail
  refine (in_any _ lo hi _).mono ?_
  rintro e w1 ⟨rfl, rfl⟩
  rw [HG.out]
  cases g
  · go_wp2_with fail
    go_ret
    exact ⟨by rw [hd.out]; rfl, Below.refl _ _⟩
  · go_wp2_with fail
    refine (HCON.out _).mono ?_
    rintro e w2 ⟨rfl, hb⟩
    go_wp2_with fail
    go_ret
    exact ⟨by rw [hd.out]; cases r <;> rfl, hb⟩

theorem isNumB_eq (s : List UInt8) : isNumB s = (Lib.hasPrefix s [43] && (digitsB (s.drop 1) 4 15 && ((s.drop 1).headD 0 != 48))) := by
  unfold isNumB Lib.trimPrefix
  cases h : Lib.hasPrefix s [43] with
  | false => rfl
  | true => rfl

theorem form_l (s : List UInt8) (w : World) (hs : s.length ≤ 1000) : Calls Tryz.prog 115 #[.string ⟨s.toArray⟩] w fun e w' => e = .returned (.bool (isNumB s)) ∧ Below w.heap.size w w' := by
  have HD := Lib.hid (isNumB_eq s)
  have HPL : Hid (Lib.hasPrefix s [43] = true → 1 ≤ s.length) := fun h => pre_len h
  have HDL : Hid (digitsB (s.drop 1) 4 15 = true → ∃ c d, s.drop 1 = c :: d) := fun h => by
    unfold digitsB at h
    simp only [Bool.and_eq_true, decide_eq_true_eq] at h
    cases h9 : s.drop 1 with
    | nil => rw [h9] at h; simp at h
    | cons c d => exact ⟨c, d, rfl⟩
  have hcon := fun w => hasPrefix_l s [43] w
  generalize Lib.hasPrefix s [43] = g at HD HPL hcon
  have hcon2 := fun w => digital_l (s.drop 1) 4 15 w (by rw [List.length_drop]; omega)
  generalize hg2 : digitsB (s.drop 1) 4 15 = g2 at HD HDL hcon2
  generalize isNumB s = R at HD ⊢
  go_enter Tryz.func115, Tryz.ntmps115
  go_wp2_with fail
  refine (hcon _).mono ?_
  rintro e w1 ⟨rfl, rfl⟩
  cases g
  · have HF : Hid (R = false) := HD.out
    go_wp2_with fail
    go_ret
    exact ⟨by rw [HF.out]; rfl, Below.refl _ _⟩
  · have h1 := HPL.out rfl
    go_wp2_with fail
    rw [extract_drop]
    refine (hcon2 _).mono ?_
    rintro e w2 ⟨rfl, hb⟩
    have HB := Lib.hid hb
    clear hb
    cases g2
    · have HF : Hid (R = false) := HD.out
      go_wp2_with fail
      go_ret
      exact ⟨by rw [HF.out]; rfl, HB.out⟩
    · obtain ⟨c, d, hcd⟩ := HDL.out rfl
      have HF : Hid (R = (c != 48)) := by show _ = _; rw [HD.out, hcd]; rfl
      obtain ⟨x, rfl⟩ : ∃ x, s = x :: c :: d := by
        cases s with
        | nil => cases hcd
        | cons x t => exact ⟨x, by simpa using hcd⟩
      clear hcd HD hcon hcon2 hg2 HDL HPL
      go_wp2_with fail
      go_ret
      exact ⟨by rw [HF.out, ← byte_bne48]; rfl, HB.out⟩

theorem fault1_pred (code : List UInt8) (B : Nat) (w : World) (hB : B < w.heap.size) (hcell : w.cell? ⟨B, 0, none⟩ = some (.string ⟨code.toArray⟩)) :
    PredBelow Tryz.prog 114 #[.pointer (some ⟨B, 0, none⟩)] (fun x => .agg (Ctry.cells x).toArray) (fun x => Lib.hasPrefix code x.code) w := fun W x hb => by
  have hc : W.cell? ⟨B, 0, none⟩ = some (.string ⟨code.toArray⟩) := (hb.cell (p := ⟨B, 0, none⟩) hB).trans hcell
  have hBW : B < W.heap.size := Nat.lt_of_lt_of_le hB hb.size
  have hne : B ≠ W.heap.size := by omega
  obtain ⟨code2, abroad, trunk, aa, an, ac, areas⟩ := x
  show Calls Tryz.prog 114 #[.agg #[.string ⟨code2.toArray⟩, .string ⟨abroad.toArray⟩, .string ⟨trunk.toArray⟩, .slice aa an ac], .pointer (some ⟨B, 0, none⟩)] W _
  simp only
  have hcon := hasPrefix_l code code2
  generalize Lib.hasPrefix code code2 = r at hcon ⊢
  have HB := Lib.hid hb
  clear hb hcell hB
  go_enter Tryz.func114, Tryz.ntmps114
  go_wp2_with (go_at_call 75; refine (hcon _).mono ?_; rintro e w' ⟨rfl, rfl⟩)
  go_ret
  exact ⟨rfl, HB.out.trans ((ext_alloc (Below.refl _ _)).mono HB.out.size)⟩
end Go.Proofs.YtbimecknmojnoaaGreatDoor
