/- What is proved here: what WordsFault of the reference answers. Condition: the words lie in memory. -/
import Derived.Test.YtbimecknmojnoaaGreatDoorWordChk
set_option linter.unusedVariables false
set_option linter.unusedSimpArgs false
namespace Go.Proofs.YtbimecknmojnoaaGreatDoor
open Go.RowKit

def FPost (d : List UInt8) (l : List Wd) (w : World) (e : Ending) (w' : World) : Prop := ∃ c, e = .returned (.int .i64 c) ∧ (if digitsB d 1 30 = false then c = 3 else WSay l c) ∧ Below w.heap.size w w'
set_option maxRecDepth 100000 in
set_option maxHeartbeats 2000000 in
theorem wordsFault_any (w : World) (d : List UInt8) (hd : d.length ≤ 100) (a : Option Addr) (n cap : Nat) (l : List Wd) (h : WRow w a n l) (hs : ∀ x ∈ l, x.length ≤ 100) : Calls Tryz.prog 11 #[.string ⟨d.toArray⟩, .slice a n cap] w (FPost d l w) := by
  have HL := Lib.hid h.1
  have HM := Lib.hid (getD_short hs)
  have HR := Lib.hid h.2.2
  have hn := h.2.1
  clear h hs
  have HD : Hid (∀ c w', WSay l c → Below w.heap.size w w' → digitsB d 1 30 = true → FPost d l w (.returned (.int .i64 c)) w') := fun c w' h1 h2 h3 => ⟨c, rfl, by rw [h3]; exact h1, h2⟩
  have HD3 : Hid (∀ w', Below w.heap.size w w' → digitsB d 1 30 = false → FPost d l w (.returned (.int .i64 3)) w') := fun w' h2 h3 => ⟨3, rfl, by rw [h3]; rfl, h2⟩
  go_enter Tryz.func11, Tryz.ntmps11
  go_wp2_with fail
  refine (digital_l d 1 30 _ (by omega)).mono ?_
  rintro e w1 ⟨rfl, hb1⟩
  have HB1 := Lib.hid hb1
  have HR1 : Hid (n = 0 ∨ ∃ b off, a = some ⟨b, off, none⟩ ∧ b < w1.heap.size ∧ ∀ i, i < n → w1.cell? ⟨b, off + i, none⟩ = some (.string ⟨(l.getD i []).toArray⟩)) := HR.out.imp id (by rintro ⟨b, off, ha, hl, hc⟩; exact ⟨b, off, ha, Nat.lt_of_lt_of_le hl hb1.size, fun i hi => (hb1.cell (p := ⟨b, off + i, none⟩) hl).trans (hc i hi)⟩)
  clear hb1 HR
  cases hg : digitsB d 1 30 with
  | false =>
    have HG := Lib.hid hg
    clear hg
    go_wp2_with fail
    go_ret
    exact HD3.out _ HB1.out HG.out
  | true =>
  have HD2 : Hid (∀ c w', WSay l c → Below w.heap.size w w' → FPost d l w (.returned (.int .i64 c)) w') := fun c w' h1 h2 => HD.out c w' h1 h2 hg
  clear hg HD HD3
  go_wp2_with fail
  go_loopw [17] (fun i wr => ∃ k : Nat, k ≤ n ∧ i = .int .i64 k ∧ Hid (Below w1.heap.size w1 wr) ∧ Hid (∀ j, j < k → wErr l j = 0)) (fun i _ => n - (intOf i).toNat)
  case atStart => exact ⟨0, Nat.zero_le _, rfl, Below.refl _ _, fun j hj => by omega⟩
  case round =>
    obtain ⟨k, hk, rfl, HB, HE⟩ := hrel
    by_cases hlt : k < n
    · rcases HR1.out with h0 | ⟨b, off, rfl, hb, hc⟩
      · omega
      have hbw := HB.out.size
      have c0 := (HB.out.cell (p := ⟨b, off + k, none⟩) hb).trans (hc k hlt)
      have HX : Hid (0 < k → wr.cell? ⟨b, off + (k - 1), none⟩ = some (.string ⟨(l.getD (k - 1) []).toArray⟩)) := fun h0 => (HB.out.cell (p := ⟨b, off + (k - 1), none⟩) hb).trans (hc (k - 1) (by omega))
      have zb : b < wr.heap.size := by omega
      have hx := HM.out k
      have HW : Hid (wErr l k = wErr2 k (l.getD k []) (l.getD (k - 1) [])) := rfl
      have HF : Hid (∀ c, wErr l k = c → c ≠ 0 → WSay l c) := fun c h1 h2 => Or.inr ⟨k, by rw [← HL.out]; exact hlt, h1, h2, HE.out⟩
      have HN : Hid (wErr l k = 0 → ∀ j, j < k + 1 → wErr l j = 0) := fun h0 j hj => by
        rcases Nat.lt_succ_iff_lt_or_eq.1 hj with h | rfl
        · exact HE.out j h
        · exact h0
      clear hc HR1 HM
      generalize wErr l k = r at HW HF HN
      generalize l.getD k [] = x at c0 hx HW
      generalize l.getD (k - 1) [] = p at HX HW
      by_cases h1 : 1 ≤ x.length
      · by_cases h15 : x.length ≤ 15
        · have hx1 : ¬ ((x.length : Int) < 1) := by omega
          have hx2 : ¬ (15 < (x.length : Int)) := by omega
          have HO : Hid (wOk x = allIn x smallSet) := by unfold wOk; rw [decide_eq_true h1, decide_eq_true h15]; rfl
          go_wp2_with fail
          refine (in_any _ 1 15 _).mono ?_
          rintro e w1' ⟨rfl, rfl⟩
          rw [show (decide ((1 : Int) ≤ (x.length : Int)) && decide ((x.length : Int) ≤ 15)) = true by rw [decide_eq_true (by omega), decide_eq_true (by omega)]; rfl]
          go_wp2_with fail
          refine (trim_small x _ (by omega)).mono ?_
          rintro e w2 ⟨rfl, hb1⟩
          have HB2 := Lib.hid (ext_trans HB.out hb1)
          have HO2 : Hid (wOk x = (Lib.trimS x smallSet).isEmpty) := HO.out
          obtain ⟨q1, -⟩ := bcell hb1
          have c1 := (q1 _ (off + k) zb).trans c0
          have HX1 : Hid (0 < k → w2.cell? ⟨b, off + (k - 1), none⟩ = some (.string ⟨p.toArray⟩)) := fun h0 => (q1 _ _ zb).trans (HX.out h0)
          have zb1 : b < w2.heap.size := Nat.lt_of_lt_of_le zb hb1.size
          clear HX c0 HO q1
          generalize Lib.trimS x smallSet = t at HO2 ⊢
          cases t with
          | cons c t =>
            have hr : Hid (r = 3) := HW.out.trans (if_pos (by rw [HO2.out]; rfl))
            go_wp2_with fail
            go_ret
            exact HD2.out 3 _ (HF.out 3 hr.out (by decide)) (ext_trans HB1.out HB2.out)
          | nil =>
            have hr : Hid (r = if (decide (0 < k) && leS x p) = true then 7 else 0) := HW.out.trans (if_neg (by rw [HO2.out]; decide))
            by_cases hk0 : k = 0
            · subst hk0
              have HN2 := HN.out (by rw [hr.out]; rfl)
              have HN3 := Lib.hid HN2
              clear HN2 HN HF
              go_wp2_with fail
              go_roundw
              case rel => exact ⟨1, by omega, rfl, HB2.out, HN3.out⟩
              case measure => simp [intOf]; omega
            · have p0 := HX1.out (by omega)
              have kp : (0 : Int) < (k : Int) := by omega
              have kp2 : 0 < k := by omega
              have kq : ((k : Int) - 1).toNat = k - 1 := by omega
              have kr : 0 ≤ (k : Int) - 1 := by omega
              have ks : (k : Int) - 1 < n := by omega
              have hr2 : Hid (r = if leS x p = true then 7 else 0) := hr.out.trans (by rw [decide_eq_true kp2, Bool.true_and])
              cases hle : leS x p with
              | true =>
                have HF2 := Lib.hid (HF.out 7 (by rw [hr2.out, if_pos hle]) (by decide))
                clear HF HN
                unfold leS at hle
                go_wp2_with fail
                go_ret
                exact HD2.out 7 _ (HF2.out) (ext_trans HB1.out HB2.out)
              | false =>
                have HN3 := Lib.hid (HN.out (by rw [hr2.out, hle]; rfl))
                obtain ⟨o1, o2⟩ := leS_false hle
                clear HN HF hle
                go_wp2_with fail
                go_roundw
                case rel => exact ⟨k + 1, by omega, by go_num, HB2.out, HN3.out⟩
                case measure => simp [intOf]; omega
        · have hx1 : ¬ ((x.length : Int) < 1) := by omega
          have hx2 : 15 < (x.length : Int) := by omega
          have hr : Hid (r = 3) := HW.out.trans (if_pos (by unfold wOk; rw [decide_eq_false h15]; simp))
          go_wp2_with fail
          refine (in_any _ 1 15 _).mono ?_
          rintro e w1' ⟨rfl, rfl⟩
          rw [show (decide ((1 : Int) ≤ (x.length : Int)) && decide ((x.length : Int) ≤ 15)) = false by rw [decide_eq_false (show ¬ (x.length : Int) ≤ 15 by omega)]; simp]
          go_wp2_with fail
          go_ret
          exact HD2.out 3 _ (HF.out 3 hr.out (by decide)) (ext_trans HB1.out HB.out)
      · have hx1 : (x.length : Int) < 1 := by omega
        have hr : Hid (r = 3) := HW.out.trans (if_pos (by unfold wOk; rw [decide_eq_false h1]; simp))
        go_wp2_with fail
        refine (in_any _ 1 15 _).mono ?_
        rintro e w1' ⟨rfl, rfl⟩
        rw [show (decide ((1 : Int) ≤ (x.length : Int)) && decide ((x.length : Int) ≤ 15)) = false by rw [decide_eq_false (show ¬ (1 : Int) ≤ (x.length : Int) by omega)]; simp]
        go_wp2_with fail
        go_ret
        exact HD2.out 3 _ (HF.out 3 hr.out (by decide)) (ext_trans HB1.out HB.out)
    · obtain rfl : k = n := by omega
      go_wp2_with fail
      go_ret
      exact HD2.out 0 _ (Or.inl ⟨rfl, by rw [← HL.out]; exact HE.out⟩) (ext_trans HB1.out HB.out)
end Go.Proofs.YtbimecknmojnoaaGreatDoor
