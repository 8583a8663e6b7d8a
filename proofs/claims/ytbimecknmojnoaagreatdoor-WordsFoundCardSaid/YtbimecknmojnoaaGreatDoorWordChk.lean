/- What is proved here: what checkWords of package number and WordsFault of the reference answer: the first fault of the words. Condition: the words lie in memory. -/
import Derived.Test.YtbimecknmojnoaaGreatDoorWordMath
import Derived.Test.YtbimecknmojnoaaGreatDoorWayOwn
import Derived.Test.YtbimecknmojnoaaGreatDoorRefSmall
set_option linter.unusedVariables false
set_option linter.unusedSimpArgs false
namespace Go.Proofs.YtbimecknmojnoaaGreatDoor
open Go.RowKit

/-- A slice of words that lies in memory. -/
def WRow (w : World) (a : Option Addr) (n : Nat) (ss : List Wd) : Prop :=
  n = ss.length ∧ n ≤ 200 ∧ (n = 0 ∨ ∃ b off, a = some ⟨b, off, none⟩ ∧ b < w.heap.size ∧ ∀ i, i < n → w.cell? ⟨b, off + i, none⟩ = some (.string ⟨(ss.getD i []).toArray⟩))
theorem WRow.below {w w' : World} {a : Option Addr} {n : Nat} {ss : List Wd} (h : WRow w a n ss) (hb : Below w.heap.size w w') : WRow w' a n ss := by
  obtain ⟨h1, h2, h3⟩ := h
  refine ⟨h1, h2, h3.imp id ?_⟩
  rintro ⟨b, off, ha, hl, hc⟩
  exact ⟨b, off, ha, Nat.lt_of_lt_of_le hl hb.size, fun i hi => (hb.cell (p := ⟨b, off + i, none⟩) hl).trans (hc i hi)⟩
theorem WRow.own {w : World} {base : Nat} {v : Value} {n : Nat} {l : List Wd} (h : w.ownsRow base 9 1 v n (l.map encS)) (hn : n ≤ 200) : ∃ a c, v = .slice a n c ∧ WRow w a n l := by
  have hl : l.length = n := by have := h.1; simpa using this
  rcases Nat.eq_zero_or_pos n with h0 | h0
  · subst h0
    rcases h.2 with ⟨rfl, _⟩ | ⟨g, cap, cur, rfl, _⟩
    · exact ⟨none, 0, rfl, hl.symm, hn, Or.inl rfl⟩
    · exact ⟨_, _, rfl, hl.symm, hn, Or.inl rfl⟩
  · obtain ⟨m, rfl⟩ : ∃ m, n = m + 1 := ⟨n - 1, by omega⟩
    obtain ⟨g, c, rfl, h1, h2⟩ := own_row1 h
    refine ⟨_, _, rfl, hl.symm, hn, Or.inr ⟨g, 0, rfl, h2, fun i hi => ?_⟩⟩
    rw [Nat.zero_add, h.cellAt i (by omega)]
    simp [encS, hl, hi]

def smallSet : List UInt8 := [97, 98, 99, 100, 101, 102, 103, 104, 105, 106, 107, 108, 109, 110, 111, 112, 113, 114, 115, 116, 117, 118, 119, 120, 121, 122]
theorem trim_small (s : List UInt8) (w : World) (hs : s.length ≤ 1000000) :
    Calls Tryz.prog 78 #[.string ⟨s.toArray⟩, .string ⟨#[97, 98, 99, 100, 101, 102, 103, 104, 105, 106, 107, 108, 109, 110, 111, 112, 113, 114, 115, 116, 117, 118, 119, 120, 121, 122]⟩] w fun e w' => e = .returned (.string ⟨(Lib.trimS s smallSet).toArray⟩) ∧ Below w.heap.size w w' :=
  Tryz.strings_Trim_set ⟨s.toArray⟩ ⟨#[97, 98, 99, 100, 101, 102, 103, 104, 105, 106, 107, 108, 109, 110, 111, 112, 113, 114, 115, 116, 117, 118, 119, 120, 121, 122]⟩ w (by show s.length ≤ _; omega) (by decide) (Go.Proofs.ascii_of_all (by decide))
def wOk (x : Wd) : Bool := decide (1 ≤ x.length) && (decide (x.length ≤ 15) && allIn x smallSet)
def wErr2 (i : Nat) (x p : Wd) : Int := if wOk x = false then 3 else if (decide (0 < i) && leS x p) = true then 7 else 0
def wErr (l : List Wd) (i : Nat) : Int := wErr2 i (l.getD i []) (l.getD (i - 1) [])
def WSay (l : List Wd) (c : Int) : Prop := (c = 0 ∧ ∀ i, i < l.length → wErr l i = 0) ∨ ∃ i, i < l.length ∧ wErr l i = c ∧ c ≠ 0 ∧ ∀ j, j < i → wErr l j = 0
theorem WSay.one {l : List Wd} {c d : Int} (h : WSay l c) (k : WSay l d) : c = d := by
  rcases h with ⟨rfl, h⟩ | ⟨i, hi, h1, h2, h3⟩ <;> rcases k with ⟨rfl, k⟩ | ⟨j, hj, k1, k2, k3⟩
  · rfl
  · exact absurd (k1.symm.trans (h j hj)) k2
  · exact absurd (h1.symm.trans (k i hi)) h2
  · rcases Nat.lt_trichotomy i j with hij | rfl | hij
    · exact absurd (h1.symm.trans (k3 i hij)) h2
    · exact h1.symm.trans k1
    · exact absurd (k1.symm.trans (h3 j hij)) k2
def WPost (l : List Wd) (w : World) (e : Ending) (w' : World) : Prop := ∃ c, e = .returned (.int .i64 c) ∧ WSay l c ∧ Below w.heap.size w w'
theorem getD_short {l : List Wd} (h : ∀ x ∈ l, x.length ≤ 100) (k : Nat) : (l.getD k []).length ≤ 100 := by
  rw [List.getD_eq_getElem?_getD]
  cases hx : l[k]? with
  | none => simp
  | some x => exact h x (List.mem_of_getElem? hx)

set_option maxRecDepth 100000 in
set_option maxHeartbeats 2000000 in
theorem checkWords_any (w : World) (a : Option Addr) (n cap : Nat) (l : List Wd) (h : WRow w a n l) (hs : ∀ x ∈ l, x.length ≤ 100) : Calls Tryz.prog 73 #[.slice a n cap] w (WPost l w) := by
  have HL := Lib.hid h.1
  have HM := Lib.hid (getD_short hs)
  have HR := Lib.hid h.2.2
  have hn := h.2.1
  clear h hs
  go_enter Tryz.func73, Tryz.ntmps73
  go_wp2_with fail
  go_loopw [10] (fun i wr => ∃ k : Nat, k ≤ n ∧ i = .int .i64 k ∧ Hid (Below w.heap.size w wr) ∧ Hid (∀ j, j < k → wErr l j = 0)) (fun i _ => n - (intOf i).toNat)
  case atStart => exact ⟨0, Nat.zero_le _, rfl, Below.refl _ _, fun j hj => by omega⟩
  case round =>
    obtain ⟨k, hk, rfl, HB, HE⟩ := hrel
    by_cases hlt : k < n
    · rcases HR.out with h0 | ⟨b, off, rfl, hb, hc⟩
      · omega
      have hbw := HB.out.size
      have c0 := (HB.out.cell (p := ⟨b, off + k, none⟩) hb).trans (hc k hlt)
      have HX : Hid (0 < k → wr.cell? ⟨b, off + (k - 1), none⟩ = some (.string ⟨(l.getD (k - 1) []).toArray⟩)) := fun h0 => (HB.out.cell (p := ⟨b, off + (k - 1), none⟩) hb).trans (hc (k - 1) (by omega))
      have zb : b < wr.heap.size := by omega
      have hx := HM.out k
      have HW : Hid (wErr l k = wErr2 k (l.getD k []) (l.getD (k - 1) [])) := rfl
      have HF : Hid (∀ c, wErr l k = c → c ≠ 0 → WSay l c) := fun c h1 h2 => Or.inr ⟨k, by rw [← HL.out]; exact hlt, h1, h2, HE.out⟩
      have HN : Hid (wErr l k = 0 → ∀ j, j < k + 1 → wErr l j = 0) := fun h0 j hj => by
        rcases Nat.lt_succ_iff_lt_or_eq.1 hj with h | rfl
        · exact HE.out j h
        · exact h0
      clear hc HR HM
      generalize wErr l k = r at HW HF HN
      generalize l.getD k [] = x at c0 hx HW
      generalize l.getD (k - 1) [] = p at HX HW
      by_cases h1 : 1 ≤ x.length
      · by_cases h15 : x.length ≤ 15
        · have hx1 : ¬ ((x.length : Int) < 1) := by omega
          have hx2 : ¬ (15 < (x.length : Int)) := by omega
          have HO : Hid (wOk x = allIn x smallSet) := by unfold wOk; rw [decide_eq_true h1, decide_eq_true h15]; rfl
          go_wp2_with fail
          refine (trim_small x _ (by omega)).mono ?_
          rintro e w1 ⟨rfl, hb1⟩
          have HB1 := Lib.hid (ext_trans HB.out hb1)
          have HO2 : Hid (wOk x = (Lib.trimS x smallSet).isEmpty) := HO.out
          obtain ⟨q1, -⟩ := bcell hb1
          have c1 := (q1 _ (off + k) zb).trans c0
          have HX1 : Hid (0 < k → w1.cell? ⟨b, off + (k - 1), none⟩ = some (.string ⟨p.toArray⟩)) := fun h0 => (q1 _ _ zb).trans (HX.out h0)
          have zb1 : b < w1.heap.size := Nat.lt_of_lt_of_le zb hb1.size
          clear HX c0 HO q1
          generalize Lib.trimS x smallSet = t at HO2 ⊢
          cases t with
          | cons c t =>
            have hr : Hid (r = 3) := HW.out.trans (if_pos (by rw [HO2.out]; rfl))
            go_wp2_with fail
            go_ret
            exact ⟨3, rfl, HF.out 3 hr.out (by decide), HB1.out⟩
          | nil =>
            have hr : Hid (r = if (decide (0 < k) && leS x p) = true then 7 else 0) := HW.out.trans (if_neg (by rw [HO2.out]; decide))
            by_cases hk0 : k = 0
            · subst hk0
              have HN2 := HN.out (by rw [hr.out]; rfl)
              have HN3 := Lib.hid HN2
              clear HN2 HN HF
              go_wp2_with fail
              go_roundw
              case rel => exact ⟨1, by omega, rfl, HB1.out, HN3.out⟩
              case measure => simp [intOf]; omega
            · have p0 := HX1.out (by omega)
              have kp : (0 : Int) < (k : Int) := by omega
              have kp2 : 0 < k := by omega
              have kq : ((k : Int) - 1).toNat = k - 1 := by omega
              have kr : 0 ≤ (k : Int) - 1 := by omega
              have ks : (k : Int) - 1 < n := by omega
              have hr2 : Hid (r = if leS x p = true then 7 else 0) := hr.out.trans (by rw [decide_eq_true kp2, Bool.true_and])
              cases hle : leS x p with
              | true =>
                have HF2 := Lib.hid (HF.out 7 (by rw [hr2.out, if_pos hle]) (by decide))
                clear HF HN
                unfold leS at hle
                go_wp2_with fail
                go_ret
                exact ⟨7, rfl, HF2.out, HB1.out⟩
              | false =>
                have HN3 := Lib.hid (HN.out (by rw [hr2.out, hle]; rfl))
                obtain ⟨o1, o2⟩ := leS_false hle
                clear HN HF hle
                go_wp2_with fail
                go_roundw
                case rel => exact ⟨k + 1, by omega, by go_num, HB1.out, HN3.out⟩
                case measure => simp [intOf]; omega
        · have hx1 : ¬ ((x.length : Int) < 1) := by omega
          have hx2 : 15 < (x.length : Int) := by omega
          have hr : Hid (r = 3) := HW.out.trans (if_pos (by unfold wOk; rw [decide_eq_false h15]; simp))
          go_wp2_with fail
          go_ret
          exact ⟨3, rfl, HF.out 3 hr.out (by decide), HB.out⟩
      · have hx1 : (x.length : Int) < 1 := by omega
        have hr : Hid (r = 3) := HW.out.trans (if_pos (by unfold wOk; rw [decide_eq_false h1]; simp))
        go_wp2_with fail
        go_ret
        exact ⟨3, rfl, HF.out 3 hr.out (by decide), HB.out⟩
    · obtain rfl : k = n := by omega
      go_wp2_with fail
      go_ret
      exact ⟨0, rfl, Or.inl ⟨rfl, by rw [← HL.out]; exact HE.out⟩, HB.out⟩
end Go.Proofs.YtbimecknmojnoaaGreatDoor
