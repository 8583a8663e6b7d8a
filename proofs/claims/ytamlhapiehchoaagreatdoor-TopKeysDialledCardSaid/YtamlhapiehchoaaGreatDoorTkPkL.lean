/- What is proved here: lemmas and contracts for the statement, put together out of smaller texts (KeyLaw, KeyCmpH, KeyComp, TopReady, LawTop, Laid). No condition beyond those stated. -/
import Derived.Test.YtamlhapiehchoaaGreatDoorTkPkK
import Derived.Test.YtamlhapiehchoaaGreatDoorTkPkH
import Derived.Test.YtamlhapiehchoaaGreatDoorTkPkJ
import Derived.Deep.DeepCutAuto
import Derived.Test.YtamlhapiehchoaaGreatDoorRows
import Derived.Test.YtamlhapiehchoaaGreatDoorTie
import Derived.Test.YtamlhapiehchoaaGreatDoorCards
import Derived.Test.YtamlhapiehchoaaGreatDoorTkPkC
import Derived.ProofKit
import Derived.OpenShut
import Derived.ShutString
import Derived.ChangeOld
import Derived.LaidMore
import Derived.Lay
import Derived.Lib.LaidU8
import Derived.SevenTiedAt
namespace Go.Proofs.YtamlhapiehchoaaGreatDoor
open Go.RowKit
set_option linter.unusedVariables false
set_option linter.unusedSimpArgs false

theorem toneI_take (k n m : Nat) (h : m ≤ n) : (toneI k n).take m = toneI k m := by
  unfold toneI humI
  rw [List.take_zipWith, humS_take _ _ _ _ h, humS_take _ _ _ _ h]

theorem heard_at {k : Nat} (h : k < 16) {j : Nat} (hj : j < 4) : classI (((toneI k 820).drop (205 * j)).take 205) = k := by
  have := heard_all k h
  simp only [heardB, Bool.and_eq_true, List.all_eq_true, List.mem_range, beq_iff_eq] at this
  exact this.1 j hj
theorem tone_samples {k : Nat} (h : k < 16) : Samples (toneI k 820) := by
  have := heard_all k h
  simp only [heardB, Bool.and_eq_true, List.all_eq_true, decide_eq_true_eq] at this
  exact this.2

/-- The blocks of a list of whole blocks. -/
theorem blockI_append_left (a b : List Int) (k : Nat) (h : 205 * k + 205 ≤ a.length) : blockI (a ++ b) k = blockI a k := by
  unfold blockI
  rw [List.drop_append_of_le_length (by omega), List.take_append_of_le_length (by rw [List.length_drop]; omega)]
theorem blockI_append_right (a b : List Int) (k m : Nat) (h : a.length = 205 * m) : blockI (a ++ b) (m + k) = blockI b k := by
  unfold blockI
  rw [List.drop_append, List.drop_of_length_le (by omega), List.nil_append, show 205 * (m + k) - a.length = 205 * k by omega]

theorem hearTo_append (a b : List Int) (m : Nat) (h : a.length = 205 * m) : ∀ k, hearTo (a ++ b) (m + k) = (List.range k).foldl (fun s j => hearI s (blockI b j)) (hearTo (a ++ b) m)
  | 0 => rfl
  | k + 1 => by
    rw [List.range_succ, List.foldl_append, ← hearTo_append a b m h k]
    show hearI (hearTo (a ++ b) (m + k)) (blockI (a ++ b) (m + k)) = _
    rw [blockI_append_right a b k m h]
    rfl
theorem hearTo_left (a b : List Int) : ∀ k, 205 * k ≤ a.length → hearTo (a ++ b) k = hearTo a k
  | 0, _ => rfl
  | k + 1, h => by
    show hearI (hearTo (a ++ b) k) (blockI (a ++ b) k) = hearI (hearTo a k) (blockI a k)
    rw [hearTo_left a b k (by omega), blockI_append_left a b k (by omega)]

theorem tone_block (k n j : Nat) (hk : k < 16) (hn : n ≤ 820) (hj : 205 * j + 205 ≤ n) (z : List Int) : classI (blockI (toneI k n ++ z) j) = k := by
  rw [blockI_append_left _ _ _ (by rw [toneI_length]; exact hj)]
  have h4 : j < 4 := by omega
  have := heard_at hk h4
  rw [← this]
  unfold blockI
  rw [← toneI_take k 820 n hn]
  rw [List.drop_take, List.take_take, Nat.min_eq_left (by omega)]
theorem still_block (z j : Nat) (hj : 205 * j + 205 ≤ z) : classI (blockI (List.replicate z 0) j) = -1 := by
  have : blockI (List.replicate z 0) j = List.replicate 205 0 := by
    unfold blockI
    rw [List.drop_replicate, List.take_replicate, Nat.min_eq_left (by omega)]
  rw [this]; exact silence

def hearK (s : Int × Int × List Int) (key : Int) : Int × Int × List Int :=
  (if key = s.1 then s.1 else key, if key = s.1 then s.2.1 + 1 else 1, if (if key = s.1 then s.2.1 + 1 else 1) = 2 ∧ 0 ≤ key then s.2.2 ++ [padI.getD key.toNat 0] else s.2.2)
theorem hear_key {s : Int × Int × List Int} {l : List Int} {key : Int} (h : classI l = key) : hearI s l = hearK s key := by unfold hearI hearK; simp only [h]

theorem k_first (k : Nat) (m : Int) (ys : List Int) : hearK (-1, m, ys) k = ((k : Int), 1, ys) := by
  have h1 : ¬ (k : Int) = -1 := by omega
  simp [hearK, h1]
theorem k_second (k : Nat) (ys : List Int) : hearK ((k : Int), 1, ys) k = ((k : Int), 2, ys ++ [padI.getD k 0]) := by simp [hearK]
theorem k_more (k : Nat) (m : Int) (hm : 2 ≤ m) (ys : List Int) : hearK ((k : Int), m, ys) k = ((k : Int), m + 1, ys) := by
  have h1 : ¬ m + 1 = 2 := by omega
  simp [hearK, h1]
theorem k_still (k : Nat) (m : Int) (ys : List Int) : hearK ((k : Int), m, ys) (-1) = (-1, 1, ys) := by
  have h1 : ¬ (-1 : Int) = (k : Int) := by omega
  simp [hearK, h1]
theorem k_silent (m : Int) (ys : List Int) : hearK (-1, m, ys) (-1) = (-1, m + 1, ys) := by simp [hearK]

theorem seg_heard (s : Seg) (h : SegOk s) (m : Int) (ys : List Int) : ∃ (t : Nat) (m' : Int), (toneI s.key s.long ++ List.replicate s.still 0).length = 205 * t ∧ (List.range t).foldl (fun q j => hearI q (blockI (toneI s.key s.long ++ List.replicate s.still 0) j)) (-1, m, ys) = (-1, m', ys ++ [padI.getD s.key 0]) := by
  obtain ⟨k, n, z⟩ := s
  obtain ⟨hk, hn, hz⟩ := h
  simp only at hk hn hz ⊢
  have T : ∀ j, 205 * j + 205 ≤ n → ∀ q, hearI q (blockI (toneI k n ++ List.replicate z 0) j) = hearK q k := fun j hj q => hear_key (tone_block k n j hk (by omega) hj _)
  rcases hn with rfl | rfl
  · have Z : ∀ i, 205 * i + 205 ≤ z → ∀ q, hearI q (blockI (toneI k 615 ++ List.replicate z 0) (3 + i)) = hearK q (-1) := fun i hi q => hear_key (by rw [blockI_append_right _ _ i 3 (by rw [toneI_length])]; exact still_block z i hi)
    rcases hz with rfl | rfl
    · refine ⟨5, 2, by rw [List.length_append, toneI_length, List.length_replicate], ?_⟩
      show hearI (hearI (hearI (hearI (hearI _ (blockI _ 0)) (blockI _ 1)) (blockI _ 2)) (blockI _ (3 + 0))) (blockI _ (3 + 1)) = _
      rw [T 0 (by omega), T 1 (by omega), T 2 (by omega), Z 0 (by omega), Z 1 (by omega), k_first, k_second, k_more _ _ (by omega), k_still, k_silent]
      rfl
    · refine ⟨6, 3, by rw [List.length_append, toneI_length, List.length_replicate], ?_⟩
      show hearI (hearI (hearI (hearI (hearI (hearI _ (blockI _ 0)) (blockI _ 1)) (blockI _ 2)) (blockI _ (3 + 0))) (blockI _ (3 + 1))) (blockI _ (3 + 2)) = _
      rw [T 0 (by omega), T 1 (by omega), T 2 (by omega), Z 0 (by omega), Z 1 (by omega), Z 2 (by omega), k_first, k_second, k_more _ _ (by omega), k_still, k_silent, k_silent]
      rfl
  · have Z : ∀ i, 205 * i + 205 ≤ z → ∀ q, hearI q (blockI (toneI k 820 ++ List.replicate z 0) (4 + i)) = hearK q (-1) := fun i hi q => hear_key (by rw [blockI_append_right _ _ i 4 (by rw [toneI_length])]; exact still_block z i hi)
    rcases hz with rfl | rfl
    · refine ⟨6, 2, by rw [List.length_append, toneI_length, List.length_replicate], ?_⟩
      show hearI (hearI (hearI (hearI (hearI (hearI _ (blockI _ 0)) (blockI _ 1)) (blockI _ 2)) (blockI _ 3)) (blockI _ (4 + 0))) (blockI _ (4 + 1)) = _
      rw [T 0 (by omega), T 1 (by omega), T 2 (by omega), T 3 (by omega), Z 0 (by omega), Z 1 (by omega), k_first, k_second, k_more _ _ (by omega), k_more _ _ (by omega), k_still, k_silent]
      rfl
    · refine ⟨7, 3, by rw [List.length_append, toneI_length, List.length_replicate], ?_⟩
      show hearI (hearI (hearI (hearI (hearI (hearI (hearI _ (blockI _ 0)) (blockI _ 1)) (blockI _ 2)) (blockI _ 3)) (blockI _ (4 + 0))) (blockI _ (4 + 1))) (blockI _ (4 + 2)) = _
      rw [T 0 (by omega), T 1 (by omega), T 2 (by omega), T 3 (by omega), Z 0 (by omega), Z 1 (by omega), Z 2 (by omega), k_first, k_second, k_more _ _ (by omega), k_more _ _ (by omega), k_still, k_silent, k_silent]
      rfl

theorem all_heard : ∀ (segs : List Seg), (∀ s ∈ segs, SegOk s) → ∀ (a : List Int) (M : Nat) (m : Int) (ys : List Int), a.length = 205 * M → hearTo a M = (-1, m, ys) →
    ∃ (M' : Nat) (m' : Int), (a ++ soundI segs).length = 205 * M' ∧ hearTo (a ++ soundI segs) M' = (-1, m', ys ++ segs.map (fun s => padI.getD s.key 0))
  | [], _, a, M, m, ys, ha, hh => ⟨M, m, by simp [soundI, ha], by simp [soundI, hh]⟩
  | s :: l, hs, a, M, m, ys, ha, hh => by
    obtain ⟨t, m1, ht, hf⟩ := seg_heard s (hs s (by simp)) m ys
    have h1 := hearTo_append a (toneI s.key s.long ++ List.replicate s.still 0) M ha t
    rw [hearTo_left a _ M (by omega), hh, hf] at h1
    obtain ⟨M', m', h2, h3⟩ := all_heard l (fun t ht => hs t (by simp [ht])) (a ++ (toneI s.key s.long ++ List.replicate s.still 0)) (M + t) m1 _ (by rw [List.length_append, ha, ht]; omega) h1
    have e : a ++ soundI (s :: l) = (a ++ (toneI s.key s.long ++ List.replicate s.still 0)) ++ soundI l := by simp [soundI]
    rw [e]
    exact ⟨M', m', h2, by rw [h3]; simp⟩

theorem heard_text (segs : List Seg) (h : ∀ s ∈ segs, SegOk s) : ((hearTo (soundI segs) ((soundI segs).length / 205)).2.2.map (fun x => UInt8.ofNat x.toNat)) = textI segs := by
  obtain ⟨M, m, h1, h2⟩ := all_heard segs h [] 0 0 [] rfl rfl
  simp only [List.nil_append] at h1 h2
  rw [h1, Nat.mul_div_cancel_left _ (by decide), h2]
  simp [textI]

theorem sound_samples (segs : List Seg) (h : ∀ s ∈ segs, SegOk s) : Samples (soundI segs) := by
  intro x hx
  obtain ⟨s, hs, hx⟩ := List.mem_flatMap.1 hx
  obtain ⟨hk, hn, _⟩ := h s hs
  rcases List.mem_append.1 hx with hx | hx
  · have := toneI_take s.key 820 s.long (by omega)
    rw [← this] at hx
    exact tone_samples hk x (List.mem_of_mem_take hx)
  · rw [List.eq_of_mem_replicate hx]; decide
end Go.Proofs.YtamlhapiehchoaaGreatDoor

namespace Go.Proofs.YtamlhapiehchoaaGreatDoor
open Go.RowKit
set_option linter.unusedVariables false
set_option linter.unusedSimpArgs false

def cxpI (x : Int) : Int := expandI (compI x)
def toneC (k n : Nat) : List Int := (toneI k n).map cxpI
def soundC (l : List Seg) : List Int := l.flatMap (fun s => toneC s.key s.long ++ List.replicate s.still 0)
theorem toneC_length (k n : Nat) : (toneC k n).length = n := by unfold toneC; rw [List.length_map, toneI_length]
theorem cxp_zero : cxpI 0 = 0 := by decide
theorem sound_comp (l : List Seg) : ((soundI l).map compI).map expandI = soundC l := by
  rw [List.map_map]
  unfold soundI soundC
  rw [List.map_flatMap]
  congr 1
  funext s
  rw [List.map_append, List.map_replicate]
  show (toneI s.key s.long).map cxpI ++ List.replicate s.still (cxpI 0) = _
  rw [cxp_zero]
  rfl
def heardC (k : Nat) : Bool := let t := toneC k 820; (List.range 4).all (fun j => classI ((t.drop (205 * j)).take 205) == (k : Int)) && t.all (fun x => decide (-32768 ≤ x) && decide (x ≤ 32767))
theorem heardC0 : heardC 0 = true := by decide +kernel
theorem heardC1 : heardC 1 = true := by decide +kernel
theorem heardC2 : heardC 2 = true := by decide +kernel
theorem heardC3 : heardC 3 = true := by decide +kernel
theorem heardC4 : heardC 4 = true := by decide +kernel
theorem heardC5 : heardC 5 = true := by decide +kernel
theorem heardC6 : heardC 6 = true := by decide +kernel
theorem heardC7 : heardC 7 = true := by decide +kernel
theorem heardC8 : heardC 8 = true := by decide +kernel
theorem heardC9 : heardC 9 = true := by decide +kernel
theorem heardC10 : heardC 10 = true := by decide +kernel
theorem heardC11 : heardC 11 = true := by decide +kernel
theorem heardC12 : heardC 12 = true := by decide +kernel
theorem heardC13 : heardC 13 = true := by decide +kernel
theorem heardC14 : heardC 14 = true := by decide +kernel
theorem heardC15 : heardC 15 = true := by decide +kernel
theorem heardC_all (k : Nat) (h : k < 16) : heardC k = true := by
  match k, h with
  | 0, _ => exact heardC0
  | 1, _ => exact heardC1
  | 2, _ => exact heardC2
  | 3, _ => exact heardC3
  | 4, _ => exact heardC4
  | 5, _ => exact heardC5
  | 6, _ => exact heardC6
  | 7, _ => exact heardC7
  | 8, _ => exact heardC8
  | 9, _ => exact heardC9
  | 10, _ => exact heardC10
  | 11, _ => exact heardC11
  | 12, _ => exact heardC12
  | 13, _ => exact heardC13
  | 14, _ => exact heardC14
  | 15, _ => exact heardC15
  | n + 16, h => exact absurd h (by omega)
end Go.Proofs.YtamlhapiehchoaaGreatDoor

namespace Go.Proofs.YtamlhapiehchoaaGreatDoor
open Go.RowKit
set_option linter.unusedVariables false
set_option linter.unusedSimpArgs false

theorem toneC_take (k n m : Nat) (h : m ≤ n) : (toneC k n).take m = toneC k m := by
  unfold toneC
  rw [← List.map_take, toneI_take k n m h]
theorem heardC_at {k : Nat} (h : k < 16) {j : Nat} (hj : j < 4) : classI (((toneC k 820).drop (205 * j)).take 205) = k := by
  have := heardC_all k h
  simp only [heardC, Bool.and_eq_true, List.all_eq_true, List.mem_range, beq_iff_eq] at this
  exact this.1 j hj
theorem toneC_samples {k : Nat} (h : k < 16) : Samples (toneC k 820) := by
  have := heardC_all k h
  simp only [heardC, Bool.and_eq_true, List.all_eq_true, decide_eq_true_eq] at this
  exact this.2
theorem toneC_block (k n j : Nat) (hk : k < 16) (hn : n ≤ 820) (hj : 205 * j + 205 ≤ n) (z : List Int) : classI (blockI (toneC k n ++ z) j) = k := by
  rw [blockI_append_left _ _ _ (by rw [toneC_length]; exact hj)]
  have h4 : j < 4 := by omega
  have := heardC_at hk h4
  rw [← this]
  unfold blockI
  rw [← toneC_take k 820 n hn]
  rw [List.drop_take, List.take_take, Nat.min_eq_left (by omega)]
theorem segC_heard (s : Seg) (h : SegOk s) (m : Int) (ys : List Int) : ∃ (t : Nat) (m' : Int), (toneC s.key s.long ++ List.replicate s.still 0).length = 205 * t ∧ (List.range t).foldl (fun q j => hearI q (blockI (toneC s.key s.long ++ List.replicate s.still 0) j)) (-1, m, ys) = (-1, m', ys ++ [padI.getD s.key 0]) := by
  obtain ⟨k, n, z⟩ := s
  obtain ⟨hk, hn, hz⟩ := h
  simp only at hk hn hz ⊢
  have T : ∀ j, 205 * j + 205 ≤ n → ∀ q, hearI q (blockI (toneC k n ++ List.replicate z 0) j) = hearK q k := fun j hj q => hear_key (toneC_block k n j hk (by omega) hj _)
  rcases hn with rfl | rfl
  · have Z : ∀ i, 205 * i + 205 ≤ z → ∀ q, hearI q (blockI (toneC k 615 ++ List.replicate z 0) (3 + i)) = hearK q (-1) := fun i hi q => hear_key (by rw [blockI_append_right _ _ i 3 (by rw [toneC_length])]; exact still_block z i hi)
    rcases hz with rfl | rfl
    · refine ⟨5, 2, by rw [List.length_append, toneC_length, List.length_replicate], ?_⟩
      show hearI (hearI (hearI (hearI (hearI _ (blockI _ 0)) (blockI _ 1)) (blockI _ 2)) (blockI _ (3 + 0))) (blockI _ (3 + 1)) = _
      rw [T 0 (by omega), T 1 (by omega), T 2 (by omega), Z 0 (by omega), Z 1 (by omega), k_first, k_second, k_more _ _ (by omega), k_still, k_silent]
      rfl
    · refine ⟨6, 3, by rw [List.length_append, toneC_length, List.length_replicate], ?_⟩
      show hearI (hearI (hearI (hearI (hearI (hearI _ (blockI _ 0)) (blockI _ 1)) (blockI _ 2)) (blockI _ (3 + 0))) (blockI _ (3 + 1))) (blockI _ (3 + 2)) = _
      rw [T 0 (by omega), T 1 (by omega), T 2 (by omega), Z 0 (by omega), Z 1 (by omega), Z 2 (by omega), k_first, k_second, k_more _ _ (by omega), k_still, k_silent, k_silent]
      rfl
  · have Z : ∀ i, 205 * i + 205 ≤ z → ∀ q, hearI q (blockI (toneC k 820 ++ List.replicate z 0) (4 + i)) = hearK q (-1) := fun i hi q => hear_key (by rw [blockI_append_right _ _ i 4 (by rw [toneC_length])]; exact still_block z i hi)
    rcases hz with rfl | rfl
    · refine ⟨6, 2, by rw [List.length_append, toneC_length, List.length_replicate], ?_⟩
      show hearI (hearI (hearI (hearI (hearI (hearI _ (blockI _ 0)) (blockI _ 1)) (blockI _ 2)) (blockI _ 3)) (blockI _ (4 + 0))) (blockI _ (4 + 1)) = _
      rw [T 0 (by omega), T 1 (by omega), T 2 (by omega), T 3 (by omega), Z 0 (by omega), Z 1 (by omega), k_first, k_second, k_more _ _ (by omega), k_more _ _ (by omega), k_still, k_silent]
      rfl
    · refine ⟨7, 3, by rw [List.length_append, toneC_length, List.length_replicate], ?_⟩
      show hearI (hearI (hearI (hearI (hearI (hearI (hearI _ (blockI _ 0)) (blockI _ 1)) (blockI _ 2)) (blockI _ 3)) (blockI _ (4 + 0))) (blockI _ (4 + 1))) (blockI _ (4 + 2)) = _
      rw [T 0 (by omega), T 1 (by omega), T 2 (by omega), T 3 (by omega), Z 0 (by omega), Z 1 (by omega), Z 2 (by omega), k_first, k_second, k_more _ _ (by omega), k_more _ _ (by omega), k_still, k_silent, k_silent]
      rfl
theorem allC_heard : ∀ (segs : List Seg), (∀ s ∈ segs, SegOk s) → ∀ (a : List Int) (M : Nat) (m : Int) (ys : List Int), a.length = 205 * M → hearTo a M = (-1, m, ys) →
    ∃ (M' : Nat) (m' : Int), (a ++ soundC segs).length = 205 * M' ∧ hearTo (a ++ soundC segs) M' = (-1, m', ys ++ segs.map (fun s => padI.getD s.key 0))
  | [], _, a, M, m, ys, ha, hh => ⟨M, m, by simp [soundC, ha], by simp [soundC, hh]⟩
  | s :: l, hs, a, M, m, ys, ha, hh => by
    obtain ⟨t, m1, ht, hf⟩ := segC_heard s (hs s (by simp)) m ys
    have h1 := hearTo_append a (toneC s.key s.long ++ List.replicate s.still 0) M ha t
    rw [hearTo_left a _ M (by omega), hh, hf] at h1
    obtain ⟨M', m', h2, h3⟩ := allC_heard l (fun t ht => hs t (by simp [ht])) (a ++ (toneC s.key s.long ++ List.replicate s.still 0)) (M + t) m1 _ (by rw [List.length_append, ha, ht]; omega) h1
    have e : a ++ soundC (s :: l) = (a ++ (toneC s.key s.long ++ List.replicate s.still 0)) ++ soundC l := by simp [soundC]
    rw [e]
    exact ⟨M', m', h2, by rw [h3]; simp⟩
theorem heardC_text (segs : List Seg) (h : ∀ s ∈ segs, SegOk s) : ((hearTo (soundC segs) ((soundC segs).length / 205)).2.2.map (fun x => UInt8.ofNat x.toNat)) = textI segs := by
  obtain ⟨M, m, h1, h2⟩ := allC_heard segs h [] 0 0 [] rfl rfl
  simp only [List.nil_append] at h1 h2
  rw [h1, Nat.mul_div_cancel_left _ (by decide), h2]
  simp [textI]
theorem soundC_samples (segs : List Seg) (h : ∀ s ∈ segs, SegOk s) : Samples (soundC segs) := by
  intro x hx
  obtain ⟨s, hs, hx⟩ := List.mem_flatMap.1 hx
  obtain ⟨hk, hn, _⟩ := h s hs
  rcases List.mem_append.1 hx with hx | hx
  · have := toneC_take s.key 820 s.long (by omega)
    rw [← this] at hx
    exact toneC_samples hk x (List.mem_of_mem_take hx)
  · rw [List.eq_of_mem_replicate hx]; decide
end Go.Proofs.YtamlhapiehchoaaGreatDoor

set_option linter.unusedVariables false
set_option linter.unusedSimpArgs false
namespace Go.Proofs.YtamlhapiehchoaaGreatDoor
open Go.RowKit Go.Lib

set_option maxRecDepth 100000 in
set_option maxHeartbeats 4000000 in
theorem h10facts_true (w : World) (ht : TabAt w) : Calls Tryz.prog 16 #[] w fun e w' => e = .returned (.bool true) ∧ Below w.heap.size w w' := by
  have HT := Lib.hid ht
  clear ht
  go_enter Tryz.func16, Tryz.ntmps16
  go_wp2_with fail
  refine (least_ready _ HT.out).mono ?_
  rintro e w1 ⟨rfl, hB1⟩
  go_wp2_with fail
  refine (present_ready _).mono ?_
  rintro e w2 ⟨rfl, hB2⟩
  go_wp2_with fail
  refine (ends_ready _).mono ?_
  rintro e w3 ⟨rfl, hB3⟩
  go_wp2_with fail
  refine (expand_128 _).mono ?_
  rintro e w6 ⟨rfl, rfl⟩
  go_wp2_with fail
  go_ret
  exact ⟨rfl, (by (try show Below _ _ _); repeat (with_reducible first | exact Below.refl _ _ | assumption | exact Hid.out (by assumption) | refine ext_alloc ?_ | refine ext_drewN ?_ | refine ext_drew ?_ | refine ext_setCell ?_ (Nat.le_refl _) | refine ext_setCell ?_ (Nat.le_succ _) | refine ext_trans ?_ (by assumption) | (refine ext_setCell ?_ (by simp)) | (refine ext_setCell ?_ (by simp at *; omega))))⟩
end Go.Proofs.YtamlhapiehchoaaGreatDoor

set_option linter.unusedVariables false
set_option linter.unusedSimpArgs false
namespace Go.Proofs.YtamlhapiehchoaaGreatDoor
open Go.RowKit Go.Lib

theorem key0T : ctxKey 0 = [99, 97] := by decide
theorem signN_idx : ∀ c ∈ signsL, signN (signsL.idxOf c) = c ∧ signsL.idxOf c < 12 := by decide
/-- What is dialled, or nothing that could be. -/
theorem dial_or (s : List UInt8) (h : s.length ≤ 30) : NoDial s ∨ ∃ d : List Nat, s = d.map signN ∧ (∀ j, j < d.length → d.getD j 0 < 12) ∧ 1 ≤ d.length ∧ d.length ≤ 30 := by
  by_cases h0 : s = []
  · exact .inl ⟨h, .inl h0⟩
  by_cases hx : ∃ c ∈ s, c ∉ signsL
  · exact .inl ⟨h, .inr hx⟩
  · have hall : ∀ c ∈ s, c ∈ signsL := fun c hc => Decidable.not_not.1 fun hn => hx ⟨c, hc, hn⟩
    refine .inr ⟨s.map (fun c => signsL.idxOf c), ?_, ?_, ?_, ?_⟩
    · rw [List.map_map]
      exact (List.map_id s).symm.trans (List.map_congr_left fun c hc => (signN_idx c (hall c hc)).1.symm)
    · intro j hj
      rw [List.length_map] at hj
      rw [List.getD_eq_getElem?_getD, List.getElem?_map, List.getElem?_eq_getElem hj]
      exact (signN_idx _ (hall _ (List.getElem_mem hj))).2
    · rw [List.length_map]
      cases s with
      | nil => exact absurd rfl h0
      | cons => simp
    · rw [List.length_map]; exact h
theorem own_cap {w : World} {base : Nat} {e : TypeId} {a : Option Addr} {n c : Nat} {xs : List Value} (h : w.ownsRow base e 1 (.slice a n c) n xs) : n ≤ c ∧ c ≤ 9223372036854775807 := by
  rcases h.2 with ⟨h1, h2⟩ | ⟨g, c2, cu, h1, _, _, h2, h3, _⟩
  · injection h1 with _ h4 h5; omega
  · injection h1 with _ _ h5; unfold maxLen at h3; omega
theorem comp_bytes {xs : List Int} (h : Samples xs) : Bytes (xs.map compI) := by
  intro y hy
  obtain ⟨x, hx, rfl⟩ := List.mem_map.1 hy
  exact comp_range x (h x hx).1 (h x hx).2
set_option maxRecDepth 100000 in
set_option maxHeartbeats 40000000 in
theorem top_true (w : World) (a0 : Option Addr) (len cap : Nat) (zs : List Int) (hr : ArgRow w a0 len cap zs) (ht : TabAt w) :
    Calls Tryz.prog 4 #[.slice a0 len cap] w fun e w' => e = .returned (.bool true) ∧ Below w.heap.size w w' := by
  have HS0 := Lib.hid (stream_start hr)
  have HT0 : Hid (TabAt (w.alloc (.cells #[.slice a0 len cap, .int .i64 0] 25))) := ht.below (ext_alloc (Below.refl _ _))
  have HTN : Hid (0 ≠ w.heap.size) := by have := ht.1; show _ ≠ _; omega
  have HEND : Hid (∀ W, Keeps w.heap.size (w.alloc (.cells #[.slice a0 len cap, .int .i64 0] 25)) W → Below w.heap.size w W) := fun W h => law_end h
  have hsz : w.heap.size < (w.alloc (.cells #[.slice a0 len cap, .int .i64 0] 25)).heap.size := by simp
  clear hr ht
  go_enter Tryz.func4, Tryz.ntmps4
  go_wp2_with fail
  refine (keyTones_any w.heap.size 0 _ HS0.out (by omega)).mono ?_
  rintro e w1 ⟨segs, v, hok, hlen, rfl, hown, hst1, hkp1⟩
  have hsl := soundI_length_le segs hok
  have hl : (soundI segs).length ≤ 20000 := by omega
  obtain ⟨av, cv, rfl, hrow⟩ := IRow.of_own hown
  have hsa := sound_samples segs hok
  have hta : ((hearTo (soundC segs) ((soundC segs).length / 205)).2.2.map (fun x => UInt8.ofNat x.toNat)) = textI segs := heardC_text segs hok
  have hcm := sound_comp segs
  have hbt := comp_bytes hsa
  have hgs := soundC_samples segs hok
  have hlc : (soundC segs).length = (soundI segs).length := by rw [← hcm, List.length_map, List.length_map]
  have htl : (textI segs).length ≤ 30 := by unfold textI; rw [List.length_map]; omega
  have HDL := Lib.hid (dial_or (textI segs) htl)
  have HCS : Hid (Calls Tryz.prog 13 #[.slice av (soundI segs).length cv] w1 (RowPost .u8 5 ((soundI segs).map compI) w1)) := small_any w1 av _ cv (soundI segs) hrow hsa hl
  have HK1 := Lib.hid hkp1
  have HS1 := Lib.hid hst1
  have HGR : Hid (∀ W a c, IRow .u8 W a (soundI segs).length ((soundI segs).map compI) → Calls Tryz.prog 14 #[.slice a (soundI segs).length c] W (RowPost .i64 3 (soundC segs) W)) := fun W a c h => by
    have := great_any W a _ c _ h hbt hl
    rw [hcm] at this
    exact this
  have HKY : Hid (∀ W a c, IRow .i64 W a (soundI segs).length (soundC segs) → (soundI segs).length ≤ c → c ≤ 9223372036854775807 → Calls Tryz.prog 15 #[.slice a (soundI segs).length c] W fun e w' => e = .returned (.tuple #[.string ⟨(textI segs).toArray⟩, .int .i64 0]) ∧ Below W.heap.size W w') := fun W a c h h1 h2 => by
    have := keys_any W a _ c (soundC segs) h hgs hl h1 h2
    rw [← hlc, hta] at this
    rw [← hlc]
    exact this
  have HLC := Lib.hid hlc
  have HLM : Hid (((soundI segs).map compI).length = (soundI segs).length) := List.length_map _
  clear hok hlen hown hst1 hkp1 hsl hrow hsa hta hcm hbt hgs hlc htl hl HS0
  generalize textI segs = tx at HDL HKY ⊢
  generalize (soundI segs).map compI = bs at HCS HGR HLM
  generalize soundC segs = ss at HGR HKY HLC
  generalize (soundI segs).length = n at HCS HGR HKY HLC HLM ⊢
  obtain ⟨txb, htx⟩ : ∃ x : ByteArray, x = ⟨tx.toArray⟩ := ⟨_, rfl⟩
  have HTX := Lib.hid htx
  rw [← htx] at HKY ⊢
  clear htx
  as_aux_lemma =>
    go_wp2_with fail
    refine HCS.out.mono ?_
    rintro e w2 ⟨v2, rfl, hown, hb⟩
    obtain ⟨a2, c2, rfl, hrow⟩ := IRow.of_own hown
    rw [HLM.out] at hrow ⊢
    have HG2 := Lib.hid (HGR.out w2 a2 c2 hrow)
    have HS2 := Lib.hid (HS1.out.below hb)
    have HK2 := Lib.hid (HK1.out.ext hb)
    clear hown hrow hb HCS HGR HS1 HK1 HLM
    as_aux_lemma =>
      go_wp2_with fail
      refine HG2.out.mono ?_
      rintro e w3 ⟨v3, rfl, hown, hb⟩
      obtain ⟨a3, c3, rfl, hrow⟩ := IRow.of_own hown
      have hcp := own_cap hown
      rw [HLC.out] at hrow hcp ⊢
      have HY3 := Lib.hid (HKY.out w3 a3 c3 hrow hcp.1 hcp.2)
      have HS3 := Lib.hid (HS2.out.below hb)
      have HK3 := Lib.hid (HK2.out.ext hb)
      clear hown hrow hcp hb HG2 HS2 HK2 HKY HLC
      as_aux_lemma =>
        go_wp2_with fail
        refine HY3.out.mono ?_
        rintro e w4 ⟨rfl, hb⟩
        have HS4 := Lib.hid (HS3.out.below hb)
        have HK4 := Lib.hid (HK3.out.ext hb)
        clear hb HY3 HS3 HK3
        as_aux_lemma =>
          go_upto_region 6 with (fail)
          go_cut [54] (fun v wx => v = .bool false ∧ Hid (Below w4.heap.size w4 wx))
          case first =>
            as_aux_lemma =>
              go_wp2_with fail
              go_meet
              exact ⟨by simp, Below.refl _ _⟩
          case rest =>
            obtain ⟨rfl, hV⟩ := hcut
            obtain ⟨w5, rfl⟩ : ∃ x : World, x = wc := ⟨_, rfl⟩
            have HS5 := Lib.hid (HS4.out.below hV.out)
            have HK5 := Lib.hid (HK4.out.ext hV.out)
            clear hV HS4 HK4
            as_aux_lemma =>
              go_wp2_with fail
              refine (rightPlan_any w.heap.size 13 3 (by decide) _ HS5.out (by omega)).mono ?_
              rintro e w6 ⟨p, he, hfine, hst, hk'⟩
              obtain ⟨s1, s2, s3, s4, s5, E, hdec⟩ := decide_same p 0 (by decide) tx HDL.out 0 (by decide) (by decide) (by decide)
              rw [key0T] at hdec
              unfold HitPost at hdec
              obtain ⟨ca, cn, cc, ctxs, ha, hn, hcp, hrs⟩ := p
              have he2 : e = .returned (.agg #[.slice ca cn cc, .slice ha hn hcp]) := he
              subst he2
              have HD : Hid (∀ W, Keeps w.heap.size w6 W → Calls Tryz.prog 10 #[.agg #[.slice ca cn cc, .slice ha hn hcp], .string ⟨#[99, 97]⟩, .string txb, .int .i64 0] W fun e w9 => e = .returned (.tuple #[.agg #[.string s1, .int .i64 s2, .int .i64 s3, .string s4, .string s5], .int .i64 E]) ∧ Below W.heap.size W w9) := fun W hW => by
                rw [HTX.out]
                exact hdec W (hfine W hW)
              have HK6 := Lib.hid (HK5.out.trans hk')
              have HFIN : Hid (∀ W, Keeps w.heap.size w6 W → Below w.heap.size w W ∧ TabAt W) := fun W hW => ⟨HEND.out W (HK6.out.trans hW), HT0.out.keeps (HK6.out.trans hW) HTN.out⟩
              have hS6 : w.heap.size < w6.heap.size := hst.lt
              clear he hfine hst hk' hdec HDL HTX HS5 HK5 HK6 HT0 HEND HTN
              have hA : Below w6.heap.size w6 (w6.alloc (.cells #[.slice ca cn cc, .slice ha hn hcp] 29)) := ext_alloc (Below.refl _ _)
              have X7 : Hid (Blk (w6.alloc (.cells #[.slice ca cn cc, .slice ha hn hcp] 29)) w6.heap.size [.slice ca cn cc, .slice ha hn hcp] 29) := Blk.new _ _ _
              have HK7 : Hid (Keeps w.heap.size w6 (w6.alloc (.cells #[.slice ca cn cc, .slice ha hn hcp] 29))) := Keeps.of_below hA
              clear hA
              as_aux_lemma =>
                go_upto_region 9 with (fail)
                generalize (w6.alloc (.cells #[.slice ca cn cc, .slice ha hn hcp] 29)) = w7 at X7 HK7 ⊢
                generalize w6.heap.size = X at X7 hS6 ⊢
                have x0 := X7.out.cell 0 rfl
                have x1 := X7.out.cell 1 rfl
                as_aux_lemma =>
                  go_wp2_with fail
                  refine (HD.out _ HK7.out).mono ?_
                  rintro e w8 ⟨rfl, hb⟩
                  have X8 := Lib.hid (X7.out.below hb)
                  have HK8 := Lib.hid (HK7.out.ext hb)
                  clear hb x0 x1 X7 HK7
                  have hz0 := Blk.new w8 [.string ⟨#[]⟩, .int .i64 0, .int .i64 0, .string ⟨#[]⟩, .string ⟨#[]⟩] 37
                  have HTH : Hid (World.there (w8.alloc (.cells #[.string ⟨#[]⟩, .int .i64 0, .int .i64 0, .string ⟨#[]⟩, .string ⟨#[]⟩] 37)) w8.heap.size 0 5) := hz0.th 5 (Nat.le_refl 5)
                  have hZ : Hid (Blk (World.setCells (w8.alloc (.cells #[.string ⟨#[]⟩, .int .i64 0, .int .i64 0, .string ⟨#[]⟩, .string ⟨#[]⟩] 37)) w8.heap.size 0 [.string s1, .int .i64 s2, .int .i64 s3, .string s4, .string s5]) w8.heap.size [.string s1, .int .i64 s2, .int .i64 s3, .string s4, .string s5] 37) := ((((hz0.put 0 _).put 1 _).put 2 _).put 3 _).put 4 _
                  have hV : Hid (Below w8.heap.size w8 (World.setCells (w8.alloc (.cells #[.string ⟨#[]⟩, .int .i64 0, .int .i64 0, .string ⟨#[]⟩, .string ⟨#[]⟩] 37)) w8.heap.size 0 [.string s1, .int .i64 s2, .int .i64 s3, .string s4, .string s5])) := belowW_put (Nat.le_refl _) (ext_alloc (Below.refl _ _)) _
                  clear hz0
                  as_aux_lemma =>
                    go_wp2_with (refine wpList_store_mid rfl 37 (.tmp 13) (.tmp 61) rfl w8.heap.size 0 #[.string s1, .int .i64 s2, .int .i64 s3, .string s4, .string s5] rfl rfl HTH.out Tryz.hitSz (by simp [Value.oneCell']) ?_; generalize (World.setCells (w8.alloc (.cells #[.string ⟨#[]⟩, .int .i64 0, .int .i64 0, .string ⟨#[]⟩, .string ⟨#[]⟩] 37)) w8.heap.size 0 [.string s1, .int .i64 s2, .int .i64 s3, .string s4, .string s5]) = w9 at hV hZ ⊢; clear HTH; refine Hid.out ?_)
                    refine Lib.hid ?_
                    have X9 := Lib.hid (X8.out.below hV.out)
                    have HK9 := Lib.hid (HK8.out.ext hV.out)
                    generalize w8.heap.size = Y at hZ ⊢
                    have Y9 := hZ
                    clear hV hZ X8 HK8
                    have x0 := X9.out.cell 0 rfl
                    have x1 := X9.out.cell 1 rfl
                    as_aux_lemma =>
                      go_wp2_with fail
                      refine (HD.out _ HK9.out).mono ?_
                      rintro e wa ⟨rfl, hb⟩
                      have Ya := Lib.hid (Y9.out.below hb)
                      have HKa := Lib.hid (HK9.out.ext hb)
                      clear hb x0 x1 X9 HK9 Y9 HD
                      have hz0 := Blk.new wa [.string ⟨#[]⟩, .int .i64 0, .int .i64 0, .string ⟨#[]⟩, .string ⟨#[]⟩] 37
                      have HTH : Hid (World.there (wa.alloc (.cells #[.string ⟨#[]⟩, .int .i64 0, .int .i64 0, .string ⟨#[]⟩, .string ⟨#[]⟩] 37)) wa.heap.size 0 5) := hz0.th 5 (Nat.le_refl 5)
                      have hZ : Hid (Blk (World.setCells (wa.alloc (.cells #[.string ⟨#[]⟩, .int .i64 0, .int .i64 0, .string ⟨#[]⟩, .string ⟨#[]⟩] 37)) wa.heap.size 0 [.string s1, .int .i64 s2, .int .i64 s3, .string s4, .string s5]) wa.heap.size [.string s1, .int .i64 s2, .int .i64 s3, .string s4, .string s5] 37) := ((((hz0.put 0 _).put 1 _).put 2 _).put 3 _).put 4 _
                      have hV : Hid (Below wa.heap.size wa (World.setCells (wa.alloc (.cells #[.string ⟨#[]⟩, .int .i64 0, .int .i64 0, .string ⟨#[]⟩, .string ⟨#[]⟩] 37)) wa.heap.size 0 [.string s1, .int .i64 s2, .int .i64 s3, .string s4, .string s5])) := belowW_put (Nat.le_refl _) (ext_alloc (Below.refl _ _)) _
                      clear hz0
                      as_aux_lemma =>
                        go_wp2_with (refine wpList_store_mid rfl 37 (.tmp 15) (.tmp 67) rfl wa.heap.size 0 #[.string s1, .int .i64 s2, .int .i64 s3, .string s4, .string s5] rfl rfl HTH.out Tryz.hitSz (by simp [Value.oneCell']) ?_; generalize (World.setCells (wa.alloc (.cells #[.string ⟨#[]⟩, .int .i64 0, .int .i64 0, .string ⟨#[]⟩, .string ⟨#[]⟩] 37)) wa.heap.size 0 [.string s1, .int .i64 s2, .int .i64 s3, .string s4, .string s5]) = wb at hV hZ ⊢; clear HTH; refine Hid.out ?_)
                        refine Lib.hid ?_
                        have Yb := Lib.hid (Ya.out.below hV.out)
                        have HKb := Lib.hid (HKa.out.ext hV.out)
                        generalize wa.heap.size = Z at hZ ⊢
                        have Zb := hZ
                        clear hV hZ Ya HKa
                        have y0 := Yb.out.cell 0 rfl
                        have y1 := Yb.out.cell 1 rfl
                        have y2 := Yb.out.cell 2 rfl
                        have y3 := Yb.out.cell 3 rfl
                        have y4 := Yb.out.cell 4 rfl
                        have z0 := Zb.out.cell 0 rfl
                        have z1 := Zb.out.cell 1 rfl
                        have z2 := Zb.out.cell 2 rfl
                        have z3 := Zb.out.cell 3 rfl
                        have z4 := Zb.out.cell 4 rfl
                        obtain ⟨_, htt⟩ := HFIN.out wb HKb.out
                        have HRD := Lib.hid (h10facts_true wb htt)
                        clear htt Yb Zb
                        as_aux_lemma =>
                          go_wp2_with fail
                          refine HRD.out.mono ?_
                          rintro e wc ⟨rfl, hb⟩
                          have HF := Lib.hid (HFIN.out wc (HKb.out.ext hb)).1
                          clear hb
                          go_wp2_with fail
                          go_ret
                          exact ⟨rfl, HF.out⟩
end Go.Proofs.YtamlhapiehchoaaGreatDoor

namespace Go.Proofs.YtamlhapiehchoaaGreatDoor
open Go.ChangeShapes Go.WideShapes Go.ChangeAt Go.RowKit
set_option linter.unusedVariables false

theorem own : ownKnob Tryz.prog.godebug = none := by kernel_rfl
theorem laidOut : laidOutB Tryz.prog = true := by kernel_rfl

/-- The listed variables. -/
abbrev laid3 : List (String × DataW Unit) := [("math/bits.deBruijn32tab", Rows.laid_math_bits_deBruijn32tab), ("unicode/utf8.acceptRanges", Rows.laid_unicode_utf8_acceptRanges), ("unicode/utf8.first", Rows.laid_unicode_utf8_first)]

theorem gTab : Tryz.prog.globalNamed "math/bits.deBruijn32tab" = some 0 := by kernel_rfl
theorem tTab : (Tryz.prog.globals[0]?).map (·.type) = some 198 := by kernel_rfl
theorem cByte : Tryz.prog.cellsOf 5 = 1 := by kernel_rfl

theorem tab_of_laid {W : World} (h : laidMetH Tryz.prog laid3 W) : TabAt W := by
  rw [MakeChecks.laidMetH_plain _ _ _ (by kernel_rfl)] at h
  obtain ⟨g, t, cs, fuel, p, hg, ht, hv, hd⟩ := Lib.laidMet.reads h (List.mem_cons_self ..)
  obtain rfl := Option.some.inj (gTab.symm.trans hg)
  obtain rfl := Option.some.inj (tTab.symm.trans ht)
  obtain ⟨xs, m, rfl, hx, hlen, hn, hel⟩ := DataW.trod_array Tryz.underlying198 hd
  have hxs : xs.map (·.1) = tabL.map (fun z => (DataW.lit (.int .u8 z) : DataW Unit)) := by
    have := congrArg Prod.fst hx
    simp only [Rows.laid_math_bits_deBruijn32tab, DataW.agg.injEq] at this
    exact this.symm
  have key : ∀ i, i < 32 → W.cell? ⟨0, i, none⟩ = some (.int .u8 (tabL.getD i 0)) := by
    intro i hi
    have h1 := hel i hi
    obtain ⟨b, hb⟩ : ∃ b, xs[i]? = some b := ⟨xs[i]'(by omega), List.getElem?_eq_getElem (by omega)⟩
    rw [hb, cByte] at h1
    obtain ⟨z, hcz, hbz, _⟩ := DataW.trod_int Tryz.underlying5 h1
    have h2 : cs[i]? = some (.int .u8 z) := by
      have := congrArg (·[0]?) hcz
      simpa [List.getElem?_take, List.getElem?_drop] using this
    have h3 : (xs.map (·.1))[i]? = some (DataW.lit (.int .u8 z) : DataW Unit) := by simp [hb, hbz]
    rw [hxs] at h3
    simp only [List.getElem?_map, Option.map_eq_some_iff, DataW.lit.injEq, Lit.int.injEq, true_and] at h3
    obtain ⟨z', hz', rfl⟩ := h3
    rw [World.var?_cell hg hv i, h2]
    simp [List.getD_eq_getElem?_getD, hz']
  refine ⟨?_, key⟩
  have := key 0 (by omega)
  rcases Nat.lt_or_ge 0 W.heap.size with h | h
  · exact h
  · simp [World.cell?, Array.getElem?_eq_none h] at this
end Go.Proofs.YtamlhapiehchoaaGreatDoor
