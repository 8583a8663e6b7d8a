/- What is proved here: keys that sound long enough, with silence between them, are heard: on lists. No condition. -/
import Derived.Test.YtlllckclfpdhgaaDoorKeyTones
import Derived.Test.YtlllckclfpdhgaaDoorKeyHeard
namespace Go.Proofs.YtlllckclfpdhgaaDoor
open Go.RowKit
set_option linter.unusedVariables false
set_option linter.unusedSimpArgs false

theorem toneI_take (k n m : Nat) (h : m ≤ n) : (toneI k n).take m = toneI k m := by
  unfold toneI humI
  rw [List.take_zipWith, humS_take _ _ _ _ h, humS_take _ _ _ _ h]

theorem heard_at {k : Nat} (h : k < 16) {j : Nat} (hj : j < 4) : classI (((toneI k 820).drop (205 * j)).take 205) = k := by
  have := heard_all k h
  simp only [heardB, Bool.and_eq_true, List.all_eq_true, List.mem_range, beq_iff_eq] at this
  exact this.1 j hj
theorem tone_samples {k : Nat} (h : k < 16) : Samples (toneI k 820) := by
  have := heard_all k h
  simp only [heardB, Bool.and_eq_true, List.all_eq_true, decide_eq_true_eq] at this
  exact this.2

/-- The blocks of a list of whole blocks. -/
theorem blockI_append_left (a b : List Int) (k : Nat) (h : 205 * k + 205 ≤ a.length) : blockI (a ++ b) k = blockI a k := by
  unfold blockI
  rw [List.drop_append_of_le_length (by omega), List.take_append_of_le_length (by rw [List.length_drop]; omega)]
theorem blockI_append_right (a b : List Int) (k m : Nat) (h : a.length = 205 * m) : blockI (a ++ b) (m + k) = blockI b k := by
  unfold blockI
  rw [List.drop_append, List.drop_of_length_le (by omega), List.nil_append, show 205 * (m + k) - a.length = 205 * k by omega]

theorem hearTo_append (a b : List Int) (m : Nat) (h : a.length = 205 * m) : ∀ k, hearTo (a ++ b) (m + k) = (List.range k).foldl (fun s j => hearI s (blockI b j)) (hearTo (a ++ b) m)
  | 0 => rfl
  | k + 1 => by
    rw [List.range_succ, List.foldl_append, ← hearTo_append a b m h k]
    show hearI (hearTo (a ++ b) (m + k)) (blockI (a ++ b) (m + k)) = _
    rw [blockI_append_right a b k m h]
    rfl
theorem hearTo_left (a b : List Int) : ∀ k, 205 * k ≤ a.length → hearTo (a ++ b) k = hearTo a k
  | 0, _ => rfl
  | k + 1, h => by
    show hearI (hearTo (a ++ b) k) (blockI (a ++ b) k) = hearI (hearTo a k) (blockI a k)
    rw [hearTo_left a b k (by omega), blockI_append_left a b k (by omega)]

theorem tone_block (k n j : Nat) (hk : k < 16) (hn : n ≤ 820) (hj : 205 * j + 205 ≤ n) (z : List Int) : classI (blockI (toneI k n ++ z) j) = k := by
  rw [blockI_append_left _ _ _ (by rw [toneI_length]; exact hj)]
  have h4 : j < 4 := by omega
  have := heard_at hk h4
  rw [← this]
  unfold blockI
  rw [← toneI_take k 820 n hn]
  rw [List.drop_take, List.take_take, Nat.min_eq_left (by omega)]
theorem still_block (z j : Nat) (hj : 205 * j + 205 ≤ z) : classI (blockI (List.replicate z 0) j) = -1 := by
  have : blockI (List.replicate z 0) j = List.replicate 205 0 := by
    unfold blockI
    rw [List.drop_replicate, List.take_replicate, Nat.min_eq_left (by omega)]
  rw [this]; exact silence

def hearK (s : Int × Int × List Int) (key : Int) : Int × Int × List Int :=
  (if key = s.1 then s.1 else key, if key = s.1 then s.2.1 + 1 else 1, if (if key = s.1 then s.2.1 + 1 else 1) = 2 ∧ 0 ≤ key then s.2.2 ++ [padI.getD key.toNat 0] else s.2.2)
theorem hear_key {s : Int × Int × List Int} {l : List Int} {key : Int} (h : classI l = key) : hearI s l = hearK s key := by unfold hearI hearK; simp only [h]

theorem k_first (k : Nat) (m : Int) (ys : List Int) : hearK (-1, m, ys) k = ((k : Int), 1, ys) := by
  have h1 : ¬ (k : Int) = -1 := by omega
  simp [hearK, h1]
theorem k_second (k : Nat) (ys : List Int) : hearK ((k : Int), 1, ys) k = ((k : Int), 2, ys ++ [padI.getD k 0]) := by simp [hearK]
theorem k_more (k : Nat) (m : Int) (hm : 2 ≤ m) (ys : List Int) : hearK ((k : Int), m, ys) k = ((k : Int), m + 1, ys) := by
  have h1 : ¬ m + 1 = 2 := by omega
  simp [hearK, h1]
theorem k_still (k : Nat) (m : Int) (ys : List Int) : hearK ((k : Int), m, ys) (-1) = (-1, 1, ys) := by
  have h1 : ¬ (-1 : Int) = (k : Int) := by omega
  simp [hearK, h1]
theorem k_silent (m : Int) (ys : List Int) : hearK (-1, m, ys) (-1) = (-1, m + 1, ys) := by simp [hearK]

theorem seg_heard (s : Seg) (h : SegOk s) (m : Int) (ys : List Int) : ∃ (t : Nat) (m' : Int), (toneI s.key s.long ++ List.replicate s.still 0).length = 205 * t ∧ (List.range t).foldl (fun q j => hearI q (blockI (toneI s.key s.long ++ List.replicate s.still 0) j)) (-1, m, ys) = (-1, m', ys ++ [padI.getD s.key 0]) := by
  obtain ⟨k, n, z⟩ := s
  obtain ⟨hk, hn, hz⟩ := h
  simp only at hk hn hz ⊢
  have T : ∀ j, 205 * j + 205 ≤ n → ∀ q, hearI q (blockI (toneI k n ++ List.replicate z 0) j) = hearK q k := fun j hj q => hear_key (tone_block k n j hk (by omega) hj _)
  rcases hn with rfl | rfl
  · have Z : ∀ i, 205 * i + 205 ≤ z → ∀ q, hearI q (blockI (toneI k 615 ++ List.replicate z 0) (3 + i)) = hearK q (-1) := fun i hi q => hear_key (by rw [blockI_append_right _ _ i 3 (by rw [toneI_length])]; exact still_block z i hi)
    rcases hz with rfl | rfl
    · refine ⟨5, 2, by rw [List.length_append, toneI_length, List.length_replicate], ?_⟩
      show hearI (hearI (hearI (hearI (hearI _ (blockI _ 0)) (blockI _ 1)) (blockI _ 2)) (blockI _ (3 + 0))) (blockI _ (3 + 1)) = _
      rw [T 0 (by omega), T 1 (by omega), T 2 (by omega), Z 0 (by omega), Z 1 (by omega), k_first, k_second, k_more _ _ (by omega), k_still, k_silent]
      rfl
    · refine ⟨6, 3, by rw [List.length_append, toneI_length, List.length_replicate], ?_⟩
      show hearI (hearI (hearI (hearI (hearI (hearI _ (blockI _ 0)) (blockI _ 1)) (blockI _ 2)) (blockI _ (3 + 0))) (blockI _ (3 + 1))) (blockI _ (3 + 2)) = _
      rw [T 0 (by omega), T 1 (by omega), T 2 (by omega), Z 0 (by omega), Z 1 (by omega), Z 2 (by omega), k_first, k_second, k_more _ _ (by omega), k_still, k_silent, k_silent]
      rfl
  · have Z : ∀ i, 205 * i + 205 ≤ z → ∀ q, hearI q (blockI (toneI k 820 ++ List.replicate z 0) (4 + i)) = hearK q (-1) := fun i hi q => hear_key (by rw [blockI_append_right _ _ i 4 (by rw [toneI_length])]; exact still_block z i hi)
    rcases hz with rfl | rfl
    · refine ⟨6, 2, by rw [List.length_append, toneI_length, List.length_replicate], ?_⟩
      show hearI (hearI (hearI (hearI (hearI (hearI _ (blockI _ 0)) (blockI _ 1)) (blockI _ 2)) (blockI _ 3)) (blockI _ (4 + 0))) (blockI _ (4 + 1)) = _
      rw [T 0 (by omega), T 1 (by omega), T 2 (by omega), T 3 (by omega), Z 0 (by omega), Z 1 (by omega), k_first, k_second, k_more _ _ (by omega), k_more _ _ (by omega), k_still, k_silent]
      rfl
    · refine ⟨7, 3, by rw [List.length_append, toneI_length, List.length_replicate], ?_⟩
      show hearI (hearI (hearI (hearI (hearI (hearI (hearI _ (blockI _ 0)) (blockI _ 1)) (blockI _ 2)) (blockI _ 3)) (blockI _ (4 + 0))) (blockI _ (4 + 1))) (blockI _ (4 + 2)) = _
      rw [T 0 (by omega), T 1 (by omega), T 2 (by omega), T 3 (by omega), Z 0 (by omega), Z 1 (by omega), Z 2 (by omega), k_first, k_second, k_more _ _ (by omega), k_more _ _ (by omega), k_still, k_silent, k_silent]
      rfl

theorem all_heard : ∀ (segs : List Seg), (∀ s ∈ segs, SegOk s) → ∀ (a : List Int) (M : Nat) (m : Int) (ys : List Int), a.length = 205 * M → hearTo a M = (-1, m, ys) →
    ∃ (M' : Nat) (m' : Int), (a ++ soundI segs).length = 205 * M' ∧ hearTo (a ++ soundI segs) M' = (-1, m', ys ++ segs.map (fun s => padI.getD s.key 0))
  | [], _, a, M, m, ys, ha, hh => ⟨M, m, by simp [soundI, ha], by simp [soundI, hh]⟩
  | s :: l, hs, a, M, m, ys, ha, hh => by
    obtain ⟨t, m1, ht, hf⟩ := seg_heard s (hs s (by simp)) m ys
    have h1 := hearTo_append a (toneI s.key s.long ++ List.replicate s.still 0) M ha t
    rw [hearTo_left a _ M (by omega), hh, hf] at h1
    obtain ⟨M', m', h2, h3⟩ := all_heard l (fun t ht => hs t (by simp [ht])) (a ++ (toneI s.key s.long ++ List.replicate s.still 0)) (M + t) m1 _ (by rw [List.length_append, ha, ht]; omega) h1
    have e : a ++ soundI (s :: l) = (a ++ (toneI s.key s.long ++ List.replicate s.still 0)) ++ soundI l := by simp [soundI]
    rw [e]
    exact ⟨M', m', h2, by rw [h3]; simp⟩

theorem heard_text (segs : List Seg) (h : ∀ s ∈ segs, SegOk s) : ((hearTo (soundI segs) ((soundI segs).length / 205)).2.2.map (fun x => UInt8.ofNat x.toNat)) = textI segs := by
  obtain ⟨M, m, h1, h2⟩ := all_heard segs h [] 0 0 [] rfl rfl
  simp only [List.nil_append] at h1 h2
  rw [h1, Nat.mul_div_cancel_left _ (by decide), h2]
  simp [textI]

theorem sound_samples (segs : List Seg) (h : ∀ s ∈ segs, SegOk s) : Samples (soundI segs) := by
  intro x hx
  obtain ⟨s, hs, hx⟩ := List.mem_flatMap.1 hx
  obtain ⟨hk, hn, _⟩ := h s hs
  rcases List.mem_append.1 hx with hx | hx
  · have := toneI_take s.key 820 s.long (by omega)
    rw [← this] at hx
    exact tone_samples hk x (List.mem_of_mem_take hx)
  · rw [List.eq_of_mem_replicate hx]; decide
end Go.Proofs.YtlllckclfpdhgaaDoor
