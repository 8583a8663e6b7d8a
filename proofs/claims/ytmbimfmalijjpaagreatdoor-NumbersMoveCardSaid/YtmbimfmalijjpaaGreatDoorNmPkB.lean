/- What is proved here: lemmas and contracts for the statement, put together out of smaller texts (SlipMath, PortMath, EncS, WayLaw, IntRows, StrBytes, WayOwn, PortRows, PortTab, PortLit, NumberK, RefSmall, OrErr, SplitPost, Numbered, PortSmall). No condition beyond those stated. -/
import Derived.Test.YtmbimfmalijjpaaGreatDoorNmPkA
import Derived.Lib.SlicesCompact
import Derived.Sort.KeysCollected
import Derived.Lib.OwnBridge
import Derived.Deep.AppendLies
import Derived.Laws.AppendOwn
import Derived.Laws.BytesString
import Derived.Laws.IdiomStrings
import Derived.StillTailTactics
import Derived.Test.YtmbimfmalijjpaaGreatDoorShelfHas
import Derived.Test.YtmbimfmalijjpaaGreatDoorShelfPort
import Derived.Lib.ItoaLen
import Derived.Deep.MidRow
import Derived.Maps.AppendAt
import Derived.Lib.ConvBytes
set_option linter.unusedVariables false
set_option linter.unusedSimpArgs false
namespace Go.Proofs.YtmbimfmalijjpaaGreatDoor
open Go.RowKit

/-- Members alone count: strictly ordered lists. -/
theorem strict_unique : ∀ {x y : List (List UInt8)}, x.Pairwise (· < ·) → y.Pairwise (· < ·) → (∀ z, z ∈ x ↔ z ∈ y) → x = y
  | [], [], _, _, _ => rfl
  | [], b :: y, _, _, h => by have := (h b).2 List.mem_cons_self; cases this
  | a :: x, [], _, _, h => by have := (h a).1 List.mem_cons_self; cases this
  | a :: x, b :: y, hx, hy, h => by
    rw [List.pairwise_cons] at hx hy
    have hab : a = b := by
      rcases List.mem_cons.1 ((h a).1 List.mem_cons_self) with h1 | h1
      · exact h1
      · rcases List.mem_cons.1 ((h b).2 List.mem_cons_self) with h2 | h2
        · exact h2.symm
        · exact absurd (List.lt_trans (hy.1 a h1) (hx.1 b h2)) (List.lt_irrefl b)
    subst hab
    have ht : x = y := by
      refine strict_unique hx.2 hy.2 fun z => ⟨fun hz => ?_, fun hz => ?_⟩
      · rcases List.mem_cons.1 ((h z).1 (List.mem_cons_of_mem _ hz)) with h1 | h1
        · subst h1; exact absurd (hx.1 z hz) (List.lt_irrefl z)
        · exact h1
      · rcases List.mem_cons.1 ((h z).2 (List.mem_cons_of_mem _ hz)) with h1 | h1
        · subst h1; exact absurd (hy.1 z hz) (List.lt_irrefl z)
        · exact h1
    rw [ht]
theorem mem_upTo (d : Array (List UInt8)) (x : List UInt8) : ∀ m, x ∈ Lib.compactUpTo d m ↔ ∃ j, j < m ∧ d[j]! = x
  | 0 => by simp [Lib.compactUpTo]
  | m + 1 => by
    rw [Lib.compactUpTo_succ, List.mem_append, mem_upTo d x m]
    refine ⟨fun h => ?_, fun h => ?_⟩
    · rcases h with ⟨j, h1, h2⟩ | h
      · exact ⟨j, by omega, h2⟩
      · split at h
        · exact ⟨m, by omega, (List.mem_singleton.1 h).symm⟩
        · cases h
    · obtain ⟨j, h1, h2⟩ := h
      rcases Nat.lt_succ_iff_lt_or_eq.1 h1 with h3 | rfl
      · exact Or.inl ⟨j, h3, h2⟩
      · cases hk : Lib.keeps d j with
        | true => right; rw [if_pos rfl]; exact List.mem_singleton.2 h2.symm
        | false =>
          left
          simp only [Lib.keeps, decide_eq_false_iff_not, not_or, ne_eq, Decidable.not_not] at hk
          exact ⟨j - 1, by omega, by rw [← hk.2]; exact h2⟩
theorem mem_compact (zs : List (List UInt8)) (x : List UInt8) : x ∈ Lib.compact zs ↔ x ∈ zs := by
  unfold Lib.compact
  rw [mem_upTo]
  refine ⟨fun ⟨j, h1, h2⟩ => ?_, fun h => ?_⟩
  · rw [← h2]
    simp [h1]
  · obtain ⟨j, h1, h2⟩ := List.getElem_of_mem h
    exact ⟨j, h1, by simp [h1, h2]⟩
theorem upTo_strict (d : Array (List UInt8)) (hd : ∀ i j, i ≤ j → j < d.size → d[i]! ≤ d[j]!) : ∀ m, m ≤ d.size → (Lib.compactUpTo d m).Pairwise (· < ·)
  | 0, _ => by simp [Lib.compactUpTo]
  | m + 1, hm => by
    rw [Lib.compactUpTo_succ]
    have ih := upTo_strict d hd m (by omega)
    cases hk : Lib.keeps d m with
    | false => simpa using ih
    | true =>
      rw [if_pos rfl, List.pairwise_append]
      refine ⟨ih, by simp, fun a ha b hb => ?_⟩
      obtain ⟨j, h1, rfl⟩ := (mem_upTo d a m).1 ha
      rw [List.mem_singleton.1 hb]
      simp only [Lib.keeps, decide_eq_true_eq] at hk
      rcases hk with h0 | hne
      · omega
      · have h2 := hd j (m - 1) (by omega) (by omega)
        have h3 := hd (m - 1) m (by omega) (by omega)
        have h4 : d[m - 1]! < d[m]! := Decidable.byContradiction fun hn => hne (List.le_antisymm (List.not_lt.1 hn) h3)
        exact List.lt_of_le_of_lt h2 h4
theorem compact_strict (zs : List (List UInt8)) (h : zs.Pairwise (fun a b => leB a b = true)) : (Lib.compact zs).Pairwise (· < ·) := by
  unfold Lib.compact
  refine upTo_strict _ (fun i j hij hj => ?_) _ (by simp)
  have hj' : j < zs.length := by simpa using hj
  rcases Nat.lt_or_eq_of_le hij with h1 | rfl
  · have h2 := List.pairwise_iff_getElem.1 h i j (by omega) hj' h1
    simp only [leB, decide_eq_true_eq] at h2
    simpa [hj', show i < zs.length by omega] using h2
  · exact List.le_refl _
/-- Sorted, each once. -/
def onceL (zs : List (List UInt8)) : List (List UInt8) := Lib.compact (zs.mergeSort leB)
theorem once_same {x y : List (List UInt8)} (h : ∀ z, z ∈ x ↔ z ∈ y) : onceL x = onceL y := by
  have tr : ∀ a b c : List UInt8, leB a b = true → leB b c = true → leB a c = true := fun a b c h1 h2 => by simp only [leB, decide_eq_true_eq] at *; exact List.le_trans h1 h2
  have tot : ∀ a b : List UInt8, (leB a b || leB b a) = true := fun a b => by simp only [leB, Bool.or_eq_true, decide_eq_true_eq]; exact List.le_total a b
  refine strict_unique (compact_strict _ (List.pairwise_mergeSort tr tot x)) (compact_strict _ (List.pairwise_mergeSort tr tot y)) fun z => ?_
  unfold onceL
  rw [mem_compact, mem_compact, List.mem_mergeSort, List.mem_mergeSort]
  exact h z

/-- The digits, in order. -/
def tenD : List UInt8 := [48, 49, 50, 51, 52, 53, 54, 55, 56, 57]
theorem mem_ten (x : UInt8) : x ∈ tenD ↔ 48 ≤ x.toNat ∧ x.toNat ≤ 57 := by
  have h : ∀ n : Nat, n < 256 → ((UInt8.ofNat n ∈ tenD) ↔ 48 ≤ (UInt8.ofNat n).toNat ∧ (UInt8.ofNat n).toNat ≤ 57) := by decide +kernel
  have := h x.toNat x.toNat_lt
  simpa using this
def moreAt (a : List UInt8) (i : Nat) (d : UInt8) : List UInt8 := a.take i ++ d :: a.drop i
def otherAt (a : List UInt8) (i : Nat) (d : UInt8) : List UInt8 := a.take i ++ d :: a.drop (i + 1)
def lostAt (a : List UInt8) (i : Nat) : List UInt8 := a.take i ++ a.drop (i + 1)
def turnAt (a : List UInt8) (i : Nat) : List UInt8 := a.take i ++ (a.getD (i + 1) 0 :: a.getD i 0 :: a.drop (i + 2))
/-- What one place and one digit give. -/
def slipStep (a : List UInt8) (kind : Nat) (i : Nat) (d : UInt8) : List (List UInt8) :=
  if kind = 5 then [moreAt a i d] else if i = a.length then [] else if kind = 2 then [otherAt a i d] else if kind = 4 then [lostAt a i] else if kind = 3 ∧ i + 1 < a.length then [turnAt a i] else []
def slipRow (a : List UInt8) (kind i : Nat) (ds : List UInt8) : List (List UInt8) := ds.flatMap (slipStep a kind i)
def slipsTo (a : List UInt8) (kind k : Nat) : List (List UInt8) := (List.range k).flatMap fun i => slipRow a kind i tenD
theorem slipsTo_succ (a : List UInt8) (kind k : Nat) : slipsTo a kind (k + 1) = slipsTo a kind k ++ slipRow a kind k tenD := by
  unfold slipsTo
  rw [List.range_succ, List.flatMap_append]
  simp
def slipsL (a : List UInt8) (kind : Nat) : List (List UInt8) := slipsTo a kind (a.length + 1)
theorem mem_slips (a : List UInt8) (kind : Nat) (x : List UInt8) : x ∈ slipsL a kind ↔ ∃ i d, i ≤ a.length ∧ d ∈ tenD ∧ x ∈ slipStep a kind i d := by
  unfold slipsL slipsTo slipRow
  simp only [List.mem_flatMap, List.mem_range]
  refine ⟨fun ⟨i, h1, d, h2, h3⟩ => ⟨i, d, by omega, h2, h3⟩, fun ⟨i, d, h1, h2, h3⟩ => ⟨i, by omega, d, h2, h3⟩⟩
theorem mem_more (a x : List UInt8) : x ∈ slipsL a 5 ↔ ∃ i d, i ≤ a.length ∧ d ∈ tenD ∧ x = moreAt a i d := by
  rw [mem_slips]; simp [slipStep]
theorem mem_other (a x : List UInt8) : x ∈ slipsL a 2 ↔ ∃ i d, i < a.length ∧ d ∈ tenD ∧ x = otherAt a i d := by
  rw [mem_slips]
  refine ⟨fun ⟨i, d, h1, h2, h3⟩ => ?_, fun ⟨i, d, h1, h2, h3⟩ => ⟨i, d, by omega, h2, ?_⟩⟩
  · by_cases hi : i = a.length
    · simp [slipStep, hi] at h3
    · simp [slipStep, hi] at h3
      exact ⟨i, d, by omega, h2, h3⟩
  · simp [slipStep, show ¬ i = a.length by omega, h3]
theorem mem_lost (a x : List UInt8) : x ∈ slipsL a 4 ↔ ∃ i, i < a.length ∧ x = lostAt a i := by
  rw [mem_slips]
  refine ⟨fun ⟨i, d, h1, h2, h3⟩ => ?_, fun ⟨i, h1, h3⟩ => ⟨i, 48, by omega, by decide, ?_⟩⟩
  · by_cases hi : i = a.length
    · simp [slipStep, hi] at h3
    · simp [slipStep, hi] at h3
      exact ⟨i, by omega, h3⟩
  · simp [slipStep, show ¬ i = a.length by omega, h3]
theorem mem_turn (a x : List UInt8) : x ∈ slipsL a 3 ↔ ∃ i, i + 1 < a.length ∧ x = turnAt a i := by
  rw [mem_slips]
  refine ⟨fun ⟨i, d, h1, h2, h3⟩ => ?_, fun ⟨i, h1, h3⟩ => ⟨i, 48, by omega, by decide, ?_⟩⟩
  · by_cases hi : i = a.length
    · simp [slipStep, hi] at h3
    · by_cases h4 : i + 1 < a.length
      · simp [slipStep, hi, h4] at h3
        exact ⟨i, h4, h3⟩
      · simp [slipStep, hi, h4] at h3
  · simp [slipStep, show ¬ i = a.length by omega, h1, h3]
def slipR (a b : List UInt8) : Nat := if a = b then 1 else if b ∈ slipsL a 2 then 2 else if b ∈ slipsL a 3 then 3 else if b ∈ slipsL a 4 then 4 else if b ∈ slipsL a 5 then 5 else 0
/-- How many of the first k places differ. -/
def diffTo (a b : List UInt8) : Nat → Nat
  | 0 => 0
  | k + 1 => diffTo a b k + if a.getD k 0 = b.getD k 0 then 0 else 1
theorem diff_le (a b : List UInt8) : ∀ k, diffTo a b k ≤ k
  | 0 => Nat.le_refl _
  | k + 1 => by have := diff_le a b k; unfold diffTo; split <;> omega
theorem diff_none (a b : List UInt8) : ∀ k, diffTo a b k = 0 ↔ ∀ i, i < k → a.getD i 0 = b.getD i 0
  | 0 => by simp [diffTo]
  | k + 1 => by
    unfold diffTo
    have ih := diff_none a b k
    refine ⟨fun h i hi => ?_, fun h => ?_⟩
    · rcases Nat.lt_succ_iff_lt_or_eq.1 hi with h1 | rfl
      · exact ih.1 (by omega) i h1
      · split at h
        · assumption
        · omega
    · rw [if_pos (h k (by omega)), ih.2 (fun i hi => h i (by omega))]
theorem diff_one (a b : List UInt8) : ∀ k, diffTo a b k = 1 ↔ ∃ i, i < k ∧ a.getD i 0 ≠ b.getD i 0 ∧ ∀ j, j < k → j ≠ i → a.getD j 0 = b.getD j 0
  | 0 => by simp [diffTo]
  | k + 1 => by
    unfold diffTo
    have ih := diff_one a b k
    have i0 := diff_none a b k
    refine ⟨fun h => ?_, fun ⟨i, h1, h2, h3⟩ => ?_⟩
    · split at h
      · rename_i he
        obtain ⟨i, h1, h2, h3⟩ := ih.1 (by omega)
        refine ⟨i, by omega, h2, fun j hj hji => ?_⟩
        rcases Nat.lt_succ_iff_lt_or_eq.1 hj with h4 | rfl
        · exact h3 j h4 hji
        · exact he
      · rename_i he
        have h0 := i0.1 (by omega)
        exact ⟨k, by omega, he, fun j hj hjk => h0 j (by omega)⟩
    · by_cases hik : i = k
      · subst hik
        rw [if_neg h2, i0.2 (fun j hj => h3 j (by omega) (by omega))]
      · rw [if_pos (h3 k (by omega) (fun e => hik e.symm)), ih.2 ⟨i, by omega, h2, fun j hj hji => h3 j (by omega) hji⟩]
theorem getD_other (a : List UInt8) (i : Nat) (d : UInt8) (hi : i < a.length) (j : Nat) : (otherAt a i d).getD j 0 = if j = i then d else a.getD j 0 := by
  unfold otherAt
  simp only [List.getD_eq_getElem?_getD]
  rcases Nat.lt_trichotomy j i with h | rfl | h
  · rw [List.getElem?_append_left (by rw [List.length_take]; omega), List.getElem?_take_of_lt h, if_neg (by omega)]
  · rw [List.getElem?_append_right (by rw [List.length_take]; omega), List.length_take, Nat.min_eq_left (by omega)]
    simp
  · rw [List.getElem?_append_right (by rw [List.length_take]; omega), List.length_take, Nat.min_eq_left (by omega), if_neg (by omega), show j - i = (j - i - 1) + 1 by omega, List.getElem?_cons_succ, List.getElem?_drop]
    congr 2
    omega
theorem len_other (a : List UInt8) (i : Nat) (d : UInt8) (hi : i < a.length) : (otherAt a i d).length = a.length := by
  unfold otherAt
  rw [List.length_append, List.length_take, List.length_cons, List.length_drop]; omega
theorem len_lost (a : List UInt8) (i : Nat) (hi : i < a.length) : (lostAt a i).length + 1 = a.length := by
  unfold lostAt
  rw [List.length_append, List.length_take, List.length_drop]; omega
theorem len_more (a : List UInt8) (i : Nat) (d : UInt8) (hi : i ≤ a.length) : (moreAt a i d).length = a.length + 1 := by
  unfold moreAt
  rw [List.length_append, List.length_take, List.length_cons, List.length_drop]; omega
theorem len_turn (a : List UInt8) (i : Nat) (hi : i + 1 < a.length) : (turnAt a i).length = a.length := by
  unfold turnAt
  rw [List.length_append, List.length_take, List.length_cons, List.length_cons, List.length_drop]; omega
theorem getD_ext {a b : List UInt8} (hl : a.length = b.length) (h : ∀ j, j < a.length → a.getD j 0 = b.getD j 0) : a = b := by
  apply List.ext_getElem hl
  intro j h1 h2
  have := h j h1
  simpa [h1, h2] using this
theorem other_iff {a b : List UInt8} (hne : a ≠ b) (hb : ∀ x ∈ b, x ∈ tenD) : b ∈ slipsL a 2 ↔ a.length = b.length ∧ diffTo a b a.length = 1 := by
  rw [mem_other]
  refine ⟨fun ⟨i, d, h1, h2, h3⟩ => ⟨by rw [h3, len_other a i d h1], ?_⟩, fun ⟨hl, hd⟩ => ?_⟩
  · rw [diff_one]
    have hdif : a.getD i 0 ≠ b.getD i 0 := fun e => hne (by
      refine getD_ext (by rw [h3, len_other a i d h1]) fun j hj => ?_
      by_cases hji : j = i
      · rw [hji]; exact e
      · rw [h3, getD_other a i d h1, if_neg hji])
    refine ⟨i, h1, hdif, fun j hj hji => ?_⟩
    rw [h3, getD_other a i d h1, if_neg hji]
  · obtain ⟨i, h1, h2, h3⟩ := (diff_one a b a.length).1 hd
    have hib : i < b.length := by omega
    refine ⟨i, b.getD i 0, h1, hb _ (by rw [show b.getD i 0 = b[i] by simp [hib]]; exact List.getElem_mem hib), ?_⟩
    refine getD_ext (by rw [len_other a i _ h1]; exact hl.symm) fun j hj => ?_
    rw [getD_other a i _ h1]
    by_cases hji : j = i
    · rw [if_pos hji, hji]
    · rw [if_neg hji, h3 j (by omega) hji]
theorem more_iff {a b : List UInt8} (hb : ∀ x ∈ b, x ∈ tenD) : b ∈ slipsL a 5 ↔ b.length = a.length + 1 ∧ ∃ i, i < b.length ∧ lostAt b i = a := by
  rw [mem_more]
  refine ⟨fun ⟨i, d, h1, h2, h3⟩ => ?_, fun ⟨hl, i, h1, h2⟩ => ?_⟩
  · have hl := len_more a i d h1
    subst h3
    refine ⟨hl, i, by omega, ?_⟩
    unfold lostAt moreAt
    have ht : (a.take i).length = i := by rw [List.length_take]; omega
    rw [List.take_append_of_le_length (by omega), List.take_take, Nat.min_self, show i + 1 = (a.take i).length + 1 by omega, List.drop_length_add_append, List.drop_succ_cons, List.drop_zero, List.take_append_drop]
  · refine ⟨i, b.getD i 0, by omega, hb _ (by rw [show b.getD i 0 = b[i] by simp [h1]]; exact List.getElem_mem h1), ?_⟩
    subst h2
    unfold moreAt lostAt
    have ht : (b.take i).length = i := by rw [List.length_take]; omega
    rw [List.take_append_of_le_length (by omega), List.take_take, Nat.min_self]
    have hd : List.drop i (b.take i ++ b.drop (i + 1)) = b.drop (i + 1) := by
      conv => lhs; arg 1; rw [← ht]
      exact List.drop_left
    rw [hd]
    conv => lhs; rw [← List.take_append_drop i b, List.drop_eq_getElem_cons h1]
    simp [h1]
def turnsB (a b : List UInt8) : Bool := (List.range (a.length - 1)).any fun i => turnAt a i == b
def shortB (a b : List UInt8) : Bool := (List.range a.length).any fun i => lostAt a i == b
theorem turns_iff (a b : List UInt8) : turnsB a b = true ↔ b ∈ slipsL a 3 := by
  rw [mem_turn]
  unfold turnsB
  rw [List.any_eq_true]
  refine ⟨fun ⟨i, h1, h2⟩ => ⟨i, by have := List.mem_range.1 h1; omega, (beq_iff_eq.1 h2).symm⟩, fun ⟨i, h1, h2⟩ => ⟨i, List.mem_range.2 (by omega), beq_iff_eq.2 h2.symm⟩⟩
theorem short_iff (a b : List UInt8) : shortB a b = true ↔ ∃ i, i < a.length ∧ lostAt a i = b := by
  unfold shortB
  rw [List.any_eq_true]
  refine ⟨fun ⟨i, h1, h2⟩ => ⟨i, List.mem_range.1 h1, beq_iff_eq.1 h2⟩, fun ⟨i, h1, h2⟩ => ⟨i, List.mem_range.2 h1, beq_iff_eq.2 h2⟩⟩
theorem lost_iff (a b : List UInt8) : b ∈ slipsL a 4 ↔ a.length = b.length + 1 ∧ shortB a b = true := by
  rw [mem_lost, short_iff]
  refine ⟨fun ⟨i, h1, h2⟩ => ⟨by rw [h2]; exact (len_lost a i h1).symm, i, h1, h2.symm⟩, fun ⟨_, i, h1, h2⟩ => ⟨i, h1, h2.symm⟩⟩
theorem more_iff2 {a b : List UInt8} (hb : ∀ x ∈ b, x ∈ tenD) : b ∈ slipsL a 5 ↔ b.length = a.length + 1 ∧ shortB b a = true := by
  rw [more_iff hb, short_iff]
/-- What the program looks at. -/
def slipP (a b : List UInt8) : Nat :=
  if a = b then 1 else if a.length = b.length ∧ diffTo a b a.length = 1 then 2 else if a.length = b.length ∧ turnsB a b = true then 3
  else if a.length = b.length + 1 ∧ shortB a b = true then 4 else if b.length = a.length + 1 ∧ shortB b a = true then 5 else 0
theorem slip_same {a b : List UInt8} (hb : ∀ x ∈ b, x ∈ tenD) : slipR a b = slipP a b := by
  unfold slipR slipP
  by_cases h1 : a = b
  · rw [if_pos h1, if_pos h1]
  · rw [if_neg h1, if_neg h1]
    have e2 := other_iff h1 hb
    have e3 : b ∈ slipsL a 3 ↔ a.length = b.length ∧ turnsB a b = true := by
      rw [← turns_iff]
      refine ⟨fun h => ⟨?_, h⟩, fun h => h.2⟩
      obtain ⟨i, h1, h2⟩ := (mem_turn a b).1 ((turns_iff a b).1 h)
      rw [h2]; exact (len_turn a i h1).symm
    simp only [e2, e3, lost_iff a b, more_iff2 hb]
/-- What the program tries for one place and one digit, for one place, for so many places. -/
def tryC (s : List UInt8) (i : Nat) (c : UInt8) : List (List UInt8) := moreAt s i c :: (if i < s.length then [otherAt s i c] else [])
def tryCs (s : List UInt8) (i : Nat) (k : Nat) : List (List UInt8) := (tenD.take k).flatMap (tryC s i)
def tryL (s : List UInt8) (i : Nat) : List (List UInt8) := tryCs s i 10 ++ (if i < s.length then [lostAt s i] else [])
def tryRow (s : List UInt8) (i : Nat) : List (List UInt8) := tryL s i ++ (if i + 1 < s.length then [turnAt s i] else [])
def tryTo (s : List UInt8) (k : Nat) : List (List UInt8) := (List.range k).flatMap (tryRow s)
theorem tryTo_succ (s : List UInt8) (k : Nat) : tryTo s (k + 1) = tryTo s k ++ tryRow s k := by
  unfold tryTo
  rw [List.range_succ, List.flatMap_append]
  simp
theorem tryCs_succ (s : List UInt8) (i k : Nat) (hk : k < 10) : tryCs s i (k + 1) = tryCs s i k ++ tryC s i (tenD.getD k 0) := by
  unfold tryCs
  rw [List.take_add_one, List.flatMap_append]
  congr 1
  have : k < tenD.length := hk
  simp [this]
theorem ten_at : ∀ k, k < 10 → tenD.getD k 0 = UInt8.ofNat (48 + k) := by decide
theorem mem_try (s z : List UInt8) : z ∈ tryTo s (s.length + 1) ↔ z ∈ slipsL s 2 ∨ z ∈ slipsL s 3 ∨ z ∈ slipsL s 4 ∨ z ∈ slipsL s 5 := by
  rw [mem_other, mem_turn, mem_lost, mem_more]
  unfold tryTo
  rw [List.mem_flatMap]
  simp only [List.mem_range, tryRow, tryL, tryCs, List.mem_append, List.mem_flatMap, tryC, List.mem_cons, show tenD.take 10 = tenD from rfl]
  refine ⟨fun ⟨i, h1, h⟩ => ?_, fun h => ?_⟩
  · rcases h with (⟨c, hc, h | h⟩ | h) | h
    · exact Or.inr (Or.inr (Or.inr ⟨i, c, by omega, hc, h⟩))
    · split at h
      · rename_i hi
        exact Or.inl ⟨i, c, hi, hc, List.mem_singleton.1 h⟩
      · cases h
    · split at h
      · rename_i hi
        exact Or.inr (Or.inr (Or.inl ⟨i, hi, List.mem_singleton.1 h⟩))
      · cases h
    · split at h
      · rename_i hi
        exact Or.inr (Or.inl ⟨i, hi, List.mem_singleton.1 h⟩)
      · cases h
  · rcases h with ⟨i, d, h1, h2, h3⟩ | ⟨i, h1, h3⟩ | ⟨i, h1, h3⟩ | ⟨i, d, h1, h2, h3⟩
    · exact ⟨i, by omega, Or.inl (Or.inl ⟨d, h2, Or.inr (by rw [if_pos h1]; exact List.mem_singleton.2 h3)⟩)⟩
    · exact ⟨i, by omega, Or.inr (by rw [if_pos h1]; exact List.mem_singleton.2 h3)⟩
    · exact ⟨i, by omega, Or.inl (Or.inr (by rw [if_pos h1]; exact List.mem_singleton.2 h3))⟩
    · exact ⟨i, by omega, Or.inl (Or.inl ⟨d, h2, Or.inl h3⟩)⟩
theorem tryC_len (s : List UInt8) (i : Nat) (c : UInt8) : (tryC s i c).length ≤ 2 := by unfold tryC; split <;> simp
theorem flat_len {α : Type} (f : α → List (List UInt8)) (m : Nat) (hf : ∀ x, (f x).length ≤ m) : ∀ l : List α, (l.flatMap f).length ≤ m * l.length
  | [] => by simp
  | x :: l => by
    have := flat_len f m hf l
    have := hf x
    rw [List.flatMap_cons, List.length_append, List.length_cons, Nat.mul_add]; omega
theorem tryCs_len (s : List UInt8) (i k : Nat) : (tryCs s i k).length ≤ 20 := by
  have h := flat_len (tryC s i) 2 (tryC_len s i) (tenD.take k)
  have h2 : (tenD.take k).length ≤ 10 := by rw [List.length_take]; exact Nat.min_le_right _ _
  unfold tryCs
  omega
theorem tryRow_len (s : List UInt8) (i : Nat) : (tryRow s i).length ≤ 22 := by
  have h := tryCs_len s i 10
  unfold tryRow tryL
  rw [List.length_append, List.length_append]
  have h1 : (if i < s.length then [lostAt s i] else []).length ≤ 1 := by split <;> simp
  have h2 : (if i + 1 < s.length then [turnAt s i] else []).length ≤ 1 := by split <;> simp
  omega
theorem tryTo_len (s : List UInt8) (k : Nat) : (tryTo s k).length ≤ 22 * k := by
  have h := flat_len (tryRow s) 22 (tryRow_len s) (List.range k)
  rw [List.length_range] at h
  exact h
/-- Those that are taken, as numbers. -/
def takeN (f : List UInt8 → Bool) (s : List UInt8) (l : List (List UInt8)) : List (List UInt8) := (l.filter fun d => f d && !(d == s)).map (43 :: ·)
theorem takeN_app (f : List UInt8 → Bool) (s : List UInt8) (x y : List (List UInt8)) : takeN f s (x ++ y) = takeN f s x ++ takeN f s y := by unfold takeN; simp
theorem takeN_one (f : List UInt8 → Bool) (s d : List UInt8) : takeN f s [d] = if (f d && !(d == s)) = true then [43 :: d] else [] := by
  unfold takeN
  rw [List.filter_cons]
  split <;> rfl
theorem takeN_len (f : List UInt8 → Bool) (s : List UInt8) (x : List (List UInt8)) : (takeN f s x).length ≤ x.length := by
  unfold takeN
  rw [List.length_map]
  exact List.length_filter_le _ _
def allKinds (s : List UInt8) : List (List UInt8) := slipsL s 2 ++ slipsL s 3 ++ slipsL s 4 ++ slipsL s 5
theorem take_once (f : List UInt8 → Bool) (s : List UInt8) : onceL (takeN f s (tryTo s (s.length + 1))) = onceL (takeN f s (allKinds s)) := by
  refine once_same fun z => ?_
  have hm : ∀ d, d ∈ tryTo s (s.length + 1) ↔ d ∈ allKinds s := fun d => by
    rw [mem_try]
    unfold allKinds
    simp only [List.mem_append, or_assoc]
  unfold takeN
  simp only [List.mem_map, List.mem_filter, hm]
end Go.Proofs.YtmbimfmalijjpaaGreatDoor

set_option linter.unusedVariables false
set_option linter.unusedSimpArgs false
namespace Go.Proofs.YtmbimfmalijjpaaGreatDoor
open Go.RowKit

/-- The whole number that digits spell behind another. -/
def decT (acc : Nat) : List UInt8 → Nat
  | [] => acc
  | b :: r => decT (acc * 10 + (b.toNat - 48)) r
theorem digs_cons {b : UInt8} {r : List UInt8} (h : digs (b :: r) = true) : 48 ≤ b.toNat ∧ b.toNat ≤ 57 ∧ digs r = true := by
  unfold digs at h ⊢
  simpa [and_assoc] using h
theorem dec_some : ∀ (l : List UInt8) (acc : Nat), digs l = true → Lib.decFrom acc l = some (decT acc l)
  | [], acc, _ => rfl
  | b :: r, acc, h => by
    obtain ⟨h1, h2, h3⟩ := digs_cons h
    unfold Lib.decFrom decT Lib.digitVal
    rw [if_pos ⟨h1, h2⟩]
    exact dec_some r _ h3
theorem dec_acc : ∀ (a b : List UInt8) (x y : Nat), a.length = b.length → digs a = true → digs b = true → x < y → decT x a < decT y b
  | [], [], x, y, _, _, _, h => h
  | [], _ :: _, _, _, hl, _, _, _ => by simp at hl
  | _ :: _, [], _, _, hl, _, _, _ => by simp at hl
  | c :: a, d :: b, x, y, hl, ha, hb, h => by
    obtain ⟨h1, h2, h3⟩ := digs_cons ha
    obtain ⟨k1, k2, k3⟩ := digs_cons hb
    unfold decT
    exact dec_acc a b _ _ (by simpa using hl) h3 k3 (by omega)
theorem dec_less : ∀ (a b : List UInt8) (x : Nat), a.length = b.length → digs a = true → digs b = true → ((Op.bytesLess a b = true ↔ decT x a < decT x b) ∧ (a = b ↔ decT x a = decT x b))
  | [], [], x, _, _, _ => by simp [Op.bytesLess, less_nil]
  | [], _ :: _, _, hl, _, _ => by simp at hl
  | _ :: _, [], _, hl, _, _ => by simp at hl
  | c :: a, d :: b, x, hl, ha, hb => by
    obtain ⟨h1, h2, h3⟩ := digs_cons ha
    obtain ⟨k1, k2, k3⟩ := digs_cons hb
    have hl' : a.length = b.length := by simpa using hl
    rw [less_cons]
    unfold decT
    rcases Nat.lt_trichotomy c.toNat d.toNat with hc | hc | hc
    · have := dec_acc a b (x * 10 + (c.toNat - 48)) (x * 10 + (d.toNat - 48)) hl' h3 k3 (by omega)
      have hlt : c < d := UInt8.lt_iff_toNat_lt.2 hc
      have hne : c ≠ d := fun e => by rw [e] at hc; omega
      refine ⟨by simp [hlt, this], ?_⟩
      simp only [List.cons.injEq, hne, false_and, false_iff]
      omega
    · have he : c = d := UInt8.toNat_inj.1 hc
      subst he
      have h9 := dec_less a b (x * 10 + (c.toNat - 48)) hl' h3 k3
      have hlt : ¬ c < c := by rw [UInt8.lt_iff_toNat_lt]; omega
      refine ⟨by simp [hlt, h9.1], by simp [h9.2]⟩
    · have := dec_acc b a (x * 10 + (d.toNat - 48)) (x * 10 + (c.toNat - 48)) hl'.symm k3 h3 (by omega)
      have hlt : ¬ c < d := by rw [UInt8.lt_iff_toNat_lt]; omega
      have hne : c ≠ d := fun e => by rw [e] at hc; omega
      refine ⟨?_, ?_⟩
      · simp only [hlt, decide_false, Bool.false_or, beq_eq_false_iff_ne.2 hne, Bool.false_and, Bool.false_eq_true, false_iff]
        omega
      · simp only [List.cons.injEq, hne, false_and, false_iff]
        omega
theorem dec_lt : ∀ (a : List UInt8) (x : Nat), digs a = true → decT x a < (x + 1) * 10 ^ a.length := fun a x h => Lib.decFrom_lt a x _ (dec_some a x h)
/-- A number as a whole number. -/
def numV (s : List UInt8) : Int := (decT 0 (s.drop 1) : Nat)
theorem num_parts {s : List UInt8} (h : isNumB s = true) : ∃ d, s = 43 :: d ∧ digs d = true ∧ 4 ≤ d.length ∧ d.length ≤ 15 := by
  obtain ⟨d, rfl, hd⟩ := plus_head h
  obtain ⟨h1, h2, h3⟩ := (digitsB_iff d 4 15).1 hd
  exact ⟨d, rfl, h3, by omega, by omega⟩
theorem num_atoi {s : List UInt8} (h : isNumB s = true) : Lib.atoi (s.drop 1) = some (numV s) := by
  obtain ⟨d, rfl, h1, h2, h3⟩ := num_parts h
  cases d with
  | nil => simp at h2
  | cons b r =>
    obtain ⟨k1, k2, -⟩ := digs_cons h1
    have n1 : (b == 45) = false := beq_eq_false_iff_ne.2 (fun e => by rw [e] at k1; simp at k1)
    have n2 : (b == 43) = false := beq_eq_false_iff_ne.2 (fun e => by rw [e] at k1; simp at k1)
    show Lib.atoi (b :: r) = _
    unfold Lib.atoi
    simp only [n1, n2, Bool.false_eq_true, if_false]
    unfold Lib.decNat
    simp only [List.isEmpty_cons, Bool.false_eq_true, if_false]
    rw [dec_some _ _ h1]
    rfl
theorem num_bound {s : List UInt8} (h : isNumB s = true) : 0 ≤ numV s ∧ numV s < 1000000000000000 := by
  obtain ⟨d, rfl, h1, h2, h3⟩ := num_parts h
  have h4 := dec_lt d 0 h1
  have h5 : (10 : Nat) ^ d.length ≤ 10 ^ 15 := Nat.pow_le_pow_right (by omega) h3
  unfold numV
  simp only [List.drop_succ_cons, List.drop_zero]
  simp at h4
  omega
theorem num_less {s t : List UInt8} (hs : isNumB s = true) (ht : isNumB t = true) (hl : s.length = t.length) : (Op.bytesLess s t = true ↔ numV s < numV t) ∧ (s = t ↔ numV s = numV t) := by
  obtain ⟨d, rfl, h1, h2, h3⟩ := num_parts hs
  obtain ⟨e, rfl, k1, k2, k3⟩ := num_parts ht
  have h := dec_less d e 0 (by simpa using hl) h1 k1
  unfold numV
  simp only [List.drop_succ_cons, List.drop_zero]
  rw [less_cons]
  have hlt : ¬ (43 : UInt8) < 43 := by decide
  simp only [hlt, decide_false, Bool.false_or, beq_self_eq_true, Bool.true_and, List.cons.injEq, true_and]
  exact ⟨h.1.trans (by omega), h.2.trans (by omega)⟩
theorem num_le {s t : List UInt8} (hs : isNumB s = true) (ht : isNumB t = true) (hl : s.length = t.length) : leS s t = true ↔ numV s ≤ numV t := by
  have h := num_less hs ht hl
  unfold leS
  rw [Bool.or_eq_true, h.1, beq_iff_eq, h.2]
  omega

structure Rng where
  f : List UInt8
  t : List UInt8
def noRng : Rng := ⟨[], []⟩
/-- The error of range i of some. -/
def rngErr (apart : Int) (l : List Rng) (i : Nat) : Int :=
  if isNumB (l.getD i noRng).f = false ∨ isNumB (l.getD i noRng).t = false ∨ (l.getD i noRng).f.length ≠ (l.getD i noRng).t.length ∨ Op.bytesLess (l.getD i noRng).t (l.getD i noRng).f = true then 3
  else if i = 0 then 0
  else if ¬ ((l.getD (i - 1) noRng).f.length < (l.getD i noRng).f.length ∨ (l.getD (i - 1) noRng).f.length = (l.getD i noRng).f.length ∧ numV (l.getD (i - 1) noRng).f < numV (l.getD i noRng).f) then 7
  else if (l.getD (i - 1) noRng).f.length = (l.getD i noRng).f.length ∧ numV (l.getD i noRng).f ≤ numV (l.getD (i - 1) noRng).t + apart then 13
  else 0
def rngsErr (apart : Int) (l : List Rng) : Int := if 1000 < l.length then 2 else firstErr (rngErr apart l) l.length
theorem rng_right {apart : Int} {l : List Rng} {i : Nat} (h : rngErr apart l i = 0) : isNumB (l.getD i noRng).f = true ∧ isNumB (l.getD i noRng).t = true ∧ (l.getD i noRng).f.length = (l.getD i noRng).t.length ∧ Op.bytesLess (l.getD i noRng).t (l.getD i noRng).f = false := by
  unfold rngErr at h
  split at h
  · cases h
  · rename_i h1
    simp only [not_or, Bool.not_eq_false, Decidable.not_not, Bool.not_eq_true] at h1
    exact ⟨h1.1, h1.2.1, h1.2.2.1, h1.2.2.2⟩
structure Own where
  r : Rng
  c : List UInt8
def noOwn : Own := ⟨noRng, []⟩
structure Prt where
  n : List UInt8
  at_ : Int
  c : List UInt8
def noPrt : Prt := ⟨[], 0, []⟩
/-- Is a number in a range? -/
def inRng (r : Rng) (n : List UInt8) : Bool := decide (r.f.length = n.length) && (leS r.f n && leS n r.t)
theorem in_rng {r : Rng} {n : List UInt8} (hf : isNumB r.f = true) (ht : isNumB r.t = true) (hl : r.f.length = r.t.length) (hn : isNumB n = true) : inRng r n = true ↔ r.f.length = n.length ∧ numV r.f ≤ numV n ∧ numV n ≤ numV r.t := by
  unfold inRng
  rw [Bool.and_eq_true, Bool.and_eq_true, decide_eq_true_eq]
  refine ⟨fun ⟨h1, h2, h3⟩ => ⟨h1, (num_le hf hn h1).1 h2, (num_le hn ht (by omega)).1 h3⟩, fun ⟨h1, h2, h3⟩ => ⟨h1, (num_le hf hn h1).2 h2, (num_le hn ht (by omega)).2 h3⟩⟩
end Go.Proofs.YtmbimfmalijjpaaGreatDoor

set_option linter.unusedVariables false
set_option linter.unusedSimpArgs false
namespace Go.Proofs.YtmbimfmalijjpaaGreatDoor
open Go.RowKit

def encS (x : List UInt8) : Value := .string ⟨x.toArray⟩
end Go.Proofs.YtmbimfmalijjpaaGreatDoor

set_option linter.unusedVariables false
set_option linter.unusedSimpArgs false
namespace Go.Proofs.YtmbimfmalijjpaaGreatDoor
open Go.RowKit

/-- A country of a plan, with an area of a home in it. -/
structure HomeIn (l : List Ctry) (c : Ctry) (area : List UInt8) : Prop where
  here : ∃ k, k < l.length ∧ l.getD k noCtry = c
  area : area = [] ∨ ∃ z, z < c.areas.length ∧ (c.areas.getD z noArea).pre = area
theorem homeIn_of {l : List Ctry} {code area : List UInt8} {c : Ctry} (h : homeC l code area = some c) : HomeIn l c area := by
  unfold homeC at h
  have hp := List.find?_some h
  obtain ⟨k, hk, hkc⟩ := List.getElem_of_mem (List.mem_of_find?_eq_some h)
  simp only [Bool.and_eq_true, Bool.or_eq_true, beq_iff_eq, List.any_eq_true] at hp
  refine ⟨⟨k, hk, by simpa [hk] using hkc⟩, hp.2.imp id ?_⟩
  rintro ⟨a, ha, rfl⟩
  obtain ⟨z, hz, rfl⟩ := List.getElem_of_mem ha
  exact ⟨z, hz, by simp [hz]⟩

def triesL (l : List Ctry) (c : Ctry) (area n : List UInt8) : List (List UInt8) :=
  (c.abroad ++ n.drop 1) :: (if (splitP l n).code = c.code then (c.trunk ++ ((splitP l n).area ++ (splitP l n).rest)) :: (if area = (splitP l n).area ∧ c.trunk ≠ [] then [(splitP l n).rest] else []) else [])
def waysL (l : List Ctry) (c : Ctry) (area n : List UInt8) : List (List UInt8) :=
  (c.abroad ++ n.drop 1) :: (if (splitP l n).code = c.code then (c.trunk ++ ((splitP l n).area ++ (splitP l n).rest)) :: (if (area = (splitP l n).area ∧ c.trunk ≠ []) ∧ reachP l c area (splitP l n).rest = (0, n) then [(splitP l n).rest] else []) else [])

theorem way_abroad {l : List Ctry} {c : Ctry} {area n : List UInt8} (hE : planErr l = 0) (hH : HomeIn l c area) (hS : (splitP l n).err = 0) : reachP l c area (c.abroad ++ n.drop 1) = (0, n) := by
  obtain ⟨i, j, so⟩ := split_ok hS
  obtain ⟨k, hk, rfl⟩ := hH.here
  obtain ⟨-, -, ha, -, -⟩ := ctry_form (plan_ctry hE k hk)
  obtain ⟨a1, a2, a3⟩ := (digitsB_iff _ _ _).1 ha
  obtain ⟨d1, d2, d3⟩ := (digitsB_iff _ _ _).1 so.digits
  have hd : digitsB ((l.getD k noCtry).abroad ++ n.drop 1) 1 30 = true := by
    rw [digitsB_iff, digs_app, a3, d3, List.length_append]
    exact ⟨by omega, by omega, rfl⟩
  have hn : n = 43 :: n.drop 1 := by rw [so.form]; rfl
  unfold reachP
  rw [if_neg (by rw [hd]; exact Bool.noConfusion)]
  unfold reachN
  rw [if_pos (pre_append _ _), List.drop_left]
  simp only [← hn, hS, ne_eq, not_true_eq_false, if_false]
theorem same_ctry {l : List Ctry} {c : Ctry} {area n : List UInt8} (hE : planErr l = 0) (hH : HomeIn l c area) (hS : (splitP l n).err = 0) {i j : Nat} (so : SplitOk l n i j) (hc : (splitP l n).code = c.code) : l.getD i noCtry = c := by
  obtain ⟨k, hk, rfl⟩ := hH.here
  by_cases h : i = k
  · rw [h]
  · exact absurd (so.code.symm.trans hc) (codes_apart hE so.li hk h)
theorem trunk_clash {l : List Ctry} {c : Ctry} {area n : List UInt8} (hE : planErr l = 0) (hH : HomeIn l c area) (hS : (splitP l n).err = 0) {i j : Nat} (so : SplitOk l n i j) (hc : (splitP l n).code = c.code) : Lib.hasPrefix (c.trunk ++ ((splitP l n).area ++ (splitP l n).rest)) c.abroad = false ∧ 1 ≤ (splitP l n).area.length ∧ 1 ≤ (splitP l n).rest.length := by
  have hi := same_ctry hE hH hS so hc
  obtain ⟨g1, g2, g3, g4, g5, g6, g7⟩ := area_parts (plan_area hE i so.li j so.lj)
  obtain ⟨a1, a2, a3⟩ := (digitsB_iff _ _ _).1 g1
  have hl := so.low
  rw [hi] at g2 g3 g4 g5 g6 g7 a1 a2 a3 hl
  have har := so.area
  rw [hi] at har
  rw [har]
  refine ⟨?_, by omega, by omega⟩
  cases hq : Lib.hasPrefix (c.trunk ++ ((c.areas.getD j noArea).pre ++ (splitP l n).rest)) c.abroad with
  | false => rfl
  | true =>
    rw [← List.append_assoc] at hq
    rcases pre_or hq with h | h
    · rw [g2] at h; cases h
    · rw [g3] at h; cases h
theorem way_trunk {l : List Ctry} {c : Ctry} {area n : List UInt8} (hE : planErr l = 0) (hH : HomeIn l c area) (hS : (splitP l n).err = 0) (hc : (splitP l n).code = c.code) : reachP l c area (c.trunk ++ ((splitP l n).area ++ (splitP l n).rest)) = (0, n) := by
  obtain ⟨i, j, so⟩ := split_ok hS
  have hi := same_ctry hE hH hS so hc
  obtain ⟨t1, t2, t3⟩ := trunk_clash hE hH hS so hc
  have hf := so.form
  have har := so.area
  have hlow := so.low
  have hhigh := so.high
  obtain ⟨g1, g2, g3, g4, g5, g6, g7⟩ := area_parts (plan_area hE i so.li j so.lj)
  obtain ⟨-, -, -, ht, -⟩ := ctry_form (plan_ctry hE i so.li)
  rw [hi] at hf har hlow hhigh g6 ht g4
  obtain ⟨q1, q2, q3⟩ := (digitsB_iff _ _ _).1 ht
  obtain ⟨d1, d2, d3⟩ := (digitsB_iff _ _ _).1 so.digits
  have hdn : n.drop 1 = c.code ++ ((splitP l n).area ++ (splitP l n).rest) := by rw [har]; exact (congrArg (List.drop 1) hf).trans rfl
  rw [hdn, digs_app, Bool.and_eq_true] at d3
  have hd : digitsB (c.trunk ++ ((splitP l n).area ++ (splitP l n).rest)) 1 30 = true := by
    rw [digitsB_iff, digs_app, q3, d3.2, List.length_append, List.length_append, har]
    rw [har] at t2
    exact ⟨by omega, by omega, rfl⟩
  have hn : n = 43 :: (c.code ++ ((splitP l n).area ++ (splitP l n).rest)) := by rw [har]; exact hf
  unfold reachP
  rw [if_neg (by rw [hd]; exact Bool.noConfusion)]
  unfold reachN
  rw [if_neg (by simp [t1]), if_pos (pre_append _ _), List.drop_left]
  simp only [← hn, hS, ne_eq, not_true_eq_false, if_false]

theorem ways_apart {l : List Ctry} {c : Ctry} {area n : List UInt8} (hE : planErr l = 0) (hH : HomeIn l c area) (hS : (splitP l n).err = 0) (hc : (splitP l n).code = c.code) : c.trunk ++ ((splitP l n).area ++ (splitP l n).rest) ≠ c.abroad ++ n.drop 1 ∧ (splitP l n).rest ≠ c.trunk ++ ((splitP l n).area ++ (splitP l n).rest) ∧ (splitP l n).rest ≠ c.abroad ++ n.drop 1 := by
  obtain ⟨i, j, so⟩ := split_ok hS
  obtain ⟨t1, t2, t3⟩ := trunk_clash hE hH hS so hc
  have hi := same_ctry hE hH hS so hc
  have har := so.area
  have hf := so.form
  rw [hi] at hf har
  refine ⟨fun h => ?_, fun h => ?_, fun h => ?_⟩
  · rw [h, pre_append] at t1; cases t1
  · have := congrArg List.length h
    simp only [List.length_append] at this
    omega
  · have := congrArg List.length h
    have h9 := congrArg List.length ((congrArg (List.drop 1) hf).trans rfl : n.drop 1 = c.code ++ ((c.areas.getD j noArea).pre ++ (splitP l n).rest))
    simp only [List.length_append] at this h9
    rw [har] at t2
    omega

def stepW (l : List Ctry) (c : Ctry) (area n : List UInt8) (out : List (List UInt8)) (s : List UInt8) : List (List UInt8) := if reachP l c area s = (0, n) ∧ s ∉ out then out ++ [s] else out
theorem tries_fold {l : List Ctry} {c : Ctry} {area n : List UInt8} (hE : planErr l = 0) (hH : HomeIn l c area) (hS : (splitP l n).err = 0) : (triesL l c area n).foldl (stepW l c area n) [] = waysL l c area n := by
  have h1 := way_abroad hE hH hS
  unfold triesL waysL
  rw [List.foldl_cons]
  have e1 : stepW l c area n [] (c.abroad ++ n.drop 1) = [c.abroad ++ n.drop 1] := by unfold stepW; rw [if_pos ⟨h1, by simp⟩]; rfl
  rw [e1]
  by_cases hc : (splitP l n).code = c.code
  · have h2 := way_trunk hE hH hS hc
    obtain ⟨a1, a2, a3⟩ := ways_apart hE hH hS hc
    rw [if_pos hc, if_pos hc, List.foldl_cons]
    have e2 : stepW l c area n [c.abroad ++ n.drop 1] (c.trunk ++ ((splitP l n).area ++ (splitP l n).rest)) = [c.abroad ++ n.drop 1, c.trunk ++ ((splitP l n).area ++ (splitP l n).rest)] := by
      unfold stepW
      rw [if_pos ⟨h2, by simpa using a1⟩]
      rfl
    rw [e2]
    by_cases h3 : area = (splitP l n).area ∧ c.trunk ≠ []
    · rw [if_pos h3, List.foldl_cons, List.foldl_nil]
      unfold stepW
      by_cases h4 : reachP l c area (splitP l n).rest = (0, n)
      · rw [if_pos ⟨h4, fun hm => by rcases List.mem_cons.1 hm with h | hm; exact a3 h; rcases List.mem_cons.1 hm with h | hm; exact a2 h; cases hm⟩, if_pos ⟨h3, h4⟩]; rfl
      · rw [if_neg (fun h => h4 h.1), if_neg (fun h => h4 h.2)]
    · rw [if_neg h3, if_neg (fun h => h3 h.1), List.foldl_nil]
  · rw [if_neg hc, if_neg hc, List.foldl_nil]
theorem tries_filter {l : List Ctry} {c : Ctry} {area n : List UInt8} (hE : planErr l = 0) (hH : HomeIn l c area) (hS : (splitP l n).err = 0) : (triesL l c area n).filter (fun s => decide (reachP l c area s = (0, n))) = waysL l c area n := by
  have h1 := way_abroad hE hH hS
  unfold triesL waysL
  rw [List.filter_cons_of_pos (by simpa using h1)]
  by_cases hc : (splitP l n).code = c.code
  · have h2 := way_trunk hE hH hS hc
    rw [if_pos hc, if_pos hc, List.filter_cons_of_pos (by simpa using h2)]
    by_cases h3 : area = (splitP l n).area ∧ c.trunk ≠ []
    · rw [if_pos h3]
      by_cases h4 : reachP l c area (splitP l n).rest = (0, n)
      · rw [if_pos ⟨h3, h4⟩]; simp [h4]
      · rw [if_neg (fun h => h4 h.2)]; simp [h4]
    · rw [if_neg h3, if_neg (fun h => h3 h.1)]; rfl
  · rw [if_neg hc, if_neg hc]; rfl
theorem tries_but {l : List Ctry} {c : Ctry} {area n : List UInt8} (hE : planErr l = 0) (hH : HomeIn l c area) (hS : (splitP l n).err = 0) : ∀ j, j + 1 < (triesL l c area n).length → reachP l c area ((triesL l c area n).getD j []) = (0, n) ∨ j = 1 + 1 := by
  have h1 := way_abroad hE hH hS
  intro j hj
  unfold triesL at hj ⊢
  by_cases hc : (splitP l n).code = c.code
  · have h2 := way_trunk hE hH hS hc
    rw [if_pos hc] at hj ⊢
    match j, hj with
    | 0, _ => exact Or.inl h1
    | 1, _ => exact Or.inl h2
    | 2, _ => exact Or.inr rfl
    | j + 3, hj =>
      exfalso
      have h9 : (if area = (splitP l n).area ∧ c.trunk ≠ [] then [(splitP l n).rest] else []).length ≤ 1 := by split <;> simp
      simp only [List.length_cons] at hj
      omega
  · rw [if_neg hc] at hj; simp at hj

theorem tries_split {l : List Ctry} {c : Ctry} {area n : List UInt8} (hE : planErr l = 0) (hH : HomeIn l c area) (hS : (splitP l n).err = 0) : ∃ ys z, triesL l c area n = ys ++ [z] ∧ ∀ y ∈ ys, reachP l c area y = (0, n) := by
  have h1 := way_abroad hE hH hS
  unfold triesL
  by_cases hc : (splitP l n).code = c.code
  · have h2 := way_trunk hE hH hS hc
    rw [if_pos hc]
    by_cases h3 : area = (splitP l n).area ∧ c.trunk ≠ []
    · rw [if_pos h3]
      refine ⟨[c.abroad ++ n.drop 1, c.trunk ++ ((splitP l n).area ++ (splitP l n).rest)], _, rfl, fun y hy => ?_⟩
      rcases List.mem_cons.1 hy with rfl | hy
      · exact h1
      · rcases List.mem_cons.1 hy with rfl | hy
        · exact h2
        · cases hy
    · rw [if_neg h3]
      refine ⟨[c.abroad ++ n.drop 1], _, rfl, fun y hy => ?_⟩
      rcases List.mem_cons.1 hy with rfl | hy
      · exact h1
      · cases hy
  · rw [if_neg hc]
    exact ⟨[], _, rfl, fun y hy => by cases hy⟩
/-! ### How the reference asks -/
theorem ref_code {l : List Ctry} {c : Ctry} {area n : List UInt8} (hE : planErr l = 0) (hH : HomeIn l c area) (hS : (splitP l n).err = 0) : Lib.hasPrefix n (43 :: c.code) = decide ((splitP l n).code = c.code) := by
  obtain ⟨i, j, so⟩ := split_ok hS
  have hf := so.form
  by_cases hc : (splitP l n).code = c.code
  · have hi := same_ctry hE hH hS so hc
    rw [hi] at hf
    rw [decide_eq_true hc, pre_iff]
    conv => rhs; rw [hf]
    exact List.cons_prefix_cons.2 ⟨rfl, List.prefix_append _ _⟩
  · rw [decide_eq_false hc]
    cases hq : Lib.hasPrefix n (43 :: c.code) with
    | false => rfl
    | true =>
      exfalso
      obtain ⟨k, hk, rfl⟩ := hH.here
      rw [pre_iff] at hq
      generalize hr : (splitP l n).rest = r at hf
      rw [hf] at hq
      have hq2 := (List.cons_prefix_cons.1 hq).2
      have hal := plan_alone hE ((l.getD i noCtry).code ++ (((l.getD i noCtry).areas.getD j noArea).pre ++ r))
      rw [List.pairwise_iff_getElem] at hal
      have h1 : Lib.hasPrefix ((l.getD i noCtry).code ++ (((l.getD i noCtry).areas.getD j noArea).pre ++ r)) (l.getD i noCtry).code = true := pre_append _ _
      have h2 : Lib.hasPrefix ((l.getD i noCtry).code ++ (((l.getD i noCtry).areas.getD j noArea).pre ++ r)) (l.getD k noCtry).code = true := (pre_iff _ _).2 hq2
      have hli := so.li
      have ei : l[i] = l.getD i noCtry := by simp [hli]
      have ek : l[k] = l.getD k noCtry := by simp [hk]
      rcases Nat.lt_trichotomy i k with h | rfl | h
      · have := hal i k hli hk h (by rw [ei]; exact h1)
        rw [ek, h2] at this; cases this
      · exact hc so.code
      · have := hal k i hk hli h (by rw [ek]; exact h2)
        rw [ei, h1] at this; cases this
theorem ref_nat {l : List Ctry} {c : Ctry} {area n : List UInt8} (hE : planErr l = 0) (hH : HomeIn l c area) (hS : (splitP l n).err = 0) (hc : (splitP l n).code = c.code) : n.drop (43 :: c.code).length = (splitP l n).area ++ (splitP l n).rest := by
  obtain ⟨i, j, so⟩ := split_ok hS
  have hf := so.form
  have hi := same_ctry hE hH hS so hc
  have har := so.area
  rw [hi] at hf har
  conv => lhs; rw [hf]
  rw [har, List.length_cons, List.drop_succ_cons, List.drop_left]
theorem ref_area {l : List Ctry} {c : Ctry} {area n : List UInt8} (hE : planErr l = 0) (hH : HomeIn l c area) (hS : (splitP l n).err = 0) (hc : (splitP l n).code = c.code) : (Lib.hasPrefix ((splitP l n).area ++ (splitP l n).rest) area = true ∧ area ≠ []) ↔ area = (splitP l n).area := by
  obtain ⟨i, j, so⟩ := split_ok hS
  have hi := same_ctry hE hH hS so hc
  obtain ⟨t1, t2, t3⟩ := trunk_clash hE hH hS so hc
  have har := so.area
  have hlj := so.lj
  rw [hi] at har hlj
  constructor
  · rintro ⟨h1, h2⟩
    rcases hH.area with h | ⟨z, hz, rfl⟩
    · exact absurd h h2
    · rw [har] at h1 ⊢
      have hall : ∀ z, z < c.areas.length → areaErr c z = 0 := by
        obtain ⟨k, hk, rfl⟩ := hH.here
        exact plan_area hE k hk
      rcases pre_or h1 with h | h
      · rw [areas_apart hall hz hlj h]
      · rw [areas_apart hall hlj hz h]
  · rintro rfl
    exact ⟨pre_append _ _, fun h => by rw [h] at t2; simp at t2⟩
end Go.Proofs.YtmbimfmalijjpaaGreatDoor

namespace Go.Proofs.YtmbimfmalijjpaaGreatDoor
open Go.RowKit

/-- A slice of n integers of one kind that lies in memory. -/
def IRow (k : IntKind) (w : World) (a : Option Addr) (n : Nat) (xs : List Int) : Prop :=
  n = xs.length ∧ (n = 0 ∨ ∃ b off, a = some ⟨b, off, none⟩ ∧ b < w.heap.size ∧ ∀ i, i < n → w.cell? ⟨b, off + i, none⟩ = some (.int k (xs.getD i 0)))

theorem IRow.below {k : IntKind} {w w' : World} {a : Option Addr} {n : Nat} {xs : List Int} (h : IRow k w a n xs) (hb : Below w.heap.size w w') : IRow k w' a n xs := by
  refine ⟨h.1, h.2.imp id ?_⟩
  rintro ⟨b, off, ha, hl, hc⟩
  exact ⟨b, off, ha, Nat.lt_of_lt_of_le hl hb.size, fun i hi => (hb.cell (p := ⟨b, off + i, none⟩) hl).trans (hc i hi)⟩

theorem IRow.keeps {k : IntKind} {w w' : World} {S : Nat} {a : Option Addr} {n : Nat} {xs : List Int} (h : IRow k w a n xs) (hk : Keeps S w w') (hS : ∀ b off, a = some ⟨b, off, none⟩ → b ≠ S) : IRow k w' a n xs := by
  refine ⟨h.1, h.2.imp id ?_⟩
  rintro ⟨b, off, ha, hl, hc⟩
  exact ⟨b, off, ha, Nat.lt_of_lt_of_le hl hk.size, fun i hi => (hk.cell (p := ⟨b, off + i, none⟩) hl (hS b off ha)).trans (hc i hi)⟩

theorem getD_map_int (k : IntKind) (xs : List Int) (i : Nat) (hi : i < xs.length) : (xs.map (Value.int k))[i]? = some (.int k (xs.getD i 0)) := by
  simp [List.getD_eq_getElem?_getD, List.getElem?_eq_getElem hi]

/-- A row of the call's own reads as such a slice. -/
theorem IRow.of_own {k : IntKind} {w : World} {base : Nat} {e : TypeId} {v : Value} {n : Nat} {xs : List Int} (h : w.ownsRow base e 1 v n (xs.map (Value.int k))) : ∃ a cap, v = .slice a n cap ∧ IRow k w a n xs := by
  have hl : n = xs.length := by have := h.1; simp at this; omega
  rcases h.2 with ⟨rfl, rfl⟩ | ⟨g, cap, cur, rfl, hb, hg, _⟩
  · exact ⟨none, 0, rfl, hl, Or.inl rfl⟩
  · refine ⟨some ⟨g, 0, none⟩, cap, rfl, hl, Or.inr ⟨g, 0, rfl, (h.lt g rfl).2, fun i hi => ?_⟩⟩
    rw [Nat.zero_add, h.cellAt i (by omega), getD_map_int k xs i (by omega)]

/-- The same, with where it lies. -/
theorem IRow.of_own_at {k : IntKind} {w : World} {base : Nat} {e : TypeId} {v : Value} {n : Nat} {xs : List Int} (h : w.ownsRow base e 1 v n (xs.map (Value.int k))) : ∃ a cap, v = .slice a n cap ∧ IRow k w a n xs ∧ ∀ b off, a = some ⟨b, off, none⟩ → base ≤ b := by
  obtain ⟨a, cap, hv, hr⟩ := IRow.of_own h
  refine ⟨a, cap, hv, hr, fun b off ha => ?_⟩
  subst ha
  exact (h.lt b (by rw [hv]; rfl)).1

theorem made_ints (k : IntKind) (n : Nat) : (madeCells (Value.int k 0).cells (n * 1)).toList = List.replicate n (Value.int k 0) := by
  unfold madeCells
  apply List.ext_getElem
  · simp
  · intro i h1 h2; simp [Value.cells, Nat.mod_one]

/-- A list that is filled from its head on. -/
theorem fill_set {α : Type} (xs : List α) (z : α) (k : Nat) (hk : k < xs.length) : (xs.take k ++ List.replicate (xs.length - k) z).set k xs[k] = xs.take (k + 1) ++ List.replicate (xs.length - (k + 1)) z := by
  rw [List.set_append_right _ _ (by simp; omega)]
  have e1 : k - (xs.take k).length = 0 := by simp; omega
  rw [e1, show xs.length - k = (xs.length - (k + 1)) + 1 by omega, List.replicate_succ, List.set_cons_zero, List.take_succ_eq_append_getElem hk, List.append_assoc]
  rfl

/-- A row of n cells of the call's own at block g, the first k of which hold what they are to hold, the others z. -/
def FillRow (w : World) (base : Nat) (e : TypeId) (g n k : Nat) (vals : List Value) (z : Value) : Prop :=
  vals.length = n ∧ w.ownsRow base e 1 (.slice (some ⟨g, 0, none⟩) n n) n (vals.take k ++ List.replicate (n - k) z)

theorem FillRow.start {w : World} {base : Nat} {e : TypeId} {g n : Nat} {vals : List Value} {k : IntKind} (hl : vals.length = n) (h : w.ownsRow base e 1 (.slice (some ⟨g, 0, none⟩) n n) n (madeCells (Value.int k 0).cells (n * 1)).toList) : FillRow w base e g n 0 vals (.int k 0) := by
  rw [made_ints] at h
  exact ⟨hl, by simpa using h⟩

theorem FillRow.step {w : World} {base : Nat} {e : TypeId} {g n k : Nat} {vals : List Value} {z u : Value} (h : FillRow w base e g n k vals z) (hk : k < n) (hv : vals[k]? = some u) :
    FillRow (w.setCell ⟨g, k, none⟩ u) base e g n (k + 1) vals z ∧ (∃ c, w.cell? ⟨g, k, none⟩ = some c) ∧ w.frozen? ⟨g, k, none⟩ = false := by
  obtain ⟨hl, ho⟩ := h
  have hk2 : k < vals.length := by omega
  rw [List.getElem?_eq_getElem hk2] at hv
  injection hv with hv
  have hs := (ho.stored k u).1
  have hf := fill_set vals z k hk2
  rw [hv] at hf
  subst hl
  rw [hf] at hs
  refine ⟨⟨rfl, hs⟩, ?_, ho.frozenAt k⟩
  rw [ho.cellAt k (by omega), List.getElem?_eq_getElem (by simp; omega)]
  exact ⟨_, rfl⟩

theorem FillRow.done {w : World} {base : Nat} {e : TypeId} {g n : Nat} {vals : List Value} {z : Value} (h : FillRow w base e g n n vals z) : w.ownsRow base e 1 (.slice (some ⟨g, 0, none⟩) n n) n vals := by
  obtain ⟨hl, ho⟩ := h
  rw [List.take_of_length_le (by omega), Nat.sub_self] at ho
  simpa using ho

theorem FillRow.below {w w' : World} {base : Nat} {e : TypeId} {g n k : Nat} {vals : List Value} {z : Value} (h : FillRow w base e g n k vals z) (hb : Below w.heap.size w w') : FillRow w' base e g n k vals z := ⟨h.1, h.2.kept_below hb⟩

theorem map_at {f : Int → Int} {k : IntKind} {xs : List Int} {i : Nat} (hi : i < xs.length) : ((xs.map f).map (Value.int k))[i]? = some (.int k (f (xs.getD i 0))) := by
  simp [List.getD_eq_getElem?_getD, List.getElem?_eq_getElem hi]
end Go.Proofs.YtmbimfmalijjpaaGreatDoor

set_option linter.unusedVariables false
set_option linter.unusedSimpArgs false
namespace Go.Proofs.YtmbimfmalijjpaaGreatDoor
open Go.RowKit

theorem Tryz.infoByte : (Tryz.prog.info? 5).map (fun i => (i.zero, i.size, i.bytes)) = some (some (.int .u8 0), 1, 1) := by kernel_rfl
theorem add0 (b j : Nat) : (⟨b, 0, none⟩ : Addr).add j = ⟨b, j, none⟩ := by unfold Addr.add; split <;> simp_all
theorem new_cell (w : World) (cs : Array Value) (t : TypeId) (p : Nat × Nat) (j : Nat) : (w.alloc (.cells cs t p)).cell? ⟨w.heap.size, j, none⟩ = cs[j]? := by
  have h : (w.alloc (.cells cs t p)).heap[w.heap.size]? = some (.cells cs t p) := by show (w.heap.push _)[w.heap.size]? = _; simp
  simp only [World.cell?, h]
  rfl
theorem push_list : ∀ (l : List UInt8) (r : ByteArray), (l.map (fun b => (b.toNat : Int))).foldl (fun r n => r.push (UInt8.ofNat n.toNat)) r = ⟨r.data ++ l.toArray⟩ := foldl_push_byteCells
/-- Bytes as a string. -/
theorem str_back (w : World) (g cp : Nat) (l : List UInt8) (hc : ∀ j (hj : j < l.length), w.cell? ⟨g, j, none⟩ = some (.int .u8 (l[j].toNat : Int))) : (convert 156 9 (.slice (some ⟨g, 0, none⟩) l.length cp)).run Tryz.prog w = .ok (.string ⟨l.toArray⟩) w :=
  run_convert_bytes_back w 156 9 5 ⟨g, 0, none⟩ cp l Tryz.underlying156 Tryz.underlying5 Tryz.underlying9 (fun j hj => by rw [add0]; exact hc j hj)
def cellsB (l : List UInt8) : List Value := l.map fun b => .int .u8 b.toNat
def StrPost (r : Int × List UInt8) (w : World) (e : Ending) (w' : World) : Prop := e = .returned (.tuple #[.string ⟨r.2.toArray⟩, .int .i64 r.1]) ∧ Below w.heap.size w w'
theorem byte_zero {c : UInt8} : ((c.toNat : Int) = 0) ↔ c = 0 := by
  constructor
  · intro h
    have : c.toNat = 0 := by omega
    exact UInt8.toNat_inj.1 (by simpa using this)
  · rintro rfl; rfl
theorem str_at {s : List UInt8} {k : Nat} (hk : k < s.length) (h2 : k < (⟨s.toArray⟩ : ByteArray).size) : (⟨s.toArray⟩ : ByteArray)[k]'h2 = s.getD k 0 := by
  simp [hk]; rfl
end Go.Proofs.YtmbimfmalijjpaaGreatDoor

set_option linter.unusedVariables false
set_option linter.unusedSimpArgs false
namespace Go.Proofs.YtmbimfmalijjpaaGreatDoor
open Go.RowKit

theorem Tryz.infoStr : (Tryz.prog.info? 9).map (fun i => (i.zero, i.size, i.bytes)) = some (some (.string ⟨#[]⟩), 1, 16) := by kernel_rfl
theorem mk_inj {a b : List UInt8} : ((⟨a.toArray⟩ : ByteArray) = ⟨b.toArray⟩) ↔ a = b := by simp
/-- A slice of one string that is written out. -/
theorem own_lit1 (w : World) (x : List UInt8) (base : Nat) (hb : base ≤ w.heap.size) : (w.alloc (.cells #[.string ⟨x.toArray⟩] 9)).ownsRow base 9 1 (.slice (some ⟨w.heap.size, 0, none⟩) 1 1) 1 ([x].map encS) := World.ownsRow_lit w #[.string ⟨x.toArray⟩] 1 hb (by simp only [maxLen]; omega) rfl
theorem own_keep {w w' : World} {base e size : Nat} {v : Value} {n : Nat} {xs : List Value} (h : w.ownsRow base e size v n xs) (hb : Below w.heap.size w w') : w'.ownsRow base e size v n xs := by
  refine ⟨h.1, h.2.imp id ?_⟩
  rintro ⟨g, cap, cur, rfl, h1, h2, h3⟩
  exact ⟨g, cap, cur, rfl, h1, (hb.block g (Array.getElem?_eq_some_iff.1 h2).1).trans h2, h3⟩
theorem own_below {w w' : World} {base B e size : Nat} {v : Value} {n : Nat} {xs : List Value} (h : w.ownsRow base e size v n xs) (hb : Below B w w') (hv : ∀ g, v.ownBlock = some g → g < B) : w'.ownsRow base e size v n xs := by
  refine ⟨h.1, h.2.imp id ?_⟩
  rintro ⟨g, cap, cur, rfl, h1, h2, h3⟩
  exact ⟨g, cap, cur, rfl, h1, (hb.block g (hv g rfl)).trans h2, h3⟩
theorem own_row1 {w : World} {base : Nat} {e : TypeId} {size : Nat} {v : Value} {n : Nat} {xs : List Value} (h : w.ownsRow base e size v (n + 1) xs) : ∃ g c, v = .slice (some ⟨g, 0, none⟩) (n + 1) c ∧ base ≤ g ∧ g < w.heap.size := by
  rcases h.2 with ⟨_, h0⟩ | ⟨g, cap, cur, rfl, h1, h2, _⟩
  · cases h0
  · exact ⟨g, cap, rfl, h1, (Array.getElem?_eq_some_iff.1 h2).1⟩

theorem own_le {w : World} {base base' e size : Nat} {v : Value} {n : Nat} {xs : List Value} (h : w.ownsRow base e size v n xs) (hb : base' ≤ base) : w.ownsRow base' e size v n xs := by
  refine ⟨h.1, h.2.imp id ?_⟩
  rintro ⟨g, cap, cur, rfl, h1, h2⟩
  exact ⟨g, cap, cur, rfl, Nat.le_trans hb h1, h2⟩
theorem own_shape {w : World} {base : Nat} {e : TypeId} {size : Nat} {v : Value} {n : Nat} {xs : List Value} (h : w.ownsRow base e size v n xs) : ∃ a c, v = .slice a n c := by
  rcases h.2 with ⟨rfl, rfl⟩ | ⟨g, cap, cur, rfl, _⟩
  · exact ⟨none, 0, rfl⟩
  · exact ⟨_, _, rfl⟩
theorem wp_made {P : Program} {o : Oper} {a : Act} {w w' : World} {v : Value} {K : Act → World → Prop} {Q : Exit → Act → World → Prop} (h : (execOp a.eval o).run P w = .ok (.value v) w') (hK : K (a.put o.dst v) w') : Oper.wp P o a w K Q := by
  unfold Oper.wp; rw [h]; exact hK

end Go.Proofs.YtmbimfmalijjpaaGreatDoor

set_option linter.unusedVariables false
set_option linter.unusedSimpArgs false
namespace Go.Proofs.YtmbimfmalijjpaaGreatDoor
open Go.RowKit

/-- n structs of sz cells each. -/
structure Cells (w : World) (sz : Nat) (a : Option Addr) (n : Nat) (cs : List (List Value)) : Prop where
  len : n = cs.length
  row : n = 0 ∨ ∃ b off, a = some ⟨b, off, none⟩ ∧ b < w.heap.size ∧ ∀ i, i < n → ∀ j, j < sz → w.cell? ⟨b, off + i * sz + j, none⟩ = (cs.getD i [])[j]?
theorem Cells.below {w w' : World} {sz : Nat} {a : Option Addr} {n : Nat} {cs : List (List Value)} (h : Cells w sz a n cs) (hb : Below w.heap.size w w') : Cells w' sz a n cs := by
  refine ⟨h.len, h.row.imp id ?_⟩
  rintro ⟨b, off, ha, hl, hc⟩
  exact ⟨b, off, ha, Nat.lt_of_lt_of_le hl hb.size, fun i hi j hj => (hb.cell (p := ⟨b, off + i * sz + j, none⟩) hl).trans (hc i hi j hj)⟩
theorem flat_len2 {sz : Nat} : ∀ {cs : List (List Value)}, (∀ c ∈ cs, c.length = sz) → cs.flatten.length = cs.length * sz
  | [], _ => by simp
  | c :: cs, h => by
    rw [List.flatten_cons, List.length_append, flat_len2 (fun x hx => h x (List.mem_cons_of_mem _ hx)), h c List.mem_cons_self, List.length_cons, Nat.succ_mul]
    omega
theorem flat_at {sz : Nat} : ∀ {cs : List (List Value)}, (∀ c ∈ cs, c.length = sz) → ∀ i, i < cs.length → ∀ j, j < sz → cs.flatten[i * sz + j]? = (cs.getD i [])[j]?
  | [], _, i, hi, _, _ => by simp at hi
  | c :: cs, h, 0, _, j, hj => by
    have hc := h c List.mem_cons_self
    rw [List.flatten_cons, Nat.zero_mul, Nat.zero_add, List.getElem?_append_left (by omega)]
    rfl
  | c :: cs, h, i + 1, hi, j, hj => by
    have hc := h c List.mem_cons_self
    rw [List.flatten_cons, List.getElem?_append_right (by rw [Nat.succ_mul]; omega), hc, show (i + 1) * sz + j - sz = i * sz + j by rw [Nat.succ_mul]; omega,
      flat_at (fun x hx => h x (List.mem_cons_of_mem _ hx)) i (by simpa using hi) j hj]
    rfl
theorem Cells.of_own {w : World} {base : Nat} {e : TypeId} {sz : Nat} {v : Value} {n : Nat} {cs : List (List Value)} (h : w.ownsRow base e sz v n cs.flatten) (hs : ∀ c ∈ cs, c.length = sz) (h0 : 0 < sz) : ∃ a c, v = .slice a n c ∧ Cells w sz a n cs := by
  have hl : cs.length = n := by
    have h1 := h.1
    rw [flat_len2 hs] at h1
    exact Nat.eq_of_mul_eq_mul_right h0 h1
  cases n with
  | zero =>
    obtain ⟨a, c, rfl⟩ := own_shape h
    exact ⟨a, c, rfl, hl.symm, Or.inl rfl⟩
  | succ m =>
    obtain ⟨g, c, rfl, h1, h2⟩ := own_row1 h
    refine ⟨_, c, rfl, hl.symm, Or.inr ⟨g, 0, rfl, h2, fun i hi j hj => ?_⟩⟩
    rw [Nat.zero_add, h.cellAt (i * sz + j) (by
      have : (i + 1) * sz ≤ (m + 1) * sz := Nat.mul_le_mul_right _ (by omega)
      rw [Nat.succ_mul] at this
      omega), flat_at hs i (by omega) j hj]
theorem getD_map {α β : Type} (f : α → β) (l : List α) (i : Nat) (x : α) (y : β) (hi : i < l.length) : (l.map f).getD i y = f (l.getD i x) := by
  simp [hi]

def Rng.cells (r : Rng) : List Value := [.string ⟨r.f.toArray⟩, .string ⟨r.t.toArray⟩]
def Own.cells (o : Own) : List Value := [.string ⟨o.r.f.toArray⟩, .string ⟨o.r.t.toArray⟩, .string ⟨o.c.toArray⟩]
def Prt.cells (p : Prt) : List Value := [.string ⟨p.n.toArray⟩, .int .i64 p.at_, .string ⟨p.c.toArray⟩]
structure RngRow (w : World) (a : Option Addr) (n : Nat) (l : List Rng) : Prop where
  cells : Cells w 2 a n (l.map Rng.cells)
  few : n ≤ 5000
  each : ∀ i, i < l.length → (l.getD i noRng).f.length ≤ 100 ∧ (l.getD i noRng).t.length ≤ 100
structure OwnRow (w : World) (a : Option Addr) (n : Nat) (l : List Own) : Prop where
  cells : Cells w 3 a n (l.map Own.cells)
  few : n ≤ 5000
  each : ∀ i, i < l.length → (l.getD i noOwn).r.f.length ≤ 100 ∧ (l.getD i noOwn).r.t.length ≤ 100 ∧ (l.getD i noOwn).c.length ≤ 100
structure PrtRow (w : World) (a : Option Addr) (n : Nat) (l : List Prt) : Prop where
  cells : Cells w 3 a n (l.map Prt.cells)
  few : n ≤ 5000
  each : ∀ i, i < l.length → (l.getD i noPrt).n.length ≤ 100 ∧ (l.getD i noPrt).c.length ≤ 100
theorem RngRow.below {w w' : World} {a : Option Addr} {n : Nat} {l : List Rng} (h : RngRow w a n l) (hb : Below w.heap.size w w') : RngRow w' a n l := ⟨h.cells.below hb, h.few, h.each⟩
theorem OwnRow.below {w w' : World} {a : Option Addr} {n : Nat} {l : List Own} (h : OwnRow w a n l) (hb : Below w.heap.size w w') : OwnRow w' a n l := ⟨h.cells.below hb, h.few, h.each⟩
theorem PrtRow.below {w w' : World} {a : Option Addr} {n : Nat} {l : List Prt} (h : PrtRow w a n l) (hb : Below w.heap.size w w') : PrtRow w' a n l := ⟨h.cells.below hb, h.few, h.each⟩
theorem RngRow.len {w : World} {a : Option Addr} {n : Nat} {l : List Rng} (h : RngRow w a n l) : n = l.length := by have := h.cells.len; simpa using this
theorem OwnRow.len {w : World} {a : Option Addr} {n : Nat} {l : List Own} (h : OwnRow w a n l) : n = l.length := by have := h.cells.len; simpa using this
theorem PrtRow.len {w : World} {a : Option Addr} {n : Nat} {l : List Prt} (h : PrtRow w a n l) : n = l.length := by have := h.cells.len; simpa using this
theorem RngRow.at {w : World} {a : Option Addr} {n : Nat} {l : List Rng} (h : RngRow w a n l) (hn : 0 < n) : ∃ b off, a = some ⟨b, off, none⟩ ∧ b < w.heap.size ∧ ∀ i, i < n → w.cell? ⟨b, off + i * 2, none⟩ = some (.string ⟨(l.getD i noRng).f.toArray⟩) ∧ w.cell? ⟨b, off + i * 2 + 1, none⟩ = some (.string ⟨(l.getD i noRng).t.toArray⟩) := by
  rcases h.cells.row with h0 | ⟨b, off, h1, h2, h3⟩
  · omega
  · refine ⟨b, off, h1, h2, fun i hi => ?_⟩
    have hl := h.len
    have e := getD_map Rng.cells l i noRng [] (by omega)
    have k0 := h3 i hi 0 (by omega)
    have k1 := h3 i hi 1 (by omega)
    rw [e] at k0 k1
    exact ⟨k0, k1⟩
theorem OwnRow.at {w : World} {a : Option Addr} {n : Nat} {l : List Own} (h : OwnRow w a n l) (hn : 0 < n) : ∃ b off, a = some ⟨b, off, none⟩ ∧ b < w.heap.size ∧ ∀ i, i < n → w.cell? ⟨b, off + i * 3, none⟩ = some (.string ⟨(l.getD i noOwn).r.f.toArray⟩) ∧ w.cell? ⟨b, off + i * 3 + 1, none⟩ = some (.string ⟨(l.getD i noOwn).r.t.toArray⟩) ∧ w.cell? ⟨b, off + i * 3 + 2, none⟩ = some (.string ⟨(l.getD i noOwn).c.toArray⟩) := by
  rcases h.cells.row with h0 | ⟨b, off, h1, h2, h3⟩
  · omega
  · refine ⟨b, off, h1, h2, fun i hi => ?_⟩
    have hl := h.len
    have e := getD_map Own.cells l i noOwn [] (by omega)
    have k0 := h3 i hi 0 (by omega)
    have k1 := h3 i hi 1 (by omega)
    have k2 := h3 i hi 2 (by omega)
    rw [e] at k0 k1 k2
    exact ⟨k0, k1, k2⟩
theorem PrtRow.at {w : World} {a : Option Addr} {n : Nat} {l : List Prt} (h : PrtRow w a n l) (hn : 0 < n) : ∃ b off, a = some ⟨b, off, none⟩ ∧ b < w.heap.size ∧ ∀ i, i < n → w.cell? ⟨b, off + i * 3, none⟩ = some (.string ⟨(l.getD i noPrt).n.toArray⟩) ∧ w.cell? ⟨b, off + i * 3 + 1, none⟩ = some (.int .i64 (l.getD i noPrt).at_) ∧ w.cell? ⟨b, off + i * 3 + 2, none⟩ = some (.string ⟨(l.getD i noPrt).c.toArray⟩) := by
  rcases h.cells.row with h0 | ⟨b, off, h1, h2, h3⟩
  · omega
  · refine ⟨b, off, h1, h2, fun i hi => ?_⟩
    have hl := h.len
    have e := getD_map Prt.cells l i noPrt [] (by omega)
    have k0 := h3 i hi 0 (by omega)
    have k1 := h3 i hi 1 (by omega)
    have k2 := h3 i hi 2 (by omega)
    rw [e] at k0 k1 k2
    exact ⟨k0, k1, k2⟩
end Go.Proofs.YtmbimfmalijjpaaGreatDoor

set_option linter.unusedVariables false
set_option linter.unusedSimpArgs false
namespace Go.Proofs.YtmbimfmalijjpaaGreatDoor
open Go.RowKit

/-- The table of powers of ten is laid, ahead of block S. -/
def TabW (S : Nat) (w : World) : Prop := Lib.TabIs Tryz.prog w "internal/strconv.uint64pow10" .u64 Lib.pow10Tab ∧ 1 < S
theorem gPow : Tryz.prog.globalNamed "internal/strconv.uint64pow10" = some 1 := by kernel_rfl
theorem tab_block {w w' : World} {S : Nat} (h : TabW S w) (hb : w'.heap[1]? = w.heap[1]?) : TabW S w' := by
  refine ⟨?_, h.2⟩
  have h1 := h.1
  unfold Lib.TabIs World.var? at h1 ⊢
  rw [gPow] at h1 ⊢
  simp only [Option.bind_some] at h1 ⊢
  rw [hb]
  exact h1
theorem tab_keeps {w w' : World} {S : Nat} (h : TabW S w) (hk : Keeps S w w') (hS : S < w.heap.size) : TabW S w' :=
  tab_block h (hk.block _ (Nat.lt_trans h.2 hS) (Nat.ne_of_lt h.2))
theorem tab_below {w w' : World} {S B : Nat} (h : TabW S w) (hb : Below B w w') (hS : S ≤ B) : TabW S w' :=
  tab_block h (hb.block _ (Nat.lt_of_lt_of_le h.2 hS))
theorem below_grow (w : World) (q : Nat) (os : Array Obj) : Below w.heap.size w (Go.Sort.grow (w.drewN q) os) := by
  refine ⟨rfl, rfl, rfl, ?_, fun k hk => Go.Sort.heap_grow_old _ _ hk⟩
  rw [Go.Sort.size_grow]
  exact Nat.le_add_right _ _
theorem num_any (n : Int) (h0 : -9223372036854775808 ≤ n) (h1 : n ≤ 9223372036854775807) (S : Nat) (w : World) (hT : TabW S w) : Calls Tryz.prog 64 #[.int .i64 n] w fun e w' => ∃ s : List UInt8, e = .returned (.string ⟨s.toArray⟩) ∧ s.length ≤ 22 ∧ Below w.heap.size w w' := by
  have hl := Lib.itoa_length_le n h0 h1
  have HC := Lib.hid (Tryz.strconv_Itoa n h0 h1 w hT.1)
  generalize Lib.itoa n = d at hl HC
  go_enter Tryz.func64, Tryz.ntmps64
  go_wp2_with fail
  refine HC.out.mono ?_
  rintro e w1 ⟨rfl, q, os, hw1⟩
  have HB : Hid (Below w.heap.size w w1) := by rw [hw1]; exact below_grow w q os
  clear hw1 HC
  have hd1 : (43 :: d).length ≤ 22 := by simp; omega
  go_wp2_with fail
  go_ret
  exact ⟨43 :: d, by first | rfl | (simp; rfl) | simp, hd1, HB.out⟩
end Go.Proofs.YtmbimfmalijjpaaGreatDoor

set_option linter.unusedVariables false
set_option linter.unusedSimpArgs false
namespace Go.Proofs.YtmbimfmalijjpaaGreatDoor
open Go.RowKit

theorem pick_lit (S k : Nat) (vals : List Int) (P : Int → Prop) (w : World) (cs : Array Value) (n : Nat) (h : StreamOk w S k) (hk : k ≤ 1000000000) (hcs : cs.toList = vals.map (Value.int .i64)) (hn : n = vals.length) (h1 : 1 ≤ vals.length) (h2 : vals.length ≤ 1000) (hP : ∀ x ∈ vals, P x) :
    Calls Tryz.prog 23 #[.pointer (some ⟨S, 0, none⟩), .slice (some ⟨w.heap.size, 0, none⟩) n n] (w.alloc (.cells cs 3)) (PickPost S (k + 1) P w) := by
  have hl := h.lt
  subst hn
  have hcs' : cs = (vals.map (Value.int .i64)).toArray := by rw [← hcs]
  subst hcs'
  refine (pick_any S k w.heap.size vals.length vals.length vals P _ (h.below (ext_alloc (Below.refl _ _))) hk (by simp) (by omega) h1 h2 (fun i hi => ?_) (fun i hi => ?_)).mono ?_
  · exact (new_cell w _ 3 (0, 0) i).trans (by simp [hi])
  · rw [show vals.getD i _ = vals[i] by simp [hi]]
    exact hP _ (List.getElem_mem hi)
  · rintro e w' ⟨r, rfl, hr, hst, hkp⟩
    exact ⟨r, rfl, hr, hst, (Keeps.of_below (ext_alloc (Below.refl _ _))).trans hkp⟩
theorem some_lit (S k : Nat) (vals : List (List UInt8)) (P : List UInt8 → Prop) (w : World) (cs : Array Value) (n : Nat) (h : StreamOk w S k) (hk : k ≤ 1000000000) (hcs : cs.toList = vals.map fun s => Value.string ⟨s.toArray⟩) (hn : n = vals.length) (h1 : 1 ≤ vals.length) (h2 : vals.length ≤ 1000) (hP : ∀ x ∈ vals, P x) :
    Calls Tryz.prog 6 #[.pointer (some ⟨S, 0, none⟩), .slice (some ⟨w.heap.size, 0, none⟩) n n] (w.alloc (.cells cs 9)) (SomePost S (k + 1) P w) := by
  have hl := h.lt
  subst hn
  have hcs' : cs = (vals.map fun s => Value.string ⟨s.toArray⟩).toArray := by rw [← hcs]
  subst hcs'
  refine (some_any S k w.heap.size vals.length vals.length vals P _ (h.below (ext_alloc (Below.refl _ _))) hk (by simp) (by omega) h1 h2 (fun i hi => ?_) (fun i hi => ?_)).mono ?_
  · exact (new_cell w _ 9 (0, 0) i).trans (by simp [hi])
  · rw [show vals.getD i _ = vals[i] by simp [hi]]
    exact hP _ (List.getElem_mem hi)
  · rintro e w' ⟨r, rfl, hr, hst, hkp⟩
    exact ⟨r, rfl, hr, hst, (Keeps.of_below (ext_alloc (Below.refl _ _))).trans hkp⟩

theorem bs_p6 (e : Operand → Value) (he : ∀ v, e (.const v) = v) (o : Oper) (w : World) (ho : o.op = .buildSlice 22 6 #[(0, .const (.int .i64 0)), (1, .const (.int .i64 0)), (2, .const (.int .i64 1)), (3, .const (.int .i64 9)), (4, .const (.int .i64 99)), (5, .const (.int .i64 300))]) :
   (execOp e o).run Tryz.prog w = .ok (.value (.slice (some ⟨w.heap.size, 0, none⟩) 6 6)) (w.alloc (.cells #[.int .i64 0, .int .i64 0, .int .i64 1, .int .i64 9, .int .i64 99, .int .i64 300] 3)) := by
  unfold execOp
  rw [ho]
  simp only [List.map_toArray, List.map_cons, List.map_nil, he]
  kernel_rfl
theorem bs_p5 (e : Operand → Value) (he : ∀ v, e (.const v) = v) (o : Oper) (w : World) (ho : o.op = .buildSlice 22 5 #[(0, .const (.int .i64 2)), (1, .const (.int .i64 2)), (2, .const (.int .i64 3)), (3, .const (.int .i64 10)), (4, .const (.int .i64 50))]) :
   (execOp e o).run Tryz.prog w = .ok (.value (.slice (some ⟨w.heap.size, 0, none⟩) 5 5)) (w.alloc (.cells #[.int .i64 2, .int .i64 2, .int .i64 3, .int .i64 10, .int .i64 50] 3)) := by
  unfold execOp
  rw [ho]
  simp only [List.map_toArray, List.map_cons, List.map_nil, he]
  kernel_rfl
theorem bs_p3 (e : Operand → Value) (he : ∀ v, e (.const v) = v) (o : Oper) (w : World) (ho : o.op = .buildSlice 22 3 #[(0, .const (.int .i64 1)), (1, .const (.int .i64 10)), (2, .const (.int .i64 50))]) :
   (execOp e o).run Tryz.prog w = .ok (.value (.slice (some ⟨w.heap.size, 0, none⟩) 3 3)) (w.alloc (.cells #[.int .i64 1, .int .i64 10, .int .i64 50] 3)) := by
  unfold execOp
  rw [ho]
  simp only [List.map_toArray, List.map_cons, List.map_nil, he]
  kernel_rfl
theorem bs_inst (e : Operand → Value) (he : ∀ v, e (.const v) = v) (o : Oper) (w : World) (i8 i9 i10 : Nat) (z8 z9 z10 : Int) (ho : o.op = .buildSlice 22 11 #[(0, .const (.int .i64 0)), (1, .const (.int .i64 5)), (2, .const (.int .i64 10)), (3, .const (.int .i64 20)), (4, .const (.int .i64 30)), (5, .const (.int .i64 40)), (6, .const (.int .i64 60)), (7, .const (.int .i64 100)), (8, .tmp i8), (9, .tmp i9), (10, .tmp i10)]) (h8 : e (.tmp i8) = .int .i64 z8) (h9 : e (.tmp i9) = .int .i64 z9) (h10 : e (.tmp i10) = .int .i64 z10) :
   (execOp e o).run Tryz.prog w = .ok (.value (.slice (some ⟨w.heap.size, 0, none⟩) 11 11)) (w.alloc (.cells #[.int .i64 0, .int .i64 5, .int .i64 10, .int .i64 20, .int .i64 30, .int .i64 40, .int .i64 60, .int .i64 100, .int .i64 z8, .int .i64 z9, .int .i64 z10] 3)) := by
  unfold execOp
  rw [ho]
  simp only [List.map_toArray, List.map_cons, List.map_nil, he, h8, h9, h10]
  kernel_rfl

set_option maxRecDepth 100000 in
set_option maxHeartbeats 1000000 in
theorem instant_any (S k : Nat) (w : World) (h : StreamOk w S k) (hk : k ≤ 10000000) : Calls Tryz.prog 7 #[.pointer (some ⟨S, 0, none⟩)] w (PickPost S (k + 4) (fun _ => True) w) := by
  have HS := Lib.hid h
  clear h
  go_enter Tryz.func7, Tryz.ntmps7
  go_wp2_with fail
  refine (next_any S k 200 _ HS.out (by omega) (by decide) (by decide)).mono ?_
  rintro e w1 ⟨r1, rfl, a0, a1, hst1, hk1⟩
  have HS1 := Lib.hid hst1
  have HK1 := Lib.hid hk1
  clear hst1 hk1 HS
  as_aux_lemma =>
    go_wp2_with fail
    refine (next_any S (k + 1) 200 _ HS1.out (by omega) (by decide) (by decide)).mono ?_
    rintro e w2 ⟨r2, rfl, b0, b1, hst2, hk2⟩
    have HS2 := Lib.hid hst2
    have HK2 := Lib.hid (HK1.out.trans hk2)
    clear hst2 hk2 HS1 HK1
    as_aux_lemma =>
      go_wp2_with fail
      refine (pick_lit S (k + 1 + 1) [345686399999, -1, 345686400000] (fun _ => True) _ _ _ HS2.out (by omega) rfl rfl (by decide) (by decide) (fun _ _ => trivial)).mono ?_
      rintro e w3 ⟨r3, rfl, -, hst3, hk3⟩
      have HS3 := Lib.hid hst3
      have HK3 := Lib.hid (HK2.out.trans hk3)
      clear hst3 hk3 HS2 HK2
      as_aux_lemma =>
        go_wp2_with (first | (refine wpList_val rfl (bs_inst _ (fun _ => rfl) _ _ _ _ _ _ _ _ rfl rfl rfl rfl) ?_))
        refine (pick_lit S (k + 1 + 1 + 1) [0, 5, 10, 20, 30, 40, 60, 100, r1, r2, r3] (fun _ => True) _ _ _ HS3.out (by omega) rfl rfl (by simp) (by simp) (fun _ _ => trivial)).mono ?_
        rintro e w4 ⟨r4, rfl, -, hst4, hk4⟩
        have HS4 := Lib.hid hst4
        have HK4 := Lib.hid (HK3.out.trans hk4)
        clear hst4 hk4 HS3 HK3
        go_wp2_with fail
        go_ret
        exact ⟨r4, rfl, trivial, HS4.out, HK4.out⟩
end Go.Proofs.YtmbimfmalijjpaaGreatDoor

namespace Go.Proofs.YtmbimfmalijjpaaGreatDoor
open Go.RowKit

def isKeyB (l : List UInt8) : Bool := decide (1 ≤ l.length) && (decide (l.length ≤ 40) && (decide (97 ≤ (l.headD 0).toNat) && (decide ((l.headD 0).toNat ≤ 122) && allIn l keySet)))

theorem trim_keys (s : ByteArray) (w : World) (hs : s.size ≤ 9223372036854775807) :
    Calls Tryz.prog 86 #[.string s, .string ⟨#[97, 98, 99, 100, 101, 102, 103, 104, 105, 106, 107, 108, 109, 110, 111, 112, 113, 114, 115, 116, 117, 118, 119, 120, 121, 122, 48, 49, 50, 51, 52, 53, 54, 55, 56, 57, 45, 95]⟩] w fun e w' => e = .returned (.string ⟨(Lib.trimS s.data.toList keySet).toArray⟩) ∧ Below w.heap.size w w' :=
  Tryz.strings_Trim_set s ⟨#[97, 98, 99, 100, 101, 102, 103, 104, 105, 106, 107, 108, 109, 110, 111, 112, 113, 114, 115, 116, 117, 118, 119, 120, 121, 122, 48, 49, 50, 51, 52, 53, 54, 55, 56, 57, 45, 95]⟩ w hs (by decide) (Go.Proofs.ascii_of_all (by decide))

theorem isKey_any (l : List UInt8) (w : World) (hs : l.length ≤ 9223372036854775807) :
    Calls Tryz.prog 55 #[.string ⟨l.toArray⟩] w fun e w' => e = .returned (.bool (isKeyB l)) ∧ Below w.heap.size w w' := by
  have hcon := trim_keys ⟨l.toArray⟩ w hs

  cases l with
  | nil =>
    go_enter Tryz.func55, Tryz.ntmps55
    go_wp2_with (go_at_call 86; refine hcon.mono ?_; rintro e w' ⟨rfl, hB⟩)
    go_ret
    exact ⟨rfl, Below.refl _ _⟩
  | cons c l' =>
    have hd : Hid (isKeyB (c :: l') = (decide (1 ≤ (c :: l').length) && (decide ((c :: l').length ≤ 40) && (decide (97 ≤ c.toNat) && (decide (c.toNat ≤ 122) && (Lib.trimS (c :: l') keySet).isEmpty))))) := by rfl
    generalize Lib.trimS (c :: l') keySet = r at hcon hd
    go_enter Tryz.func55, Tryz.ntmps55
    go_wp2_with (go_at_call 86; refine hcon.mono ?_; rintro e w' ⟨rfl, hB⟩)
    · have g1 : (l'.length : Int) + 1 ≤ 40 := by assumption
      have g2 : (97 : Int) ≤ (c.toNat : Int) := by assumption
      have g3 : (c.toNat : Int) ≤ 122 := by assumption
      go_ret
      exact ⟨by rw [hd.out, decide_eq_true (by simp), decide_eq_true (show (c :: l').length ≤ 40 by simp; omega), decide_eq_true (show 97 ≤ c.toNat by omega), decide_eq_true (show c.toNat ≤ 122 by omega)]; rfl, hB⟩
    · have g3 : (122 : Int) < (c.toNat : Int) := by assumption
      go_ret
      exact ⟨by rw [hd.out, decide_eq_false (show ¬ c.toNat ≤ 122 by omega)]; simp, Below.refl _ _⟩
    · have g2 : (c.toNat : Int) < 97 := by assumption
      go_ret
      exact ⟨by rw [hd.out, decide_eq_false (show ¬ 97 ≤ c.toNat by omega)]; simp, Below.refl _ _⟩
    · have g1 : 40 < (l'.length : Int) + 1 := by assumption
      go_ret
      exact ⟨by rw [hd.out, decide_eq_false (show ¬ (c :: l').length ≤ 40 by simp; omega)]; simp, Below.refl _ _⟩

def isMomB (n : Int) : Bool := decide (0 ≤ n) && decide (n < 345686400000)

theorem isMoment_any (n : Int) (w : World) :
    Calls Tryz.prog 57 #[.int .i64 n] w fun e w' => e = .returned (.bool (isMomB n)) ∧ w = w' := by
  by_cases h1 : 0 ≤ n
  · have hd : Hid (isMomB n = decide (n < 345686400000)) := by show isMomB n = _; unfold isMomB; rw [decide_eq_true h1]; simp
    go_enter Tryz.func57, Tryz.ntmps57
    go_wp2
    go_ret
    exact ⟨by rw [hd.out]; rfl, rfl⟩
  · have hd : Hid (isMomB n = false) := by show isMomB n = _; unfold isMomB; rw [decide_eq_false h1]; simp
    go_enter Tryz.func57, Tryz.ntmps57
    go_wp2
    go_ret
    exact ⟨by rw [hd.out]; rfl, rfl⟩
end Go.Proofs.YtmbimfmalijjpaaGreatDoor

set_option linter.unusedVariables false
set_option linter.unusedSimpArgs false
namespace Go.Proofs.YtmbimfmalijjpaaGreatDoor
open Go.RowKit

theorem in_any (n lo hi : Int) (w : World) : Calls Tryz.prog 61 #[.int .i64 n, .int .i64 lo, .int .i64 hi] w fun e w' => e = .returned (.bool (decide (lo ≤ n) && decide (n ≤ hi))) ∧ w = w' := by
  by_cases h1 : lo ≤ n
  · go_enter Tryz.func61, Tryz.ntmps61
    go_wp2
    go_ret
    exact ⟨by rw [decide_eq_true h1]; rfl, rfl⟩
  · go_enter Tryz.func61, Tryz.ntmps61
    go_wp2
    go_ret
    exact ⟨by rw [decide_eq_false (show ¬ lo ≤ n by omega)]; rfl, rfl⟩

theorem digital_l (s : List UInt8) (lo hi : Int) (w : World) (hs : s.length ≤ 1000000) : Calls Tryz.prog 89 #[.string ⟨s.toArray⟩, .int .i64 lo, .int .i64 hi] w fun e w' => e = .returned (.bool (digitsB s lo hi)) ∧ Below w.heap.size w w' := by
  have hcon := trim_digits ⟨s.toArray⟩
  have hd : Hid (digitsB s lo hi = ((decide (lo ≤ (s.length : Int)) && decide ((s.length : Int) ≤ hi)) && (Lib.trimS s digitSet).isEmpty)) := by show _ = _; rw [Bool.and_assoc]; rfl
  have hcon : ∀ w, Calls Tryz.prog 86 #[.string ⟨s.toArray⟩, .string ⟨#[48, 49, 50, 51, 52, 53, 54, 55, 56, 57]⟩] w fun e w' => e = .returned (.string ⟨(Lib.trimS s digitSet).toArray⟩) ∧ Below w.heap.size w w' := fun w => hcon w (by show s.length ≤ _; omega)
  generalize Lib.trimS s digitSet = r at hcon hd
  generalize hg : (decide (lo ≤ (s.length : Int)) && decide ((s.length : Int) ≤ hi)) = g at hd
  have HG := Lib.hid hg
  have HCON := Lib.hid hcon
  clear hg hcon
  go_enter Tryz.func89, Tryz.ntmps89
  go_wp2_with fail
  refine (in_any _ lo hi _).mono ?_
  rintro e w1 ⟨rfl, rfl⟩
  rw [HG.out]
  cases g
  · go_wp2_with fail
    go_ret
    exact ⟨by rw [hd.out]; rfl, Below.refl _ _⟩
  · go_wp2_with fail
    refine (HCON.out _).mono ?_
    rintro e w2 ⟨rfl, hb⟩
    go_wp2_with fail
    go_ret
    exact ⟨by rw [hd.out]; cases r <;> rfl, hb⟩

theorem isNumB_eq (s : List UInt8) : isNumB s = (Lib.hasPrefix s [43] && (digitsB (s.drop 1) 4 15 && ((s.drop 1).headD 0 != 48))) := by
  unfold isNumB Lib.trimPrefix
  cases h : Lib.hasPrefix s [43] with
  | false => rfl
  | true => rfl

theorem form_l (s : List UInt8) (w : World) (hs : s.length ≤ 1000) : Calls Tryz.prog 50 #[.string ⟨s.toArray⟩] w fun e w' => e = .returned (.bool (isNumB s)) ∧ Below w.heap.size w w' := by
  have HD := Lib.hid (isNumB_eq s)
  have HPL : Hid (Lib.hasPrefix s [43] = true → 1 ≤ s.length) := fun h => pre_len h
  have HDL : Hid (digitsB (s.drop 1) 4 15 = true → ∃ c d, s.drop 1 = c :: d) := fun h => by
    unfold digitsB at h
    simp only [Bool.and_eq_true, decide_eq_true_eq] at h
    cases h9 : s.drop 1 with
    | nil => rw [h9] at h; simp at h
    | cons c d => exact ⟨c, d, rfl⟩
  have hcon := fun w => hasPrefix_l s [43] w
  generalize Lib.hasPrefix s [43] = g at HD HPL hcon
  have hcon2 := fun w => digital_l (s.drop 1) 4 15 w (by rw [List.length_drop]; omega)
  generalize hg2 : digitsB (s.drop 1) 4 15 = g2 at HD HDL hcon2
  generalize isNumB s = R at HD ⊢
  go_enter Tryz.func50, Tryz.ntmps50
  go_wp2_with fail
  refine (hcon _).mono ?_
  rintro e w1 ⟨rfl, rfl⟩
  cases g
  · have HF : Hid (R = false) := HD.out
    go_wp2_with fail
    go_ret
    exact ⟨by rw [HF.out]; rfl, Below.refl _ _⟩
  · have h1 := HPL.out rfl
    go_wp2_with fail
    rw [extract_drop]
    refine (hcon2 _).mono ?_
    rintro e w2 ⟨rfl, hb⟩
    have HB := Lib.hid hb
    clear hb
    cases g2
    · have HF : Hid (R = false) := HD.out
      go_wp2_with fail
      go_ret
      exact ⟨by rw [HF.out]; rfl, HB.out⟩
    · obtain ⟨c, d, hcd⟩ := HDL.out rfl
      have HF : Hid (R = (c != 48)) := by show _ = _; rw [HD.out, hcd]; rfl
      obtain ⟨x, rfl⟩ : ∃ x, s = x :: c :: d := by
        cases s with
        | nil => cases hcd
        | cons x t => exact ⟨x, by simpa using hcd⟩
      clear hcd HD hcon hcon2 hg2 HDL HPL
      go_wp2_with fail
      go_ret
      exact ⟨by rw [HF.out, ← byte_bne48]; rfl, HB.out⟩

end Go.Proofs.YtmbimfmalijjpaaGreatDoor

set_option linter.unusedVariables false
set_option linter.unusedSimpArgs false
namespace Go.Proofs.YtmbimfmalijjpaaGreatDoor
open Go.RowKit

def firstE (a b : Int) : Int := if a ≠ 0 then a else b
set_option maxRecDepth 100000 in
theorem or_any (a b : Int) (B : Nat) (w : World) (hB : B < w.heap.size) (h0 : w.cell? ⟨B, 0, none⟩ = some (.int .i64 a)) (h1 : w.cell? ⟨B, 1, none⟩ = some (.int .i64 b)) : Calls Tryz.prog 12 #[.slice (some ⟨B, 0, none⟩) 2 2] w fun r w' => r = .returned (.int .i64 (firstE a b)) ∧ w = w' := by
  by_cases ha : a = 0
  · subst ha
    by_cases hb : b = 0
    · subst hb
      go_enter Tryz.func12, Tryz.ntmps12
      go_wp2_with fail
      go_loopw [8] (fun i wr => ∃ k : Nat, k ≤ 2 ∧ i = .int .i64 k ∧ wr = w) (fun i _ => 2 - (intOf i).toNat)
      case atStart => exact ⟨0, by omega, rfl, rfl⟩
      case round =>
        obtain ⟨k, hk, rfl, rfl⟩ := hrel
        have hkc : k = 0 ∨ k = 1 ∨ k = 2 := by omega
        rcases hkc with rfl | rfl | rfl
        · go_wp2_with fail
          go_roundw
          case rel => exact ⟨1, by omega, by go_num, trivial⟩
          case measure => simp [intOf]
        · go_wp2_with fail
          go_roundw
          case rel => exact ⟨2, by omega, by go_num, trivial⟩
          case measure => simp [intOf]
        · go_wp2_with fail
          go_ret
          exact ⟨rfl, rfl⟩
    · have hbb : (b == 0) = false := by simpa using hb
      go_enter Tryz.func12, Tryz.ntmps12
      go_wp2_with fail
      go_loopw [8] (fun i wr => ∃ k : Nat, k ≤ 1 ∧ i = .int .i64 k ∧ wr = w) (fun i _ => 2 - (intOf i).toNat)
      case atStart => exact ⟨0, by omega, rfl, rfl⟩
      case round =>
        obtain ⟨k, hk, rfl, rfl⟩ := hrel
        have hkc : k = 0 ∨ k = 1 := by omega
        rcases hkc with rfl | rfl
        · go_wp2_with fail
          go_roundw
          case rel => exact ⟨1, by omega, by go_num, trivial⟩
          case measure => simp [intOf]
        · go_wp2_with fail
          go_ret
          exact ⟨rfl, rfl⟩
  · have hab : (a == 0) = false := by simpa using ha
    have HF : Hid (firstE a b = a) := by show _ = _; unfold firstE; rw [if_pos ha]
    go_enter Tryz.func12, Tryz.ntmps12
    go_wp2_with fail
    go_loopw [8] (fun i wr => i = .int .i64 0 ∧ wr = w) (fun i _ => 0)
    case atStart => exact ⟨rfl, rfl⟩
    case round =>
      obtain ⟨rfl, rfl⟩ := hrel
      go_wp2_with fail
      go_ret
      exact ⟨by rw [HF.out]; rfl, rfl⟩

end Go.Proofs.YtmbimfmalijjpaaGreatDoor

set_option linter.unusedVariables false
set_option linter.unusedSimpArgs false
namespace Go.Proofs.YtmbimfmalijjpaaGreatDoor
open Go.RowKit

def PartsPost (x : Spl) (w : World) (e : Ending) (w' : World) : Prop := e = .returned (.tuple #[.agg #[.string ⟨x.code.toArray⟩, .string ⟨x.area.toArray⟩, .string ⟨x.rest.toArray⟩], .int .i64 x.err]) ∧ Below w.heap.size w w'
theorem row3 (w : World) (B : Nat) (v0 v1 v2 : Value) : ((w.setCell ⟨B, 0, none⟩ v0).setCell ⟨B, 1, none⟩ v1).setCell ⟨B, 2, none⟩ v2 = w.setCells B 0 [v0, v1, v2] := rfl
theorem there3 {w : World} {B : Nat} {v0 v1 v2 : Value} (h0 : w.cell? ⟨B, 0, none⟩ = some v0) (h1 : w.cell? ⟨B, 1, none⟩ = some v1) (h2 : w.cell? ⟨B, 2, none⟩ = some v2) (hf : ∀ j, w.frozen? ⟨B, j, none⟩ = false) : w.there B 0 3 := fun j hj => by
  match j, hj with
  | 0, _ => exact ⟨by rw [h0]; rfl, hf _⟩
  | 1, _ => exact ⟨by rw [h1]; rfl, hf _⟩
  | 2, _ => exact ⟨by rw [h2]; rfl, hf _⟩

end Go.Proofs.YtmbimfmalijjpaaGreatDoor

set_option linter.unusedVariables false
set_option linter.unusedSimpArgs false
namespace Go.Proofs.YtmbimfmalijjpaaGreatDoor
open Go.RowKit

theorem atoi_l (s : List UInt8) (n : Int) (hl : s.length ≤ 18) (h : Lib.atoi s = some n) (w : World) : Calls Tryz.prog 99 #[.string ⟨s.toArray⟩] w fun e w' => e = .returned (.tuple #[.int .i64 n, .nilIface]) ∧ Below w.heap.size w w' := (Tryz.strconv_Atoi ⟨s.toArray⟩ n hl h w).mono (fun e w' ⟨h1, t, h2⟩ => ⟨h1, by rw [h2]; exact ⟨rfl, rfl, rfl, by rw [Lib.bytesWorld_size]; omega, fun k hk => Lib.bytesWorld_at_old w _ _ k hk⟩⟩)

set_option maxRecDepth 100000 in
set_option maxHeartbeats 1000000 in
theorem spanOf_any (w : World) (f t : List UInt8) (a b : Int) (hf : f.length ≤ 16) (ht : t.length ≤ 16) (hf1 : 1 ≤ f.length) (ht1 : 1 ≤ t.length) (ha : Lib.atoi (f.drop 1) = some a) (hb : Lib.atoi (t.drop 1) = some b) : Calls Tryz.prog 71 #[.agg #[.string ⟨f.toArray⟩, .string ⟨t.toArray⟩]] w fun e w' => e = .returned (.agg #[.int .i64 ((f.length : Int) - 1), .int .i64 a, .int .i64 b]) ∧ Below w.heap.size w w' := by
  have HA := Lib.hid (fun w => atoi_l (f.drop 1) a (by rw [List.length_drop]; omega) ha w)
  have HB := Lib.hid (fun w => atoi_l (t.drop 1) b (by rw [List.length_drop]; omega) hb w)
  clear ha hb
  go_enter Tryz.func71, Tryz.ntmps71
  go_wp2_with fail
  rw [extract_drop]
  refine (HA.out _).mono ?_
  rintro e w1 ⟨rfl, hb1⟩
  obtain ⟨qc, qf⟩ := bcell hb1
  have hz1 : w.heap.size + 1 < w1.heap.size := by have := hb1.size; simp at this; omega
  have hz0 : w.heap.size < w1.heap.size := by omega
  have HB1 : Hid (Below w.heap.size w w1) := ext_trans (ext_alloc (ext_alloc (Below.refl _ _))) hb1
  have c0 : w1.cell? ⟨w.heap.size, 0, none⟩ = some (.string ⟨f.toArray⟩) := (qc _ 0 (by simp; omega)).trans (by go_simp)
  have c1 : w1.cell? ⟨w.heap.size, 1, none⟩ = some (.string ⟨t.toArray⟩) := (qc _ 1 (by simp; omega)).trans (by go_simp)
  have r0 : w1.cell? ⟨w.heap.size + 1, 0, none⟩ = some (.int .i64 0) := (qc _ 0 (by simp)).trans (by go_simp)
  have r1 : w1.cell? ⟨w.heap.size + 1, 1, none⟩ = some (.int .i64 0) := (qc _ 1 (by simp)).trans (by go_simp)
  have r2 : w1.cell? ⟨w.heap.size + 1, 2, none⟩ = some (.int .i64 0) := (qc _ 2 (by simp)).trans (by go_simp)
  have rf : ∀ j, w1.frozen? ⟨w.heap.size + 1, j, none⟩ = false := fun j => (qf _ j (by simp)).trans (by go_simp)
  clear qc qf hb1
  as_aux_lemma =>
    go_wp2_with fail
    rw [extract_drop]
    refine (HB.out _).mono ?_
    rintro e w2 ⟨rfl, hb2⟩
    obtain ⟨qc, qf⟩ := bcell hb2
    have HB2 := Lib.hid (ext_trans HB1.out hb2)
    have d0 := (qc _ 0 hz0).trans c0
    have s0 := (qc _ 0 hz1).trans r0
    have s1 := (qc _ 1 hz1).trans r1
    have s2 := (qc _ 2 hz1).trans r2
    have sf : ∀ j, w2.frozen? ⟨w.heap.size + 1, j, none⟩ = false := fun j => (qf _ j hz1).trans (rf j)
    clear qc qf hb2 c0 c1 r0 r1 r2 rf
    have HTX : Hid (w2.there (w.heap.size + 1) 0 3) := there3 s0 s1 s2 sf
    as_aux_lemma =>
      go_wp2_with fail
      rw [row3]
      have HC9 := Lib.hid (World.rangeAt_setCells_same w2 (w.heap.size + 1) 0 [.int .i64 ((f.length : Int) - 1), .int .i64 a, .int .i64 b] (HTX.out))
      have HB9 := Lib.hid (setCells_ext (B := w.heap.size + 1) (Nat.le_succ _) [.int .i64 ((f.length : Int) - 1), .int .i64 a, .int .i64 b] w2 0 HB2.out)
      generalize World.setCells w2 (w.heap.size + 1) 0 _ = W9 at HC9 HB9 ⊢
      refine bodyPost_ret (?_ : _ = Result.ok (.agg #[.int .i64 ((f.length : Int) - 1), .int .i64 a, .int .i64 b]) _) rfl ?_
      · exact results_cell1 (t := 2) (by rfl) _ _ _ Tryz.isAgg99 Tryz.sizeOf99 (by rfl) [.int .i64 ((f.length : Int) - 1), .int .i64 a, .int .i64 b] rfl (fun j v hj => by have := HC9.out j v hj; rw [Nat.zero_add] at this; exact this)
      exact ⟨rfl, HB9.out⟩

def r0S : List UInt8 := [43, 49, 48, 48, 48]
def r1S : List UInt8 := [43, 49, 48, 48, 57]
theorem Tryz.infoSpan : (Tryz.prog.info? 99).map (fun i => (i.zero, i.size, i.bytes)) = some (some (.agg #[.int .i64 0, .int .i64 0, .int .i64 0]), 3, 24) := by kernel_rfl

set_option maxRecDepth 100000 in
set_option maxHeartbeats 1000000 in
theorem checkRanges_one (w : World) (b : Nat) (hb : b < w.heap.size) (f t : List UInt8) (c0 : w.cell? ⟨b, 0, none⟩ = some (.string ⟨f.toArray⟩)) (c1 : w.cell? ⟨b, 1, none⟩ = some (.string ⟨t.toArray⟩)) (hf : f.length = 5) (ht : t.length = 5) (hnf : isNumB f = true) (hnt : isNumB t = true) (hlt : Op.bytesLess f t = true) : Calls Tryz.prog 25 #[.slice (some ⟨b, 0, none⟩) 1 1] w fun e w' => e = .returned (.int .i64 0) ∧ Below w.heap.size w w' := by
  have HNF := Lib.hid (fun w => isNumber_l f w (by omega))
  have HNT := Lib.hid (fun w => isNumber_l t w (by omega))
  rw [hnf] at HNF
  rw [hnt] at HNT
  clear hnf hnt
  suffices h : Calls Tryz.prog 54 #[.slice (some ⟨b, 0, none⟩) 1 1, .int .i64 1] w fun e w' => e = .returned (.int .i64 0) ∧ Below w.heap.size w w' by
    go_enter Tryz.func25, Tryz.ntmps25
    go_wp2_with (go_at_call 54; refine h.mono ?_; rintro e w' ⟨rfl, hB⟩)
    go_ret
    exact ⟨rfl, hB⟩
  go_enter Tryz.func54, Tryz.ntmps54
  go_wp2_with fail
  go_loopw [14] (fun it wr => ∃ k : Nat, k ≤ 1 ∧ it = .int .i64 k ∧ Hid (Below w.heap.size w wr)) (fun it _ => 1 - (intOf it).toNat)
  case atStart => exact ⟨0, Nat.zero_le _, rfl, Below.refl _ _⟩
  case round =>
    obtain ⟨k, hk, rfl, HB⟩ := hrel
    by_cases hk0 : k = 0
    · subst hk0
      have d0 := (HB.out.cell (p := ⟨b, 0, none⟩) hb).trans c0
      have d1 := (HB.out.cell (p := ⟨b, 1, none⟩) hb).trans c1
      clear c0 c1
      as_aux_lemma =>
        go_wp2_with fail
        refine (HNF.out _).mono ?_
        rintro e w2 ⟨rfl, hb2⟩
        obtain ⟨qc, qf⟩ := bcell hb2
        have hz2 : wr.heap.size < w2.heap.size := by have := hb2.size; simp at this; omega
        have e0 : w2.cell? ⟨wr.heap.size, 0, none⟩ = some (.string ⟨f.toArray⟩) := (qc _ 0 (by simp)).trans (by go_simp)
        have e1 : w2.cell? ⟨wr.heap.size, 1, none⟩ = some (.string ⟨t.toArray⟩) := (qc _ 1 (by simp)).trans (by go_simp)
        have HB2 : Hid (Below w.heap.size w w2) := ext_trans (ext_alloc HB.out) hb2
        clear qc qf hb2 d0 d1
        as_aux_lemma =>
          go_wp2_with fail
          refine (HNT.out _).mono ?_
          rintro e w3 ⟨rfl, hb3⟩
          obtain ⟨qc, qf⟩ := bcell hb3
          have f0 := (qc _ 0 hz2).trans e0
          have f1 := (qc _ 1 hz2).trans e1
          have HB3 := Lib.hid (ext_trans HB2.out hb3)
          clear qc qf hb3 e0 e1
          as_aux_lemma =>
            go_wp2_with fail
            go_roundw
            case rel => exact ⟨1, by omega, by go_num, HB3.out⟩
            case measure => simp [intOf]
    · obtain rfl : k = 1 := by omega
      clear c0 c1
      go_wp2_with fail
      go_ret
      exact ⟨rfl, HB.out⟩

set_option maxRecDepth 100000 in
set_option maxHeartbeats 1000000 in
theorem spans_one (w : World) (b : Nat) (hb : b < w.heap.size) (f t : List UInt8) (x y : Int) (c0 : w.cell? ⟨b, 0, none⟩ = some (.string ⟨f.toArray⟩)) (c1 : w.cell? ⟨b, 1, none⟩ = some (.string ⟨t.toArray⟩)) (hf : f.length = 5) (ht : t.length = 5) (ha : Lib.atoi (f.drop 1) = some x) (hb' : Lib.atoi (t.drop 1) = some y) : Calls Tryz.prog 70 #[.slice (some ⟨b, 0, none⟩) 1 1] w fun e w' => ∃ v, e = .returned v ∧ w'.ownsRow w.heap.size 99 3 v 1 [.int .i64 4, .int .i64 x, .int .i64 y] ∧ Below w.heap.size w w' := by
  have HS := Lib.hid (fun w => spanOf_any w f t x y (by omega) (by omega) (by omega) (by omega) ha hb')
  obtain ⟨i1, hi1, hy0, hy1, hy2⟩ := info_parts Tryz.infoSpan
  rw [hf] at HS
  clear ha hb' hf ht
  go_enter Tryz.func70, Tryz.ntmps70
  go_wp2_with fail
  go_loopw [3, 8] (fun v it wr => ∃ k : Nat, k ≤ 1 ∧ (k = 0 → v = .slice none 0 0) ∧ it = .int .i64 k ∧ Hid (wr.ownsRow w.heap.size 99 3 v k (([.int .i64 4, .int .i64 x, .int .i64 y] : List Value).take (3 * k))) ∧ Hid (Below w.heap.size w wr)) (fun _ it _ => 1 - (intOf it).toNat)
  case atStart => exact ⟨0, Nat.zero_le _, fun _ => rfl, rfl, World.ownsRow_nil _ _ _ _, Below.refl _ _⟩
  case round =>
    obtain ⟨k, hk, hnil, rfl, HO, HB⟩ := hrel
    by_cases hk0 : k = 0
    · subst hk0
      obtain rfl := hnil rfl
      have d0 := (HB.out.cell (p := ⟨b, 0, none⟩) hb).trans c0
      have d1 := (HB.out.cell (p := ⟨b, 1, none⟩) hb).trans c1
      clear c0 c1
      as_aux_lemma =>
        go_wp2_with fail
        refine (HS.out _).mono ?_
        rintro e w2 ⟨rfl, hb2⟩
        have HB2 : Hid (Below w.heap.size w w2) := ext_trans (ext_alloc HB.out) hb2
        clear hb2 d0 d1
        as_aux_lemma =>
          go_wp2_with (at_builtin; refine wpList_append_own_at _ rfl (.tmp 12) (.tmp 15) 95 rfl w.heap.size 99 i1 _ 3 24 Tryz.underlying95 hi1 hy0 hy1 hy2 rfl (by omega) _ 0 [] rfl (World.ownsRow_nil _ _ _ _) ⟨w2.heap.size, 0, none⟩ 1 1 [.int .i64 ((5 : Nat) - 1 : Int), .int .i64 x, .int .i64 y] rfl rfl (fun j u hj => by rw [show (⟨w2.heap.size, 0, none⟩ : Addr).add j = ⟨w2.heap.size, j, none⟩ by unfold Addr.add; split <;> simp_all]; match j, hj with | 0, hj => simp at hj; subst hj; go_simp | 1, hj => simp at hj; subst hj; go_simp | 2, hj => simp at hj; subst hj; go_simp) (by simp [Value.oneCell']) (by decide) (by omega) (by have := HB2.out.size; simp; omega) ?_; intro v9 w9 hown9 hgr9 _ _)
          have HO9 := Lib.hid hown9
          have HB9 : Hid (Below w.heap.size w w9) := ext_trans (ext_alloc HB2.out) (below_of_grown_none hgr9)
          clear hown9 hgr9
          as_aux_lemma =>
            go_wp2_with fail
            go_roundw
            case rel => exact ⟨1, by omega, fun h => absurd h (by decide), by go_num, HO9.out, HB9.out⟩
            case measure => simp [intOf]
    · obtain rfl : k = 1 := by omega
      clear c0 c1
      go_wp2_with fail
      go_ret
      exact ⟨_, rfl, HO.out, HB.out⟩

set_option maxRecDepth 100000 in
set_option maxHeartbeats 1000000 in
theorem count_one (w : World) (b : Nat) (hb : b < w.heap.size) (c0 : w.cell? ⟨b, 0, none⟩ = some (.string ⟨r0S.toArray⟩)) (c1 : w.cell? ⟨b, 1, none⟩ = some (.string ⟨r1S.toArray⟩)) : Calls Tryz.prog 39 #[.slice (some ⟨b, 0, none⟩) 1 1] w fun e w' => e = .returned (.tuple #[.int .i64 10, .int .i64 0]) ∧ Below w.heap.size w w' := by
  have HC := Lib.hid (checkRanges_one w b hb r0S r1S c0 c1 rfl rfl (by decide +kernel) (by decide +kernel) (by decide +kernel))
  have HSP : Hid (∀ W, Below w.heap.size w W → Calls Tryz.prog 70 #[.slice (some ⟨b, 0, none⟩) 1 1] W fun e w' => ∃ v, e = .returned v ∧ w'.ownsRow W.heap.size 99 3 v 1 [.int .i64 4, .int .i64 1000, .int .i64 1009] ∧ Below W.heap.size W w') := fun W hW => spans_one W b (Nat.lt_of_lt_of_le hb hW.size) r0S r1S 1000 1009 ((hW.cell (p := ⟨b, 0, none⟩) hb).trans c0) ((hW.cell (p := ⟨b, 1, none⟩) hb).trans c1) rfl rfl (by decide +kernel) (by decide +kernel)
  clear c0 c1
  go_enter Tryz.func39, Tryz.ntmps39
  go_wp2_with fail
  refine HC.out.mono ?_
  rintro e w1 ⟨rfl, hb1⟩
  have HB1 := Lib.hid hb1
  clear hb1
  go_wp2_with fail
  refine (HSP.out _ HB1.out).mono ?_
  rintro e w2 ⟨v, rfl, hown, hb2⟩
  have HB2 := Lib.hid (ext_trans HB1.out hb2)
  obtain ⟨-, h9⟩ | ⟨g, cp, cu, rfl, hg⟩ := hown.2
  · cases h9
  have hcs := hown.cells (g := g) rfl
  have hg2 := (hown.lt g rfl).2
  have aa : ∀ j, (⟨g, 0, none⟩ : Addr).add j = ⟨g, j, none⟩ := fun j => by unfold Addr.add; split <;> simp_all
  have s0 : w2.cell? ⟨g, 0, none⟩ = some (.int .i64 4) := by rw [← aa 0]; exact hcs 0 _ rfl
  have s1 : w2.cell? ⟨g, 1, none⟩ = some (.int .i64 1000) := by rw [← aa 1]; exact hcs 1 _ rfl
  have s2 : w2.cell? ⟨g, 2, none⟩ = some (.int .i64 1009) := by rw [← aa 2]; exact hcs 2 _ rfl
  clear hown hg hcs aa hb2
  as_aux_lemma =>
    go_wp2_with fail
    go_loopw [5, 16] (fun acc it wr => ∃ k : Nat, k ≤ 1 ∧ acc = .int .i64 (10 * (k : Int)) ∧ it = .int .i64 k ∧ Hid (Below w2.heap.size w2 wr)) (fun _ it _ => 1 - (intOf it).toNat)
    case atStart => exact ⟨0, Nat.zero_le _, rfl, rfl, Below.refl _ _⟩
    case round =>
      obtain ⟨k, hk, rfl, rfl, HB⟩ := hrel
      by_cases hk0 : k = 0
      · subst hk0
        have d0 := (HB.out.cell (p := ⟨g, 0, none⟩) hg2).trans s0
        have d1 := (HB.out.cell (p := ⟨g, 1, none⟩) hg2).trans s1
        have d2 := (HB.out.cell (p := ⟨g, 2, none⟩) hg2).trans s2
        clear s0 s1 s2
        go_wp2_with fail
        go_roundw
        case rel => exact ⟨1, by omega, by go_num, by go_num, ext_alloc HB.out⟩
        case measure => simp [intOf]
      · obtain rfl : k = 1 := by omega
        clear s0 s1 s2
        go_wp2_with fail
        go_ret2
        exact ⟨rfl, ext_trans HB2.out HB.out⟩

set_option maxRecDepth 100000 in
theorem numbered_any (w : World) : Calls Tryz.prog 17 #[] w fun e w' => e = .returned (.bool true) ∧ Below w.heap.size w w' := by
  have HC : Hid (Calls Tryz.prog 39 #[.slice (some ⟨w.heap.size, 0, none⟩) 1 1] (w.alloc (.cells #[.string ⟨#[43, 49, 48, 48, 48]⟩, .string ⟨#[43, 49, 48, 48, 57]⟩] 53)) fun e w' => e = .returned (.tuple #[.int .i64 10, .int .i64 0]) ∧ Below (w.alloc (.cells #[.string ⟨#[43, 49, 48, 48, 48]⟩, .string ⟨#[43, 49, 48, 48, 57]⟩] 53)).heap.size (w.alloc (.cells #[.string ⟨#[43, 49, 48, 48, 48]⟩, .string ⟨#[43, 49, 48, 48, 57]⟩] 53)) w') := count_one _ w.heap.size (by simp) (by go_simp; rfl) (by go_simp; rfl)
  go_enter Tryz.func17, Tryz.ntmps17
  go_wp2_with fail
  refine HC.out.mono ?_
  rintro e w1 ⟨rfl, hb1⟩
  have HB1 : Hid (Below w.heap.size w w1) := ext_trans (ext_alloc (Below.refl _ _)) hb1
  go_wp2_with fail
  go_ret
  exact ⟨rfl, HB1.out⟩
end Go.Proofs.YtmbimfmalijjpaaGreatDoor

set_option linter.unusedVariables false
set_option linter.unusedSimpArgs false
namespace Go.Proofs.YtmbimfmalijjpaaGreatDoor
open Go.RowKit

set_option maxRecDepth 100000 in
theorem orI_any (a b : Int) (B : Nat) (w : World) (hB : B < w.heap.size) (h0 : w.cell? ⟨B, 0, none⟩ = some (.int .i64 a)) (h1 : w.cell? ⟨B, 1, none⟩ = some (.int .i64 b)) : Calls Tryz.prog 51 #[.slice (some ⟨B, 0, none⟩) 2 2] w fun r w' => r = .returned (.int .i64 (firstE a b)) ∧ w = w' := by
  by_cases ha : a = 0
  · subst ha
    by_cases hb : b = 0
    · subst hb
      go_enter Tryz.func51, Tryz.ntmps51
      go_wp2_with fail
      go_loopw [8] (fun i wr => ∃ k : Nat, k ≤ 2 ∧ i = .int .i64 k ∧ wr = w) (fun i _ => 2 - (intOf i).toNat)
      case atStart => exact ⟨0, by omega, rfl, rfl⟩
      case round =>
        obtain ⟨k, hk, rfl, rfl⟩ := hrel
        have hkc : k = 0 ∨ k = 1 ∨ k = 2 := by omega
        rcases hkc with rfl | rfl | rfl
        · go_wp2_with fail
          go_roundw
          case rel => exact ⟨1, by omega, by go_num, trivial⟩
          case measure => simp [intOf]
        · go_wp2_with fail
          go_roundw
          case rel => exact ⟨2, by omega, by go_num, trivial⟩
          case measure => simp [intOf]
        · go_wp2_with fail
          go_ret
          exact ⟨rfl, rfl⟩
    · have hbb : (b == 0) = false := by simpa using hb
      have HF : Hid (firstE 0 b = b) := by show _ = _; unfold firstE; rw [if_neg (by simp)]
      go_enter Tryz.func51, Tryz.ntmps51
      go_wp2_with fail
      go_loopw [8] (fun i wr => ∃ k : Nat, k ≤ 1 ∧ i = .int .i64 k ∧ wr = w) (fun i _ => 2 - (intOf i).toNat)
      case atStart => exact ⟨0, by omega, rfl, rfl⟩
      case round =>
        obtain ⟨k, hk, rfl, rfl⟩ := hrel
        have hkc : k = 0 ∨ k = 1 := by omega
        rcases hkc with rfl | rfl
        · go_wp2_with fail
          go_roundw
          case rel => exact ⟨1, by omega, by go_num, trivial⟩
          case measure => simp [intOf]
        · go_wp2_with fail
          go_ret
          exact ⟨by rw [HF.out]; rfl, rfl⟩
  · have hab : (a == 0) = false := by simpa using ha
    have HF : Hid (firstE a b = a) := by show _ = _; unfold firstE; rw [if_pos ha]
    go_enter Tryz.func51, Tryz.ntmps51
    go_wp2_with fail
    go_loopw [8] (fun i wr => i = .int .i64 0 ∧ wr = w) (fun i _ => 0)
    case atStart => exact ⟨rfl, rfl⟩
    case round =>
      obtain ⟨rfl, rfl⟩ := hrel
      go_wp2_with fail
      go_ret
      exact ⟨by rw [HF.out]; rfl, rfl⟩

/-- The sign says how two things stand. -/
def SignPost (lt eq : Prop) (w : World) (e : Ending) (w' : World) : Prop := ∃ r : Int, e = .returned (.int .i64 r) ∧ (r < 0 ↔ lt) ∧ (r = 0 ↔ eq) ∧ w' = w
theorem cmpI_any (x y : Int) (w : World) : Calls Tryz.prog 53 #[.int .i64 x, .int .i64 y] w (SignPost (x < y) (x = y) w) := by
  refine (Tryz.cmp_Compare x y w).mono ?_
  rintro e w' ⟨rfl, rfl⟩
  refine ⟨_, rfl, ?_, ?_, rfl⟩ <;> unfold Lib.compareInt <;> split <;> first | omega | (split <;> omega)
theorem cmpB_any (x y : List UInt8) (w : World) : Calls Tryz.prog 52 #[.string ⟨x.toArray⟩, .string ⟨y.toArray⟩] w (SignPost (Op.bytesLess x y = true) (x = y) w) := by
  refine (Tryz.strings_Compare ⟨x.toArray⟩ ⟨y.toArray⟩ w).mono ?_
  rintro e w' ⟨rfl, rfl⟩
  exact ⟨_, rfl, cmp_neg x y, cmp_zero x y, rfl⟩
theorem nanS_any (x : List UInt8) (w : World) : Calls Tryz.prog 94 #[.string ⟨x.toArray⟩] w fun e w' => e = .returned (.bool false) ∧ w' = w := by
  go_enter Tryz.func94, Tryz.ntmps94
  go_wp2_with fail
  go_ret
  exact ⟨by first | rfl | simp, rfl⟩
theorem less_asym {x y : List UInt8} (h : Op.bytesLess x y = true) : Op.bytesLess y x = false ∧ x ≠ y := by
  refine ⟨?_, ?_⟩
  · cases h2 : Op.bytesLess y x with
    | false => rfl
    | true => rw [← less_irrefl x, ← less_trans h h2]
  · rintro rfl
    rw [less_irrefl] at h
    cases h
theorem cmpS_any (x y : List UInt8) (w : World) : Calls Tryz.prog 58 #[.string ⟨x.toArray⟩, .string ⟨y.toArray⟩] w (SignPost (Op.bytesLess x y = true) (x = y) w) := by
  by_cases h1 : Op.bytesLess x y = true
  · obtain ⟨h2, h3⟩ := less_asym h1
    have HL := Lib.hid h1
    have HN := Lib.hid h3
    have hxy : (x == y) = false := beq_eq_false_iff_ne.2 h3
    clear h3
    go_enter Tryz.func58, Tryz.ntmps58
    go_wp2_with (go_at_call 94; refine (nanS_any _ _).mono ?_; rintro e w' ⟨rfl, rfl⟩)
    go_ret
    exact ⟨-1, rfl, by simp [HL.out], by simp [HN.out], rfl⟩
  · have h1' : Op.bytesLess x y = false := by simpa using h1
    by_cases h3 : x = y
    · subst h3
      have HI := Lib.hid (less_irrefl x)
      go_enter Tryz.func58, Tryz.ntmps58
      go_wp2_with (go_at_call 94; refine (nanS_any _ _).mono ?_; rintro e w' ⟨rfl, rfl⟩)
      go_ret
      exact ⟨0, rfl, by simp [HI.out], by simp, rfl⟩
    · have h2 : Op.bytesLess y x = true := less_total x y h1' h3
      have hxy : (x == y) = false := beq_eq_false_iff_ne.2 h3
      have HL := Lib.hid h1'
      have HN := Lib.hid h3
      clear h3 h1
      go_enter Tryz.func58, Tryz.ntmps58
      go_wp2_with (go_at_call 94; refine (nanS_any _ _).mono ?_; rintro e w' ⟨rfl, rfl⟩)
      go_ret
      exact ⟨1, rfl, by simp [HL.out], by simp [HN.out], rfl⟩
theorem first_sign {a b : Int} {P Q R : Prop} (h1 : a < 0 ↔ P) (h2 : a = 0 ↔ Q) (h3 : b < 0 ↔ R) : firstE a b < 0 ↔ (P ∨ Q ∧ R) := by
  unfold firstE
  rw [← h1, ← h2, ← h3]
  split <;> omega

theorem value_any (s : List UInt8) (hn : isNumB s = true) (w : World) : Calls Tryz.prog 66 #[.string ⟨s.toArray⟩] w fun e w' => e = .returned (.int .i64 (numV s)) ∧ Below w.heap.size w w' := by
  have hl := num_len hn
  have HA := Lib.hid (fun w => atoi_l (s.drop 1) (numV s) (by rw [List.length_drop]; omega) (num_atoi hn) w)
  have hl1 : 1 ≤ s.length := by omega
  clear hn
  go_enter Tryz.func66, Tryz.ntmps66
  go_wp2_with fail
  rw [extract_drop]
  refine (HA.out _).mono ?_
  rintro e w1 ⟨rfl, hb1⟩
  have HB := Lib.hid hb1
  clear hb1
  go_wp2_with fail
  go_ret
  exact ⟨rfl, HB.out⟩

theorem idxS (n : Nat) (hn : n < 256) : Lib.indexByte [97, 98, 99, 100, 101, 102, 103, 104, 105, 106, 107, 108, 109, 110, 111, 112, 113, 114, 115, 116, 117, 118, 119, 120, 121, 122] ((n : Int).toNat.toUInt8) = if 97 ≤ n ∧ n ≤ 122 then ((n - 97 : Nat) : Int) else -1 := by
  have : ∀ i : Fin 256, Lib.indexByte [97, 98, 99, 100, 101, 102, 103, 104, 105, 106, 107, 108, 109, 110, 111, 112, 113, 114, 115, 116, 117, 118, 119, 120, 121, 122] ((i.val : Int).toNat.toUInt8) = if 97 ≤ i.val ∧ i.val ≤ 122 then ((i.val - 97 : Nat) : Int) else -1 := by decide +kernel
  exact this ⟨n, hn⟩
theorem smallS (n : Nat) (hn : n < 256) (w : World) : Calls Tryz.prog 87 #[.string ⟨#[97, 98, 99, 100, 101, 102, 103, 104, 105, 106, 107, 108, 109, 110, 111, 112, 113, 114, 115, 116, 117, 118, 119, 120, 121, 122]⟩, .int .u8 n] w fun e w' => e = .returned (.int .i64 (if 97 ≤ n ∧ n ≤ 122 then ((n - 97 : Nat) : Int) else -1)) ∧ w' = w := by
  rw [← idxS n hn]
  exact Tryz.strings_IndexByte _ _ w
set_option maxRecDepth 100000 in
theorem keyR_any (l : List UInt8) (w : World) (hs : l.length ≤ 1000000) : Calls Tryz.prog 49 #[.string ⟨l.toArray⟩] w fun e w' => e = .returned (.bool (isKeyB l)) ∧ Below w.heap.size w w' := by
  have hcon := fun w => trim_keys ⟨l.toArray⟩ w (by show l.length ≤ _; omega)
  have hd : Hid (isKeyB l = ((decide ((1 : Int) ≤ (l.length : Int)) && decide ((l.length : Int) ≤ 40)) && ((Lib.trimS l keySet).isEmpty && (decide (97 ≤ (l.headD 0).toNat) && decide ((l.headD 0).toNat ≤ 122))))) := by
    show isKeyB l = _
    have e : isKeyB l = (decide (1 ≤ l.length) && (decide (l.length ≤ 40) && (decide (97 ≤ (l.headD 0).toNat) && (decide ((l.headD 0).toNat ≤ 122) && (Lib.trimS l keySet).isEmpty)))) := rfl
    rw [e, show decide ((1 : Int) ≤ (l.length : Int)) = decide (1 ≤ l.length) from by congr 1; exact propext (by omega), show decide ((l.length : Int) ≤ 40) = decide (l.length ≤ 40) from by congr 1; exact propext (by omega)]
    cases (Lib.trimS l keySet).isEmpty <;> simp [Bool.and_assoc]
  have hcon : ∀ w, Calls Tryz.prog 86 #[.string ⟨l.toArray⟩, .string ⟨#[97, 98, 99, 100, 101, 102, 103, 104, 105, 106, 107, 108, 109, 110, 111, 112, 113, 114, 115, 116, 117, 118, 119, 120, 121, 122, 48, 49, 50, 51, 52, 53, 54, 55, 56, 57, 45, 95]⟩] w fun e w' => e = .returned (.string ⟨(Lib.trimS l keySet).toArray⟩) ∧ Below w.heap.size w w' := hcon
  have HCON := Lib.hid hcon
  have HNE : Hid ((decide ((1 : Int) ≤ (l.length : Int)) && decide ((l.length : Int) ≤ 40)) = true → 1 ≤ l.length) := fun h => by simp at h; omega
  clear hcon
  generalize Lib.trimS l keySet = r at HCON hd
  generalize hg : (decide ((1 : Int) ≤ (l.length : Int)) && decide ((l.length : Int) ≤ 40)) = g at hd HNE
  have HG := Lib.hid hg
  clear hg
  generalize isKeyB l = R at hd ⊢
  go_enter Tryz.func49, Tryz.ntmps49
  go_wp2_with fail
  refine (in_any _ 1 40 _).mono ?_
  rintro e w1 ⟨rfl, rfl⟩
  rw [HG.out]
  cases g
  · go_wp2_with fail
    go_ret
    exact ⟨by rw [hd.out]; rfl, Below.refl _ _⟩
  · obtain ⟨c, l', rfl⟩ : ∃ c l', l = c :: l' := by
      have := HNE.out rfl
      cases l with
      | nil => simp at this
      | cons c l' => exact ⟨c, l', rfl⟩
    clear HNE HG
    go_wp2_with fail
    refine (HCON.out _).mono ?_
    rintro e w2 ⟨rfl, hb2⟩
    have HB2 := Lib.hid hb2
    clear hb2 HCON
    cases r with
    | cons x r' =>
      go_wp2_with fail
      go_ret
      exact ⟨by rw [hd.out]; rfl, HB2.out⟩
    | nil =>
      have hc : c.toNat < 256 := UInt8.toNat_lt c
      have hd2 : Hid (R = (decide (97 ≤ c.toNat) && decide (c.toNat ≤ 122))) := by show _ = _; rw [hd.out]; rfl
      have HIX := Lib.hid (fun w => smallS c.toNat hc w)
      clear hd
      generalize hcn : c.toNat = n at hd2 HIX hc
      go_wp2_with fail
      rw [show ∀ h, ((⟨(c :: l').toArray⟩ : ByteArray)[0]'h).toNat = n from fun _ => hcn]
      refine (HIX.out _).mono ?_
      rintro e w3 ⟨rfl, rfl⟩
      by_cases hin : 97 ≤ n ∧ n ≤ 122
      · rw [if_pos hin]
        have hd3 : Hid (R = true) := by show _ = _; rw [hd2.out]; simp [hin.1, hin.2]
        clear hd2 HIX hcn
        go_wp2_with fail
        go_ret
        exact ⟨by rw [hd3.out]; rfl, HB2.out⟩
      · rw [if_neg hin]
        have hd3 : Hid (R = false) := by show _ = _; rw [hd2.out]; simp; omega
        clear hd2 HIX hcn hin
        go_wp2_with fail
        go_ret
        exact ⟨by rw [hd3.out]; rfl, HB2.out⟩
theorem keyFault_any (l : List UInt8) (w : World) (hs : l.length ≤ 1000000) : Calls Tryz.prog 15 #[.string ⟨l.toArray⟩] w (ErrPost (if isKeyB l = true then 0 else 5) w) := by
  have HD := Lib.hid (fun W => keyR_any l W hs)
  generalize isKeyB l = g at HD ⊢
  cases g <;>
  · go_enter Tryz.func15, Tryz.ntmps15
    go_wp2_with fail
    refine (HD.out _).mono ?_
    rintro e w1 ⟨rfl, hb1⟩
    have HB := Lib.hid hb1
    clear hb1
    go_wp2_with fail
    go_ret
    exact ⟨rfl, HB.out⟩
theorem formFault_any (l : List UInt8) (w : World) (hs : l.length ≤ 1000) : Calls Tryz.prog 13 #[.string ⟨l.toArray⟩] w (ErrPost (if isNumB l = true then 0 else 3) w) := by
  have HD := Lib.hid (fun W => form_l l W hs)
  generalize isNumB l = g at HD ⊢
  cases g <;>
  · go_enter Tryz.func13, Tryz.ntmps13
    go_wp2_with fail
    refine (HD.out _).mono ?_
    rintro e w1 ⟨rfl, hb1⟩
    have HB := Lib.hid hb1
    clear hb1
    go_wp2_with fail
    go_ret
    exact ⟨rfl, HB.out⟩
theorem momentFault_any (n : Int) (w : World) : Calls Tryz.prog 14 #[.int .i64 n] w (ErrPost (if isMomB n = true then 0 else 1) w) := by
  have HG : Hid ((decide (0 ≤ n) && decide (n ≤ 345686399999)) = isMomB n) := by
    show _ = _
    unfold isMomB
    congr 1
    congr 1
    exact propext (by omega)
  generalize isMomB n = g at HG ⊢
  cases g <;>
  · go_enter Tryz.func14, Tryz.ntmps14
    go_wp2_with fail
    refine (in_any _ 0 345686399999 _).mono ?_
    rintro e w1 ⟨rfl, rfl⟩
    rw [HG.out]
    go_wp2_with fail
    go_ret
    exact ⟨rfl, Below.refl _ _⟩
end Go.Proofs.YtmbimfmalijjpaaGreatDoor
