/- What is proved here: the long numbers of packets, and how many different ones there are, on lists. No condition. -/
import Derived.Test.YtdjlchhfpomaiaaDoorBase
set_option linter.unusedVariables false
set_option linter.unusedSimpArgs false
namespace Go.Proofs.YtdjlchhfpomaiaaDoor

/-- The number nearest to n that is low modulo 65536. -/
def nearI (n low : Int) : Int := if 32768 < (low - n) % 65536 then n + ((low - n) % 65536 - 65536) else n + (low - n) % 65536
/-- The greatest number so far, and the numbers. -/
def numsTo (seqs : List Int) : Nat → Int × List Int
  | 0 => (0, [])
  | k + 1 => let n := if k = 0 then seqs.getD k 0 + 65536 else nearI (numsTo seqs k).1 (seqs.getD k 0)
    (max (numsTo seqs k).1 n, (numsTo seqs k).2 ++ [n])

structure NumsOk (seqs : List Int) (k : Nat) (st : Int × List Int) : Prop where
  len : st.2.length = k
  lo : 0 < k → 65536 ≤ st.1
  g0 : 0 ≤ st.1
  hi : st.1 ≤ 131072 + 32768 * (k : Int)
  each : ∀ i, i < k → 0 ≤ st.2.getD i 0 ∧ st.2.getD i 0 ≤ 131072 + 32768 * (k : Int) ∧ (st.2.getD i 0) % 65536 = seqs.getD i 0

theorem near_facts (n low : Int) (h0 : 0 ≤ low) (h1 : low ≤ 65535) (hn : 65536 ≤ n) : 0 ≤ nearI n low ∧ nearI n low ≤ n + 32768 ∧ nearI n low % 65536 = low := by
  unfold nearI
  split <;> omega

theorem getD_snoc (xs : List Int) (x : Int) (i : Nat) : (xs ++ [x]).getD i 0 = if i < xs.length then xs.getD i 0 else if i = xs.length then x else 0 := by
  simp only [List.getD_eq_getElem?_getD, List.getElem?_append]
  by_cases h : i < xs.length
  · simp [h]
  · rw [if_neg h, if_neg h]
    by_cases h2 : i = xs.length
    · subst h2; simp
    · rw [if_neg h2, List.getElem?_eq_none (by simp; omega)]; rfl

theorem nums_ok (seqs : List Int) (hs : ∀ i, i < seqs.length → 0 ≤ seqs.getD i 0 ∧ seqs.getD i 0 ≤ 65535) : ∀ k, k ≤ seqs.length → NumsOk seqs k (numsTo seqs k)
  | 0, _ => ⟨rfl, by omega, by simp [numsTo], by simp [numsTo], by omega⟩
  | k + 1, hk => by
    have ih := nums_ok seqs hs k (by omega)
    have hk2 := hs k (by omega)
    have key : ∃ n, numsTo seqs (k + 1) = (max (numsTo seqs k).1 n, (numsTo seqs k).2 ++ [n]) ∧ 0 ≤ n ∧ n ≤ 131072 + 32768 * ((k : Int) + 1) ∧ n % 65536 = seqs.getD k 0 ∧ (k = 0 → 65536 ≤ n) := by
      by_cases h0 : k = 0
      · refine ⟨seqs.getD k 0 + 65536, by rw [numsTo]; simp [h0], ?_⟩
        omega
      · have hl := ih.lo (by omega)
        have := near_facts (numsTo seqs k).1 (seqs.getD k 0) hk2.1 hk2.2 hl
        have hh := ih.hi
        exact ⟨nearI (numsTo seqs k).1 (seqs.getD k 0), by rw [numsTo]; simp [h0], this.1, by omega, this.2.2, fun h => absurd h h0⟩
    obtain ⟨n, he, n0, n1, n2, n3⟩ := key
    rw [he]
    have hh := ih.hi
    have hg := ih.g0
    refine ⟨by simp [ih.len], ?_, ?_, ?_, ?_⟩
    · intro _
      show 65536 ≤ max _ n
      by_cases h0 : k = 0
      · have := n3 h0; omega
      · have := ih.lo (by omega); omega
    · show 0 ≤ max _ n; omega
    · show max _ n ≤ _; omega
    · intro i hi
      simp only
      rw [getD_snoc, ih.len]
      by_cases h : i < k
      · rw [if_pos h]
        have := ih.each i h
        exact ⟨this.1, by omega, this.2.2⟩
      · have hik : i = k := by omega
        rw [if_neg h, if_pos hik, hik]
        exact ⟨n0, by omega, n2⟩

/-- The different ones among the first k. -/
def diffTo (ns : List Int) : Nat → List Int
  | 0 => []
  | k + 1 => if (diffTo ns k).contains (ns.getD k 0) then diffTo ns k else diffTo ns k ++ [ns.getD k 0]

theorem diff_len (ns : List Int) : ∀ k, (diffTo ns k).length ≤ k
  | 0 => by simp [diffTo]
  | k + 1 => by
    have := diff_len ns k
    rw [diffTo]
    split
    · omega
    · simp; omega
theorem diff_nodup (ns : List Int) : ∀ k, (diffTo ns k).Nodup
  | 0 => List.nodup_nil
  | k + 1 => by
    rw [diffTo]
    split
    · exact diff_nodup ns k
    · rename_i h
      rw [List.nodup_append]
      refine ⟨diff_nodup ns k, by simp, ?_⟩
      intro a ha b hb
      simp at hb
      subst hb
      intro e
      subst e
      exact h (by simpa using ha)
theorem diff_mem (ns : List Int) : ∀ k x, x ∈ diffTo ns k → ∃ i, i < k ∧ x = ns.getD i 0
  | 0, x, h => by cases h
  | k + 1, x, h => by
    rw [diffTo] at h
    split at h
    · obtain ⟨i, hi, e⟩ := diff_mem ns k x h
      exact ⟨i, by omega, e⟩
    · rcases List.mem_append.1 h with h | h
      · obtain ⟨i, hi, e⟩ := diff_mem ns k x h
        exact ⟨i, by omega, e⟩
      · simp at h
        exact ⟨k, by omega, h⟩

theorem few_between : ∀ (m : Nat) (l : List Int) (lo : Int), l.Nodup → (∀ x ∈ l, lo ≤ x ∧ x < lo + m) → l.length ≤ m
  | 0, l, lo, _, h => by
    cases l with
    | nil => simp
    | cons x xs => have := h x (List.mem_cons_self ..); omega
  | m + 1, l, lo, hn, h => by
    have ih := few_between m (l.erase (lo + m)) lo (hn.erase _) (fun x hx => by
      have h1 := hn.mem_erase_iff.1 hx
      have h2 := h x h1.2
      have h3 := h1.1
      omega)
    rw [List.length_erase] at ih
    split at ih <;> omega

/-- The least and the greatest of the first k, from the first one on. -/
def leastTo (ns : List Int) : Nat → Int
  | 0 => ns.getD 0 0
  | k + 1 => min (leastTo ns k) (ns.getD k 0)
def mostTo (ns : List Int) : Nat → Int
  | 0 => ns.getD 0 0
  | k + 1 => max (mostTo ns k) (ns.getD k 0)
theorem least_le (ns : List Int) : ∀ k i, i < k → leastTo ns k ≤ ns.getD i 0
  | 0, i, h => by omega
  | k + 1, i, h => by
    rw [leastTo]
    by_cases e : i = k
    · subst e; omega
    · have := least_le ns k i (by omega); omega
theorem le_most (ns : List Int) : ∀ k i, i < k → ns.getD i 0 ≤ mostTo ns k
  | 0, i, h => by omega
  | k + 1, i, h => by
    rw [mostTo]
    by_cases e : i = k
    · subst e; omega
    · have := le_most ns k i (by omega); omega
theorem least_le_most (ns : List Int) : ∀ k, leastTo ns k ≤ mostTo ns k
  | 0 => by simp [leastTo, mostTo]
  | k + 1 => by rw [leastTo, mostTo]; have := least_le_most ns k; omega
/-- No more different ones than there are places. -/
theorem diff_few (ns : List Int) (k : Nat) : ((diffTo ns k).length : Int) ≤ mostTo ns k - leastTo ns k + 1 := by
  have hlm := least_le_most ns k
  have := few_between (mostTo ns k - leastTo ns k + 1).toNat (diffTo ns k) (leastTo ns k) (diff_nodup ns k) (fun x hx => by
    obtain ⟨i, hi, rfl⟩ := diff_mem ns k x hx
    have h1 := least_le ns k i hi
    have h2 := le_most ns k i hi
    omega)
  omega
theorem least_range (ns : List Int) (M : Int) (h : ∀ i, 0 ≤ ns.getD i 0 ∧ ns.getD i 0 ≤ M) : ∀ k, 0 ≤ leastTo ns k ∧ leastTo ns k ≤ M
  | 0 => h 0
  | k + 1 => by rw [leastTo]; have := least_range ns M h k; have := h k; omega
theorem most_range (ns : List Int) (M : Int) (h : ∀ i, 0 ≤ ns.getD i 0 ∧ ns.getD i 0 ≤ M) : ∀ k, 0 ≤ mostTo ns k ∧ mostTo ns k ≤ M
  | 0 => h 0
  | k + 1 => by rw [mostTo]; have := most_range ns M h k; have := h k; omega
end Go.Proofs.YtdjlchhfpomaiaaDoor
