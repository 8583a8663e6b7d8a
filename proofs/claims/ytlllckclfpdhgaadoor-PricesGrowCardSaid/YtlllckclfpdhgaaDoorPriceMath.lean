/- What is proved here: plain facts on tariffs: a longer talk is never cheaper, the class that counts is the most exact one, tariffs that a stream makes are right. No condition. -/
import Derived.Test.YtlllckclfpdhgaaDoorPrice
namespace Go.Proofs.YtlllckclfpdhgaaDoor
set_option linter.unusedVariables false

theorem price_mono {c : Cls} (g : GoodCls c) {s t : Int} (h0 : 1 ≤ s) (h : s ≤ t) : priceI c s ≤ priceI c t := by
  unfold priceI
  rw [if_neg (by omega), if_neg (by omega)]
  have h1 : (max 0 (s - c.first) + c.step - 1) / c.step ≤ (max 0 (t - c.first) + c.step - 1) / c.step := Int.ediv_le_ediv (by have := g.step0; omega) (by omega)
  have := Int.mul_le_mul_of_nonneg_left h1 g.rate0
  omega

theorem clsTo_spec (cs : List Cls) (l : List UInt8) (c : Cls) : ∀ k, clsTo cs l k = some c → ∃ j, j ≤ k ∧ findPre cs (l.take j) = some c ∧ ∀ m, j < m → m ≤ k → findPre cs (l.take m) = none
  | 0, h => ⟨0, Nat.le_refl _, h, fun m h1 h2 => by omega⟩
  | k + 1, h => by
    have h' : (findPre cs (l.take (k + 1))).or (clsTo cs l k) = some c := h
    cases hf : findPre cs (l.take (k + 1)) with
    | some d =>
      rw [hf] at h'
      have : d = c := by simpa using h'
      subst this
      exact ⟨k + 1, Nat.le_refl _, hf, fun m h1 h2 => by omega⟩
    | none =>
      rw [hf] at h'
      obtain ⟨j, hj, hs, hn⟩ := clsTo_spec cs l c k (by simpa using h')
      refine ⟨j, by omega, hs, fun m h1 h2 => ?_⟩
      by_cases e : m = k + 1
      · subst e; exact hf
      · exact hn m h1 (by omega)

theorem findPre_pre {cs : List Cls} {t : List UInt8} {c : Cls} (h : findPre cs t = some c) : c.pre = t := by
  have := List.find?_some h
  simpa using this
theorem findPre_hit {cs : List Cls} {c : Cls} (h : c ∈ cs) : findPre cs c.pre ≠ none := by
  intro e
  unfold findPre at e
  rw [List.find?_eq_none] at e
  exact e c h (by simp)

theorem longest {cs : List Cls} {l : List UInt8} {c x : Cls} (h : clsOf cs l = some c) (hx : x ∈ cs) (hl : x.pre.length ≤ l.length) (hp : l.take x.pre.length = x.pre) : x.pre.length ≤ c.pre.length := by
  obtain ⟨j, hj, hs, hn⟩ := clsTo_spec cs l c _ h
  have hc := findPre_pre hs
  have hjl : c.pre.length = j := by rw [hc]; simp; omega
  rw [hjl]
  rcases Nat.lt_or_ge j x.pre.length with hlt | hge
  · have := hn _ hlt hl
    rw [hp] at this
    exact absurd this (findPre_hit hx)
  · exact hge

/-- The beginnings that a stream's tariffs are made of, in order. -/
def fivePre : List (List UInt8) := [[], [43, 52], [43, 52, 57], [43, 52, 57, 51, 48], [43, 53]]
theorem five_sorted : fivePre.Pairwise (fun a b => Op.bytesLess a b = true) := by decide
theorem five_ok : ∀ p ∈ fivePre, isPreB p = true ∧ p.length ≤ 1000 := by decide

theorem less_not_le {a b : List UInt8} (h : Op.bytesLess a b = true) : leS b a = false := by
  unfold leS
  cases h1 : Op.bytesLess b a with
  | true => have := less_trans h h1; rw [less_irrefl] at this; cases this
  | false =>
    simp only [Bool.false_or, beq_eq_false_iff_ne]
    intro e
    rw [e, less_irrefl] at h
    cases h

theorem sorted_of_sub {cs : List Cls} (h : (cs.map Cls.pre).Sublist fivePre) : Sorted cs := by
  have hp := five_sorted.sublist h
  rw [List.pairwise_iff_getElem] at hp
  intro i h0 hi
  have := hp (i - 1) i (by simp; omega) (by simpa using hi) (by omega)
  simp only [List.getElem_map] at this
  rw [List.getD_eq_getElem?_getD, List.getElem?_eq_getElem hi, List.getD_eq_getElem?_getD, List.getElem?_eq_getElem (show i - 1 < cs.length by omega)]
  exact less_not_le this
end Go.Proofs.YtlllckclfpdhgaaDoor
