/- What is proved here: the moments at which something that changes at whole minutes alone turns, on lists. No condition. -/
import Derived.Test.YtkfflafhlgephaaDoorBase
set_option linter.unusedVariables false
set_option linter.unusedSimpArgs false
namespace Go.Proofs.YtkfflafhlgephaaDoor

def uptoN (xs : List Int) (a : Int) : Nat := xs.countP (fun x => decide (x ≤ a))
def oddB (n : Nat) : Bool := decide (n % 2 = 1)

/-- What is known of the turns up to a moment. -/
structure TurnInv (P : Int → Bool) (F : Int) (at_ : Int) (was : Bool) (xs : List Int) : Prop where
  ge : F ≤ at_
  whole : at_ = F ∨ at_ % 60000 = 0
  sorted : ∀ i j, i < j → j < xs.length → xs.getD i 0 < xs.getD j 0
  inside : ∀ x ∈ xs, F ≤ x ∧ x < at_
  turns : ∀ x ∈ xs, F < x → P x ≠ P (x - 1)
  told : ∀ a, F ≤ a → a < at_ → P a = oddB (uptoN xs a)
  odd : was = oddB xs.length
  before : F < at_ → was = P (at_ - 1)

theorem upto_all {xs : List Int} {a : Int} (h : ∀ x ∈ xs, x ≤ a) : uptoN xs a = xs.length := by
  unfold uptoN
  rw [List.countP_eq_length]
  intro x hx
  simpa using h x hx
theorem upto_snoc {xs : List Int} {y a : Int} : uptoN (xs ++ [y]) a = uptoN xs a + if y ≤ a then 1 else 0 := by
  unfold uptoN
  rw [List.countP_append]
  by_cases h : y ≤ a <;> simp [h]
theorem odd_succ (n : Nat) : oddB (n + 1) = !oddB n := by
  unfold oddB
  by_cases h : n % 2 = 1
  · simp [h]; omega
  · simp [h]; omega

theorem TurnInv.start (P : Int → Bool) (F : Int) : TurnInv P F F false [] :=
  ⟨Int.le_refl _, Or.inl rfl, fun i j _ h => by simp at h, (fun x h => by cases h), (fun x h => by cases h), fun a h1 h2 => by omega, rfl, fun h => by omega⟩

theorem same_minute {P : Int → Bool} (hP : ∀ a b, a / 60000 = b / 60000 → P a = P b) {at_ a : Int} (h0 : at_ ≤ a) (h1 : a < at_ + (60000 - at_ % 60000)) : P a = P at_ := hP _ _ (by omega)

/-- Nothing changes at this moment. -/
theorem TurnInv.keep {P : Int → Bool} {F at_ : Int} {was : Bool} {xs : List Int} (hP : ∀ a b, a / 60000 = b / 60000 → P a = P b) (h : TurnInv P F at_ was xs) (hF : 0 ≤ F) (he : P at_ = was) : TurnInv P F (at_ + (60000 - at_ % 60000)) was xs := by
  have hg := h.ge
  refine ⟨by omega, Or.inr (by omega), h.sorted, fun x hx => by have := h.inside x hx; omega, h.turns, ?_, h.odd, ?_⟩
  · intro a a0 a1
    by_cases hl : a < at_
    · exact h.told a a0 hl
    · rw [same_minute hP (by omega) a1, he, h.odd, upto_all (fun x hx => by have := h.inside x hx; omega)]
  · intro _
    rw [same_minute (P := P) hP (at_ := at_) (by omega) (by omega), he]

theorem getD_snoc2 (xs : List Int) (x : Int) (i : Nat) : (xs ++ [x]).getD i 0 = if i < xs.length then xs.getD i 0 else if i = xs.length then x else 0 := by
  simp only [List.getD_eq_getElem?_getD, List.getElem?_append]
  by_cases h : i < xs.length
  · simp [h]
  · rw [if_neg h, if_neg h]
    by_cases h2 : i = xs.length
    · subst h2; simp
    · rw [if_neg h2, List.getElem?_eq_none (by simp; omega)]; rfl

/-- It turns at this moment. -/
theorem TurnInv.turn {P : Int → Bool} {F at_ : Int} {was : Bool} {xs : List Int} (hP : ∀ a b, a / 60000 = b / 60000 → P a = P b) (h : TurnInv P F at_ was xs) (hF : 0 ≤ F) (he : P at_ ≠ was) : TurnInv P F (at_ + (60000 - at_ % 60000)) (P at_) (xs ++ [at_]) := by
  have hg := h.ge
  have hb : P at_ = !was := by cases h1 : P at_ <;> cases was <;> simp_all
  refine ⟨by omega, Or.inr (by omega), ?_, ?_, ?_, ?_, ?_, ?_⟩
  · intro i j hij hj
    simp at hj
    rw [getD_snoc2, getD_snoc2, if_pos (by omega)]
    by_cases h2 : j < xs.length
    · rw [if_pos h2]; exact h.sorted i j hij h2
    · rw [if_neg h2, if_pos (by omega)]
      have hi : i < xs.length := by omega
      have := h.inside (xs.getD i 0) (by rw [List.getD_eq_getElem?_getD, List.getElem?_eq_getElem hi]; exact List.getElem_mem hi)
      omega
  · intro x hx
    rcases List.mem_append.1 hx with hx | hx
    · have := h.inside x hx; omega
    · simp at hx; omega
  · intro x hx hF
    rcases List.mem_append.1 hx with hx | hx
    · exact h.turns x hx hF
    · simp at hx
      subst hx
      rw [← h.before hF]; exact he
  · intro a a0 a1
    rw [upto_snoc]
    by_cases hl : a < at_
    · rw [if_neg (by omega)]; exact h.told a a0 hl
    · rw [if_pos (by omega), odd_succ, same_minute hP (by omega) a1, hb, h.odd, upto_all (fun x hx => by have := h.inside x hx; omega)]
  · rw [List.length_append, hb, h.odd]; exact (odd_succ _).symm
  · intro _
    exact (same_minute (P := P) hP (at_ := at_) (by omega) (by omega)).symm
end Go.Proofs.YtkfflafhlgephaaDoor
