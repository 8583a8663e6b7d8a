/- What is proved here: patterns of what is dialled, as lists of sets of signs: what they match, the least string that some share. No condition. -/
import Derived.Test.YtkfflafhlgephaaDoorBase
set_option linter.unusedVariables false
set_option linter.unusedSimpArgs false
namespace Go.Proofs.YtkfflafhlgephaaDoor

/-- A pattern: its sets (masks of twelve bits), and its tail (0: none, 46: '.', 33: '!'). -/
structure Pat where
  sets : List Nat
  tail : Nat
/-- The signs that can stand at a place. -/
def Pat.at_ (p : Pat) (i : Nat) : Nat := if i < p.sets.length then p.sets.getD i 0 else if p.tail = 0 then 0 else 4095
/-- Can it end at a place? -/
def Pat.fin (p : Pat) (i : Nat) : Bool := if i < p.sets.length then false else if p.tail = 46 then decide (p.sets.length < i) else if p.tail = 33 then true else decide (i = p.sets.length)
structure PatOk (p : Pat) : Prop where
  tail : p.tail = 0 ∨ p.tail = 46 ∨ p.tail = 33
  sets : ∀ m ∈ p.sets, 0 < m ∧ m < 4096
  len1 : 1 ≤ p.sets.length
  len : p.sets.length ≤ 4

theorem Pat.at_lt {p : Pat} (h : PatOk p) (i : Nat) : p.at_ i < 4096 := by
  unfold Pat.at_
  split
  · rename_i hi
    rw [List.getD_eq_getElem?_getD, List.getElem?_eq_getElem hi, Option.getD_some]
    exact (h.sets _ (List.getElem_mem hi)).2
  · split <;> omega

def matchB (p : Pat) (d : List Nat) : Bool := (List.range d.length).all (fun i => (p.at_ i).testBit (d.getD i 0)) && p.fin d.length
theorem matchB_iff {p : Pat} {d : List Nat} : matchB p d = true ↔ (∀ i, i < d.length → (p.at_ i).testBit (d.getD i 0) = true) ∧ p.fin d.length = true := by
  unfold matchB
  simp [List.all_eq_true]

def tzN (m : Nat) : Nat := ((List.range 12).find? (fun i => m.testBit i)).getD 0
theorem find_range_least {q : Nat → Bool} : ∀ (n x : Nat), (List.range n).find? q = some x → ∀ i, i < x → q i = false := by
  intro n x h i hi
  rw [List.find?_eq_some_iff_getElem] at h
  obtain ⟨_, k, hk, e, hj⟩ := h
  simp at e
  subst e
  have := hj i hi
  simpa using this
theorem tz_bit {m : Nat} (h0 : m ≠ 0) (h1 : m < 4096) : m.testBit (tzN m) = true ∧ tzN m < 12 ∧ ∀ i, m.testBit i = true → tzN m ≤ i := by
  have hex : ∃ i, i < 12 ∧ m.testBit i = true := by
    apply Classical.byContradiction
    intro hn
    apply h0
    apply Nat.eq_of_testBit_eq
    intro i
    rw [Nat.zero_testBit]
    by_cases hi : i < 12
    · cases hb : m.testBit i
      · rfl
      · exact absurd ⟨i, hi, hb⟩ hn
    · exact Nat.testBit_lt_two_pow (Nat.lt_of_lt_of_le h1 (show (2:Nat) ^ 12 ≤ 2 ^ i from Nat.pow_le_pow_right (by omega) (by omega)))
  obtain ⟨i, hi, hb⟩ := hex
  have hs : ((List.range 12).find? (fun i => m.testBit i)).isSome = true := by
    rw [List.find?_isSome]
    exact ⟨i, by simpa using hi, hb⟩
  obtain ⟨x, hx⟩ := Option.isSome_iff_exists.1 hs
  have e : tzN m = x := by unfold tzN; rw [hx]; rfl
  rw [e]
  have hm := List.mem_of_find?_eq_some hx
  have hp := List.find?_some hx
  refine ⟨hp, by simpa using hm, fun j hj => ?_⟩
  rcases Nat.lt_or_ge j x with hlt | hge
  · rw [find_range_least 12 x hx j hlt] at hj; cases hj
  · exact hge

def allAt (l : List Pat) (i : Nat) : Nat := l.foldl (fun a p => a &&& p.at_ i) 4095
theorem all_bit' (l : List Pat) (i j : Nat) : ∀ a : Nat, (l.foldl (fun a p => a &&& p.at_ i) a).testBit j = (a.testBit j && l.all (fun p => (p.at_ i).testBit j)) := by
  induction l with
  | nil => intro a; simp
  | cons p l ih => intro a; simp only [List.foldl_cons, List.all_cons]; rw [ih, Nat.testBit_and, Bool.and_assoc]
theorem all_lt' (l : List Pat) (i : Nat) : ∀ a : Nat, a < 4096 → l.foldl (fun a p => a &&& p.at_ i) a < 4096 := by
  induction l with
  | nil => intro a h; exact h
  | cons p l ih => intro a h; exact ih _ (Nat.lt_of_le_of_lt Nat.and_le_left h)
theorem all_bit (l : List Pat) (i j : Nat) (hj : j < 12) : (allAt l i).testBit j = l.all (fun p => (p.at_ i).testBit j) := by
  unfold allAt
  rw [all_bit']
  have : (4095 : Nat).testBit j = true := by
    have h : (4095 : Nat) = 2 ^ 12 - 1 := rfl
    rw [h, Nat.testBit_two_pow_sub_one]
    simpa using hj
  rw [this, Bool.true_and]
theorem all_lt (l : List Pat) (i : Nat) : allAt l i < 4096 := all_lt' l i 4095 (by omega)
def finAt (l : List Pat) (i : Nat) : Bool := decide (0 < i) && l.all (fun p => p.fin i)

/-- The least of the shortest strings that some patterns share, from a place on. -/
def shareGo (l : List Pat) : Nat → Nat → Option (List Nat)
  | 0, _ => none
  | f + 1, i => if finAt l i then some [] else if allAt l i = 0 then none else (shareGo l f (i + 1)).map (tzN (allAt l i) :: ·)

theorem share_match (l : List Pat) : ∀ (f i : Nat) (x : List Nat), shareGo l f i = some x → (∀ j, j < x.length → x.getD j 0 < 12 ∧ ∀ p ∈ l, (p.at_ (i + j)).testBit (x.getD j 0) = true) ∧ 0 < i + x.length ∧ (∀ p ∈ l, p.fin (i + x.length) = true) ∧ x.length < f := by
  intro f
  induction f with
  | zero => intro i x h; cases h
  | succ f ih =>
    intro i x h
    unfold shareGo at h
    by_cases hf : finAt l i = true
    · rw [if_pos hf] at h
      cases h
      unfold finAt at hf
      simp only [Bool.and_eq_true, decide_eq_true_eq, List.all_eq_true] at hf
      exact ⟨fun j hj => by simp at hj, by simpa using hf.1, fun p hp => hf.2 p hp, by simp⟩
    · rw [if_neg hf] at h
      by_cases h0 : allAt l i = 0
      · rw [if_pos h0] at h; cases h
      · rw [if_neg h0] at h
        obtain ⟨y, hy, rfl⟩ := Option.map_eq_some_iff.1 h
        obtain ⟨k1, k2, k3, k4⟩ := ih (i + 1) y hy
        obtain ⟨t1, t2, t3⟩ := tz_bit h0 (all_lt l i)
        rw [all_bit l i _ t2, List.all_eq_true] at t1
        refine ⟨fun j hj => ?_, by simp; omega, ?_, by simp; omega⟩
        · cases j with
          | zero => exact ⟨t2, fun p hp => t1 p hp⟩
          | succ j =>
            have := k1 j (by simpa using hj)
            simp only [List.getD_cons_succ]
            rw [show i + (j + 1) = i + 1 + j by omega]
            exact this
        · intro p hp
          have := k3 p hp
          rw [List.length_cons, show i + (y.length + 1) = i + 1 + y.length by omega]
          exact this

theorem share_least (l : List Pat) : ∀ (f i : Nat) (d : List Nat), (∀ j, j < d.length → d.getD j 0 < 12 ∧ ∀ p ∈ l, (p.at_ (i + j)).testBit (d.getD j 0) = true) → (∀ p ∈ l, p.fin (i + d.length) = true) → 0 < i + d.length → d.length < f → ∃ x, shareGo l f i = some x ∧ x.length ≤ d.length ∧ ∀ j, j < x.length → x.getD j 0 ≤ d.getD j 0 := by
  intro f
  induction f with
  | zero => intro i d _ _ _ h; omega
  | succ f ih =>
    intro i d h1 h2 h3 h4
    unfold shareGo
    by_cases hf : finAt l i = true
    · rw [if_pos hf]; exact ⟨[], rfl, by simp, fun j hj => by simp at hj⟩
    · rw [if_neg hf]
      cases d with
      | nil =>
        exfalso
        apply hf
        unfold finAt
        simp only [Bool.and_eq_true, decide_eq_true_eq, List.all_eq_true]
        exact ⟨by simpa using h3, fun p hp => by simpa using h2 p hp⟩
      | cons d0 d =>
        have hd0 : d0 < 12 ∧ ∀ p ∈ l, (p.at_ i).testBit d0 = true := h1 0 (by simp)
        have hb : (allAt l i).testBit d0 = true := by
          rw [all_bit l i _ hd0.1, List.all_eq_true]
          exact fun p hp => hd0.2 p hp
        have hne : allAt l i ≠ 0 := by
          intro e; rw [e, Nat.zero_testBit] at hb; cases hb
        rw [if_neg hne]
        obtain ⟨t1, t2, t3⟩ := tz_bit hne (all_lt l i)
        obtain ⟨x, hx, hl, hle⟩ := ih (i + 1) d (fun j hj => by
          have := h1 (j + 1) (by simpa using hj)
          simp only [List.getD_cons_succ] at this
          rw [show i + (j + 1) = i + 1 + j by omega] at this
          exact this) (fun p hp => by
          have := h2 p hp
          rw [List.length_cons, show i + (d.length + 1) = i + 1 + d.length by omega] at this
          exact this) (by omega) (by simp at h4; omega)
        refine ⟨tzN (allAt l i) :: x, by rw [hx]; rfl, by simp; omega, fun j hj => ?_⟩
        cases j with
        | zero => exact t3 d0 hb
        | succ j => simpa using hle j (by simpa using hj)

def shareL (l : List Pat) : Option (List Nat) := shareGo l 31 0
/-- What two patterns match is no less than what they share. -/
theorem share_both {l : List Pat} {d : List Nat} (h : ∀ p ∈ l, matchB p d = true) (hd : ∀ j, j < d.length → d.getD j 0 < 12) (h1 : 1 ≤ d.length) (h2 : d.length ≤ 30) : ∃ x, shareL l = some x ∧ x.length ≤ d.length ∧ ∀ j, j < x.length → x.getD j 0 ≤ d.getD j 0 := by
  refine share_least l 31 0 d (fun j hj => ⟨hd j hj, fun p hp => ?_⟩) (fun p hp => ?_) (by omega) (by omega)
  · rw [Nat.zero_add]; exact (matchB_iff.1 (h p hp)).1 j hj
  · rw [Nat.zero_add]; exact (matchB_iff.1 (h p hp)).2
/-- What patterns share each of them matches. -/
theorem share_each {l : List Pat} {x : List Nat} (h : shareL l = some x) : (∀ p ∈ l, matchB p x = true) ∧ (∀ j, j < x.length → x.getD j 0 < 12) ∧ 1 ≤ x.length ∧ x.length ≤ 30 := by
  obtain ⟨k1, k2, k3, k4⟩ := share_match l 31 0 x h
  refine ⟨fun p hp => matchB_iff.2 ⟨fun i hi => ?_, ?_⟩, fun j hj => (k1 j hj).1, by omega, by omega⟩
  · have := (k1 i hi).2 p hp
    rwa [Nat.zero_add] at this
  · have := k3 p hp
    rwa [Nat.zero_add] at this
/-- Each right pattern matches something. -/
theorem share_one {p : Pat} (h : PatOk p) : ∃ x, shareL [p] = some x := by
  have hm : ∀ i, i < p.sets.length → p.sets.getD i 0 ≠ 0 ∧ p.sets.getD i 0 < 4096 := fun i hi => by
    rw [List.getD_eq_getElem?_getD, List.getElem?_eq_getElem hi, Option.getD_some]
    have := h.sets _ (List.getElem_mem hi)
    omega
  have hl := h.len
  have hl1 := h.len1
  have hg : ∀ i, i < p.sets.length → (p.sets.map tzN).getD i 0 = tzN (p.sets.getD i 0) := fun i hi => by
    simp [List.getD_eq_getElem?_getD, List.getElem?_eq_getElem hi]
  by_cases ht : p.tail = 46
  · have hd : ∀ j, j < (p.sets.map tzN ++ [0]).length → (p.sets.map tzN ++ [0]).getD j 0 < 12 ∧ (p.at_ j).testBit ((p.sets.map tzN ++ [0]).getD j 0) = true := by
      intro j hj
      simp at hj
      unfold Pat.at_
      by_cases hjl : j < p.sets.length
      · rw [if_pos hjl]
        have e : (p.sets.map tzN ++ [0]).getD j 0 = tzN (p.sets.getD j 0) := by
          rw [← hg j hjl]
          simp only [List.getD_eq_getElem?_getD]
          rw [List.getElem?_append_left (by simpa using hjl)]
        rw [e]
        obtain ⟨t1, t2, _⟩ := tz_bit (hm j hjl).1 (hm j hjl).2
        exact ⟨t2, t1⟩
      · rw [if_neg hjl, ht]
        have e : (p.sets.map tzN ++ [0]).getD j 0 = 0 := by
          simp only [List.getD_eq_getElem?_getD]
          rw [List.getElem?_append_right (by simp; omega)]
          rw [show j - (p.sets.map tzN).length = 0 by simp; omega]
          rfl
        rw [e]
        exact ⟨by omega, by decide⟩
    obtain ⟨x, hx, _⟩ := share_both (l := [p]) (d := p.sets.map tzN ++ [0]) (fun q hq => by
      simp at hq; subst hq
      refine matchB_iff.2 ⟨fun i hi => (hd i hi).2, ?_⟩
      unfold Pat.fin
      simp [ht]) (fun j hj => (hd j hj).1) (by simp) (by simp; omega)
    exact ⟨x, hx⟩
  · have hd : ∀ j, j < (p.sets.map tzN).length → (p.sets.map tzN).getD j 0 < 12 ∧ (p.at_ j).testBit ((p.sets.map tzN).getD j 0) = true := by
      intro j hj
      simp at hj
      unfold Pat.at_
      rw [if_pos hj, hg j hj]
      obtain ⟨t1, t2, _⟩ := tz_bit (hm j hj).1 (hm j hj).2
      exact ⟨t2, t1⟩
    obtain ⟨x, hx, _⟩ := share_both (l := [p]) (d := p.sets.map tzN) (fun q hq => by
      simp at hq; subst hq
      refine matchB_iff.2 ⟨fun i hi => (hd i hi).2, ?_⟩
      unfold Pat.fin
      simp [ht]) (fun j hj => (hd j hj).1) (by simpa using hl1) (by simp; omega)
    exact ⟨x, hx⟩
end Go.Proofs.YtkfflafhlgephaaDoor
