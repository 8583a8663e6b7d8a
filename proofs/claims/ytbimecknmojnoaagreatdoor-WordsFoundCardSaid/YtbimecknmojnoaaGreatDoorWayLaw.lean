/- What is proved here: which of the tries of a way lead to a number of a right plan, on lists. Condition: the plan is right, the number is split. -/
import Derived.Test.YtbimecknmojnoaaGreatDoorWayMath
set_option linter.unusedVariables false
set_option linter.unusedSimpArgs false
namespace Go.Proofs.YtbimecknmojnoaaGreatDoor
open Go.RowKit

/-- A country of a plan, with an area of a home in it. -/
structure HomeIn (l : List Ctry) (c : Ctry) (area : List UInt8) : Prop where
  here : ∃ k, k < l.length ∧ l.getD k noCtry = c
  area : area = [] ∨ ∃ z, z < c.areas.length ∧ (c.areas.getD z noArea).pre = area
theorem homeIn_of {l : List Ctry} {code area : List UInt8} {c : Ctry} (h : homeC l code area = some c) : HomeIn l c area := by
  unfold homeC at h
  have hp := List.find?_some h
  obtain ⟨k, hk, hkc⟩ := List.getElem_of_mem (List.mem_of_find?_eq_some h)
  simp only [Bool.and_eq_true, Bool.or_eq_true, beq_iff_eq, List.any_eq_true] at hp
  refine ⟨⟨k, hk, by simpa [hk] using hkc⟩, hp.2.imp id ?_⟩
  rintro ⟨a, ha, rfl⟩
  obtain ⟨z, hz, rfl⟩ := List.getElem_of_mem ha
  exact ⟨z, hz, by simp [hz]⟩

def triesL (l : List Ctry) (c : Ctry) (area n : List UInt8) : List (List UInt8) :=
  (c.abroad ++ n.drop 1) :: (if (splitP l n).code = c.code then (c.trunk ++ ((splitP l n).area ++ (splitP l n).rest)) :: (if area = (splitP l n).area ∧ c.trunk ≠ [] then [(splitP l n).rest] else []) else [])
def waysL (l : List Ctry) (c : Ctry) (area n : List UInt8) : List (List UInt8) :=
  (c.abroad ++ n.drop 1) :: (if (splitP l n).code = c.code then (c.trunk ++ ((splitP l n).area ++ (splitP l n).rest)) :: (if (area = (splitP l n).area ∧ c.trunk ≠ []) ∧ reachP l c area (splitP l n).rest = (0, n) then [(splitP l n).rest] else []) else [])

theorem way_abroad {l : List Ctry} {c : Ctry} {area n : List UInt8} (hE : planErr l = 0) (hH : HomeIn l c area) (hS : (splitP l n).err = 0) : reachP l c area (c.abroad ++ n.drop 1) = (0, n) := by
  obtain ⟨i, j, so⟩ := split_ok hS
  obtain ⟨k, hk, rfl⟩ := hH.here
  obtain ⟨-, -, ha, -, -⟩ := ctry_form (plan_ctry hE k hk)
  obtain ⟨a1, a2, a3⟩ := (digitsB_iff _ _ _).1 ha
  obtain ⟨d1, d2, d3⟩ := (digitsB_iff _ _ _).1 so.digits
  have hd : digitsB ((l.getD k noCtry).abroad ++ n.drop 1) 1 30 = true := by
    rw [digitsB_iff, digs_app, a3, d3, List.length_append]
    exact ⟨by omega, by omega, rfl⟩
  have hn : n = 43 :: n.drop 1 := by rw [so.form]; rfl
  unfold reachP
  rw [if_neg (by rw [hd]; exact Bool.noConfusion)]
  unfold reachN
  rw [if_pos (pre_append _ _), List.drop_left]
  simp only [← hn, hS, ne_eq, not_true_eq_false, if_false]
theorem same_ctry {l : List Ctry} {c : Ctry} {area n : List UInt8} (hE : planErr l = 0) (hH : HomeIn l c area) (hS : (splitP l n).err = 0) {i j : Nat} (so : SplitOk l n i j) (hc : (splitP l n).code = c.code) : l.getD i noCtry = c := by
  obtain ⟨k, hk, rfl⟩ := hH.here
  by_cases h : i = k
  · rw [h]
  · exact absurd (so.code.symm.trans hc) (codes_apart hE so.li hk h)
theorem trunk_clash {l : List Ctry} {c : Ctry} {area n : List UInt8} (hE : planErr l = 0) (hH : HomeIn l c area) (hS : (splitP l n).err = 0) {i j : Nat} (so : SplitOk l n i j) (hc : (splitP l n).code = c.code) : Lib.hasPrefix (c.trunk ++ ((splitP l n).area ++ (splitP l n).rest)) c.abroad = false ∧ 1 ≤ (splitP l n).area.length ∧ 1 ≤ (splitP l n).rest.length := by
  have hi := same_ctry hE hH hS so hc
  obtain ⟨g1, g2, g3, g4, g5, g6, g7⟩ := area_parts (plan_area hE i so.li j so.lj)
  obtain ⟨a1, a2, a3⟩ := (digitsB_iff _ _ _).1 g1
  have hl := so.low
  rw [hi] at g2 g3 g4 g5 g6 g7 a1 a2 a3 hl
  have har := so.area
  rw [hi] at har
  rw [har]
  refine ⟨?_, by omega, by omega⟩
  cases hq : Lib.hasPrefix (c.trunk ++ ((c.areas.getD j noArea).pre ++ (splitP l n).rest)) c.abroad with
  | false => rfl
  | true =>
    rw [← List.append_assoc] at hq
    rcases pre_or hq with h | h
    · rw [g2] at h; cases h
    · rw [g3] at h; cases h
theorem way_trunk {l : List Ctry} {c : Ctry} {area n : List UInt8} (hE : planErr l = 0) (hH : HomeIn l c area) (hS : (splitP l n).err = 0) (hc : (splitP l n).code = c.code) : reachP l c area (c.trunk ++ ((splitP l n).area ++ (splitP l n).rest)) = (0, n) := by
  obtain ⟨i, j, so⟩ := split_ok hS
  have hi := same_ctry hE hH hS so hc
  obtain ⟨t1, t2, t3⟩ := trunk_clash hE hH hS so hc
  have hf := so.form
  have har := so.area
  have hlow := so.low
  have hhigh := so.high
  obtain ⟨g1, g2, g3, g4, g5, g6, g7⟩ := area_parts (plan_area hE i so.li j so.lj)
  obtain ⟨-, -, -, ht, -⟩ := ctry_form (plan_ctry hE i so.li)
  rw [hi] at hf har hlow hhigh g6 ht g4
  obtain ⟨q1, q2, q3⟩ := (digitsB_iff _ _ _).1 ht
  obtain ⟨d1, d2, d3⟩ := (digitsB_iff _ _ _).1 so.digits
  have hdn : n.drop 1 = c.code ++ ((splitP l n).area ++ (splitP l n).rest) := by rw [har]; exact (congrArg (List.drop 1) hf).trans rfl
  rw [hdn, digs_app, Bool.and_eq_true] at d3
  have hd : digitsB (c.trunk ++ ((splitP l n).area ++ (splitP l n).rest)) 1 30 = true := by
    rw [digitsB_iff, digs_app, q3, d3.2, List.length_append, List.length_append, har]
    rw [har] at t2
    exact ⟨by omega, by omega, rfl⟩
  have hn : n = 43 :: (c.code ++ ((splitP l n).area ++ (splitP l n).rest)) := by rw [har]; exact hf
  unfold reachP
  rw [if_neg (by rw [hd]; exact Bool.noConfusion)]
  unfold reachN
  rw [if_neg (by simp [t1]), if_pos (pre_append _ _), List.drop_left]
  simp only [← hn, hS, ne_eq, not_true_eq_false, if_false]

theorem ways_apart {l : List Ctry} {c : Ctry} {area n : List UInt8} (hE : planErr l = 0) (hH : HomeIn l c area) (hS : (splitP l n).err = 0) (hc : (splitP l n).code = c.code) : c.trunk ++ ((splitP l n).area ++ (splitP l n).rest) ≠ c.abroad ++ n.drop 1 ∧ (splitP l n).rest ≠ c.trunk ++ ((splitP l n).area ++ (splitP l n).rest) ∧ (splitP l n).rest ≠ c.abroad ++ n.drop 1 := by
  obtain ⟨i, j, so⟩ := split_ok hS
  obtain ⟨t1, t2, t3⟩ := trunk_clash hE hH hS so hc
  have hi := same_ctry hE hH hS so hc
  have har := so.area
  have hf := so.form
  rw [hi] at hf har
  refine ⟨fun h => ?_, fun h => ?_, fun h => ?_⟩
  · rw [h, pre_append] at t1; cases t1
  · have := congrArg List.length h
    simp only [List.length_append] at this
    omega
  · have := congrArg List.length h
    have h9 := congrArg List.length ((congrArg (List.drop 1) hf).trans rfl : n.drop 1 = c.code ++ ((c.areas.getD j noArea).pre ++ (splitP l n).rest))
    simp only [List.length_append] at this h9
    rw [har] at t2
    omega

def stepW (l : List Ctry) (c : Ctry) (area n : List UInt8) (out : List (List UInt8)) (s : List UInt8) : List (List UInt8) := if reachP l c area s = (0, n) ∧ s ∉ out then out ++ [s] else out
theorem tries_fold {l : List Ctry} {c : Ctry} {area n : List UInt8} (hE : planErr l = 0) (hH : HomeIn l c area) (hS : (splitP l n).err = 0) : (triesL l c area n).foldl (stepW l c area n) [] = waysL l c area n := by
  have h1 := way_abroad hE hH hS
  unfold triesL waysL
  rw [List.foldl_cons]
  have e1 : stepW l c area n [] (c.abroad ++ n.drop 1) = [c.abroad ++ n.drop 1] := by unfold stepW; rw [if_pos ⟨h1, by simp⟩]; rfl
  rw [e1]
  by_cases hc : (splitP l n).code = c.code
  · have h2 := way_trunk hE hH hS hc
    obtain ⟨a1, a2, a3⟩ := ways_apart hE hH hS hc
    rw [if_pos hc, if_pos hc, List.foldl_cons]
    have e2 : stepW l c area n [c.abroad ++ n.drop 1] (c.trunk ++ ((splitP l n).area ++ (splitP l n).rest)) = [c.abroad ++ n.drop 1, c.trunk ++ ((splitP l n).area ++ (splitP l n).rest)] := by
      unfold stepW
      rw [if_pos ⟨h2, by simpa using a1⟩]
      rfl
    rw [e2]
    by_cases h3 : area = (splitP l n).area ∧ c.trunk ≠ []
    · rw [if_pos h3, List.foldl_cons, List.foldl_nil]
      unfold stepW
      by_cases h4 : reachP l c area (splitP l n).rest = (0, n)
      · rw [if_pos ⟨h4, fun hm => by rcases List.mem_cons.1 hm with h | hm; exact a3 h; rcases List.mem_cons.1 hm with h | hm; exact a2 h; cases hm⟩, if_pos ⟨h3, h4⟩]; rfl
      · rw [if_neg (fun h => h4 h.1), if_neg (fun h => h4 h.2)]
    · rw [if_neg h3, if_neg (fun h => h3 h.1), List.foldl_nil]
  · rw [if_neg hc, if_neg hc, List.foldl_nil]
theorem tries_filter {l : List Ctry} {c : Ctry} {area n : List UInt8} (hE : planErr l = 0) (hH : HomeIn l c area) (hS : (splitP l n).err = 0) : (triesL l c area n).filter (fun s => decide (reachP l c area s = (0, n))) = waysL l c area n := by
  have h1 := way_abroad hE hH hS
  unfold triesL waysL
  rw [List.filter_cons_of_pos (by simpa using h1)]
  by_cases hc : (splitP l n).code = c.code
  · have h2 := way_trunk hE hH hS hc
    rw [if_pos hc, if_pos hc, List.filter_cons_of_pos (by simpa using h2)]
    by_cases h3 : area = (splitP l n).area ∧ c.trunk ≠ []
    · rw [if_pos h3]
      by_cases h4 : reachP l c area (splitP l n).rest = (0, n)
      · rw [if_pos ⟨h3, h4⟩]; simp [h4]
      · rw [if_neg (fun h => h4 h.2)]; simp [h4]
    · rw [if_neg h3, if_neg (fun h => h3 h.1)]; rfl
  · rw [if_neg hc, if_neg hc]; rfl
theorem tries_but {l : List Ctry} {c : Ctry} {area n : List UInt8} (hE : planErr l = 0) (hH : HomeIn l c area) (hS : (splitP l n).err = 0) : ∀ j, j + 1 < (triesL l c area n).length → reachP l c area ((triesL l c area n).getD j []) = (0, n) ∨ j = 1 + 1 := by
  have h1 := way_abroad hE hH hS
  intro j hj
  unfold triesL at hj ⊢
  by_cases hc : (splitP l n).code = c.code
  · have h2 := way_trunk hE hH hS hc
    rw [if_pos hc] at hj ⊢
    match j, hj with
    | 0, _ => exact Or.inl h1
    | 1, _ => exact Or.inl h2
    | 2, _ => exact Or.inr rfl
    | j + 3, hj =>
      exfalso
      have h9 : (if area = (splitP l n).area ∧ c.trunk ≠ [] then [(splitP l n).rest] else []).length ≤ 1 := by split <;> simp
      simp only [List.length_cons] at hj
      omega
  · rw [if_neg hc] at hj; simp at hj

theorem tries_split {l : List Ctry} {c : Ctry} {area n : List UInt8} (hE : planErr l = 0) (hH : HomeIn l c area) (hS : (splitP l n).err = 0) : ∃ ys z, triesL l c area n = ys ++ [z] ∧ ∀ y ∈ ys, reachP l c area y = (0, n) := by
  have h1 := way_abroad hE hH hS
  unfold triesL
  by_cases hc : (splitP l n).code = c.code
  · have h2 := way_trunk hE hH hS hc
    rw [if_pos hc]
    by_cases h3 : area = (splitP l n).area ∧ c.trunk ≠ []
    · rw [if_pos h3]
      refine ⟨[c.abroad ++ n.drop 1, c.trunk ++ ((splitP l n).area ++ (splitP l n).rest)], _, rfl, fun y hy => ?_⟩
      rcases List.mem_cons.1 hy with rfl | hy
      · exact h1
      · rcases List.mem_cons.1 hy with rfl | hy
        · exact h2
        · cases hy
    · rw [if_neg h3]
      refine ⟨[c.abroad ++ n.drop 1], _, rfl, fun y hy => ?_⟩
      rcases List.mem_cons.1 hy with rfl | hy
      · exact h1
      · cases hy
  · rw [if_neg hc]
    exact ⟨[], _, rfl, fun y hy => by cases hy⟩
/-! ### How the reference asks -/
theorem ref_code {l : List Ctry} {c : Ctry} {area n : List UInt8} (hE : planErr l = 0) (hH : HomeIn l c area) (hS : (splitP l n).err = 0) : Lib.hasPrefix n (43 :: c.code) = decide ((splitP l n).code = c.code) := by
  obtain ⟨i, j, so⟩ := split_ok hS
  have hf := so.form
  by_cases hc : (splitP l n).code = c.code
  · have hi := same_ctry hE hH hS so hc
    rw [hi] at hf
    rw [decide_eq_true hc, pre_iff]
    conv => rhs; rw [hf]
    exact List.cons_prefix_cons.2 ⟨rfl, List.prefix_append _ _⟩
  · rw [decide_eq_false hc]
    cases hq : Lib.hasPrefix n (43 :: c.code) with
    | false => rfl
    | true =>
      exfalso
      obtain ⟨k, hk, rfl⟩ := hH.here
      rw [pre_iff] at hq
      generalize hr : (splitP l n).rest = r at hf
      rw [hf] at hq
      have hq2 := (List.cons_prefix_cons.1 hq).2
      have hal := plan_alone hE ((l.getD i noCtry).code ++ (((l.getD i noCtry).areas.getD j noArea).pre ++ r))
      rw [List.pairwise_iff_getElem] at hal
      have h1 : Lib.hasPrefix ((l.getD i noCtry).code ++ (((l.getD i noCtry).areas.getD j noArea).pre ++ r)) (l.getD i noCtry).code = true := pre_append _ _
      have h2 : Lib.hasPrefix ((l.getD i noCtry).code ++ (((l.getD i noCtry).areas.getD j noArea).pre ++ r)) (l.getD k noCtry).code = true := (pre_iff _ _).2 hq2
      have hli := so.li
      have ei : l[i] = l.getD i noCtry := by simp [hli]
      have ek : l[k] = l.getD k noCtry := by simp [hk]
      rcases Nat.lt_trichotomy i k with h | rfl | h
      · have := hal i k hli hk h (by rw [ei]; exact h1)
        rw [ek, h2] at this; cases this
      · exact hc so.code
      · have := hal k i hk hli h (by rw [ek]; exact h2)
        rw [ei, h1] at this; cases this
theorem ref_nat {l : List Ctry} {c : Ctry} {area n : List UInt8} (hE : planErr l = 0) (hH : HomeIn l c area) (hS : (splitP l n).err = 0) (hc : (splitP l n).code = c.code) : n.drop (43 :: c.code).length = (splitP l n).area ++ (splitP l n).rest := by
  obtain ⟨i, j, so⟩ := split_ok hS
  have hf := so.form
  have hi := same_ctry hE hH hS so hc
  have har := so.area
  rw [hi] at hf har
  conv => lhs; rw [hf]
  rw [har, List.length_cons, List.drop_succ_cons, List.drop_left]
theorem ref_area {l : List Ctry} {c : Ctry} {area n : List UInt8} (hE : planErr l = 0) (hH : HomeIn l c area) (hS : (splitP l n).err = 0) (hc : (splitP l n).code = c.code) : (Lib.hasPrefix ((splitP l n).area ++ (splitP l n).rest) area = true ∧ area ≠ []) ↔ area = (splitP l n).area := by
  obtain ⟨i, j, so⟩ := split_ok hS
  have hi := same_ctry hE hH hS so hc
  obtain ⟨t1, t2, t3⟩ := trunk_clash hE hH hS so hc
  have har := so.area
  have hlj := so.lj
  rw [hi] at har hlj
  constructor
  · rintro ⟨h1, h2⟩
    rcases hH.area with h | ⟨z, hz, rfl⟩
    · exact absurd h h2
    · rw [har] at h1 ⊢
      have hall : ∀ z, z < c.areas.length → areaErr c z = 0 := by
        obtain ⟨k, hk, rfl⟩ := hH.here
        exact plan_area hE k hk
      rcases pre_or h1 with h | h
      · rw [areas_apart hall hz hlj h]
      · rw [areas_apart hall hlj hz h]
  · rintro rfl
    exact ⟨pre_append _ _, fun h => by rw [h] at t2; simp at t2⟩
end Go.Proofs.YtbimecknmojnoaaGreatDoor
