/- What is proved here: the ways to a number, on lists: which of the tries lead there. No condition. -/
import Derived.Test.YtbimecknmojnoaaGreatDoorNumMath
import Derived.Test.YtbimecknmojnoaaGreatDoorFormMath
set_option linter.unusedVariables false
set_option linter.unusedSimpArgs false
namespace Go.Proofs.YtbimecknmojnoaaGreatDoor
open Go.RowKit

theorem drop_nil (p : UInt8 → Bool) : ∀ l : List UInt8, l.dropWhile p = [] ↔ ∀ x ∈ l, p x = true
  | [] => by simp
  | a :: l => by
    rw [List.dropWhile_cons]
    cases h : p a with
    | false => simp [h]
    | true => simp [h, drop_nil p l]
theorem take_all (p : UInt8 → Bool) : ∀ (l : List UInt8) (x : UInt8), x ∈ l.takeWhile p → p x = true
  | [], x, h => by simp at h
  | a :: l, x, h => by
    rw [List.takeWhile_cons] at h
    cases hp : p a with
    | false => simp [hp] at h
    | true =>
      simp only [hp, if_true, List.mem_cons] at h
      rcases h with rfl | h
      · exact hp
      · exact take_all p l x h
theorem allIn_all (l cs : List UInt8) : allIn l cs = l.all (cs.contains ·) := by
  unfold allIn Lib.trimS Lib.trimRightS Lib.trimLeftS
  rw [Bool.eq_iff_iff, List.isEmpty_iff, drop_nil, List.all_eq_true]
  constructor
  · intro h x hx
    have hx2 : x ∈ l.reverse := by simpa using hx
    rw [← List.takeWhile_append_dropWhile (p := (cs.contains ·)) (l := l.reverse), List.mem_append] at hx2
    rcases hx2 with h1 | h1
    · exact take_all _ _ _ h1
    · exact h x (by simpa using h1)
  · intro h x hx
    exact h x (by simpa using (List.dropWhile_sublist (cs.contains ·)).mem (List.mem_reverse.1 hx))
theorem allIn_app (a b cs : List UInt8) : allIn (a ++ b) cs = (allIn a cs && allIn b cs) := by simp [allIn_all, List.all_append]
theorem digs_in (l : List UInt8) : allIn l digitSet = digs l := by
  rw [allIn_all]
  unfold digs
  congr 1
  funext c
  have := all_bytes (p := fun c => (digitSet.contains c) == (decide (48 ≤ c.toNat) && decide (c.toNat ≤ 57))) (by decide +kernel) c
  simpa using this
theorem digitsB_iff (l : List UInt8) (lo hi : Int) : digitsB l lo hi = true ↔ lo ≤ l.length ∧ (l.length : Int) ≤ hi ∧ digs l = true := by
  unfold digitsB
  rw [digs_in]
  simp only [Bool.and_eq_true, decide_eq_true_eq]

theorem ctry_form {l : List Ctry} {i : Nat} (h : ctryErr l i = 0) : digitsB (l.getD i noCtry).code 1 3 = true ∧ ((l.getD i noCtry).code.headD 0 == 48) = false ∧ digitsB (l.getD i noCtry).abroad 1 4 = true ∧ digitsB (l.getD i noCtry).trunk 0 2 = true ∧ Lib.hasPrefix (l.getD i noCtry).trunk (l.getD i noCtry).abroad = false := by
  unfold ctryErr ctryErrOf at h
  generalize l.getD i noCtry = c at h ⊢
  generalize l.getD (i - 1) noCtry = p at h ⊢
  split at h
  · cases h
  rename_i h1
  split at h
  · cases h
  rename_i h2
  split at h
  · cases h
  split at h
  · cases h
  split at h
  · cases h
  rename_i h5
  split at h
  · cases h
  rename_i h6
  split at h
  · cases h
  rename_i h7
  exact ⟨by simpa using h1, by simpa using h2, by simpa using h5, by simpa using h6, by simpa using h7⟩

/-! ### Prefixes -/
theorem pre_iff (a p : List UInt8) : Lib.hasPrefix a p = true ↔ p <+: a := by unfold Lib.hasPrefix; exact List.isPrefixOf_iff_prefix
theorem pre_append (p t : List UInt8) : Lib.hasPrefix (p ++ t) p = true := (pre_iff _ _).2 (List.prefix_append _ _)
theorem pre_or {a t p : List UInt8} (h : Lib.hasPrefix (a ++ t) p = true) : Lib.hasPrefix a p = true ∨ Lib.hasPrefix p a = true := by
  rcases List.prefix_or_prefix_of_prefix ((pre_iff _ _).1 h) (List.prefix_append a t) with h1 | h1
  · exact Or.inl ((pre_iff _ _).2 h1)
  · exact Or.inr ((pre_iff _ _).2 h1)
theorem less_between : ∀ {p x s : List UInt8}, Op.bytesLess p x = true → Op.bytesLess x (p ++ s) = true → Lib.hasPrefix x p = true
  | [], x, s, _, _ => by cases x <;> rfl
  | a :: p, [], s, h, _ => by rw [less_nil] at h; cases h
  | a :: p, b :: x, s, h, k => by
    rw [List.cons_append] at k
    rw [less_cons] at h k
    simp only [Bool.or_eq_true, decide_eq_true_eq, Bool.and_eq_true, beq_iff_eq] at h k
    have hab : a = b := by
      rcases h with h | ⟨rfl, _⟩
      · rcases k with k | ⟨rfl, _⟩
        · exact absurd (UInt8.lt_trans h k) (UInt8.lt_irrefl _)
        · exact absurd h (UInt8.lt_irrefl _)
      · rfl
    subst hab
    have h2 : Op.bytesLess p x = true := by
      rcases h with h | h
      · exact absurd h (UInt8.lt_irrefl _)
      · exact h.2
    have k2 : Op.bytesLess x (p ++ s) = true := by
      rcases k with k | k
      · exact absurd k (UInt8.lt_irrefl _)
      · exact k.2
    have := less_between h2 k2
    rw [pre_iff] at this ⊢
    exact List.cons_prefix_cons.2 ⟨rfl, this⟩
theorem area_next {c : Ctry} {z : Nat} (h : areaErr c (z + 1) = 0) : Op.bytesLess (c.areas.getD z noArea).pre (c.areas.getD (z + 1) noArea).pre = true ∧ Lib.hasPrefix (c.areas.getD (z + 1) noArea).pre (c.areas.getD z noArea).pre = false := by
  unfold areaErr areaErrOf prevArea at h
  simp only [Nat.add_sub_cancel] at h
  generalize c.areas.getD (z + 1) noArea = a at h ⊢
  generalize c.areas.getD z noArea = p at h ⊢
  split at h
  · cases h
  split at h
  · cases h
  rename_i h2
  split at h
  · cases h
  rename_i h3
  simp at h2 h3
  exact ⟨less_of_leS h2, h3.1⟩
/-- Areas of a right country: in order, and none begins with another. -/
theorem areas_order {c : Ctry} (h : ∀ z, z < c.areas.length → areaErr c z = 0) : ∀ i d, i + 1 + d < c.areas.length → Op.bytesLess (c.areas.getD i noArea).pre (c.areas.getD (i + 1 + d) noArea).pre = true := by
  intro i d
  induction d with
  | zero => intro hj; exact (area_next (h _ hj)).1
  | succ d ih =>
    intro hj
    exact less_trans (ih (by omega)) (area_next (h _ hj)).1
theorem areas_apart {c : Ctry} (h : ∀ z, z < c.areas.length → areaErr c z = 0) {i j : Nat} (hi : i < c.areas.length) (hj : j < c.areas.length) (hp : Lib.hasPrefix (c.areas.getD j noArea).pre (c.areas.getD i noArea).pre = true) : i = j := by
  rcases Nat.lt_trichotomy i j with hlt | rfl | hlt
  · exfalso
    obtain ⟨d, rfl⟩ : ∃ d, j = i + 1 + d := ⟨j - (i + 1), by omega⟩
    have h1 := area_next (h (i + 1) (by omega))
    cases d with
    | zero => rw [Nat.add_zero] at hp; rw [h1.2] at hp; cases hp
    | succ d =>
      have h2 := areas_order h (i + 1) d (by omega)
      rw [show i + 1 + 1 + d = i + 1 + (d + 1) by omega] at h2
      obtain ⟨t, ht⟩ := (pre_iff _ _).1 hp
      rw [← ht] at h2
      rw [less_between h1.1 h2] at h1
      cases h1.2
  · rfl
  · exfalso
    obtain ⟨d, rfl⟩ : ∃ d, i = j + 1 + d := ⟨i - (j + 1), by omega⟩
    have h2 := areas_order h j d (by omega)
    obtain ⟨t, ht⟩ := (pre_iff _ _).1 hp
    rw [← ht, less_app] at h2
    cases h2

/-! ### A number that is split -/
structure SplitOk (l : List Ctry) (n : List UInt8) (i j : Nat) : Prop where
  li : i < l.length
  lj : j < (l.getD i noCtry).areas.length
  form : n = 43 :: ((l.getD i noCtry).code ++ (((l.getD i noCtry).areas.getD j noArea).pre ++ (splitP l n).rest))
  code : (splitP l n).code = (l.getD i noCtry).code
  area : (splitP l n).area = ((l.getD i noCtry).areas.getD j noArea).pre
  low : ((l.getD i noCtry).areas.getD j noArea).low ≤ (((l.getD i noCtry).areas.getD j noArea).pre.length : Int) + (splitP l n).rest.length
  high : (((l.getD i noCtry).areas.getD j noArea).pre.length : Int) + (splitP l n).rest.length ≤ ((l.getD i noCtry).areas.getD j noArea).high
  digits : digitsB (n.drop 1) 4 15 = true
theorem split_ok {l : List Ctry} {n : List UInt8} (h : (splitP l n).err = 0) : ∃ i j, SplitOk l n i j := by
  have h0 := h
  unfold splitP at h
  split at h
  · cases h
  rename_i hn
  have hn : isNumB n = true := by simpa using hn
  obtain ⟨d, hd, hdig⟩ := plus_head hn
  have hX : splitP l n = splitIn l n := by unfold splitP; rw [if_neg (by simp [hn])]
  unfold splitIn at h hX
  cases hf : l.find? fun c => Lib.hasPrefix (n.drop 1) c.code with
  | none => rw [hf] at h; cases h
  | some c =>
    rw [hf] at h hX
    simp only [Option.bind_some] at h hX
    have hpc := List.find?_some hf
    obtain ⟨i, hi, hic⟩ := List.getElem_of_mem (List.mem_of_find?_eq_some hf)
    have hic' : l.getD i noCtry = c := by simpa [hi] using hic
    unfold inAreas at h hX
    cases hg : c.areas.find? fun a => Lib.hasPrefix (n.drop (1 + c.code.length)) a.pre with
    | none => rw [hg] at h; cases h
    | some a =>
      rw [hg] at h hX
      simp only [Option.map_some, Option.getD_some] at h hX
      have hpa := List.find?_some hg
      obtain ⟨j, hj, hja⟩ := List.getElem_of_mem (List.mem_of_find?_eq_some hg)
      have hja' : c.areas.getD j noArea = a := by simpa [hj] using hja
      unfold inArea at h hX
      split at h
      · cases h
      rename_i hlen
      rw [if_neg hlen] at hX
      simp only [Bool.or_eq_true, decide_eq_true_eq, not_or, Int.not_lt] at hlen
      subst hd
      simp only [List.drop_succ_cons, List.drop_zero, Nat.add_comm 1] at hpc hpa hX hlen
      obtain ⟨t, ht⟩ := (pre_iff _ _).1 hpc
      subst ht
      rw [List.drop_left] at hpa hX hlen
      obtain ⟨r, hr⟩ := (pre_iff _ _).1 hpa
      subst hr
      rw [List.drop_left] at hX
      refine ⟨i, j, ⟨hi, by rw [hic']; exact hj, ?_, ?_, ?_, ?_, ?_, by simpa using hdig⟩⟩
      · rw [hX, hic', hja']
      · rw [hX, hic']
      · rw [hX, hic', hja']
      · rw [hX, hic', hja']; simp only [List.length_append] at hlen; simp only; omega
      · rw [hX, hic', hja']; simp only [List.length_append] at hlen; simp only; omega
end Go.Proofs.YtbimecknmojnoaaGreatDoor
