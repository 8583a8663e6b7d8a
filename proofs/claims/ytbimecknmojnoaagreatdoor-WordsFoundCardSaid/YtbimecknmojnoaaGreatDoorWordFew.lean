/- What is proved here: the two tables of words for digits, place by place, and what is found. No condition beyond those stated. -/
import Derived.Test.YtbimecknmojnoaaGreatDoorWordChk
set_option linter.unusedVariables false
set_option linter.unusedSimpArgs false
namespace Go.Proofs.YtbimecknmojnoaaGreatDoor
open Go.RowKit

/-- The fewest words from a place on. -/
def fw (l : List Wd) (d : List UInt8) (j : Nat) : Nat := few l d.length (d.drop j)
def fwF (l : List Wd) (d : List UInt8) (j : Nat) (m : Nat) (x : Wd) : Nat := if Lib.hasPrefix (d.drop j) (keyW x) = true then min m (fw l d (j + x.length) + 1) else m
def fwTo (l : List Wd) (d : List UInt8) (j i : Nat) : Nat := (l.take i).foldl (fwF l d j) 31
theorem few_le (l : List Wd) (n : Nat) (s : List UInt8) : few l n s ≤ 31 := by
  cases n with
  | zero => unfold few; split <;> omega
  | succ n =>
    unfold few
    split
    · omega
    · exact (fold_min (fun w => Lib.hasPrefix s (keyW w)) (fun w => few l n (s.drop w.length) + 1) l 31).1
theorem fw_le (l : List Wd) (d : List UInt8) (j : Nat) : fw l d j ≤ 31 := few_le _ _ _
theorem fw_end (l : List Wd) (d : List UInt8) : fw l d d.length = 0 := by
  unfold fw
  rw [List.drop_length]
  cases d.length <;> simp [few]
theorem keyW_len (x : Wd) : (keyW x).length = x.length := by simp [keyW]
theorem fw_step {l : List Wd} (hl : ∀ w ∈ l, w ≠ []) {d : List UInt8} {j : Nat} (hj : j < d.length) : fw l d j = fwTo l d j l.length := by
  unfold fw fwTo
  rw [List.take_length]
  have hne : d.drop j ≠ [] := fun h => by have := congrArg List.length h; rw [List.length_drop, List.length_nil] at this; omega
  rw [few_fuel hl d.length ((d.drop j).length - 1 + 1) (d.drop j) (by rw [List.length_drop]; omega) (by rw [List.length_drop]; omega)]
  conv => lhs; unfold few
  rw [if_neg hne]
  unfold fwF
  refine fold_same (fun w => Lib.hasPrefix (d.drop j) (keyW w)) _ _ l 31 (fun w hw hp => ?_)
  have h4 := hl w hw
  have h5 : 1 ≤ w.length := by
    cases w with
    | nil => exact absurd rfl h4
    | cons _ _ => simp
  unfold fw
  rw [List.drop_drop]
  rw [few_fuel hl ((d.drop j).length - 1) d.length (d.drop (j + w.length)) (by rw [List.length_drop, List.length_drop]; omega) (by rw [List.length_drop]; omega)]
theorem fwTo_zero (l : List Wd) (d : List UInt8) (j : Nat) : fwTo l d j 0 = 31 := rfl
theorem fwTo_succ {l : List Wd} {d : List UInt8} {j i : Nat} (hi : i < l.length) : fwTo l d j (i + 1) = fwF l d j (fwTo l d j i) (l.getD i []) := by
  unfold fwTo
  rw [List.take_add_one, List.getElem?_eq_getElem hi, Option.toList_some, List.foldl_append, List.getD_eq_getElem?_getD, List.getElem?_eq_getElem hi]
  rfl
theorem greedy_fuel {l : List Wd} (hl : ∀ w ∈ l, w ≠ []) : ∀ (n m : Nat) (s : List UInt8), s.length ≤ n → s.length ≤ m → greedy l n s = greedy l m s := by
  intro n
  induction n with
  | zero =>
    intro m s h1 h2
    have : s = [] := List.eq_nil_of_length_eq_zero (by omega)
    subst this
    cases m <;> simp [greedy]
  | succ n ih =>
    intro m s h1 h2
    by_cases hs : s = []
    · subst hs
      cases m <;> simp [greedy]
    · cases m with
      | zero => exact absurd (List.eq_nil_of_length_eq_zero (by omega)) hs
      | succ m =>
        have h6 : 1 ≤ s.length := List.length_pos_iff.2 hs
        have hd : ∀ w ∈ l, (s.drop w.length).length ≤ n ∧ (s.drop w.length).length ≤ m := fun w hw => by
          have h4 := hl w hw
          have h5 : 1 ≤ w.length := by
            cases w with
            | nil => exact absurd rfl h4
            | cons _ _ => simp
          rw [List.length_drop]; omega
        have hfind : l.find? (fun w => Lib.hasPrefix s (keyW w) && (few l n (s.drop w.length) + 1 == few l (n + 1) s)) = l.find? (fun w => Lib.hasPrefix s (keyW w) && (few l m (s.drop w.length) + 1 == few l (m + 1) s)) := by
          have hs2 := few_fuel hl (n + 1) (m + 1) s h1 h2
          have : ∀ (k : List Wd), (∀ w ∈ k, w ∈ l) → k.find? (fun w => Lib.hasPrefix s (keyW w) && (few l n (s.drop w.length) + 1 == few l (n + 1) s)) = k.find? (fun w => Lib.hasPrefix s (keyW w) && (few l m (s.drop w.length) + 1 == few l (m + 1) s)) := by
            intro k
            induction k with
            | nil => intro _; rfl
            | cons x k ihk =>
              intro hk
              have hx := hd x (hk x List.mem_cons_self)
              rw [List.find?_cons, List.find?_cons, ihk (fun w hw => hk w (List.mem_cons_of_mem _ hw)), hs2, few_fuel hl n m _ hx.1 hx.2]
          exact this l (fun w hw => hw)
        unfold greedy
        rw [if_neg hs, if_neg hs, hfind]
        cases hfd : l.find? (fun w => Lib.hasPrefix s (keyW w) && (few l m (s.drop w.length) + 1 == few l (m + 1) s)) with
        | none => rfl
        | some w =>
          have hw := hd w (List.mem_of_find?_eq_some hfd)
          show w :: greedy l n _ = w :: greedy l m _
          rw [ih m _ hw.1 hw.2]
/-- The words from a place on. -/
def gr (l : List Wd) (d : List UInt8) (j : Nat) : List Wd := greedy l d.length (d.drop j)
theorem gr_end (l : List Wd) (d : List UInt8) : gr l d d.length = [] := by
  unfold gr
  rw [List.drop_length]
  cases d.length <;> simp [greedy]
/-- What is looked for at a place. -/
def fits (l : List Wd) (d : List UInt8) (j : Nat) (x : Wd) : Bool := Lib.hasPrefix (d.drop j) (keyW x) && (fw l d (j + x.length) + 1 == fw l d j)
theorem gr_step {l : List Wd} (hl : ∀ w ∈ l, w ≠ []) {d : List UInt8} {j i : Nat} (hj : j < d.length) (hi : i < l.length) (hf : fits l d j (l.getD i []) = true) (hb : ∀ k, k < i → fits l d j (l.getD k []) = false) : gr l d j = l.getD i [] :: gr l d (j + (l.getD i []).length) := by
  have hne : d.drop j ≠ [] := fun h => by have := congrArg List.length h; rw [List.length_drop, List.length_nil] at this; omega
  have hpos : ∀ w ∈ l, 1 ≤ w.length := fun w hw => by
    have h4 := hl w hw
    cases w with
    | nil => exact absurd rfl h4
    | cons _ _ => simp
  have hlen : (d.drop j).length = d.length - j := List.length_drop
  unfold gr
  rw [greedy_fuel hl d.length ((d.drop j).length - 1 + 1) (d.drop j) (by rw [hlen]; omega) (by omega)]
  conv => lhs; unfold greedy
  rw [if_neg hne]
  have hfind : l.find? (fun w => Lib.hasPrefix (d.drop j) (keyW w) && (few l ((d.drop j).length - 1) ((d.drop j).drop w.length) + 1 == few l ((d.drop j).length - 1 + 1) (d.drop j))) = some (l.getD i []) := by
    have heq : ∀ w ∈ l, (Lib.hasPrefix (d.drop j) (keyW w) && (few l ((d.drop j).length - 1) ((d.drop j).drop w.length) + 1 == few l ((d.drop j).length - 1 + 1) (d.drop j))) = fits l d j w := fun w hw => by
      have := hpos w hw
      unfold fits fw
      rw [List.drop_drop, few_fuel hl ((d.drop j).length - 1) d.length (d.drop (j + w.length)) (by rw [hlen, List.length_drop]; omega) (by rw [List.length_drop]; omega), few_fuel hl ((d.drop j).length - 1 + 1) d.length (d.drop j) (by omega) (by rw [hlen]; omega)]
    have hg : ∀ k, (hk : k < l.length) → l.getD k [] = l[k] := fun k hk => by simp [hk]
    rw [List.find?_eq_some_iff_getElem]
    rw [hg i hi] at hf ⊢
    refine ⟨by rw [heq _ (List.getElem_mem hi)]; exact hf, i, hi, rfl, fun k hk => ?_⟩
    have := hb k hk
    rw [hg k (by omega)] at this
    rw [heq _ (List.getElem_mem (by omega)), this]
    rfl
  rw [hfind]
  show _ :: _ = _ :: _
  have hp := hpos (l.getD i []) (by rw [show l.getD i [] = l[i] by simp [hi]]; exact List.getElem_mem hi)
  rw [List.drop_drop, greedy_fuel hl ((d.drop j).length - 1) d.length (d.drop (j + (l.getD i []).length)) (by rw [hlen, List.length_drop]; omega) (by rw [List.length_drop]; omega)]
/-- There is one, where there are words at all. -/
theorem fits_some {l : List Wd} (hl : ∀ w ∈ l, w ≠ []) {d : List UInt8} {j : Nat} (hj : j < d.length) (h30 : fw l d j ≤ 30) : ∃ i, i < l.length ∧ fits l d j (l.getD i []) = true := by
  have h := fw_step hl hj
  unfold fwTo at h
  rw [List.take_length] at h
  have hex := (fold_min (fun w => Lib.hasPrefix (d.drop j) (keyW w)) (fun w => fw l d (j + w.length) + 1) l 31).2.2
  rcases hex with h1 | ⟨w, hw, hp, he⟩
  · have : fw l d j = 31 := h.trans h1
    omega
  · obtain ⟨i, hi, rfl⟩ := List.getElem_of_mem hw
    refine ⟨i, hi, ?_⟩
    unfold fits
    rw [show l.getD i [] = l[i] by simp [hi], hp, h.trans he]
    simp
theorem fits_pre {l : List Wd} {d : List UInt8} {j : Nat} {x : Wd} (hj : j ≤ d.length) (h : fits l d j x = true) : j + x.length ≤ d.length ∧ fw l d (j + x.length) + 1 = fw l d j := by
  unfold fits at h
  simp only [Bool.and_eq_true, beq_iff_eq] at h
  have := pre_len h.1
  rw [keyW_len, List.length_drop] at this
  exact ⟨by omega, h.2⟩
/-- What is found: the least of the shortest ways; or there is none. -/
def Found (l : List Wd) (d : List UInt8) (has : Bool) (xs : List Wd) : Prop :=
  (has = true ∧ ∃ t, Least l d t xs ∧ ∀ t', t' < t → ∀ ws, ¬ Good l d t' ws) ∨ (has = false ∧ xs = [] ∧ ∀ t ws, ¬ Good l d t ws)
theorem Found.one {l : List Wd} {d : List UInt8} {a b : Bool} {x y : List Wd} (h : Found l d a x) (k : Found l d b y) : a = b ∧ x = y := by
  rcases h with ⟨rfl, t, h1, h2⟩ | ⟨rfl, rfl, h1⟩ <;> rcases k with ⟨rfl, s, k1, k2⟩ | ⟨rfl, rfl, k1⟩
  · have : t = s := by
      rcases Nat.lt_trichotomy t s with h | h | h
      · exact absurd h1.1 (k2 t h x)
      · exact h
      · exact absurd k1.1 (h2 s h y)
    subst this
    exact ⟨rfl, least_unique h1 k1⟩
  · exact absurd h1.1 (k1 t x)
  · exact absurd k1.1 (h1 s y)
  · exact ⟨rfl, rfl⟩
theorem found_few {l : List Wd} (hl : ∀ w ∈ l, w ≠ []) (ho : Sorted l) {d : List UInt8} (h30 : fw l d 0 ≤ 30) : Found l d true (gr l d 0) := by
  unfold fw at h30
  unfold gr
  rw [List.drop_zero] at h30 ⊢
  refine Or.inl ⟨rfl, few l d.length d, greedy_least hl ho d.length d (Nat.le_refl _) h30, fun t' ht ws hg => ?_⟩
  have := few_good hl d.length d t' ws (Nat.le_refl _) hg
  omega
theorem found_none {l : List Wd} (hl : ∀ w ∈ l, w ≠ []) {d : List UInt8} (hd : d.length ≤ 30) (h30 : ¬ fw l d 0 ≤ 30) : Found l d false [] := by
  unfold fw at h30
  rw [List.drop_zero] at h30
  refine Or.inr ⟨rfl, rfl, fun t ws hg => ?_⟩
  have h1 := few_good hl d.length d t ws (Nat.le_refl _) hg
  have h2 := good_len hl hg
  omega
/-- Right words: none empty, in order, each of letters. -/
theorem right_words {l : List Wd} (h : WSay l 0) : (∀ w ∈ l, w ≠ []) ∧ Sorted l ∧ ∀ x ∈ l, x.length ≤ 15 ∧ keysR x = (0, keyW x) := by
  have hall : ∀ i, i < l.length → wErr l i = 0 := by
    rcases h with ⟨-, h⟩ | ⟨i, -, h1, h2, -⟩
    · exact h
    · exact absurd rfl h2
  have hok : ∀ i, i < l.length → wOk (l.getD i []) = true ∧ (0 < i → leS (l.getD i []) (l.getD (i - 1) []) = false) := fun i hi => by
    have := hall i hi
    unfold wErr wErr2 at this
    cases hw : wOk (l.getD i []) with
    | false => rw [hw] at this; simp at this
    | true =>
      refine ⟨rfl, fun h0 => ?_⟩
      rw [hw, if_neg (by decide), decide_eq_true h0, Bool.true_and] at this
      cases hle : leS (l.getD i []) (l.getD (i - 1) []) with
      | false => rfl
      | true => rw [hle] at this; simp at this
  have hm : ∀ x ∈ l, wOk x = true := fun x hx => by
    obtain ⟨i, hi, rfl⟩ := List.getElem_of_mem hx
    have := (hok i hi).1
    rwa [show l.getD i [] = l[i] by simp [hi]] at this
  refine ⟨fun x hx h0 => ?_, ?_, fun x hx => ?_⟩
  · have := hm x hx
    rw [h0] at this
    cases this
  · have hstep : ∀ i, i + 1 < l.length → Op.bytesLess (l.getD i []) (l.getD (i + 1) []) = true := fun i hi => less_of_leS ((hok (i + 1) hi).2 (by omega))
    intro i j hij hj
    induction j with
    | zero => omega
    | succ j ih =>
      rcases Nat.lt_succ_iff_lt_or_eq.1 hij with h | rfl
      · exact less_trans (ih h (by omega)) (hstep j hj)
      · exact hstep i hj
  · have := hm x hx
    unfold wOk at this
    simp only [Bool.and_eq_true, decide_eq_true_eq] at this
    obtain ⟨h1, h2, h3⟩ := this
    refine ⟨h2, ?_⟩
    have hk : keysB x = some (x.map keyB) := by
      unfold keysB
      rw [if_neg]
      rw [Bool.not_eq_true, List.any_eq_false]
      intro c hc
      rw [allIn_all, List.all_eq_true] at h3
      have := h3 c hc
      have h9 := all_bytes (p := fun c => !(smallSet.contains c) || !(keyB c == 0)) (by decide +kernel) c
      rw [this] at h9
      simpa using h9
    unfold keysR
    rw [if_neg (by omega), hk]
    rfl
end Go.Proofs.YtbimecknmojnoaaGreatDoor
