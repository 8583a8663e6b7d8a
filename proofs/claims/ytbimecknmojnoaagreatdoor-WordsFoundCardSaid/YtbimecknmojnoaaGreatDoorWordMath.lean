/- What is proved here: words for digits, on lists: what both ways of looking for the fewest and least words come to. No condition beyond those stated. -/
import Derived.Test.YtbimecknmojnoaaGreatDoorWayMath
set_option linter.unusedVariables false
set_option linter.unusedSimpArgs false
namespace Go.Proofs.YtbimecknmojnoaaGreatDoor
open Go.RowKit

abbrev Wd := List UInt8
def keyW (w : Wd) : List UInt8 := w.map keyB
/-- Lists of words in order. -/
def lessL : List Wd → List Wd → Bool
  | [], [] => false
  | [], _ :: _ => true
  | _ :: _, [] => false
  | a :: x, b :: y => Op.bytesLess a b || (a == b && lessL x y)
theorem lessL_irrefl : ∀ x, lessL x x = false
  | [] => rfl
  | a :: x => by unfold lessL; rw [less_irrefl, lessL_irrefl x]; simp
theorem lessL_total : ∀ (x y : List Wd), lessL x y = false → x ≠ y → lessL y x = true
  | [], [], _, h => absurd rfl h
  | [], _ :: _, h, _ => by cases h
  | _ :: _, [], _, _ => rfl
  | a :: x, b :: y, h, k => by
    unfold lessL at h ⊢
    simp only [Bool.or_eq_false_iff, Bool.and_eq_false_iff, beq_eq_false_iff_ne] at h
    simp only [Bool.or_eq_true, Bool.and_eq_true, beq_iff_eq]
    obtain ⟨h1, h2⟩ := h
    by_cases e : a = b
    · subst e
      rcases h2 with h2 | h2
      · exact absurd rfl h2
      · exact Or.inr ⟨rfl, lessL_total x y h2 (fun e => k (by rw [e]))⟩
    · exact Or.inl (less_total a b h1 e)
theorem less_asymm {a b : Wd} (h : Op.bytesLess a b = true) : Op.bytesLess b a = false := by
  cases hq : Op.bytesLess b a with
  | false => rfl
  | true => have := less_trans h hq; rw [less_irrefl] at this; cases this
theorem lessL_trans : ∀ {x y z : List Wd}, lessL x y = true → lessL y z = true → lessL x z = true
  | [], [], _, h, _ => by cases h
  | [], _ :: _, [], _, h => by cases h
  | [], _ :: _, _ :: _, _, _ => rfl
  | _ :: _, [], _, h, _ => by cases h
  | _ :: _, _ :: _, [], _, h => by cases h
  | a :: x, b :: y, c :: z, h, k => by
    unfold lessL at h k ⊢
    simp only [Bool.or_eq_true, Bool.and_eq_true, beq_iff_eq] at h k ⊢
    rcases h with h | ⟨rfl, h⟩
    · rcases k with k | ⟨rfl, k⟩
      · exact Or.inl (less_trans h k)
      · exact Or.inl h
    · rcases k with k | ⟨rfl, k⟩
      · exact Or.inl k
      · exact Or.inr ⟨rfl, lessL_trans h k⟩
theorem lessL_snoc : ∀ {x y : List Wd} (z : List Wd), x.length = y.length → lessL x y = true → lessL (x ++ z) (y ++ z) = true
  | [], [], _, _, h => by cases h
  | [], _ :: _, _, hl, _ => by simp at hl
  | _ :: _, [], _, hl, _ => by simp at hl
  | a :: x, b :: y, z, hl, h => by
    unfold lessL at h
    simp only [List.cons_append]
    unfold lessL
    simp only [Bool.or_eq_true, Bool.and_eq_true, beq_iff_eq] at h ⊢
    rcases h with h | ⟨rfl, h⟩
    · exact Or.inl h
    · exact Or.inr ⟨rfl, lessL_snoc z (by simpa using hl) h⟩

/-- A way: words of the list that spell the digits, so many. -/
def Good (l : List Wd) (s : List UInt8) (t : Nat) (ws : List Wd) : Prop := ws.length = t ∧ (∀ w ∈ ws, w ∈ l) ∧ ws.flatMap keyW = s
def Least (l : List Wd) (s : List UInt8) (t : Nat) (ws : List Wd) : Prop := Good l s t ws ∧ ∀ ws', Good l s t ws' → lessL ws' ws = false
theorem least_unique {l : List Wd} {s : List UInt8} {t : Nat} {x y : List Wd} (hx : Least l s t x) (hy : Least l s t y) : x = y := by
  apply Classical.byContradiction
  intro h
  have h1 := hx.2 y hy.1
  have h2 := hy.2 x hx.1
  have := lessL_total x y h2 h
  rw [h1] at this
  cases this
theorem good_len {l : List Wd} (hl : ∀ w ∈ l, w ≠ []) : ∀ {ws : List Wd} {s : List UInt8} {t : Nat}, Good l s t ws → t ≤ s.length := by
  intro ws
  induction ws with
  | nil => rintro s t ⟨rfl, _, rfl⟩; simp
  | cons w ws ih =>
    rintro s t ⟨rfl, h2, rfl⟩
    have h3 := ih ⟨rfl, fun x hx => h2 x (List.mem_cons_of_mem _ hx), rfl⟩
    have h4 := hl w (h2 w List.mem_cons_self)
    have h5 : 1 ≤ w.length := by
      cases w with
      | nil => exact absurd rfl h4
      | cons _ _ => simp
    simp only [List.flatMap_cons, List.length_append, List.length_cons, keyW, List.length_map] at h3 ⊢
    omega

/-- The fewest words for digits; 31: there are none. n: at least so long as they are. -/
def few (l : List Wd) : Nat → List UInt8 → Nat
  | 0, s => if s = [] then 0 else 31
  | n + 1, s => if s = [] then 0 else l.foldl (fun m w => if Lib.hasPrefix s (keyW w) = true then min m (few l n (s.drop w.length) + 1) else m) 31
theorem fold_min {α : Type} (p : α → Bool) (f : α → Nat) : ∀ (l : List α) (m : Nat), (l.foldl (fun m w => if p w = true then min m (f w) else m) m ≤ m) ∧ (∀ w ∈ l, p w = true → l.foldl (fun m w => if p w = true then min m (f w) else m) m ≤ f w) ∧ (l.foldl (fun m w => if p w = true then min m (f w) else m) m = m ∨ ∃ w ∈ l, p w = true ∧ l.foldl (fun m w => if p w = true then min m (f w) else m) m = f w)
  | [], m => ⟨Nat.le_refl _, (fun w hw => by cases hw), Or.inl rfl⟩
  | a :: l, m => by
    simp only [List.foldl_cons]
    obtain ⟨h1, h2, h3⟩ := fold_min p f l (if p a = true then min m (f a) else m)
    refine ⟨?_, ?_, ?_⟩
    · refine Nat.le_trans h1 ?_
      split <;> omega
    · intro w hw hp
      rcases List.mem_cons.1 hw with rfl | hw
      · refine Nat.le_trans h1 ?_
        rw [if_pos hp]
        omega
      · exact h2 w hw hp
    · rcases h3 with h3 | ⟨w, hw, hp, h3⟩
      · by_cases hp : p a = true
        · rw [if_pos hp] at h3 ⊢
          rcases Nat.le_total m (f a) with hm | hm
          · exact Or.inl (by rw [h3]; omega)
          · exact Or.inr ⟨a, List.mem_cons_self, hp, by rw [h3]; omega⟩
        · rw [if_neg hp] at h3 ⊢
          exact Or.inl h3
      · exact Or.inr ⟨w, List.mem_cons_of_mem _ hw, hp, h3⟩
theorem fold_same {α : Type} (p : α → Bool) (f g : α → Nat) : ∀ (l : List α) (m : Nat), (∀ w ∈ l, p w = true → f w = g w) → l.foldl (fun m w => if p w = true then min m (f w) else m) m = l.foldl (fun m w => if p w = true then min m (g w) else m) m
  | [], m, _ => rfl
  | a :: l, m, h => by
    simp only [List.foldl_cons]
    have : (if p a = true then min m (f a) else m) = (if p a = true then min m (g a) else m) := by
      split
      · rename_i hp; rw [h a List.mem_cons_self hp]
      · rfl
    rw [this]
    exact fold_same p f g l _ (fun w hw => h w (List.mem_cons_of_mem _ hw))
theorem few_fuel {l : List Wd} (hl : ∀ w ∈ l, w ≠ []) : ∀ (n m : Nat) (s : List UInt8), s.length ≤ n → s.length ≤ m → few l n s = few l m s := by
  intro n
  induction n with
  | zero =>
    intro m s h1 h2
    have : s = [] := List.eq_nil_of_length_eq_zero (by omega)
    subst this
    cases m <;> simp [few]
  | succ n ih =>
    intro m s h1 h2
    by_cases hs : s = []
    · subst hs
      cases m <;> simp [few]
    · cases m with
      | zero => exact absurd (List.eq_nil_of_length_eq_zero (by omega)) hs
      | succ m =>
        unfold few
        rw [if_neg hs, if_neg hs]
        refine fold_same _ _ _ _ _ (fun w hw hp => ?_)
        have h4 := hl w hw
        have h5 : 1 ≤ w.length := by
          cases w with
          | nil => exact absurd rfl h4
          | cons _ _ => simp
        have h6 : 1 ≤ s.length := List.length_pos_iff.2 hs
        rw [ih m (s.drop w.length) (by rw [List.length_drop]; omega) (by rw [List.length_drop]; omega)]
theorem pre_key {s : List UInt8} {w : Wd} (h : Lib.hasPrefix s (keyW w) = true) : s = keyW w ++ s.drop w.length := by
  obtain ⟨t, ht⟩ := (pre_iff _ _).1 h
  have hk : (keyW w).length = w.length := by simp [keyW]
  rw [← ht, ← hk, List.drop_left]
theorem few_good {l : List Wd} (hl : ∀ w ∈ l, w ≠ []) : ∀ (n : Nat) (s : List UInt8) (t : Nat) (ws : List Wd), s.length ≤ n → Good l s t ws → few l n s ≤ t := by
  intro n
  induction n with
  | zero =>
    intro s t ws h1 hg
    have : s = [] := List.eq_nil_of_length_eq_zero (by omega)
    subst this
    simp [few]
  | succ n ih =>
    rintro s t ws h1 ⟨rfl, h3, rfl⟩
    cases ws with
    | nil => simp [few]
    | cons w ws =>
      have hw := h3 w List.mem_cons_self
      have h5 : 1 ≤ w.length := by
        have := hl w hw
        cases w with
        | nil => exact absurd rfl this
        | cons _ _ => simp
      have hk : (keyW w).length = w.length := by simp [keyW]
      rw [List.flatMap_cons] at h1 ⊢
      rw [List.length_append, hk] at h1
      have hp : Lib.hasPrefix (keyW w ++ ws.flatMap keyW) (keyW w) = true := pre_append _ _
      have hd : (keyW w ++ ws.flatMap keyW).drop w.length = ws.flatMap keyW := by rw [← hk, List.drop_left]
      have hi := ih (ws.flatMap keyW) ws.length ws (by clear ih; omega) ⟨rfl, fun x hx => h3 x (List.mem_cons_of_mem _ hx), rfl⟩
      unfold few
      have hne : keyW w ++ ws.flatMap keyW ≠ [] := fun h => by
        have := congrArg List.length h
        rw [List.length_append, hk, List.length_nil] at this
        omega
      rw [if_neg hne]
      refine Nat.le_trans ((fold_min (fun w' => Lib.hasPrefix (keyW w ++ ws.flatMap keyW) (keyW w')) (fun w' => few l n ((keyW w ++ ws.flatMap keyW).drop w'.length) + 1) l 31).2.1 w hw hp) ?_
      show few l n ((keyW w ++ ws.flatMap keyW).drop w.length) + 1 ≤ (w :: ws).length
      rw [hd, List.length_cons]
      omega

/-- The words that are taken one behind the other. -/
def greedy (l : List Wd) : Nat → List UInt8 → List Wd
  | 0, _ => []
  | n + 1, s => if s = [] then [] else match l.find? (fun w => Lib.hasPrefix s (keyW w) && (few l n (s.drop w.length) + 1 == few l (n + 1) s)) with
    | none => []
    | some w => w :: greedy l n (s.drop w.length)
def Sorted (l : List Wd) : Prop := ∀ i j, i < j → j < l.length → Op.bytesLess (l.getD i []) (l.getD j []) = true
theorem greedy_least {l : List Wd} (hl : ∀ w ∈ l, w ≠ []) (ho : Sorted l) : ∀ (n : Nat) (s : List UInt8), s.length ≤ n → few l n s ≤ 30 → Least l s (few l n s) (greedy l n s) := by
  intro n
  induction n with
  | zero =>
    intro s h1 h2
    have : s = [] := List.eq_nil_of_length_eq_zero (by omega)
    subst this
    refine ⟨⟨rfl, (fun w hw => by cases hw), rfl⟩, fun ws' hg => ?_⟩
    have := hg.1
    simp only [few, if_true] at this
    rw [List.eq_nil_of_length_eq_zero this]; rfl
  | succ n ih =>
    intro s h1 h2
    by_cases hs : s = []
    · subst hs
      refine ⟨⟨by simp [few, greedy], fun w hw => by simp [greedy] at hw, by simp [greedy]⟩, fun ws' hg => ?_⟩
      have := hg.1
      simp only [few, if_true] at this
      rw [List.eq_nil_of_length_eq_zero this]
      simp [greedy, lessL]
    · have hf : few l (n + 1) s = l.foldl (fun m w => if Lib.hasPrefix s (keyW w) = true then min m (few l n (s.drop w.length) + 1) else m) 31 := by
        conv => lhs; unfold few
        rw [if_neg hs]
      obtain ⟨-, -, hex⟩ := fold_min (fun w => Lib.hasPrefix s (keyW w)) (fun w => few l n (s.drop w.length) + 1) l 31
      rw [← hf] at hex
      have hex2 : ∃ w ∈ l, Lib.hasPrefix s (keyW w) = true ∧ few l (n + 1) s = few l n (s.drop w.length) + 1 := by
        rcases hex with h | h
        · omega
        · exact h
      cases hfd : l.find? (fun w => Lib.hasPrefix s (keyW w) && (few l n (s.drop w.length) + 1 == few l (n + 1) s)) with
      | none =>
        exfalso
        rw [List.find?_eq_none] at hfd
        obtain ⟨w, hw, hp, he⟩ := hex2
        have := hfd w hw
        rw [hp, he] at this
        simp at this
      | some w =>
        have hg : greedy l (n + 1) s = w :: greedy l n (s.drop w.length) := by
          conv => lhs; unfold greedy
          rw [if_neg hs, hfd]
        have hwp := List.find?_some hfd
        simp only [Bool.and_eq_true, beq_iff_eq] at hwp
        obtain ⟨hp, he⟩ := hwp
        have hwl := List.mem_of_find?_eq_some hfd
        have h5 : 1 ≤ w.length := by
          have := hl w hwl
          cases w with
          | nil => exact absurd rfl this
          | cons _ _ => simp
        have h6 : 1 ≤ s.length := List.length_pos_iff.2 hs
        have hd : (s.drop w.length).length ≤ n := by rw [List.length_drop]; omega
        obtain ⟨hgood, hleast⟩ := ih (s.drop w.length) hd (by omega)
        rw [hg, ← he]
        refine ⟨⟨by rw [List.length_cons, hgood.1], fun x hx => ?_, ?_⟩, fun ws' hg' => ?_⟩
        · rcases List.mem_cons.1 hx with rfl | hx
          · exact hwl
          · exact hgood.2.1 x hx
        · rw [List.flatMap_cons, hgood.2.2]
          exact (pre_key hp).symm
        · obtain ⟨q1, q2, q3⟩ := hg'
          cases ws' with
          | nil => simp at q1
          | cons w' ws' =>
            rw [List.flatMap_cons] at q3
            have hk : (keyW w').length = w'.length := by simp [keyW]
            have hp' : Lib.hasPrefix s (keyW w') = true := by rw [← q3]; exact pre_append _ _
            have hd' : s.drop w'.length = ws'.flatMap keyW := by rw [← q3, ← hk, List.drop_left]
            have hw'l := q2 w' List.mem_cons_self
            have h5' : 1 ≤ w'.length := by
              have := hl w' hw'l
              cases w' with
              | nil => exact absurd rfl this
              | cons _ _ => simp
            have hg2 : Good l (s.drop w'.length) (few l n (s.drop w.length)) ws' := ⟨by simpa using q1, fun x hx => q2 x (List.mem_cons_of_mem _ hx), hd'.symm⟩
            have h7 := few_good hl n (s.drop w'.length) _ ws' (by rw [List.length_drop]; omega) hg2
            have h8 := (fold_min (fun w => Lib.hasPrefix s (keyW w)) (fun w => few l n (s.drop w.length) + 1) l 31).2.1 w' hw'l hp'
            rw [← hf, ← he] at h8
            have hfit : (Lib.hasPrefix s (keyW w') && (few l n (s.drop w'.length) + 1 == few l (n + 1) s)) = true := by
              rw [hp', ← he]
              simp
              omega
            unfold lessL
            by_cases hww : w' = w
            · subst hww
              rw [less_irrefl]
              simp only [beq_self_eq_true, Bool.true_and, Bool.false_or]
              exact hleast ws' hg2
            · have hlt : Op.bytesLess w w' = true := by
                rw [List.find?_eq_some_iff_getElem] at hfd
                obtain ⟨-, i, hi, hiw, hbefore⟩ := hfd
                obtain ⟨j, hj, rfl⟩ := List.getElem_of_mem hw'l
                have hij : i < j := by
                  rcases Nat.lt_trichotomy i j with h | rfl | h
                  · exact h
                  · exact absurd hiw hww
                  · have := hbefore j h
                    rw [hfit] at this
                    simp at this
                have := ho i j hij hj
                rw [show l.getD i [] = l[i] by simp [hi], show l.getD j [] = l[j] by simp [hj], hiw] at this
                exact this
              rw [less_asymm hlt]
              simp [hww]
end Go.Proofs.YtbimecknmojnoaaGreatDoor
