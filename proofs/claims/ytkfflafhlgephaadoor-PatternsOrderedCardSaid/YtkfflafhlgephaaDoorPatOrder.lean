/- What is proved here: the patterns that a stream makes: how they are written, and their order. No condition. -/
import Derived.Test.YtkfflafhlgephaaDoorPatMath
set_option linter.unusedVariables false
set_option linter.unusedSimpArgs false
namespace Go.Proofs.YtkfflafhlgephaaDoor

/-- The twelve elements in their order: how each is written, and its set. -/
def elS : Nat → List UInt8
  | 0 => [42]
  | 1 => [48]
  | 2 => [49]
  | 3 => [50]
  | 4 => [57]
  | 5 => [91, 49, 50, 93]
  | 6 => [91, 50, 57, 93]
  | 7 => [91, 50, 45, 52, 93]
  | 8 => [91, 49, 45, 51, 53, 93]
  | 9 => [78]
  | 10 => [90]
  | _ => [88]
def elM : Nat → Nat
  | 0 => 2
  | 1 => 4
  | 2 => 8
  | 3 => 16
  | 4 => 2048
  | 5 => 24
  | 6 => 2064
  | 7 => 112
  | 8 => 184
  | 9 => 4080
  | 10 => 4088
  | _ => 4092
/-- The tails: 12 '.', 13 none, 14 '!'. -/
def tlS : Nat → List UInt8
  | 12 => [46]
  | 14 => [33]
  | _ => []
def tlB : Nat → Nat
  | 12 => 46
  | 14 => 33
  | _ => 0
/-- A pattern of some elements. -/
structure Els where
  els : List Nat
  tl : Nat
structure ElsOk (e : Els) : Prop where
  each : ∀ x ∈ e.els, x < 12
  tl0 : 12 ≤ e.tl
  tl1 : e.tl ≤ 14
  len1 : 1 ≤ e.els.length
  len : e.els.length ≤ 4
def Els.str (e : Els) : List UInt8 := e.els.flatMap elS ++ tlS e.tl
def Els.pat (e : Els) : Pat := ⟨e.els.map elM, tlB e.tl⟩
theorem elM_ok (x : Nat) : 0 < elM x ∧ elM x < 4096 := by unfold elM; split <;> omega
theorem Els.ok {e : Els} (h : ElsOk e) : PatOk e.pat := by
  refine ⟨?_, ?_, by simpa [Els.pat] using h.len1, by simpa [Els.pat] using h.len⟩
  · show tlB e.tl = 0 ∨ _
    unfold Els.pat tlB
    dsimp
    split <;> simp
  · intro m hm
    simp [Els.pat] at hm
    obtain ⟨x, _, rfl⟩ := hm
    exact elM_ok x

/-! ### One string is one pattern -/
theorem el_cut : ∀ (x y : Nat), x < 12 → y < 12 → ∀ r s : List UInt8, elS x ++ r = elS y ++ s → x = y ∧ r = s := by
  intro x y hx hy r s h
  have hx' : x = 0 ∨ x = 1 ∨ x = 2 ∨ x = 3 ∨ x = 4 ∨ x = 5 ∨ x = 6 ∨ x = 7 ∨ x = 8 ∨ x = 9 ∨ x = 10 ∨ x = 11 := by omega
  have hy' : y = 0 ∨ y = 1 ∨ y = 2 ∨ y = 3 ∨ y = 4 ∨ y = 5 ∨ y = 6 ∨ y = 7 ∨ y = 8 ∨ y = 9 ∨ y = 10 ∨ y = 11 := by omega
  rcases hx' with rfl | rfl | rfl | rfl | rfl | rfl | rfl | rfl | rfl | rfl | rfl | rfl <;> rcases hy' with rfl | rfl | rfl | rfl | rfl | rfl | rfl | rfl | rfl | rfl | rfl | rfl <;> first | (simp [elS] at h; done) | (simp [elS] at h; exact ⟨rfl, h⟩)
theorem el_tl (x t : Nat) (hx : x < 12) (r : List UInt8) (h : elS x ++ r = tlS t) : False := by
  have hx' : x = 0 ∨ x = 1 ∨ x = 2 ∨ x = 3 ∨ x = 4 ∨ x = 5 ∨ x = 6 ∨ x = 7 ∨ x = 8 ∨ x = 9 ∨ x = 10 ∨ x = 11 := by omega
  unfold tlS at h
  split at h <;> rcases hx' with rfl | rfl | rfl | rfl | rfl | rfl | rfl | rfl | rfl | rfl | rfl | rfl <;> simp [elS] at h
theorem tl_inj (s t : Nat) (h0 : 12 ≤ s) (h1 : s ≤ 14) (k0 : 12 ≤ t) (k1 : t ≤ 14) (h : tlS s = tlS t) : s = t := by
  have hs : s = 12 ∨ s = 13 ∨ s = 14 := by omega
  have ht : t = 12 ∨ t = 13 ∨ t = 14 := by omega
  rcases hs with rfl | rfl | rfl <;> rcases ht with rfl | rfl | rfl <;> first | rfl | (simp [tlS] at h)
theorem str_inj' : ∀ (l m : List Nat) (s t : Nat), (∀ x ∈ l, x < 12) → (∀ x ∈ m, x < 12) → 12 ≤ s → s ≤ 14 → 12 ≤ t → t ≤ 14 → l.flatMap elS ++ tlS s = m.flatMap elS ++ tlS t → l = m ∧ s = t
  | [], [], s, t, _, _, h0, h1, k0, k1, h => ⟨rfl, tl_inj s t h0 h1 k0 k1 (by simpa using h)⟩
  | [], y :: m, s, t, _, hm, h0, h1, k0, k1, h => (el_tl y s (hm y (by simp)) (m.flatMap elS ++ tlS t) (by simpa using h.symm)).elim
  | x :: l, [], s, t, hl, _, h0, h1, k0, k1, h => (el_tl x t (hl x (by simp)) (l.flatMap elS ++ tlS s) (by simpa using h)).elim
  | x :: l, y :: m, s, t, hl, hm, h0, h1, k0, k1, h => by
    simp only [List.flatMap_cons, List.append_assoc] at h
    obtain ⟨rfl, h2⟩ := el_cut x y (hl x (by simp)) (hm y (by simp)) _ _ h
    obtain ⟨rfl, rfl⟩ := str_inj' l m s t (fun z hz => hl z (by simp [hz])) (fun z hz => hm z (by simp [hz])) h0 h1 k0 k1 h2
    exact ⟨rfl, rfl⟩
theorem str_inj {a b : Els} (ha : ElsOk a) (hb : ElsOk b) (h : a.str = b.str) : a = b := by
  obtain ⟨h1, h2⟩ := str_inj' a.els b.els a.tl b.tl ha.each hb.each ha.tl0 ha.tl1 hb.tl0 hb.tl1 h
  cases a; cases b; simp_all

/-! ### The order -/
/-- How special a pattern is at a place: a number from 0 to 14. -/
def Els.rk (e : Els) (i : Nat) : Nat := if i < e.els.length then e.els.getD i 0 else if i = e.els.length then e.tl else 13
def lexI (f g : Nat → Nat) : Nat → Nat → Int
  | 0, _ => 0
  | n + 1, i => if f i < g i then -1 else if g i < f i then 1 else lexI f g n (i + 1)
theorem lex_neg (f g : Nat → Nat) : ∀ n i, lexI f g n i = - lexI g f n i
  | 0, i => rfl
  | n + 1, i => by
    unfold lexI
    by_cases h : f i < g i
    · rw [if_pos h, if_neg (by omega), if_pos h]
    · by_cases k : g i < f i
      · rw [if_neg h, if_pos k, if_pos k]; rfl
      · rw [if_neg h, if_neg k, if_neg k, if_neg h]; exact lex_neg f g n (i + 1)
theorem lex_zero (f g : Nat → Nat) : ∀ n i, lexI f g n i = 0 ↔ ∀ j, i ≤ j → j < i + n → f j = g j
  | 0, i => by simp [lexI]; intro j h1 h2; omega
  | n + 1, i => by
    unfold lexI
    by_cases h : f i < g i
    · rw [if_pos h]
      constructor
      · intro e; cases e
      · intro e; have := e i (by omega) (by omega); omega
    · by_cases k : g i < f i
      · rw [if_neg h, if_pos k]
        constructor
        · intro e; cases e
        · intro e; have := e i (by omega) (by omega); omega
      · rw [if_neg h, if_neg k, lex_zero f g n (i + 1)]
        constructor
        · intro e j h1 h2
          by_cases hj : j = i
          · subst hj; omega
          · exact e j (by omega) (by omega)
        · intro e j h1 h2; exact e j (by omega) (by omega)
theorem lex_trans (f g h : Nat → Nat) : ∀ n i, lexI f g n i < 0 → lexI g h n i < 0 → lexI f h n i < 0
  | 0, i => by simp [lexI]
  | n + 1, i => by
    intro h1 h2
    unfold lexI at *
    by_cases a : f i < g i
    · by_cases b : g i < h i
      · rw [if_pos (by omega)]; omega
      · by_cases c : h i < g i
        · rw [if_neg b, if_pos c] at h2; omega
        · rw [if_pos (by omega)]; omega
    · by_cases a' : g i < f i
      · rw [if_neg a, if_pos a'] at h1; omega
      · rw [if_neg a, if_neg a'] at h1
        by_cases b : g i < h i
        · rw [if_pos (by omega)]; omega
        · by_cases c : h i < g i
          · rw [if_neg b, if_pos c] at h2; omega
          · rw [if_neg b, if_neg c] at h2
            rw [if_neg (by omega), if_neg (by omega)]
            exact lex_trans f g h n (i + 1) h1 h2
theorem lex_more (f g : Nat → Nat) : ∀ n m i, (∀ j, i + n ≤ j → f j = g j) → n ≤ m → lexI f g n i = lexI f g m i
  | 0, m, i, h, _ => by
    show 0 = _
    rw [(lex_zero f g m i).2 (fun j h1 _ => h j (by omega))]
  | n + 1, 0, i, _, hm => by omega
  | n + 1, m + 1, i, h, hm => by
    unfold lexI
    rw [lex_more f g n m (i + 1) (fun j hj => h j (by omega)) (by omega)]
/-- What Before answers. -/
def befI (a b : Els) : Int := lexI a.rk b.rk (max a.els.length b.els.length + 1) 0
theorem bef_five {a b : Els} (ha : ElsOk a) (hb : ElsOk b) : befI a b = lexI a.rk b.rk 5 0 := by
  refine lex_more _ _ _ 5 0 (fun j hj => ?_) (by have := ha.len; have := hb.len; omega)
  unfold Els.rk
  rw [if_neg (by omega), if_neg (by omega), if_neg (by omega), if_neg (by omega)]
theorem bef_neg {a b : Els} (ha : ElsOk a) (hb : ElsOk b) : befI a b = - befI b a := by
  rw [bef_five ha hb, bef_five hb ha]; exact lex_neg _ _ _ _
theorem bef_trans {a b c : Els} (ha : ElsOk a) (hb : ElsOk b) (hc : ElsOk c) (h1 : befI a b < 0) (h2 : befI b c < 0) : befI a c < 0 := by
  rw [bef_five ha hb] at h1
  rw [bef_five hb hc] at h2
  rw [bef_five ha hc]
  exact lex_trans _ _ _ _ _ h1 h2
theorem rk_lt {a : Els} (ha : ElsOk a) {i : Nat} (h : i < a.els.length) : a.rk i < 12 := by
  unfold Els.rk
  rw [if_pos h, List.getD_eq_getElem?_getD, List.getElem?_eq_getElem h]
  exact ha.each _ (List.getElem_mem h)
theorem rk_ge {a : Els} (ha : ElsOk a) {i : Nat} (h : ¬ i < a.els.length) : 12 ≤ a.rk i := by
  unfold Els.rk
  rw [if_neg h]
  have := ha.tl0
  split <;> omega
theorem bef_zero {a b : Els} (ha : ElsOk a) (hb : ElsOk b) : befI a b = 0 ↔ a.str = b.str := by
  rw [bef_five ha hb, lex_zero]
  constructor
  · intro h
    have l1 := ha.len
    have l2 := hb.len
    have hl : a.els.length = b.els.length := by
      rcases Nat.lt_trichotomy a.els.length b.els.length with h1 | h1 | h1
      · have h3 := h a.els.length (by omega) (by omega)
        have h4 := rk_ge ha (i := a.els.length) (by omega)
        have h5 := rk_lt hb (i := a.els.length) (by omega)
        omega
      · exact h1
      · have h3 := h b.els.length (by omega) (by omega)
        have h4 := rk_ge hb (i := b.els.length) (by omega)
        have h5 := rk_lt ha (i := b.els.length) (by omega)
        omega
    have ht : a.tl = b.tl := by
      have h3 := h a.els.length (by omega) (by omega)
      unfold Els.rk at h3
      rw [if_neg (by omega), if_pos rfl, if_neg (by omega), if_pos hl] at h3
      exact h3
    have he : a.els = b.els := by
      apply List.ext_getElem hl
      intro i h1 h2
      have h3 := h i (by omega) (by omega)
      unfold Els.rk at h3
      rw [if_pos h1, if_pos h2, List.getD_eq_getElem?_getD, List.getD_eq_getElem?_getD, List.getElem?_eq_getElem h1, List.getElem?_eq_getElem h2] at h3
      exact h3
    unfold Els.str
    rw [he, ht]
  · intro h j _ _
    rw [str_inj ha hb h]
end Go.Proofs.YtkfflafhlgephaaDoor
