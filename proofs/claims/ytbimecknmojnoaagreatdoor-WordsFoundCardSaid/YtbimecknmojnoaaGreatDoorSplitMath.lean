/- What is proved here: how a number is split by a plan, on lists; the program's way and the reference's way are one for a right plan. No condition. -/
import Derived.Test.YtbimecknmojnoaaGreatDoorPlanMath
import Derived.Lib.SlBy
set_option linter.unusedVariables false
set_option linter.unusedSimpArgs false
namespace Go.Proofs.YtbimecknmojnoaaGreatDoor

instance : Inhabited Area := ⟨noArea⟩
instance : Inhabited Ctry := ⟨noCtry⟩

structure Spl where
  err : Int
  code : List UInt8
  area : List UInt8
  rest : List UInt8
def noSpl (e : Int) : Spl := ⟨e, [], [], []⟩
def inArea (code nat : List UInt8) (a : Area) : Spl := if (decide ((nat.length : Int) < a.low) || decide (a.high < (nat.length : Int))) = true then noSpl 1 else ⟨0, code, a.pre, nat.drop a.pre.length⟩
def inAreas (code nat : List UInt8) (l : List Area) : Option Spl := (l.find? fun a => Lib.hasPrefix nat a.pre).map (inArea code nat)
def splitIn (l : List Ctry) (n : List UInt8) : Spl := ((l.find? fun c => Lib.hasPrefix (n.drop 1) c.code).bind fun c => inAreas c.code (n.drop (1 + c.code.length)) c.areas).getD (noSpl 8)
def splitP (l : List Ctry) (n : List UInt8) : Spl := if isNumB n = false then noSpl 3 else splitIn l n
def tryCtry (n : List UInt8) (c : Ctry) : Option Spl := if Lib.hasPrefix n (43 :: c.code) = true then inAreas c.code (n.drop (1 + c.code.length)) c.areas else none
def splitR (l : List Ctry) (n : List UInt8) : Spl := if isNumB n = false then noSpl 3 else (l.findSome? (tryCtry n)).getD (noSpl 8)

theorem idx_find {α : Type} [Inhabited α] (p : α → Bool) (l : List α) : (Lib.idxBy (fun _ y => p y) l default = -1 ∧ l.find? p = none) ∨ ∃ k, k < l.length ∧ Lib.idxBy (fun _ y => p y) l default = (k : Int) ∧ l.find? p = some l[k]! ∧ p l[k]! = true := by
  cases h : l.find? p with
  | none =>
    left
    refine ⟨?_, rfl⟩
    have := Lib.idxBy_miss (fun _ y => p y) l l.length default (fun j hj => by
      have := List.find?_eq_none.1 h (l[j]!) (by rw [getElem!_pos l j hj]; exact List.getElem_mem hj)
      simpa using this)
    simpa using this
  | some x =>
    right
    rw [List.find?_eq_some_iff_getElem] at h
    obtain ⟨hx, i, hi, he, hj⟩ := h
    have e : l[i]! = x := by rw [getElem!_pos l i hi]; exact he
    refine ⟨i, hi, ?_, by rw [e], by rw [e]; exact hx⟩
    have := Lib.idxBy_hit (fun _ y => p y) l l.length i default hi (Nat.le_refl _) (by show p l[i]! = true; rw [e]; exact hx) (fun j h9 => by
      have := hj j h9
      rw [getElem!_pos l j (by omega)]
      simpa using this)
    simpa using this

theorem first_zero {f : Nat → Int} {n : Nat} (h : firstErr f n = 0) : ∀ j, j < n → f j = 0 := by
  intro j
  induction j using Nat.strongRecOn with
  | ind j ih =>
    intro hj
    rcases Classical.em (f j = 0) with h0 | h0
    · exact h0
    · have := first_some (f := f) (n := n) (k := j) (fun i hi => ih i hi (by omega)) hj h0
      rw [h] at this
      exact this.symm

theorem less_app (b t : List UInt8) : Op.bytesLess (b ++ t) b = false := by
  induction b with
  | nil => exact less_nil _
  | cons x b ih => rw [List.cons_append, less_cons, ih]; simp [UInt8.lt_irrefl]

theorem ctry_parts {l : List Ctry} {i : Nat} (h : ctryErr l i = 0) : (0 < i → Op.bytesLess (l.getD (i - 1) noCtry).code (l.getD i noCtry).code = true) ∧ ((l.take i).any fun d => Lib.hasPrefix (l.getD i noCtry).code d.code) = false ∧ (l.getD i noCtry).an ≤ 300 := by
  unfold ctryErr ctryErrOf at h
  generalize l.getD i noCtry = c at h ⊢
  generalize l.getD (i - 1) noCtry = p at h ⊢
  split at h
  · cases h
  split at h
  · cases h
  split at h
  · cases h
  rename_i h3
  split at h
  · cases h
  rename_i h4
  split at h
  · cases h
  split at h
  · cases h
  split at h
  · cases h
  split at h
  · cases h
  rename_i h8
  refine ⟨fun h0 => ?_, by simpa using h4, by omega⟩
  have : leS c.code p.code = false := by simpa [h0] using h3
  exact less_of_leS this

theorem plan_ctry {l : List Ctry} (h : planErr l = 0) : ∀ i, i < l.length → ctryErr l i = 0 := by
  unfold planErr at h
  split at h
  · cases h
  intro i hi
  have := first_zero h i hi
  unfold partErr at this
  split at this
  · rename_i h1; exact absurd this h1
  · rename_i h1; simpa using h1

theorem plan_order {l : List Ctry} (h : planErr l = 0) : ∀ i j, i < j → j < l.length → Op.bytesLess (l.getD i noCtry).code (l.getD j noCtry).code = true := by
  intro i j hij
  obtain ⟨d, rfl⟩ : ∃ d, j = i + 1 + d := ⟨j - (i + 1), by omega⟩
  induction d with
  | zero =>
    intro hj
    have := (ctry_parts (plan_ctry h (i + 1) hj)).1 (by omega)
    simpa using this
  | succ d ih =>
    intro hj
    have h1 := ih (by omega) (by omega)
    have h2 := (ctry_parts (plan_ctry h (i + 1 + d + 1) hj)).1 (by omega)
    rw [show i + 1 + d + 1 - 1 = i + 1 + d by omega] at h2
    exact less_trans h1 h2

theorem plan_alone {l : List Ctry} (h : planErr l = 0) (x : List UInt8) : l.Pairwise fun c d => Lib.hasPrefix x c.code = true → Lib.hasPrefix x d.code = false := by
  rw [List.pairwise_iff_getElem]
  intro i j hi hj hij h1
  rw [Bool.eq_false_iff]
  intro h2
  have ei : l[i] = l.getD i noCtry := by simp [hi]
  have ej : l[j] = l.getD j noCtry := by simp [hj]
  have ho := plan_order h i j hij hj
  have hp := (ctry_parts (plan_ctry h j hj)).2.1
  rw [← ej] at hp
  rw [← ei, ← ej] at ho
  rw [List.any_eq_false] at hp
  have hp := hp l[i] (by rw [List.mem_take_iff_getElem]; exact ⟨i, by omega, rfl⟩)
  unfold Lib.hasPrefix at h1 h2 hp
  rw [List.isPrefixOf_iff_prefix] at h1 h2 hp
  rcases List.prefix_or_prefix_of_prefix h1 h2 with h3 | h3
  · exact hp h3
  · obtain ⟨t, ht⟩ := h3
    rw [← ht, less_app] at ho
    cases ho

theorem find_same {α : Type} (l : List Ctry) (p : Ctry → Bool) (f : Ctry → Option α) (h : l.Pairwise fun c d => p c = true → p d = false) : l.findSome? (fun c => if p c = true then f c else none) = (l.find? p).bind f := by
  induction l with
  | nil => rfl
  | cons c l ih =>
    rw [List.pairwise_cons] at h
    cases hc : p c with
    | false => simp [List.findSome?_cons, List.find?_cons, hc, ih h.2]
    | true =>
      have : l.findSome? (fun c => if p c = true then f c else none) = none := by
        rw [List.findSome?_eq_none_iff]
        intro d hd
        simp [h.1 d hd hc]
      simp [List.findSome?_cons, List.find?_cons, hc, this]
      cases f c <;> rfl

theorem plus_head {n : List UInt8} (h : isNumB n = true) : ∃ d, n = 43 :: d ∧ digitsB d 4 15 = true := by
  unfold isNumB at h
  simp only [Bool.and_eq_true] at h
  obtain ⟨h1, h2, _⟩ := h
  cases n with
  | nil => simp [Lib.hasPrefix] at h1
  | cons c d =>
    have hc : c = 43 := by
      unfold Lib.hasPrefix at h1
      rw [List.isPrefixOf_iff_prefix, List.cons_prefix_cons] at h1
      exact h1.1.symm
    subst hc
    refine ⟨d, rfl, ?_⟩
    simpa [Lib.trimPrefix, h1] using h2

theorem split_same {l : List Ctry} (n : List UInt8) (h : planErr l = 0) : splitR l n = splitP l n := by
  unfold splitR splitP
  cases hn : isNumB n with
  | false => rfl
  | true =>
    obtain ⟨d, rfl, _⟩ := plus_head hn
    simp only [Bool.true_eq_false, if_false]
    unfold splitIn
    have e : tryCtry (43 :: d) = fun c => if (fun c : Ctry => Lib.hasPrefix d c.code) c = true then inAreas c.code ((43 :: d).drop (1 + c.code.length)) c.areas else none := by
      funext c
      simp [tryCtry, Lib.hasPrefix, List.isPrefixOf]
    rw [e, find_same l _ _ (plan_alone h d)]
    rfl
end Go.Proofs.YtbimecknmojnoaaGreatDoor
