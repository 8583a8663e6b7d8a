/- What is proved here: keys of letters, forms of numbers, homes and what is reached from them, on lists. No condition. -/
import Derived.Test.YtbimecknmojnoaaGreatDoorSplitMath
set_option linter.unusedVariables false
set_option linter.unusedSimpArgs false
namespace Go.Proofs.YtbimecknmojnoaaGreatDoor
open Go.RowKit

def keyTab : List UInt8 := [50, 50, 50, 51, 51, 51, 52, 52, 52, 53, 53, 53, 54, 54, 54, 55, 55, 55, 55, 56, 56, 56, 57, 57, 57, 57]
/-- The digit of a letter or digit; 0: there is none. -/
def keyN (c : Nat) : Nat := if 48 ≤ c ∧ c ≤ 57 then c else if 65 ≤ c ∧ c ≤ 90 then (keyTab.getD (c - 65) 0).toNat else if 97 ≤ c ∧ c ≤ 122 then (keyTab.getD (c - 97) 0).toNat else 0
def keyB (c : UInt8) : UInt8 := UInt8.ofNat (keyN c.toNat)
def keysB (s : List UInt8) : Option (List UInt8) := if s.any (fun c => keyB c == 0) then none else some (s.map keyB)
def sepB (c : UInt8) : Bool := [32, 45, 46, 47, 40, 41].contains c
def readB : List UInt8 → List UInt8 → Option (List UInt8)
  | [], o => some o
  | c :: s, o => if sepB c then readB s o else if keyB c ≠ 0 then readB s (o ++ [keyB c]) else if c = 43 ∧ o = [] then readB s (o ++ [c]) else none
def groupsB (s : List UInt8) : List UInt8 := if h : 4 < s.length then s.take 3 ++ 45 :: groupsB (s.drop 3) else s
termination_by s.length
decreasing_by simp; omega
theorem groups_more {s : List UInt8} (h : 4 < s.length) : groupsB s = s.take 3 ++ 45 :: groupsB (s.drop 3) := by rw [groupsB, dif_pos h]
theorem groups_end {s : List UInt8} (h : ¬ 4 < s.length) : groupsB s = s := by rw [groupsB, dif_neg h]
theorem groups_len : ∀ (n : Nat) (s : List UInt8), s.length ≤ n → (groupsB s).length ≤ 2 * s.length := by
  intro n
  induction n with
  | zero => intro s h; rw [groups_end (by omega)]; omega
  | succ n ih =>
    intro s h
    by_cases hl : 4 < s.length
    · have := ih (s.drop 3) (by simp; omega)
      rw [groups_more hl]
      simp at this ⊢
      omega
    · rw [groups_end hl]; omega

theorem keyN_lt (c : Nat) (h : c < 256) : keyN c < 256 := by
  unfold keyN
  split
  · exact h
  · split
    · exact UInt8.toNat_lt _
    · split
      · exact UInt8.toNat_lt _
      · omega
theorem keyB_nat (c : UInt8) : (keyB c).toNat = keyN c.toNat := by
  unfold keyB
  rw [UInt8.toNat_ofNat']
  exact Nat.mod_eq_of_lt (keyN_lt _ (UInt8.toNat_lt c))
theorem all_bytes {p : UInt8 → Bool} (h : ((List.range 256).all fun i => p (UInt8.ofNat i)) = true) (c : UInt8) : p c = true := by
  have := List.all_eq_true.1 h c.toNat (List.mem_range.2 (UInt8.toNat_lt c))
  simpa using this
theorem sep_key (c : UInt8) (h : sepB c = true) : keyB c = 0 ∧ c ≠ 43 := by
  have := all_bytes (p := fun c => !(sepB c) || (keyB c == 0 && c != 43)) (by decide +kernel) c
  simp [h] at this
  exact this

/-! ### Homes -/
def homeC (l : List Ctry) (code area : List UInt8) : Option Ctry := l.find? fun c => c.code == code && (area == [] || c.areas.any fun a => a.pre == area)
def homeR (l : List Ctry) (code area : List UInt8) : Option Ctry := (l.find? fun c => c.code == code).bind fun c => if (area == [] || c.areas.any fun a => a.pre == area) = true then some c else none
theorem codes_apart {l : List Ctry} (h : planErr l = 0) {i j : Nat} (hi : i < l.length) (hj : j < l.length) (hn : i ≠ j) : (l.getD i noCtry).code ≠ (l.getD j noCtry).code := by
  intro e
  rcases Nat.lt_or_gt_of_ne hn with hlt | hlt
  · have := plan_order h i j hlt hj
    rw [e, less_irrefl] at this
    cases this
  · have := plan_order h j i hlt hi
    rw [e, less_irrefl] at this
    cases this
theorem find_apart {α : Type} (l : List α) (p q : α → Bool) (h : l.Pairwise fun c d => p c = true → p d = false) : (l.find? fun c => p c && q c) = (l.find? p).bind fun c => if q c = true then some c else none := by
  induction l with
  | nil => rfl
  | cons x xs ih =>
    have h0 := List.pairwise_cons.1 h
    have h1 := h0.1
    have h2 := ih h0.2
    rw [List.find?_cons, List.find?_cons]
    cases hp : p x with
    | false => simpa [hp] using h2
    | true =>
      cases hq : q x with
      | true => simp [hp, hq]
      | false =>
        simp only [hp, hq, Bool.true_and, Option.bind_some, Bool.false_eq_true, if_false]
        rw [List.find?_eq_none]
        intro y hy
        simp [h1 y hy hp]
theorem home_same {l : List Ctry} (code area : List UInt8) (h : planErr l = 0) : homeC l code area = homeR l code area := by
  unfold homeC homeR
  refine find_apart l (fun c => c.code == code) (fun c => area == [] || c.areas.any fun a => a.pre == area) ?_
  rw [List.pairwise_iff_getElem]
  intro i j hi hj hij hc
  have := codes_apart h hi hj (by omega)
  simp only [List.getD_eq_getElem?_getD, List.getElem?_eq_getElem hi, List.getElem?_eq_getElem hj, Option.getD_some] at this
  simp only [beq_iff_eq] at hc
  have h3 : ¬ (l[j].code = code) := fun e => this (hc.trans e.symm)
  simpa using h3

/-! ### What is reached -/
def reachN (c : Ctry) (area d : List UInt8) : Option (List UInt8) :=
  if Lib.hasPrefix d c.abroad = true then some (43 :: d.drop c.abroad.length)
  else if Lib.hasPrefix d c.trunk = true then some (43 :: (c.code ++ d.drop c.trunk.length))
  else if area ≠ [] then some (43 :: (c.code ++ area ++ d)) else none
/-- The number that is reached, or an error. -/
def reachP (l : List Ctry) (c : Ctry) (area d : List UInt8) : Int × List UInt8 :=
  if digitsB d 1 30 = false then (3, []) else match reachN c area d with
    | none => (8, [])
    | some n => if (splitP l n).err ≠ 0 then ((splitP l n).err, []) else (0, n)

def formPre (c : Ctry) (x : Spl) : List UInt8 := if x.code = c.code then 40 :: (c.trunk ++ x.area ++ [41, 32]) else 43 :: (x.code ++ 32 :: (x.area ++ [32]))
def formP (c : Ctry) (x : Spl) : List UInt8 := formPre c x ++ groupsB x.rest
/-- What is read out of a form. -/
def readP (l : List Ctry) (c : Ctry) (area s : List UInt8) : Int × List UInt8 :=
  if 60 < s.length then (2, []) else match readB s [] with
    | none => (9, [])
    | some [] => (9, [])
    | some (x :: n) => if x = 43 then (if (splitP l (x :: n)).err ≠ 0 then ((splitP l (x :: n)).err, []) else (0, x :: n)) else if 30 < (x :: n).length then (2, []) else reachP l c area (x :: n)
end Go.Proofs.YtbimecknmojnoaaGreatDoor
