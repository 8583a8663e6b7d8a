/- What is proved here: what the small tests of package number answer (digits, numbers, keys, moments). Condition: a string that an int can count. -/
import Derived.Test.YtkfflafhlgephaaDoorBase
import Derived.Test.YtkfflafhlgephaaDoorShelf
namespace Go.Proofs.YtkfflafhlgephaaDoor
open Go.RowKit

/-- All bytes of l are in cs (what Trim leaves is empty). -/
def allIn (l cs : List UInt8) : Bool := (Lib.trimS l cs).isEmpty
def digitSet : List UInt8 := [48, 49, 50, 51, 52, 53, 54, 55, 56, 57]
def keySet : List UInt8 := [97, 98, 99, 100, 101, 102, 103, 104, 105, 106, 107, 108, 109, 110, 111, 112, 113, 114, 115, 116, 117, 118, 119, 120, 121, 122, 48, 49, 50, 51, 52, 53, 54, 55, 56, 57, 45, 95]

theorem trim_digits (s : ByteArray) (w : World) (hs : s.size ≤ 9223372036854775807) :
    Calls Tryd.prog 83 #[.string s, .string ⟨#[48, 49, 50, 51, 52, 53, 54, 55, 56, 57]⟩] w fun e w' => e = .returned (.string ⟨(Lib.trimS s.data.toList digitSet).toArray⟩) ∧ Below w.heap.size w w' :=
  Tryd.strings_Trim_set s ⟨#[48, 49, 50, 51, 52, 53, 54, 55, 56, 57]⟩ w hs (by decide) (Go.Proofs.ascii_of_all (by decide))

theorem isDigits_any (s : ByteArray) (w : World) (hs : s.size ≤ 9223372036854775807) :
    Calls Tryd.prog 113 #[.string s] w fun e w' => e = .returned (.bool (allIn s.data.toList digitSet)) ∧ Below w.heap.size w w' := by
  have hcon := trim_digits s w hs
  unfold allIn
  generalize Lib.trimS s.data.toList digitSet = r at hcon ⊢
  go_enter Tryd.func113, Tryd.ntmps113
  go_wp2_with (go_at_call 83; refine hcon.mono ?_; rintro e w' ⟨rfl, hB⟩)
  go_ret
  exact ⟨rfl, hB⟩

def digitsB (l : List UInt8) (lo hi : Int) : Bool := decide (lo ≤ l.length) && (decide ((l.length : Int) ≤ hi) && allIn l digitSet)

theorem digitsOf_any (s : ByteArray) (lo hi : Int) (w : World) (hs : s.size ≤ 9223372036854775807) :
    Calls Tryd.prog 90 #[.string s, .int .i64 lo, .int .i64 hi] w fun e w' => e = .returned (.bool (digitsB s.data.toList lo hi)) ∧ Below w.heap.size w w' := by
  have hcon := isDigits_any s w hs
  have hd : Hid (digitsB s.data.toList lo hi = (decide (lo ≤ s.size) && (decide ((s.size : Int) ≤ hi) && allIn s.data.toList digitSet))) := by rfl
  generalize allIn s.data.toList digitSet = r at hcon hd
  by_cases h1 : lo ≤ s.size
  · by_cases h2 : (s.size : Int) ≤ hi
    · go_enter Tryd.func90, Tryd.ntmps90
      go_wp2_with (go_at_call 113; refine hcon.mono ?_; rintro e w' ⟨rfl, hB⟩)
      go_ret
      exact ⟨by rw [hd.out]; simp [h1, h2], hB⟩
    · go_enter Tryd.func90, Tryd.ntmps90
      go_wp2_with (go_at_call 113; refine hcon.mono ?_; rintro e w' ⟨rfl, hB⟩)
      go_ret
      exact ⟨by rw [hd.out, decide_eq_false (show ¬ (s.size : Int) ≤ hi by omega)]; simp, Below.refl _ _⟩
  · go_enter Tryd.func90, Tryd.ntmps90
    go_wp2_with (go_at_call 113; refine hcon.mono ?_; rintro e w' ⟨rfl, hB⟩)
    go_ret
    exact ⟨by rw [hd.out, decide_eq_false (show ¬ lo ≤ (s.size : Int) by omega)]; simp, Below.refl _ _⟩

theorem byte_bne48 (c : UInt8) : ((c.toNat : Int) != 48) = (c != 48) := by
  rw [Bool.eq_iff_iff]; simp [← UInt8.toNat_inj]; omega

def isNumB (l : List UInt8) : Bool := Lib.hasPrefix l [43] && (digitsB (Lib.trimPrefix l [43]) 4 15 && ((Lib.trimPrefix l [43]).headD 0 != 48))

theorem isNumber_any (s : ByteArray) (w : World) (hs : s.size ≤ 9223372036854775807) :
    Calls Tryd.prog 72 #[.string s] w fun e w' => e = .returned (.bool (isNumB s.data.toList)) ∧ Below w.heap.size w w' := by
  have hcon := Tryd.strings_CutPrefix s ⟨#[43]⟩ w
  have hle : (Lib.trimPrefix s.data.toList [43]).length ≤ s.data.toList.length := by unfold Lib.trimPrefix; split <;> simp
  have hd : Hid (isNumB s.data.toList = (Lib.hasPrefix s.data.toList [43] && (digitsB (Lib.trimPrefix s.data.toList [43]) 4 15 && ((Lib.trimPrefix s.data.toList [43]).headD 0 != 48)))) := by rfl
  have hl : s.data.toList.length = s.size := rfl
  rw [hl] at hle
  clear hl
  generalize Lib.trimPrefix s.data.toList [43] = d at hcon hd hle
  generalize Lib.hasPrefix s.data.toList [43] = b at hcon hd
  have hcon2 := fun w => digitsOf_any ⟨d.toArray⟩ 4 15 w (by show d.length ≤ _; omega)
  have h4 : Hid (digitsB d 4 15 = true → 4 ≤ d.length) := by intro h; simp [digitsB] at h; omega
  generalize digitsB d 4 15 = b2 at hcon2 hd h4
  cases b with
  | false =>
    go_enter Tryd.func72, Tryd.ntmps72
    go_wp2_with (go_at_call 57; refine hcon.mono ?_; rintro e w' ⟨rfl, rfl⟩)
    go_ret
    exact ⟨by rw [hd.out]; rfl, Below.refl _ _⟩
  | true =>
    cases b2 with
    | false =>
      go_enter Tryd.func72, Tryd.ntmps72
      go_wp2_with (first | (go_at_call 57; refine hcon.mono ?_; rintro e w' ⟨rfl, rfl⟩) | (go_at_call 90; refine (hcon2 _).mono ?_; rintro e w' ⟨rfl, hB⟩))
      go_ret
      exact ⟨by rw [hd.out]; rfl, hB⟩
    | true =>
      have h44 := h4.out rfl
      obtain ⟨c, d', rfl⟩ : ∃ c d', d = c :: d' := by cases d with | nil => simp at h44 | cons c d' => exact ⟨c, d', rfl⟩
      go_enter Tryd.func72, Tryd.ntmps72
      go_wp2_with (first | (go_at_call 57; refine hcon.mono ?_; rintro e w' ⟨rfl, rfl⟩) | (go_at_call 90; refine (hcon2 _).mono ?_; rintro e w' ⟨rfl, hB⟩))
      go_ret
      exact ⟨by rw [hd.out]; simp only [Bool.true_and, List.headD_cons, ← byte_bne48]; rfl, hB⟩

def isKeyB (l : List UInt8) : Bool := decide (1 ≤ l.length) && (decide (l.length ≤ 40) && (decide (97 ≤ (l.headD 0).toNat) && (decide ((l.headD 0).toNat ≤ 122) && allIn l keySet)))

theorem trim_keys (s : ByteArray) (w : World) (hs : s.size ≤ 9223372036854775807) :
    Calls Tryd.prog 83 #[.string s, .string ⟨#[97, 98, 99, 100, 101, 102, 103, 104, 105, 106, 107, 108, 109, 110, 111, 112, 113, 114, 115, 116, 117, 118, 119, 120, 121, 122, 48, 49, 50, 51, 52, 53, 54, 55, 56, 57, 45, 95]⟩] w fun e w' => e = .returned (.string ⟨(Lib.trimS s.data.toList keySet).toArray⟩) ∧ Below w.heap.size w w' :=
  Tryd.strings_Trim_set s ⟨#[97, 98, 99, 100, 101, 102, 103, 104, 105, 106, 107, 108, 109, 110, 111, 112, 113, 114, 115, 116, 117, 118, 119, 120, 121, 122, 48, 49, 50, 51, 52, 53, 54, 55, 56, 57, 45, 95]⟩ w hs (by decide) (Go.Proofs.ascii_of_all (by decide))

theorem isKey_any (l : List UInt8) (w : World) (hs : l.length ≤ 9223372036854775807) :
    Calls Tryd.prog 61 #[.string ⟨l.toArray⟩] w fun e w' => e = .returned (.bool (isKeyB l)) ∧ Below w.heap.size w w' := by
  have hcon := trim_keys ⟨l.toArray⟩ w hs

  cases l with
  | nil =>
    go_enter Tryd.func61, Tryd.ntmps61
    go_wp2_with (go_at_call 83; refine hcon.mono ?_; rintro e w' ⟨rfl, hB⟩)
    go_ret
    exact ⟨rfl, Below.refl _ _⟩
  | cons c l' =>
    have hd : Hid (isKeyB (c :: l') = (decide (1 ≤ (c :: l').length) && (decide ((c :: l').length ≤ 40) && (decide (97 ≤ c.toNat) && (decide (c.toNat ≤ 122) && (Lib.trimS (c :: l') keySet).isEmpty))))) := by rfl
    generalize Lib.trimS (c :: l') keySet = r at hcon hd
    go_enter Tryd.func61, Tryd.ntmps61
    go_wp2_with (go_at_call 83; refine hcon.mono ?_; rintro e w' ⟨rfl, hB⟩)
    · have g1 : (l'.length : Int) + 1 ≤ 40 := by assumption
      have g2 : (97 : Int) ≤ (c.toNat : Int) := by assumption
      have g3 : (c.toNat : Int) ≤ 122 := by assumption
      go_ret
      exact ⟨by rw [hd.out, decide_eq_true (by simp), decide_eq_true (show (c :: l').length ≤ 40 by simp; omega), decide_eq_true (show 97 ≤ c.toNat by omega), decide_eq_true (show c.toNat ≤ 122 by omega)]; rfl, hB⟩
    · have g3 : (122 : Int) < (c.toNat : Int) := by assumption
      go_ret
      exact ⟨by rw [hd.out, decide_eq_false (show ¬ c.toNat ≤ 122 by omega)]; simp, Below.refl _ _⟩
    · have g2 : (c.toNat : Int) < 97 := by assumption
      go_ret
      exact ⟨by rw [hd.out, decide_eq_false (show ¬ 97 ≤ c.toNat by omega)]; simp, Below.refl _ _⟩
    · have g1 : 40 < (l'.length : Int) + 1 := by assumption
      go_ret
      exact ⟨by rw [hd.out, decide_eq_false (show ¬ (c :: l').length ≤ 40 by simp; omega)]; simp, Below.refl _ _⟩

def isMomB (n : Int) : Bool := decide (0 ≤ n) && decide (n < 345686400000)

theorem isMoment_any (n : Int) (w : World) :
    Calls Tryd.prog 33 #[.int .i64 n] w fun e w' => e = .returned (.bool (isMomB n)) ∧ w = w' := by
  by_cases h1 : 0 ≤ n
  · have hd : Hid (isMomB n = decide (n < 345686400000)) := by show isMomB n = _; unfold isMomB; rw [decide_eq_true h1]; simp
    go_enter Tryd.func33, Tryd.ntmps33
    go_wp2
    go_ret
    exact ⟨by rw [hd.out]; rfl, rfl⟩
  · have hd : Hid (isMomB n = false) := by show isMomB n = _; unfold isMomB; rw [decide_eq_false h1]; simp
    go_enter Tryd.func33, Tryd.ntmps33
    go_wp2
    go_ret
    exact ⟨by rw [hd.out]; rfl, rfl⟩
end Go.Proofs.YtkfflafhlgephaaDoor
