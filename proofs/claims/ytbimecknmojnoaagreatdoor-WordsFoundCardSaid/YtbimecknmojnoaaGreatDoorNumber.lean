/- What is proved here: what the small tests of package number answer (digits, numbers, keys, moments). Condition: a string that an int can count. -/
import Derived.Test.YtbimecknmojnoaaGreatDoorBase
import Derived.Test.YtbimecknmojnoaaGreatDoorShelf
namespace Go.Proofs.YtbimecknmojnoaaGreatDoor
open Go.RowKit

/-- All bytes of l are in cs (what Trim leaves is empty). -/
def allIn (l cs : List UInt8) : Bool := (Lib.trimS l cs).isEmpty
def digitSet : List UInt8 := [48, 49, 50, 51, 52, 53, 54, 55, 56, 57]
def keySet : List UInt8 := [97, 98, 99, 100, 101, 102, 103, 104, 105, 106, 107, 108, 109, 110, 111, 112, 113, 114, 115, 116, 117, 118, 119, 120, 121, 122, 48, 49, 50, 51, 52, 53, 54, 55, 56, 57, 45, 95]

theorem trim_digits (s : ByteArray) (w : World) (hs : s.size ≤ 9223372036854775807) :
    Calls Tryz.prog 78 #[.string s, .string ⟨#[48, 49, 50, 51, 52, 53, 54, 55, 56, 57]⟩] w fun e w' => e = .returned (.string ⟨(Lib.trimS s.data.toList digitSet).toArray⟩) ∧ Below w.heap.size w w' :=
  Tryz.strings_Trim_set s ⟨#[48, 49, 50, 51, 52, 53, 54, 55, 56, 57]⟩ w hs (by decide) (Go.Proofs.ascii_of_all (by decide))

theorem isDigits_any (s : ByteArray) (w : World) (hs : s.size ≤ 9223372036854775807) :
    Calls Tryz.prog 155 #[.string s] w fun e w' => e = .returned (.bool (allIn s.data.toList digitSet)) ∧ Below w.heap.size w w' := by
  have hcon := trim_digits s w hs
  unfold allIn
  generalize Lib.trimS s.data.toList digitSet = r at hcon ⊢
  go_enter Tryz.func155, Tryz.ntmps155
  go_wp2_with (go_at_call 78; refine hcon.mono ?_; rintro e w' ⟨rfl, hB⟩)
  go_ret
  exact ⟨rfl, hB⟩

def digitsB (l : List UInt8) (lo hi : Int) : Bool := decide (lo ≤ l.length) && (decide ((l.length : Int) ≤ hi) && allIn l digitSet)

theorem digitsOf_any (s : ByteArray) (lo hi : Int) (w : World) (hs : s.size ≤ 9223372036854775807) :
    Calls Tryz.prog 72 #[.string s, .int .i64 lo, .int .i64 hi] w fun e w' => e = .returned (.bool (digitsB s.data.toList lo hi)) ∧ Below w.heap.size w w' := by
  have hcon := isDigits_any s w hs
  have hd : Hid (digitsB s.data.toList lo hi = (decide (lo ≤ s.size) && (decide ((s.size : Int) ≤ hi) && allIn s.data.toList digitSet))) := by rfl
  generalize allIn s.data.toList digitSet = r at hcon hd
  by_cases h1 : lo ≤ s.size
  · by_cases h2 : (s.size : Int) ≤ hi
    · go_enter Tryz.func72, Tryz.ntmps72
      go_wp2_with (go_at_call 155; refine hcon.mono ?_; rintro e w' ⟨rfl, hB⟩)
      go_ret
      exact ⟨by rw [hd.out]; simp [h1, h2], hB⟩
    · go_enter Tryz.func72, Tryz.ntmps72
      go_wp2_with (go_at_call 155; refine hcon.mono ?_; rintro e w' ⟨rfl, hB⟩)
      go_ret
      exact ⟨by rw [hd.out, decide_eq_false (show ¬ (s.size : Int) ≤ hi by omega)]; simp, Below.refl _ _⟩
  · go_enter Tryz.func72, Tryz.ntmps72
    go_wp2_with (go_at_call 155; refine hcon.mono ?_; rintro e w' ⟨rfl, hB⟩)
    go_ret
    exact ⟨by rw [hd.out, decide_eq_false (show ¬ lo ≤ (s.size : Int) by omega)]; simp, Below.refl _ _⟩

theorem byte_bne48 (c : UInt8) : ((c.toNat : Int) != 48) = (c != 48) := by
  rw [Bool.eq_iff_iff]; simp [← UInt8.toNat_inj]; omega

def isNumB (l : List UInt8) : Bool := Lib.hasPrefix l [43] && (digitsB (Lib.trimPrefix l [43]) 4 15 && ((Lib.trimPrefix l [43]).headD 0 != 48))

theorem isNumber_any (s : ByteArray) (w : World) (hs : s.size ≤ 9223372036854775807) :
    Calls Tryz.prog 126 #[.string s] w fun e w' => e = .returned (.bool (isNumB s.data.toList)) ∧ Below w.heap.size w w' := by
  have hcon := Tryz.strings_CutPrefix s ⟨#[43]⟩ w
  have hle : (Lib.trimPrefix s.data.toList [43]).length ≤ s.data.toList.length := by unfold Lib.trimPrefix; split <;> simp
  have hd : Hid (isNumB s.data.toList = (Lib.hasPrefix s.data.toList [43] && (digitsB (Lib.trimPrefix s.data.toList [43]) 4 15 && ((Lib.trimPrefix s.data.toList [43]).headD 0 != 48)))) := by rfl
  have hl : s.data.toList.length = s.size := rfl
  rw [hl] at hle
  clear hl
  generalize Lib.trimPrefix s.data.toList [43] = d at hcon hd hle
  generalize Lib.hasPrefix s.data.toList [43] = b at hcon hd
  have hcon2 := fun w => digitsOf_any ⟨d.toArray⟩ 4 15 w (by show d.length ≤ _; omega)
  have h4 : Hid (digitsB d 4 15 = true → 4 ≤ d.length) := by intro h; simp [digitsB] at h; omega
  generalize digitsB d 4 15 = b2 at hcon2 hd h4
  cases b with
  | false =>
    go_enter Tryz.func126, Tryz.ntmps126
    go_wp2_with (go_at_call 116; refine hcon.mono ?_; rintro e w' ⟨rfl, rfl⟩)
    go_ret
    exact ⟨by rw [hd.out]; rfl, Below.refl _ _⟩
  | true =>
    cases b2 with
    | false =>
      go_enter Tryz.func126, Tryz.ntmps126
      go_wp2_with (first | (go_at_call 116; refine hcon.mono ?_; rintro e w' ⟨rfl, rfl⟩) | (go_at_call 72; refine (hcon2 _).mono ?_; rintro e w' ⟨rfl, hB⟩))
      go_ret
      exact ⟨by rw [hd.out]; rfl, hB⟩
    | true =>
      have h44 := h4.out rfl
      obtain ⟨c, d', rfl⟩ : ∃ c d', d = c :: d' := by cases d with | nil => simp at h44 | cons c d' => exact ⟨c, d', rfl⟩
      go_enter Tryz.func126, Tryz.ntmps126
      go_wp2_with (first | (go_at_call 116; refine hcon.mono ?_; rintro e w' ⟨rfl, rfl⟩) | (go_at_call 72; refine (hcon2 _).mono ?_; rintro e w' ⟨rfl, hB⟩))
      go_ret
      exact ⟨by rw [hd.out]; simp only [Bool.true_and, List.headD_cons, ← byte_bne48]; rfl, hB⟩

end Go.Proofs.YtbimecknmojnoaaGreatDoor
