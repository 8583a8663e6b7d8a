/- What is proved here: the digit of a letter, both as the program and as the reference reckon it. No condition. -/
import Derived.Test.YtbimecknmojnoaaGreatDoorFormMath
import Derived.Test.YtbimecknmojnoaaGreatDoorShelf
set_option linter.unusedVariables false
set_option linter.unusedSimpArgs false
namespace Go.Proofs.YtbimecknmojnoaaGreatDoor
open Go.RowKit

theorem key_none {n : Nat} (h1 : ¬ (48 ≤ n ∧ n ≤ 57)) (h2 : ¬ (65 ≤ n ∧ n ≤ 90)) (h3 : ¬ (97 ≤ n ∧ n ≤ 122)) : keyN n = 0 := by unfold keyN; rw [if_neg h1, if_neg h2, if_neg h3]
theorem key_digit {n : Nat} (h1 : 48 ≤ n) (h2 : n ≤ 57) : keyN n = n := by unfold keyN; rw [if_pos ⟨h1, h2⟩]
theorem key_upper {m : Nat} (h : m < 26) : keyN (m + 65) = (keyTab.getD m 0).toNat := by unfold keyN; rw [if_neg (by omega), if_pos (by omega), Nat.add_sub_cancel]
theorem key_lower {m : Nat} (h : m < 26) : keyN (m + 97) = (keyTab.getD m 0).toNat := by unfold keyN; rw [if_neg (by omega), if_neg (by omega), if_pos (by omega), Nat.add_sub_cancel]
theorem tab_get {m : Nat} (h : m < 26) (h2 : m < (⟨#[50, 50, 50, 51, 51, 51, 52, 52, 52, 53, 53, 53, 54, 54, 54, 55, 55, 55, 55, 56, 56, 56, 57, 57, 57, 57]⟩ : ByteArray).size) : ((⟨#[50, 50, 50, 51, 51, 51, 52, 52, 52, 53, 53, 53, 54, 54, 54, 55, 55, 55, 55, 56, 56, 56, 57, 57, 57, 57]⟩ : ByteArray)[m]'h2) = keyTab.getD m 0 := by
  have : ∀ i : Fin 26, ∀ h2, ((⟨#[50, 50, 50, 51, 51, 51, 52, 52, 52, 53, 53, 53, 54, 54, 54, 55, 55, 55, 55, 56, 56, 56, 57, 57, 57, 57]⟩ : ByteArray)[i.val]'h2) = keyTab.getD i.val 0 := by decide +kernel
  exact this ⟨m, h⟩ h2

set_option maxRecDepth 100000 in
set_option maxHeartbeats 1000000 in
theorem key_nat (n : Nat) (hn : n < 256) (w : World) : Calls Tryz.prog 156 #[.int .u8 n] w fun e w' => e = .returned (.int .u8 (keyN n)) ∧ w' = w := by
  by_cases h1 : 48 ≤ n ∧ n ≤ 57
  · have HK := Lib.hid (key_digit h1.1 h1.2)
    obtain ⟨a1, a2⟩ := h1
    go_enter Tryz.func156, Tryz.ntmps156
    go_wp2_with fail
    go_ret
    exact ⟨by rw [HK.out]; rfl, rfl⟩
  · by_cases h2 : 65 ≤ n ∧ n ≤ 90
    · obtain ⟨m, rfl⟩ : ∃ m, n = m + 65 := ⟨n - 65, by omega⟩
      have hm : m < 26 := by omega
      have HK := Lib.hid (key_upper hm)
      have hw : IntKind.u8.wrap ((m : Int) + 65 - 65) = (m : Int) := by rw [show (m : Int) + 65 - 65 = m by omega]; exact IntWalk.u8_in _ (by omega)
      have q1 : ¬ (m + 65 ≤ 57) := by omega
      clear h1 h2
      go_enter Tryz.func156, Tryz.ntmps156
      go_wp2_with fail
      go_ret
      exact ⟨by rw [HK.out, ← tab_get hm]; rfl, rfl⟩
    · by_cases h3 : 97 ≤ n ∧ n ≤ 122
      · obtain ⟨m, rfl⟩ : ∃ m, n = m + 97 := ⟨n - 97, by omega⟩
        have hm : m < 26 := by omega
        have HK := Lib.hid (key_lower hm)
        have hw : IntKind.u8.wrap ((m : Int) + 97 - 97) = (m : Int) := by rw [show (m : Int) + 97 - 97 = m by omega]; exact IntWalk.u8_in _ (by omega)
        have q1 : ¬ (m + 97 ≤ 57) := by omega
        have q2 : ¬ (m + 97 ≤ 90) := by omega
        clear h1 h2 h3
        go_enter Tryz.func156, Tryz.ntmps156
        go_wp2_with fail
        go_ret
        exact ⟨by rw [HK.out, ← tab_get hm]; rfl, rfl⟩
      · have HK := Lib.hid (key_none h1 h2 h3)
        have e1 := Lib.hid h1
        have e2 := Lib.hid h2
        have e3 := Lib.hid h3
        clear h1 h2 h3
        go_enter Tryz.func156, Tryz.ntmps156
        go_wp2_with fail
        all_goals first | (exfalso; have := e1.out; have := e2.out; have := e3.out; omega) | (go_ret; exact ⟨by rw [HK.out]; rfl, rfl⟩)
theorem key_any (c : UInt8) (w : World) : Calls Tryz.prog 156 #[.int .u8 c.toNat] w fun e w' => e = .returned (.int .u8 (keyB c).toNat) ∧ w' = w := by
  rw [keyB_nat]
  exact key_nat c.toNat (UInt8.toNat_lt c) w

/-! ### The reference's -/
theorem idx_small (n : Nat) (hn : n < 256) : Lib.indexByte [97, 98, 99, 100, 101, 102, 103, 104, 105, 106, 107, 108, 109, 110, 111, 112, 113, 114, 115, 116, 117, 118, 119, 120, 121, 122] ((n : Int).toNat.toUInt8) = if 97 ≤ n ∧ n ≤ 122 then ((n - 97 : Nat) : Int) else -1 := by
  have : ∀ i : Fin 256, Lib.indexByte [97, 98, 99, 100, 101, 102, 103, 104, 105, 106, 107, 108, 109, 110, 111, 112, 113, 114, 115, 116, 117, 118, 119, 120, 121, 122] ((i.val : Int).toNat.toUInt8) = if 97 ≤ i.val ∧ i.val ≤ 122 then ((i.val - 97 : Nat) : Int) else -1 := by decide +kernel
  exact this ⟨n, hn⟩
theorem idx_digits (n : Nat) (hn : n < 256) : Lib.indexByte [48, 49, 50, 51, 52, 53, 54, 55, 56, 57] ((n : Int).toNat.toUInt8) = if 48 ≤ n ∧ n ≤ 57 then ((n - 48 : Nat) : Int) else -1 := by
  have : ∀ i : Fin 256, Lib.indexByte [48, 49, 50, 51, 52, 53, 54, 55, 56, 57] ((i.val : Int).toNat.toUInt8) = if 48 ≤ i.val ∧ i.val ≤ 57 then ((i.val - 48 : Nat) : Int) else -1 := by decide +kernel
  exact this ⟨n, hn⟩
theorem small_l (n : Nat) (hn : n < 256) (w : World) : Calls Tryz.prog 169 #[.string ⟨#[97, 98, 99, 100, 101, 102, 103, 104, 105, 106, 107, 108, 109, 110, 111, 112, 113, 114, 115, 116, 117, 118, 119, 120, 121, 122]⟩, .int .u8 n] w fun e w' => e = .returned (.int .i64 (if 97 ≤ n ∧ n ≤ 122 then ((n - 97 : Nat) : Int) else -1)) ∧ w' = w := by
  rw [← idx_small n hn]
  exact Tryz.strings_IndexByte _ _ w
theorem digits_l (n : Nat) (hn : n < 256) (w : World) : Calls Tryz.prog 169 #[.string ⟨#[48, 49, 50, 51, 52, 53, 54, 55, 56, 57]⟩, .int .u8 n] w fun e w' => e = .returned (.int .i64 (if 48 ≤ n ∧ n ≤ 57 then ((n - 48 : Nat) : Int) else -1)) ∧ w' = w := by
  rw [← idx_digits n hn]
  exact Tryz.strings_IndexByte _ _ w

set_option maxRecDepth 100000 in
set_option maxHeartbeats 1000000 in
theorem keyOf_low (n : Nat) (m : Nat) (hm : m < 26) (hn : n = m + 65 ∨ n = m + 97) (w : World) : Calls Tryz.prog 167 #[.int .u8 n] w fun e w' => e = .returned (.int .u8 (keyTab.getD m 0).toNat) ∧ w' = w := by
  have HS := Lib.hid (fun w => small_l (m + 97) (by omega) w)
  rw [if_pos (by omega), Nat.add_sub_cancel] at HS
  rcases hn with rfl | rfl
  · have hw : IntKind.u8.wrap ((m : Int) + 65 + 32) = ((m + 97 : Nat) : Int) := by rw [show (m : Int) + 65 + 32 = ((m + 97 : Nat) : Int) by omega]; exact IntWalk.u8_in _ (by omega)
    go_enter Tryz.func167, Tryz.ntmps167
    go_wp2_with fail
    refine (HS.out _).mono ?_
    rintro e w' ⟨rfl, rfl⟩
    go_wp2_with fail
    go_ret
    exact ⟨by rw [← tab_get hm]; rfl, rfl⟩
  · have q1 : ¬ (m + 97 ≤ 90) := by omega
    go_enter Tryz.func167, Tryz.ntmps167
    go_wp2_with fail
    refine (HS.out _).mono ?_
    rintro e w' ⟨rfl, rfl⟩
    go_wp2_with fail
    go_ret
    exact ⟨by rw [← tab_get hm]; rfl, rfl⟩
set_option maxRecDepth 100000 in
set_option maxHeartbeats 1000000 in
theorem keyOf_nat (n : Nat) (hn : n < 256) (w : World) : Calls Tryz.prog 167 #[.int .u8 n] w fun e w' => e = .returned (.int .u8 (keyN n)) ∧ w' = w := by
  by_cases h2 : 65 ≤ n ∧ n ≤ 90
  · obtain ⟨m, rfl⟩ : ∃ m, n = m + 65 := ⟨n - 65, by omega⟩
    rw [key_upper (by omega)]
    exact keyOf_low _ m (by omega) (Or.inl rfl) w
  · by_cases h3 : 97 ≤ n ∧ n ≤ 122
    · obtain ⟨m, rfl⟩ : ∃ m, n = m + 97 := ⟨n - 97, by omega⟩
      rw [key_lower (by omega)]
      exact keyOf_low _ m (by omega) (Or.inr rfl) w
    · have HS := Lib.hid (fun w => small_l n hn w)
      rw [if_neg h3] at HS
      have HD := Lib.hid (fun w => digits_l n hn w)
      by_cases h1 : 48 ≤ n ∧ n ≤ 57
      · rw [if_pos h1] at HD
        have HK := Lib.hid (key_digit h1.1 h1.2)
        obtain ⟨a1, a2⟩ := h1
        have q1 : ¬ (65 ≤ n) := by omega
        clear h2 h3
        go_enter Tryz.func167, Tryz.ntmps167
        go_wp2_with fail
        refine (HS.out _).mono ?_
        rintro e w' ⟨rfl, rfl⟩
        go_wp2_with fail
        refine (HD.out _).mono ?_
        rintro e w' ⟨rfl, rfl⟩
        go_wp2_with fail
        go_ret
        exact ⟨by rw [HK.out]; rfl, rfl⟩
      · rw [if_neg h1] at HD
        have HK := Lib.hid (key_none h1 h2 h3)
        have e2 := Lib.hid h2
        clear h1 h2 h3
        go_enter Tryz.func167, Tryz.ntmps167
        go_wp2_with fail
        all_goals first
          | (exfalso; have := e2.out; omega)
          | (refine (HS.out _).mono ?_
             rintro e w' ⟨rfl, rfl⟩
             go_wp2_with fail
             refine (HD.out _).mono ?_
             rintro e w' ⟨rfl, rfl⟩
             go_wp2_with fail
             go_ret
             exact ⟨by rw [HK.out]; rfl, rfl⟩)
theorem keyOf_any (c : UInt8) (w : World) : Calls Tryz.prog 167 #[.int .u8 c.toNat] w fun e w' => e = .returned (.int .u8 (keyB c).toNat) ∧ w' = w := by
  rw [keyB_nat]
  exact keyOf_nat c.toNat (UInt8.toNat_lt c) w
end Go.Proofs.YtbimecknmojnoaaGreatDoor
