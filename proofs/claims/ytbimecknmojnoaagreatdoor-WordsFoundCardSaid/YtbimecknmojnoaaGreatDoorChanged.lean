/- What is proved here: a text of which a byte is changed is no longer than the text, the other one and four bytes more. Condition: the stream lies in memory as stated; a bound on the lengths. -/
import Derived.Test.YtbimecknmojnoaaGreatDoorPicks
import Derived.Test.YtbimecknmojnoaaGreatDoorPlanCheck
import Derived.Test.YtbimecknmojnoaaGreatDoorStrMath
import Derived.Laws.Runes
import Derived.Deep.QuietTactic
import Derived.BigQuiet
import Derived.IntWalk
set_option linter.unusedVariables false
set_option linter.unusedSimpArgs false
namespace Go.Proofs.YtbimecknmojnoaaGreatDoor
open Go.RowKit

theorem enc_size (r : Int) : (Utf8.encode r).size ≤ 4 := by
  unfold Utf8.encode
  simp only
  repeat' split
  all_goals (show Array.size _ ≤ 4; simp)
theorem bytes_back (b : ByteArray) : b = (⟨b.data.toList.toArray⟩ : ByteArray) := by simp
theorem enc_bound (a b e : ByteArray) (n : Nat) (h : a.size + e.size + b.size ≤ n) : ((a ++ e) ++ b).data.toList.length ≤ n := by
  show _ ≤ n
  simp only [ByteArray.data_append, Array.toList_append, List.length_append]
  exact h

set_option maxRecDepth 100000 in
set_option maxHeartbeats 4000000 in
theorem changed_any (S k : Nat) (w : World) (t wi : List UInt8) (h : StreamOk w S k) (hk : k ≤ 10000000) (ht : t.length ≤ 100000) (hw : wi.length ≤ 100000) :
    Calls Tryz.prog 37 #[.pointer (some ⟨S, 0, none⟩), .string ⟨t.toArray⟩, .string ⟨wi.toArray⟩] w (SomePost S (k + 3) (fun s => s.length ≤ t.length + wi.length + 4) w) := by
  have HS := Lib.hid h
  clear h
  cases t with
  | nil =>
    go_enter Tryz.func37, Tryz.ntmps37
    go_wp2_with fail
    go_ret
    exact ⟨wi, rfl, by show wi.length ≤ 0 + wi.length + 4; omega, HS.out.mono (by omega), Keeps.refl _ _⟩
  | cons x m =>
  cases wi with
  | nil =>
    go_enter Tryz.func37, Tryz.ntmps37
    go_wp2_with fail
    go_ret
    exact ⟨[], rfl, by simp, HS.out.mono (by omega), Keeps.refl _ _⟩
  | cons y n =>
    simp only [List.length_cons] at ht hw
    go_enter Tryz.func37, Tryz.ntmps37
    go_wp2_with fail
    refine (next_any S k ((m.length : Int) + 1) _ HS.out (by omega) (by omega) (by omega)).mono ?_
    rintro e w1 ⟨r, rfl, r0, r1, hst1, hk1⟩
    have HS1 := Lib.hid hst1
    have HK1 := Lib.hid hk1
    obtain ⟨i, rfl⟩ := Int.eq_ofNat_of_zero_le r0
    have hi : i < m.length + 1 := by omega
    clear hst1 hk1 r0 r1
    as_aux_lemma =>
      go_wp2_with fail
      refine (next_any S (k + 1) ((n.length : Int) + 1) _ HS1.out (by omega) (by omega) (by omega)).mono ?_
      rintro e w2 ⟨r, rfl, r0, r1, hst2, hk2⟩
      have HS2 := Lib.hid hst2
      have HK2 := Lib.hid (HK1.out.trans hk2)
      obtain ⟨j, rfl⟩ := Int.eq_ofNat_of_zero_le r0
      have hj : j < n.length + 1 := by omega
      clear hst2 hk2 r0 r1 HS1 HK1
      as_aux_lemma =>
        go_wp2_with fail
        refine (next_any S (k + 2) 3 _ HS2.out (by omega) (by omega) (by omega)).mono ?_
        rintro e w3 ⟨r, rfl, r0, r1, hst3, hk3⟩
        have HS3 := Lib.hid hst3
        have HK3 := Lib.hid (HK2.out.trans hk3)
        have hr : r = 0 ∨ r = 1 ∨ r = 2 := by omega
        clear hst3 hk3 r0 r1 HS2 HK2
        have hq256 : ((⟨(y :: n).toArray⟩ : ByteArray)[j]'(by show j < n.length + 1; omega)).toNat < 256 := UInt8.toNat_lt _
        generalize ((⟨(y :: n).toArray⟩ : ByteArray)[j]'(by show j < n.length + 1; omega)).toNat = q at hq256
        have hwq : IntKind.i32.wrap (q : Int) = (q : Int) := IntWalk.i32_in _ (by omega)
        have hes := enc_size (q : Int)
        obtain ⟨el, hel⟩ : ∃ el : List UInt8, Utf8.encode (q : Int) = ⟨el.toArray⟩ := ⟨_, bytes_back _⟩
        rw [hel] at hes
        have hell : el.length ≤ 4 := hes
        clear hes
        have hwi : IntKind.i64.wrap ((i : Int) + 1) = (i : Int) + 1 := IntWalk.i64_in _ (by omega)
        have hwn : ((i : Int) + 1).toNat = i + 1 := by omega
        have hw0 : (0 : Int) ≤ (i : Int) + 1 := by omega
        have hiI : (i : Int) ≤ (m.length : Int) + 1 := by omega
        have hiJ : (i : Int) + 1 ≤ (m.length : Int) + 1 := by omega
        have HEX : Hid (∀ k, (⟨(x :: m).toArray⟩ : ByteArray).extract k (m.length + 1) = ⟨((x :: m).drop k).toArray⟩) := fun k => extract_drop (x :: m) k
        rcases hr with rfl | rfl | rfl
        · skip
          as_aux_lemma =>
            go_wp2_with fail
            go_quiet (fail)
            rw [ext_take, HEX.out, cat_str, cat_str]
            go_wp2_with fail
            go_ret
            exact ⟨_, rfl, by simp; omega, HS3.out.below (by (try show Below _ _ _); repeat (with_reducible first | exact Below.refl _ _ | assumption | exact Hid.out (by assumption) | refine ext_alloc ?_ | refine ext_drewN ?_ | refine ext_drew ?_ | refine ext_setCell ?_ (Nat.le_refl _) | refine ext_setCell ?_ (Nat.le_succ _) | refine ext_trans ?_ (by assumption) | (refine ext_setCell ?_ (by simp)) | (refine ext_setCell ?_ (by simp at *; omega)))), HK3.out.trans (Keeps.of_below (by (try show Below _ _ _); repeat (with_reducible first | exact Below.refl _ _ | assumption | exact Hid.out (by assumption) | refine ext_alloc ?_ | refine ext_drewN ?_ | refine ext_drew ?_ | refine ext_setCell ?_ (Nat.le_refl _) | refine ext_setCell ?_ (Nat.le_succ _) | refine ext_trans ?_ (by assumption) | (refine ext_setCell ?_ (by simp)) | (refine ext_setCell ?_ (by simp at *; omega)))))⟩
        · skip
          as_aux_lemma =>
            go_wp2_with fail
            go_quiet (fail)
            rw [ext_take, HEX.out, cat_str, cat_str]
            go_wp2_with fail
            go_ret
            exact ⟨_, rfl, by simp; omega, HS3.out.below (by (try show Below _ _ _); repeat (with_reducible first | exact Below.refl _ _ | assumption | exact Hid.out (by assumption) | refine ext_alloc ?_ | refine ext_drewN ?_ | refine ext_drew ?_ | refine ext_setCell ?_ (Nat.le_refl _) | refine ext_setCell ?_ (Nat.le_succ _) | refine ext_trans ?_ (by assumption) | (refine ext_setCell ?_ (by simp)) | (refine ext_setCell ?_ (by simp at *; omega)))), HK3.out.trans (Keeps.of_below (by (try show Below _ _ _); repeat (with_reducible first | exact Below.refl _ _ | assumption | exact Hid.out (by assumption) | refine ext_alloc ?_ | refine ext_drewN ?_ | refine ext_drew ?_ | refine ext_setCell ?_ (Nat.le_refl _) | refine ext_setCell ?_ (Nat.le_succ _) | refine ext_trans ?_ (by assumption) | (refine ext_setCell ?_ (by simp)) | (refine ext_setCell ?_ (by simp at *; omega)))))⟩
        · skip
          as_aux_lemma =>
            go_wp2_with fail
            go_quiet (fail)
            rw [ext_take, HEX.out, cat_str]
            go_wp2_with fail
            go_ret
            exact ⟨_, rfl, by simp; omega, HS3.out.below (by (try show Below _ _ _); repeat (with_reducible first | exact Below.refl _ _ | assumption | exact Hid.out (by assumption) | refine ext_alloc ?_ | refine ext_drewN ?_ | refine ext_drew ?_ | refine ext_setCell ?_ (Nat.le_refl _) | refine ext_setCell ?_ (Nat.le_succ _) | refine ext_trans ?_ (by assumption) | (refine ext_setCell ?_ (by simp)) | (refine ext_setCell ?_ (by simp at *; omega)))), HK3.out.trans (Keeps.of_below (by (try show Below _ _ _); repeat (with_reducible first | exact Below.refl _ _ | assumption | exact Hid.out (by assumption) | refine ext_alloc ?_ | refine ext_drewN ?_ | refine ext_drew ?_ | refine ext_setCell ?_ (Nat.le_refl _) | refine ext_setCell ?_ (Nat.le_succ _) | refine ext_trans ?_ (by assumption) | (refine ext_setCell ?_ (by simp)) | (refine ext_setCell ?_ (by simp at *; omega)))))⟩
end Go.Proofs.YtbimecknmojnoaaGreatDoor
