/- What is proved here: digits in groups, as the reference writes them. Condition: a bound on the length. -/
import Derived.Test.YthajppcmmmkfcaaGreatDoorReach
set_option linter.unusedVariables false
set_option linter.unusedSimpArgs false
namespace Go.Proofs.YthajppcmmmkfcaaGreatDoor
open Go.RowKit

def strSz : Value → Nat
  | .string b => b.size
  | _ => 0
theorem strSz_l (l : List UInt8) : strSz (.string ⟨l.toArray⟩) = l.length := rfl
theorem ext_take (l : List UInt8) (k : Nat) : (⟨l.toArray⟩ : ByteArray).extract 0 k = ⟨(l.take k).toArray⟩ := by
  rw [Lib.extract_eq]
  simp

set_option maxRecDepth 100000 in
set_option maxHeartbeats 2000000 in
theorem groups_any (s : List UInt8) (hs : s.length ≤ 1000) (w : World) : Calls Tryz.prog 77 #[.string ⟨s.toArray⟩] w fun e w' => e = .returned (.string ⟨(groupsB s).toArray⟩) ∧ w' = w := by
  go_enter Tryz.func77, Tryz.ntmps77
  go_wp2_with fail
  go_loopw [0, 3] (fun x y wr => ∃ o r : List UInt8, x = .string ⟨r.toArray⟩ ∧ y = .string ⟨o.toArray⟩ ∧ Hid (o ++ groupsB r = groupsB s) ∧ o.length + 2 * r.length ≤ 2 * s.length ∧ Hid (wr = w)) (fun x _ _ => strSz x)
  case atStart => exact ⟨[], s, rfl, rfl, rfl, by simp, rfl⟩
  case round =>
    obtain ⟨o, r, rfl, rfl, HG, hlen, HW⟩ := hrel
    by_cases hlt : 4 < r.length
    · have h3 : 3 ≤ r.length := by omega
      have HG2 : Hid ((o ++ (r.take 3 ++ [45])) ++ groupsB (r.drop 3) = groupsB s) := by
        show _ = _
        rw [← HG.out, groups_more hlt]
        simp
      have htk : (r.take 3).length = 3 := by simp; omega
      go_wp2_with fail
      rw [ext_take, extract_drop, cat_str, cat_str]
      go_roundw
      case rel => exact ⟨_, _, rfl, rfl, HG2, by simp; omega, HW⟩
      case measure => rw [strSz_l, strSz_l]; simp; omega
    · have HF : Hid (o ++ r = groupsB s) := by show _ = _; rw [← HG.out, groups_end hlt]
      have hol : o.length ≤ 2000 := by omega
      go_wp2_with fail
      rw [cat_str]
      go_ret
      exact ⟨by rw [← HF.out]; rfl, HW.out⟩
end Go.Proofs.YthajppcmmmkfcaaGreatDoor
