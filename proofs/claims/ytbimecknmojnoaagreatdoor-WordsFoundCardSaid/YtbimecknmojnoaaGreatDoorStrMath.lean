/- What is proved here: small facts on strings that are lists. No condition beyond those stated. -/
import Derived.Test.YtbimecknmojnoaaGreatDoorFormBytes
import Derived.Test.YtbimecknmojnoaaGreatDoorSplitWalk
set_option linter.unusedVariables false
set_option linter.unusedSimpArgs false
namespace Go.Proofs.YtbimecknmojnoaaGreatDoor
open Go.RowKit

theorem digits_len {s : List UInt8} {lo hi : Int} (h : digitsB s lo hi = true) : (s.length : Int) ≤ hi := by
  unfold digitsB at h
  simp only [Bool.and_eq_true, decide_eq_true_eq] at h
  omega
theorem trim_drop {s p : List UInt8} (h : Lib.hasPrefix s p = true) : Lib.trimPrefix s p = s.drop p.length := by unfold Lib.trimPrefix; rw [if_pos h]

def strSz : Value → Nat
  | .string b => b.size
  | _ => 0
theorem strSz_l (l : List UInt8) : strSz (.string ⟨l.toArray⟩) = l.length := rfl
theorem ext_take (l : List UInt8) (k : Nat) : (⟨l.toArray⟩ : ByteArray).extract 0 k = ⟨(l.take k).toArray⟩ := by
  rw [Lib.extract_eq]
  simp

end Go.Proofs.YtbimecknmojnoaaGreatDoor
