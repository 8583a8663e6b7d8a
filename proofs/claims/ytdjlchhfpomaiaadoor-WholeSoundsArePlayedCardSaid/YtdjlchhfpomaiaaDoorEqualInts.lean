/- What is proved here: slices.Equal answers true where two slices of ints hold the same. Condition: the slices lie in memory as stated. -/
import Derived.Test.YtdjlchhfpomaiaaDoorIntRows
namespace Go.Proofs.YtdjlchhfpomaiaaDoor
open Go.RowKit
set_option linter.unusedVariables false
set_option linter.unusedSimpArgs false

def Eqi64Post (w : World) (e : Ending) (w' : World) : Prop := e = .returned (.bool true) ∧ ∃ q, w' = w.drewN q
set_option maxHeartbeats 1000000 in
theorem equal_ints (w : World) (a a2 : Option Addr) (n cap n2 cap2 : Nat) (xs : List Int) (hr : IRow .i64 w a n xs) (hr2 : IRow .i64 w a2 n2 xs) (hn : n ≤ 1000000000000) :
    Calls Tryd.prog 11 #[.slice a n cap, .slice a2 n2 cap2] w (Eqi64Post w) := by
  obtain rfl : n2 = n := hr2.1.trans hr.1.symm
  have Hr := Lib.hid hr
  have Hr2 := Lib.hid hr2
  clear hr hr2
  go_enter Tryd.func11, Tryd.ntmps11
  go_wp2_with fail
  go_loopw [13] (fun i wr => ∃ k : Nat, k ≤ n2 ∧ i = .int .i64 k ∧ Hid (∃ q, wr = w.drewN q)) (fun i _ => n2 - (intOf i).toNat)
  case atStart => exact ⟨0, Nat.zero_le _, rfl, 0, rfl⟩
  case round =>
    obtain ⟨k, hk, rfl, HQ⟩ := hrel
    obtain ⟨q, rfl⟩ := HQ.out
    by_cases hlt : k < n2
    · rcases Hr.out.2 with h0 | ⟨b, off, rfl, hb, hc⟩
      · omega
      rcases Hr2.out.2 with h0 | ⟨b2, off2, rfl, hb2, hc2⟩
      · omega
      have c0 := hc k hlt
      have c1 := hc2 k hlt
      have i0 : (0 : Int) ≤ (k : Int) := by omega
      have i1 : (k : Int) < (n2 : Int) := by omega
      clear hc hc2
      generalize xs.getD k 0 = x at c0 c1
      go_wp2_with fail
      go_quiet (fail)
      go_wp2_with fail
      go_roundw
      case rel => exact ⟨k + 1, by omega, by go_num, _, rfl⟩
      case measure => simp [intOf]; omega
    · go_wp2_with fail
      go_ret
      exact ⟨rfl, q, rfl⟩
end Go.Proofs.YtdjlchhfpomaiaaDoor
