/- What is proved here: slices.IsSorted answers true at a row of ints that goes up. Condition: the slice lies in memory as stated. -/
import Derived.Test.YtkfflafhlgephaaDoorIntRows
import Derived.IntWalk
set_option linter.unusedVariables false
set_option linter.unusedSimpArgs false
namespace Go.Proofs.YtkfflafhlgephaaDoor
open Go.RowKit

set_option maxHeartbeats 1000000 in
theorem less_no (a b : Int) (w : World) (h : ¬ a < b) : Calls Tryd.prog 32 #[.int .i64 a, .int .i64 b] w fun e w' => e = .returned (.bool false) ∧ w = w' := by
  have h2 : decide (a < b) = false := decide_eq_false h
  go_enter Tryd.func32, Tryd.ntmps32
  go_wp2
  go_ret
  exact ⟨rfl, rfl⟩

def SortedPost (w : World) (e : Ending) (w' : World) : Prop := e = .returned (.bool true) ∧ ∃ q, w' = w.drewN q
set_option maxHeartbeats 1000000 in
theorem isSorted_up (w : World) (a : Option Addr) (n cap : Nat) (xs : List Int) (hr : IRow .i64 w a n xs) (hs : ∀ i, i + 1 < xs.length → xs.getD i 0 ≤ xs.getD (i + 1) 0) (hn : n ≤ 1000000000000) :
    Calls Tryd.prog 9 #[.slice a n cap] w (SortedPost w) := by
  have Hr := Lib.hid hr
  have Hs := Lib.hid hs
  clear hr hs
  go_enter Tryd.func9, Tryd.ntmps9
  go_wp2_with fail
  go_loopw [3] (fun it wr => ∃ i : Int, -1 ≤ i ∧ i < n ∧ it = .int .i64 i ∧ Hid (∃ q, wr = w.drewN q)) (fun it _ => (intOf it).toNat)
  case atStart => exact ⟨_, by omega, by omega, rfl, 0, rfl⟩
  case round =>
    obtain ⟨i, i0, i1, rfl, HQ⟩ := hrel
    by_cases hlt : 0 < i
    · obtain ⟨k, rfl⟩ : ∃ k : Nat, i = (k : Int) + 1 := ⟨(i - 1).toNat, by omega⟩
      rcases Hr.out.2 with h0 | ⟨b, off, rfl, hb, hc⟩
      · omega
      have c0 : wr.cell? ⟨b, off + (k + 1), none⟩ = some (.int .i64 (xs.getD (k + 1) 0)) := by obtain ⟨q, e⟩ := HQ.out; rw [e]; exact hc (k + 1) (by omega)
      have c1 : wr.cell? ⟨b, off + k, none⟩ = some (.int .i64 (xs.getD k 0)) := by obtain ⟨q, e⟩ := HQ.out; rw [e]; exact hc k (by omega)
      have hle := Hs.out k (by have := Hr.out.1; omega)
      clear hc
      generalize xs.getD k 0 = x at c1 hle
      generalize xs.getD (k + 1) 0 = y at c0 hle
      have t0 : ((k : Int) + 1).toNat = k + 1 := by omega
      have t4 : (0 : Int) ≤ (k : Int) + 1 := by omega
      have t6 : (k : Int) < n := by omega
      have t5 : IntKind.i64.wrap (k : Int) = (k : Int) := IntWalk.i64_in _ (by omega)
      have HLE := Lib.hid hle
      go_wp2_with fail
      go_quiet (first | (go_at_call 32; refine Calls.quiet_of_same (v := .bool false) ((less_no _ _ _ (by have := HLE.out; omega)).mono ?_); rintro e w' ⟨rfl, rfl⟩; exact ⟨rfl, rfl⟩))
      clear t5
      go_wp2_with fail
      go_roundw
      case rel => exact ⟨k, by omega, by omega, by go_num, (by obtain ⟨q, e⟩ := HQ.out; exact ⟨q + nq, by rw [e, World.drewN_drewN]⟩)⟩
      case measure => simp [intOf]
    · go_wp2_with fail
      go_ret
      exact ⟨rfl, HQ.out⟩
end Go.Proofs.YtkfflafhlgephaaDoor
