/- What is proved here: each key's tone is heard in each of its blocks, and its samples are samples (by reckoning). No condition. -/
import Derived.Test.YtlllckclfpdhgaaDoorKeyMath
namespace Go.Proofs.YtlllckclfpdhgaaDoor
set_option maxRecDepth 100000
def heardB (k : Nat) : Bool := let t := toneI k 820; (List.range 4).all (fun j => classI ((t.drop (205 * j)).take 205) == (k : Int)) && t.all (fun x => decide (-32768 ≤ x) && decide (x ≤ 32767))
theorem heard0 : heardB 0 = true := by decide +kernel
theorem heard1 : heardB 1 = true := by decide +kernel
theorem heard2 : heardB 2 = true := by decide +kernel
theorem heard3 : heardB 3 = true := by decide +kernel
theorem heard4 : heardB 4 = true := by decide +kernel
theorem heard5 : heardB 5 = true := by decide +kernel
theorem heard6 : heardB 6 = true := by decide +kernel
theorem heard7 : heardB 7 = true := by decide +kernel
theorem heard8 : heardB 8 = true := by decide +kernel
theorem heard9 : heardB 9 = true := by decide +kernel
theorem heard10 : heardB 10 = true := by decide +kernel
theorem heard11 : heardB 11 = true := by decide +kernel
theorem heard12 : heardB 12 = true := by decide +kernel
theorem heard13 : heardB 13 = true := by decide +kernel
theorem heard14 : heardB 14 = true := by decide +kernel
theorem heard15 : heardB 15 = true := by decide +kernel
theorem heard_all (k : Nat) (h : k < 16) : heardB k = true := by
  match k, h with
  | 0, _ => exact heard0
  | 1, _ => exact heard1
  | 2, _ => exact heard2
  | 3, _ => exact heard3
  | 4, _ => exact heard4
  | 5, _ => exact heard5
  | 6, _ => exact heard6
  | 7, _ => exact heard7
  | 8, _ => exact heard8
  | 9, _ => exact heard9
  | 10, _ => exact heard10
  | 11, _ => exact heard11
  | 12, _ => exact heard12
  | 13, _ => exact heard13
  | 14, _ => exact heard14
  | 15, _ => exact heard15
  | n + 16, h => exact absurd h (by omega)
theorem silence : classI (List.replicate 205 0) = -1 := by decide +kernel
end Go.Proofs.YtlllckclfpdhgaaDoor
