/- What is proved here: steps of reading a form, on lists; where a separator is. No condition. -/
import Derived.Test.YthajppcmmmkfcaaGreatDoorFormBytes
set_option linter.unusedVariables false
set_option linter.unusedSimpArgs false
namespace Go.Proofs.YthajppcmmmkfcaaGreatDoor
open Go.RowKit

theorem read_key {c : UInt8} {t o : List UInt8} (h : keyB c ≠ 0) : readB (c :: t) o = readB t (o ++ [keyB c]) := by
  have hs : sepB c = false := by
    cases hh : sepB c with
    | false => rfl
    | true => exact absurd (sep_key c hh).1 h
  rw [readB, hs]
  simp [h]
theorem read_plus {t : List UInt8} : readB (43 :: t) [] = readB t [43] := by
  have hs : sepB 43 = false := by decide
  have hk : keyB 43 = 0 := by decide
  rw [readB, hs, hk]
  simp
theorem read_sep {c : UInt8} {t o : List UInt8} (h : sepB c = true) : readB (c :: t) o = readB t o := by
  rw [readB, h]; simp
theorem read_bad {c : UInt8} {t o : List UInt8} (hk : keyB c = 0) (hp : ¬ (c = 43 ∧ o = [])) (hs : sepB c = false) : readB (c :: t) o = none := by
  rw [readB, hs, hk, if_neg hp]
  simp
theorem drop_at {s : List UInt8} {k : Nat} {c : UInt8} (hk : k < s.length) (hc : s.getD k 0 = c) : s.drop k = c :: s.drop (k + 1) := by
  rw [List.drop_eq_getElem_cons hk]
  congr 1
  simpa [hk] using hc
theorem sep_l (c : UInt8) (w : World) : Calls Tryz.prog 76 #[.string ⟨#[32, 45, 46, 47, 40, 41]⟩, .int .u8 c.toNat] w fun e w' => ∃ r : Int, e = .returned (.int .i64 r) ∧ (sepB c = true → 0 ≤ r) ∧ (sepB c = false → r < 0) ∧ w' = w := by
  refine (Tryz.strings_IndexByte ⟨#[32, 45, 46, 47, 40, 41]⟩ c.toNat w).mono ?_
  rintro e w' ⟨rfl, rfl⟩
  have := all_bytes (p := fun c => (!(sepB c) || decide (0 ≤ Lib.indexByte [32, 45, 46, 47, 40, 41] ((c.toNat : Int).toNat.toUInt8))) && (sepB c || decide (Lib.indexByte [32, 45, 46, 47, 40, 41] ((c.toNat : Int).toNat.toUInt8) < 0))) (by decide +kernel) c
  simp only [Bool.and_eq_true, Bool.or_eq_true, Bool.not_eq_true', decide_eq_true_eq] at this
  exact ⟨_, rfl, fun h => this.1.resolve_left (by rw [h]; decide), fun h => this.2.resolve_left (by rw [h]; decide), rfl⟩
end Go.Proofs.YthajppcmmmkfcaaGreatDoor
