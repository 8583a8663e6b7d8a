/- What is proved here: Keys hears in each block what its strengths say. Condition: what is handed in lies in memory as stated. -/
import Derived.Test.YtlllckclfpdhgaaDoorKeyWalk
import Derived.Laws.BytesArg
namespace Go.Proofs.YtlllckclfpdhgaaDoor
open Go.RowKit
set_option linter.unusedVariables false
set_option linter.unusedSimpArgs false

theorem rows_any (w : World) : Calls Tryd.prog 58 #[] w fun e w' => e = .returned (.slice (some ⟨w.heap.size, 0, none⟩) 4 4) ∧ w' = w.alloc (.cells #[.int .i64 27980, .int .i64 26956, .int .i64 25701, .int .i64 24219] 3) := by
  go_enter Tryd.func58, Tryd.ntmps58
  go_wp2_with fail
  go_ret
  exact ⟨rfl, rfl⟩
theorem columns_any (w : World) : Calls Tryd.prog 59 #[] w fun e w' => e = .returned (.slice (some ⟨w.heap.size, 0, none⟩) 4 4) ∧ w' = w.alloc (.cells #[.int .i64 19073, .int .i64 16325, .int .i64 13085, .int .i64 9315] 3) := by
  go_enter Tryd.func59, Tryd.ntmps59
  go_wp2_with fail
  go_ret
  exact ⟨rfl, rfl⟩

theorem four_row (w : World) (x0 x1 x2 x3 : Int) : IRow .i64 (w.alloc (.cells #[.int .i64 x0, .int .i64 x1, .int .i64 x2, .int .i64 x3] 3)) (some ⟨w.heap.size, 0, none⟩) 4 [x0, x1, x2, x3] := by
  refine ⟨rfl, Or.inr ⟨w.heap.size, 0, rfl, by simp, fun i hi => ?_⟩⟩
  have : i = 0 ∨ i = 1 ∨ i = 2 ∨ i = 3 := by omega
  rcases this with rfl | rfl | rfl | rfl <;> simp

/-- The keys' signs. -/
def padI : List Int := [49, 50, 51, 65, 52, 53, 54, 66, 55, 56, 57, 67, 42, 48, 35, 68]
theorem pad_at (k : Nat) (h : k < 16) : (((⟨#[49, 50, 51, 65, 52, 53, 54, 66, 55, 56, 57, 67, 42, 48, 35, 68]⟩ : ByteArray)[k]'(by exact h)).toNat : Int) = padI.getD k 0 := by
  match k, h with
  | 0, _ => rfl
  | 1, _ => rfl
  | 2, _ => rfl
  | 3, _ => rfl
  | 4, _ => rfl
  | 5, _ => rfl
  | 6, _ => rfl
  | 7, _ => rfl
  | 8, _ => rfl
  | 9, _ => rfl
  | 10, _ => rfl
  | 11, _ => rfl
  | 12, _ => rfl
  | 13, _ => rfl
  | 14, _ => rfl
  | 15, _ => rfl
  | n + 16, h => exact absurd h (by omega)
/-- One block more: what was heard last, how often, the keys so far. -/
def hearI (s : Int × Int × List Int) (l : List Int) : Int × Int × List Int :=
  let key := classI l
  let last := if key = s.1 then s.1 else key
  let many := if key = s.1 then s.2.1 + 1 else 1
  (last, many, if many = 2 ∧ 0 ≤ key then s.2.2 ++ [padI.getD key.toNat 0] else s.2.2)
def blockI (xs : List Int) (k : Nat) : List Int := (xs.drop (205 * k)).take 205
def hearTo (xs : List Int) : Nat → Int × Int × List Int
  | 0 => (-1, 0, [])
  | k + 1 => hearI (hearTo xs k) (blockI xs k)

theorem classI_range (l : List Int) : -1 ≤ classI l ∧ classI l ≤ 15 := by
  have h : ∀ ns : List Int, ns.length = 4 → (strongI ns l).1 ≤ 3 := by
    intro ns hn
    unfold strongI
    simp only
    split
    · have := bestTo_lt (ns.map fun c => strI c l) (ns.map fun c => strI c l).length (by simp [hn])
      simp [hn] at this ⊢
      omega
    · simp
  have h1 := h rowsI rfl
  have h2 := h colsI rfl
  unfold classI
  simp only
  split <;> omega

set_option maxRecDepth 100000 in
set_option maxHeartbeats 4000000 in
theorem keys_any (w : World) (a : Option Addr) (n cap : Nat) (xs : List Int) (hr : IRow .i64 w a n xs) (hs : Samples xs) (hn : n ≤ 20000) (hnc : n ≤ cap) (hcm : cap ≤ 9223372036854775807) :
    Calls Tryd.prog 32 #[.slice a n cap] w fun e w' => e = .returned (.tuple #[.string ⟨((hearTo xs (n / 205)).2.2.map (fun x => UInt8.ofNat x.toNat)).toArray⟩, .int .i64 0]) ∧ Below w.heap.size w w' := by
  obtain ⟨i0, hi, hz0, hz1, hz2⟩ := info_parts Tryd.infoByte
  have HR := Lib.hid hr
  have HS := Lib.hid hs
  clear hr hs
  go_enter Tryd.func32, Tryd.ntmps32
  go_wp2_with fail
  refine (checkSamples_ok _ a n cap xs HR.out HS.out hn).mono ?_
  rintro e w1 ⟨rfl, rfl⟩
  go_wp2_with fail
  go_loopw [5, 6, 7, 8] (fun v ls mn it wr => ∃ (k : Nat) (l0 m0 : Int) (ys : List Int), 205 * k ≤ n ∧ it = .int .i64 (205 * k : Nat) ∧ ls = .int .i64 l0 ∧ mn = .int .i64 m0 ∧ 0 ≤ m0 ∧ m0 ≤ k ∧ Hid (hearTo xs k = (l0, m0, ys)) ∧ Hid (ys.length ≤ k) ∧ Hid (wr.ownsRow w.heap.size 5 1 v ys.length (ys.map (Value.int .u8))) ∧ Hid (Below w.heap.size w wr)) (fun _ _ _ it _ => n - (intOf it).toNat)
  case atStart => exact ⟨0, -1, 0, [], by omega, rfl, rfl, rfl, by omega, by omega, rfl, Nat.le_refl _, World.ownsRow_nil _ _ _ _, Below.refl _ _⟩
  case round =>
    obtain ⟨k, l0, m0, ys, hk, rfl, rfl, rfl, m00, m01, HH, HL, HO, HB⟩ := hrel
    by_cases hlt : 205 * k + 205 ≤ n
    · rcases HR.out.2 with h0 | ⟨b, off, rfl, hb, hc⟩
      · omega
      have hxl : Hid (n = xs.length) := HR.out.1
      have HBL : Hid (∀ w', Below w.heap.size w w' → IRow .i64 w' (some ⟨b, off + 205 * k, none⟩) 205 (blockI xs k)) := by
        intro w' hw'
        have hl : (blockI xs k).length = 205 := by unfold blockI; rw [List.length_take, List.length_drop, ← hxl.out]; omega
        refine ⟨hl.symm, Or.inr ⟨b, off + 205 * k, rfl, Nat.lt_of_lt_of_le hb hw'.size, fun i hi => ?_⟩⟩
        rw [hw'.cell (p := ⟨b, off + 205 * k + i, none⟩) hb, Nat.add_assoc, hc (205 * k + i) (by omega)]
        simp [blockI, List.getD_eq_getElem?_getD, List.getElem?_take, hi]
      have hcp : ¬ cap = 205 * k := by omega
      have q1 : (205 : Int) * k + 205 ≤ n := by omega
      have q2 : (205 : Int) * k + 205 ≤ cap := by omega
      have q3 : (0 : Int) ≤ 205 * k := by omega
      have q4 : ((205 : Int) * k).toNat = 205 * k := by omega
      have q5 : ((205 : Int) * k + 205).toNat = 205 * k + 205 := by omega
      have q6 : (205 : Int) * k ≤ 205 * k + 205 := by omega
      have q7 : (0 : Int) ≤ (205 : Int) * k + 205 := by omega
      have q8 : 205 * k + 205 - 205 * k = 205 := by omega
      have hk100 : k ≤ 100 := by omega
      have HC0 : Hid (hearTo xs (k + 1) = hearI (l0, m0, ys) (blockI xs k)) := by show _ = _; rw [← HH.out]; rfl
      have HCL : Hid (classI (blockI xs k) = if (strongI rowsI (blockI xs k)).2 && (strongI colsI (blockI xs k)).2 then 4 * ((strongI rowsI (blockI xs k)).1 : Int) + ((strongI colsI (blockI xs k)).1 : Int) else -1) := rfl
      have hrange := classI_range (blockI xs k)
      clear hc
      go_wp2_with fail
      refine (rows_any _).mono ?_
      rintro e w2 ⟨rfl, rfl⟩
      go_wp2_with fail
      refine (strongest_any _ _ _ 4 4 205 _ rowsI (blockI xs k) (four_row _ _ _ _ _) (HBL.out _ (HB.out.alloc HB.out.size _)) (by omega) (by omega) (by omega)).mono ?_
      rintro e w3 ⟨rfl, hb3⟩
      have HB3 : Hid (Below w.heap.size w w3) := HB.out.trans (Below.mono (ext_trans (ext_alloc (Below.refl _ wr)) hb3) HB.out.size)
      have HO3 := Lib.hid ((HO.out.alloc _).kept_below hb3)
      clear hb3
      go_wp2_with fail
      refine (columns_any _).mono ?_
      rintro e w4 ⟨rfl, rfl⟩
      go_wp2_with fail
      refine (strongest_any _ _ _ 4 4 205 _ colsI (blockI xs k) (four_row _ _ _ _ _) (HBL.out _ (HB3.out.alloc HB3.out.size _)) (by omega) (by omega) (by omega)).mono ?_
      rintro e w5 ⟨rfl, hb5⟩
      have HB5 : Hid (Below w.heap.size w w5) := HB3.out.trans (Below.mono (ext_trans (ext_alloc (Below.refl _ w3)) hb5) HB3.out.size)
      have HO5 := Lib.hid ((HO3.out.alloc _).kept_below hb5)
      have z5 := HB5.out.size
      clear hb5
      generalize strongI rowsI (blockI xs k) = rs at HCL
      generalize strongI colsI (blockI xs k) = cs at HCL
      obtain ⟨r1, rb⟩ := rs
      obtain ⟨c1, cb⟩ := cs
      generalize hkk : classI (blockI xs k) = key at HCL hrange
      have HKK := Lib.hid hkk
      clear hkk
      have HC1 : Hid (hearTo xs (k + 1) = (if key = l0 then l0 else key, if key = l0 then m0 + 1 else 1, if (if key = l0 then m0 + 1 else 1) = 2 ∧ 0 ≤ key then ys ++ [padI.getD key.toNat 0] else ys)) := by
        show _ = _; rw [HC0.out]; unfold hearI; simp only [HKK.out]
      have hll := HL.out
      cases rb with
      | true =>
        cases cb with
        | true =>
          have hke : key = 4 * (r1 : Int) + (c1 : Int) := HCL.out
          subst hke
          by_cases hkl : 4 * (r1 : Int) + (c1 : Int) = l0
          · have t1 : ((4 * (r1 : Int) + (c1 : Int)) != l0) = false := by simp; omega
            have HC2 := HC1.out
            rw [if_pos hkl, if_pos hkl] at HC2
            by_cases hm2 : m0 + 1 = 2
            · have t2 : ((m0 + 1) == 2) = true := by simpa using hm2
              rw [if_pos ⟨hm2, by omega⟩] at HC2
              have HN := Lib.hid HC2
              clear HC2
              obtain ⟨kn, rfl⟩ : ∃ kn : Nat, l0 = kn := ⟨l0.toNat, by omega⟩
              have hk16 : kn < 16 := by omega
              have hk17 : (kn : Int) < 16 := by omega
              have HO6 := Lib.hid (HO5.out.alloc (.cells #[.int .u8 (((⟨#[49, 50, 51, 65, 52, 53, 54, 66, 55, 56, 57, 67, 42, 48, 35, 68]⟩ : ByteArray)[kn]'(by exact hk16)).toNat : Int)] 5))
              have hrow := fun b e => (HO5.out.lt b e).1
              have hpad := pad_at kn hk16
              have HPD := Lib.hid hpad
              have hl21 : ys.length + 1 ≤ 1000 := by omega
              clear hpad
              go_wp2_with (at_builtin; refine wpList_append_own _ rfl (.tmp 64) (.tmp 67) 42 rfl w.heap.size 5 i0 (.int .u8 0) 1 1 Tryd.underlying42 hi hz0 hz1 hz2 rfl (by decide) _ ys.length (ys.map (Value.int .u8)) rfl HO6.out ⟨w5.heap.size, 0, none⟩ 1 1 [.int .u8 (((⟨#[49, 50, 51, 65, 52, 53, 54, 66, 55, 56, 57, 67, 42, 48, 35, 68]⟩ : ByteArray)[kn]'(by exact hk16)).toNat : Int)] rfl rfl (news_one (by go_simp)) (by simp [Value.oneCell']) (by simp only [maxLen]; omega) (by omega) (by simp; omega) ?_; intro v6 w6 hown6 hgr6 _)
              have HO7 : Hid (w6.ownsRow w.heap.size 5 1 v6 (ys ++ [padI.getD kn 0]).length ((ys ++ [padI.getD kn 0]).map (Value.int .u8))) := by
                show World.ownsRow _ _ _ _ _ _ _
                rw [List.length_append, List.map_append, ← HPD.out]; exact hown6
              have HB7 : Hid (Below w.heap.size w w6) := HB5.out.trans (upto_grown hgr6 z5 hrow)
              have HN2 : Hid (hearTo xs (k + 1) = ((kn : Int), m0 + 1, ys ++ [padI.getD kn 0])) := by show _ = _; rw [HN.out, hkl]; rfl
              clear hown6 hgr6
              go_roundw
              case rel => exact ⟨k + 1, kn, m0 + 1, _, by omega, by go_num, rfl, by go_num, by omega, by omega, HN2, by show _ ≤ _; rw [List.length_append]; simpa using hll, HO7, HB7⟩
              case measure => simp [intOf]; omega
            · have t2 : ((m0 + 1) == 2) = false := by simpa using hm2
              rw [if_neg (by omega)] at HC2
              have HN := Lib.hid HC2
              clear HC2
              go_wp2_with fail
              go_roundw
              case rel => exact ⟨k + 1, l0, m0 + 1, ys, by omega, by go_num, rfl, by go_num, by omega, by omega, HN, Nat.le_succ_of_le hll, HO5, HB5⟩
              case measure => simp [intOf]; omega
          · have t1 : ((4 * (r1 : Int) + (c1 : Int)) != l0) = true := by simp; omega
            have HC2 := HC1.out
            rw [if_neg hkl, if_neg hkl, if_neg (by omega)] at HC2
            have HN := Lib.hid HC2
            clear HC2
            go_wp2_with fail
            go_roundw
            case rel => exact ⟨k + 1, 4 * (r1 : Int) + (c1 : Int), 1, ys, by omega, by go_num, rfl, rfl, by omega, by omega, HN, Nat.le_succ_of_le hll, HO5, HB5⟩
            case measure => simp [intOf]; omega
        | false =>
          have hke : key = -1 := HCL.out
          subst hke
          by_cases hkl : -1 = l0
          · have t1 : ((-1) != l0) = false := by simp; omega
            have HC2 := HC1.out
            rw [if_pos hkl, if_pos hkl] at HC2
            by_cases hm2 : m0 + 1 = 2
            · have t2 : ((m0 + 1) == 2) = true := by simpa using hm2
              rw [if_neg (by omega)] at HC2
              have HN := Lib.hid HC2
              clear HC2
              go_wp2_with fail
              go_roundw
              case rel => exact ⟨k + 1, l0, m0 + 1, ys, by omega, by go_num, rfl, by go_num, by omega, by omega, HN, Nat.le_succ_of_le hll, HO5, HB5⟩
              case measure => simp [intOf]; omega
            · have t2 : ((m0 + 1) == 2) = false := by simpa using hm2
              rw [if_neg (by omega)] at HC2
              have HN := Lib.hid HC2
              clear HC2
              go_wp2_with fail
              go_roundw
              case rel => exact ⟨k + 1, l0, m0 + 1, ys, by omega, by go_num, rfl, by go_num, by omega, by omega, HN, Nat.le_succ_of_le hll, HO5, HB5⟩
              case measure => simp [intOf]; omega
          · have t1 : ((-1) != l0) = true := by simp; omega
            have HC2 := HC1.out
            rw [if_neg hkl, if_neg hkl, if_neg (by omega)] at HC2
            have HN := Lib.hid HC2
            clear HC2
            go_wp2_with fail
            go_roundw
            case rel => exact ⟨k + 1, -1, 1, ys, by omega, by go_num, rfl, rfl, by omega, by omega, HN, Nat.le_succ_of_le hll, HO5, HB5⟩
            case measure => simp [intOf]; omega
      | false =>
        cases cb with
        | true =>
          have hke : key = -1 := HCL.out
          subst hke
          by_cases hkl : -1 = l0
          · have t1 : ((-1) != l0) = false := by simp; omega
            have HC2 := HC1.out
            rw [if_pos hkl, if_pos hkl] at HC2
            by_cases hm2 : m0 + 1 = 2
            · have t2 : ((m0 + 1) == 2) = true := by simpa using hm2
              rw [if_neg (by omega)] at HC2
              have HN := Lib.hid HC2
              clear HC2
              go_wp2_with fail
              go_roundw
              case rel => exact ⟨k + 1, l0, m0 + 1, ys, by omega, by go_num, rfl, by go_num, by omega, by omega, HN, Nat.le_succ_of_le hll, HO5, HB5⟩
              case measure => simp [intOf]; omega
            · have t2 : ((m0 + 1) == 2) = false := by simpa using hm2
              rw [if_neg (by omega)] at HC2
              have HN := Lib.hid HC2
              clear HC2
              go_wp2_with fail
              go_roundw
              case rel => exact ⟨k + 1, l0, m0 + 1, ys, by omega, by go_num, rfl, by go_num, by omega, by omega, HN, Nat.le_succ_of_le hll, HO5, HB5⟩
              case measure => simp [intOf]; omega
          · have t1 : ((-1) != l0) = true := by simp; omega
            have HC2 := HC1.out
            rw [if_neg hkl, if_neg hkl, if_neg (by omega)] at HC2
            have HN := Lib.hid HC2
            clear HC2
            go_wp2_with fail
            go_roundw
            case rel => exact ⟨k + 1, -1, 1, ys, by omega, by go_num, rfl, rfl, by omega, by omega, HN, Nat.le_succ_of_le hll, HO5, HB5⟩
            case measure => simp [intOf]; omega
        | false =>
          have hke : key = -1 := HCL.out
          subst hke
          by_cases hkl : -1 = l0
          · have t1 : ((-1) != l0) = false := by simp; omega
            have HC2 := HC1.out
            rw [if_pos hkl, if_pos hkl] at HC2
            by_cases hm2 : m0 + 1 = 2
            · have t2 : ((m0 + 1) == 2) = true := by simpa using hm2
              rw [if_neg (by omega)] at HC2
              have HN := Lib.hid HC2
              clear HC2
              go_wp2_with fail
              go_roundw
              case rel => exact ⟨k + 1, l0, m0 + 1, ys, by omega, by go_num, rfl, by go_num, by omega, by omega, HN, Nat.le_succ_of_le hll, HO5, HB5⟩
              case measure => simp [intOf]; omega
            · have t2 : ((m0 + 1) == 2) = false := by simpa using hm2
              rw [if_neg (by omega)] at HC2
              have HN := Lib.hid HC2
              clear HC2
              go_wp2_with fail
              go_roundw
              case rel => exact ⟨k + 1, l0, m0 + 1, ys, by omega, by go_num, rfl, by go_num, by omega, by omega, HN, Nat.le_succ_of_le hll, HO5, HB5⟩
              case measure => simp [intOf]; omega
          · have t1 : ((-1) != l0) = true := by simp; omega
            have HC2 := HC1.out
            rw [if_neg hkl, if_neg hkl, if_neg (by omega)] at HC2
            have HN := Lib.hid HC2
            clear HC2
            go_wp2_with fail
            go_roundw
            case rel => exact ⟨k + 1, -1, 1, ys, by omega, by go_num, rfl, rfl, by omega, by omega, HN, Nat.le_succ_of_le hll, HO5, HB5⟩
            case measure => simp [intOf]; omega
    · have hkn : n / 205 = k := by omega
      have HF : Hid ((hearTo xs (n / 205)).2.2 = ys) := by show _ = _; rw [hkn, HH.out]
      have hll := HL.out
      clear hkn
      rcases HO.out.2 with ⟨rfl, h0⟩ | ⟨g, cv, cur, rfl, _⟩
      · have hy : ys = [] := List.eq_nil_of_length_eq_zero h0
        have hcv := run_convert_bytes_nil (P := Tryd.prog) wr 42 5 Tryd.underlying42 Tryd.underlying5 0 0 9 Tryd.underlying9
        subst hy
        go_wp2_with fail
        go_ret2
        exact ⟨by rw [HF.out]; rfl, HB.out⟩
      · have hat : ∀ i, i < ys.length → wr.cell? ⟨g, 0 + i, none⟩ = some (.int .u8 (ys.getD i 0)) := by
          intro i hi
          rw [Nat.zero_add, HO.out.cellAt i (by omega), getD_map_int .u8 _ i hi]
        have hcv := run_convert_bytes_arg (P := Tryd.prog) wr 42 5 Tryd.underlying42 Tryd.underlying5 g 0 ys.length cv ys rfl hat 9 Tryd.underlying9
        clear hat
        go_wp2_with fail
        go_ret2
        exact ⟨by rw [HF.out]; rfl, HB.out⟩
end Go.Proofs.YtlllckclfpdhgaaDoor
