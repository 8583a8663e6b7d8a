/- What is proved here: what media.Mix answers at sounds that are right. Condition: the sounds lie in memory as stated. -/
import Derived.Test.YtlllckclfpdhgaaDoorMixMath
import Derived.Test.YtlllckclfpdhgaaDoorRowF
namespace Go.Proofs.YtlllckclfpdhgaaDoor
open Go.RowKit
set_option linter.unusedVariables false
set_option linter.unusedSimpArgs false

theorem cut_any (n : Int) (w : World) : Calls Tryd.prog 54 #[.int .i64 n] w fun e w' => e = .returned (.int .i64 (cutI n)) ∧ w = w' := by
  go_enter Tryd.func54, Tryd.ntmps54
  go_wp2_with fail
  all_goals
    go_ret
    exact ⟨ret_int (by unfold cutI; omega), rfl⟩

/-- A slice of sounds in memory. -/
def LRow (w : World) (a : Option Addr) (n : Nat) (rows : List (List Int)) : Prop :=
  n = rows.length ∧ (n = 0 ∨ ∃ b off, a = some ⟨b, off, none⟩ ∧ b < w.heap.size ∧ ∀ i, i < n → ∃ ar cr, w.cell? ⟨b, off + i, none⟩ = some (.slice ar (rows.getD i []).length cr) ∧ IRow .i64 w ar (rows.getD i []).length (rows.getD i []))

set_option maxRecDepth 100000 in
set_option maxHeartbeats 4000000 in
theorem mix_any (w : World) (a : Option Addr) (n cap : Nat) (rows : List (List Int)) (hr : LRow w a n rows) (hs : ∀ k, Samples (rows.getD k [])) (hl : ∀ k, (rows.getD k []).length ≤ 20000) (hn : n ≤ 20) :
    Calls Tryd.prog 26 #[.slice a n cap] w (RowPost .i64 3 (mixL rows) w) := by
  obtain ⟨i0, hi, hz0, hz1, hz2⟩ := info_parts Tryd.infoInt
  have hL := longTo_bound rows 20000 hl n
  have HB8 : Hid (i0.bytes * longTo rows n ≤ 281474976710656) := by show _ ≤ _; rw [hz2]; omega
  have HML : Hid (longTo rows n ≤ maxLen) := by show _ ≤ maxLen; unfold maxLen; omega
  have Hr := Lib.hid hr
  have Hs := Lib.hid hs
  have Hl := Lib.hid hl
  clear hr hs hl
  go_enter Tryd.func26, Tryd.ntmps26
  go_wp2_with fail
  go_loop [4, 19] (fun s4 i => ∃ k : Nat, k ≤ n ∧ i = .int .i64 k ∧ s4 = .int .i64 (longTo rows k)) (fun _ i => n - (intOf i).toNat)
  case atStart => exact ⟨0, Nat.zero_le _, rfl, rfl⟩
  case round =>
    obtain ⟨k, hk, rfl, rfl⟩ := hrel
    by_cases hlt : k < n
    · rcases Hr.out.2 with h0 | ⟨b, off, rfl, hb, hc⟩
      · omega
      obtain ⟨ar, cr, c0, hrow⟩ := hc k hlt
      have HR := Lib.hid hrow
      have hlen := Hl.out k
      have hsam := Lib.hid (Hs.out k)
      have hnx : Hid (longTo rows (k + 1) = max (longTo rows k) (rows.getD k []).length) := rfl
      clear hc hrow
      generalize rows.getD k [] = r at c0 HR hlen hsam hnx
      go_wp2_with (go_at_call 30; refine (checkSamples_ok _ _ _ _ r HR.out hsam.out hlen).mono ?_; rintro e w' ⟨rfl, rfl⟩)
      all_goals
        go_round
        case rel => exact ⟨k + 1, by omega, by go_num, by rw [hnx.out]; exact congrArg (fun q : Int => Value.int .i64 q) (by omega)⟩
        case measure => simp [intOf]; omega
    · obtain rfl : k = n := by omega
      go_wp2_with (at_make; refine wpList_make_full _ rfl (.tmp 33) (.tmp 33) 22 rfl w.heap.size 3 i0 (.int .i64 0) 1 Tryd.underlying22 hi hz0 hz1 .i64 .i64 _ _ (longTo rows k) (by simp [Act.eval]) (by simp [Act.eval]) rfl rfl HB8.out HML.out (Nat.le_refl _) ?_; intro w1 hown1 hgr1)
      have hW1 := Lib.hid (below_of_grown_none hgr1)
      have HO := Lib.hid (RowF.start hown1)
      clear hown1 hgr1
      go_loopw [37] (fun i wr => ∃ q : Nat, q ≤ k ∧ i = .int .i64 q ∧ Hid (Below w.heap.size w wr) ∧ Hid (RowF .i64 wr w.heap.size 3 w.heap.size (longTo rows k) (fun i => sumTo rows i q))) (fun i _ => k - (intOf i).toNat)
      case atStart => exact ⟨0, Nat.zero_le _, rfl, hW1, HO⟩
      case round =>
        obtain ⟨q, hq, rfl, HB, HF⟩ := hrel
        by_cases hlt2 : q < k
        · rcases Hr.out.2 with h0 | ⟨b, off, rfl, hb, hc⟩
          · omega
          obtain ⟨ar, cr, c0', hrow⟩ := hc q hlt2
          have c0 := (HB.out.cell (p := ⟨b, off + q, none⟩) hb).trans c0'
          have HR := Lib.hid hrow
          have hlen := Hl.out q
          have hle := longTo_le rows k q hlt2
          have HSM := Lib.hid (fun i => sample_getD (Hs.out q) i)
          have HSB := Lib.hid (fun i => sumTo_bound rows Hs.out i q)
          have HNX : Hid (∀ i, sumTo rows i (q + 1) = sumTo rows i q + (rows.getD q []).getD i 0) := fun i => rfl
          clear hc hrow c0'
          generalize rows.getD q [] = r at c0 HR hlen hle HSM HNX
          obtain ⟨wo, rfl⟩ : ∃ wo : World, wo = wr := ⟨_, rfl⟩
          go_wp2_with fail
          go_loopw [43] (fun i wr => ∃ j : Nat, j ≤ r.length ∧ i = .int .i64 j ∧ Hid (Below w.heap.size w wr) ∧ Hid (RowF .i64 wr w.heap.size 3 w.heap.size (longTo rows k) (fun i => sumTo rows i q + if i < j then r.getD i 0 else 0))) (fun i _ => r.length - (intOf i).toNat)
          case atStart => exact ⟨0, Nat.zero_le _, rfl, HB, HF.out.congr (fun i _ => by simp)⟩
          case round =>
            obtain ⟨j, hj, rfl, HB2, HF2⟩ := hrel
            by_cases hlt3 : j < r.length
            · rcases HR.out.2 with h0 | ⟨b2, off2, rfl, hb2, hc2⟩
              · omega
              have d0 := (HB2.out.cell (p := ⟨b2, off2 + j, none⟩) hb2).trans (hc2 j hlt3)
              obtain ⟨e0, e1⟩ := HF2.out.at (j := j) (by omega)
              simp only [Nat.lt_irrefl, if_false, Int.add_zero] at e0
              have sb := HSB.out j
              have sm := HSM.out j
              have HNEW : Hid (∀ wq, wq = wr.setCell ⟨w.heap.size, j, none⟩ (.int .i64 (sumTo rows j q + r.getD j 0)) → RowF .i64 wq w.heap.size 3 w.heap.size (longTo rows k) (fun i => sumTo rows i q + if i < j + 1 then r.getD i 0 else 0)) := by
                rintro wq rfl
                refine HF2.out.set (fun i => ?_)
                by_cases hij : i = j
                · subst hij; rw [if_pos (by omega), if_pos rfl]
                · rw [if_neg hij]
                  by_cases h : i < j
                  · rw [if_pos (by omega), if_pos h]
                  · rw [if_neg (by omega), if_neg h]
              clear hc2
              generalize r.getD j 0 = x at d0 sm HNEW
              generalize sumTo rows j q = sv at e0 sb HNEW
              obtain ⟨sb0, sb1⟩ := sb
              obtain ⟨sm0, sm1⟩ := sm
              go_wp2_with fail
              go_roundw
              case rel => exact ⟨j + 1, by omega, by go_num, ext_setCell HB2.out (Nat.le_refl _), HNEW.out _ rfl⟩
              case measure => simp [intOf]; omega
            · obtain rfl : j = r.length := by omega
              go_wp2_with fail
              go_roundw
              case rel => exact ⟨q + 1, by omega, by go_num, HB2, HF2.out.congr (fun i _ => by
                rw [HNX.out i]
                by_cases h : i < r.length
                · rw [if_pos h]
                · rw [if_neg h, getD_short (by omega)])⟩
              case measure => simp [intOf]; omega
        · obtain rfl : q = k := by omega
          have HSB := Lib.hid (fun i => sumTo_bound rows Hs.out i q)
          obtain ⟨wo, rfl⟩ : ∃ wo : World, wo = wr := ⟨_, rfl⟩
          go_wp2_with fail
          go_loopw [59] (fun i wr => ∃ j : Nat, j ≤ longTo rows q ∧ i = .int .i64 j ∧ Hid (Below w.heap.size w wr) ∧ Hid (RowF .i64 wr w.heap.size 3 w.heap.size (longTo rows q) (fun i => if i < j then cutI (sumTo rows i q) else sumTo rows i q))) (fun i _ => longTo rows q - (intOf i).toNat)
          case atStart => exact ⟨0, Nat.zero_le _, rfl, HB, HF.out.congr (fun i _ => by simp)⟩
          case round =>
            obtain ⟨j, hj, rfl, HB2, HF2⟩ := hrel
            by_cases hlt3 : j < longTo rows q
            · obtain ⟨e0, e1⟩ := HF2.out.at (j := j) (by omega)
              simp only [Nat.lt_irrefl, if_false] at e0
              have HNEW : Hid (∀ wq, wq = wr.setCell ⟨w.heap.size, j, none⟩ (.int .i64 (cutI (sumTo rows j q))) → RowF .i64 wq w.heap.size 3 w.heap.size (longTo rows q) (fun i => if i < j + 1 then cutI (sumTo rows i q) else sumTo rows i q)) := by
                rintro wq rfl
                refine HF2.out.set (fun i => ?_)
                by_cases hij : i = j
                · subst hij; rw [if_pos (by omega), if_pos rfl]
                · rw [if_neg hij]
                  by_cases h : i < j
                  · rw [if_pos (by omega), if_pos h]
                  · rw [if_neg (by omega), if_neg h]
              generalize sumTo rows j q = sv at e0 HNEW
              go_wp2_with (go_at_call 54; refine (cut_any _ _).mono ?_; rintro e w' ⟨rfl, rfl⟩)
              go_roundw
              case rel => exact ⟨j + 1, by omega, by go_num, ext_setCell HB2.out (Nat.le_refl _), HNEW.out _ rfl⟩
              case measure => simp [intOf]; omega
            · obtain rfl : j = longTo rows q := by omega
              have hfin : Hid (wr.ownsRow w.heap.size 3 1 (.slice (some ⟨w.heap.size, 0, none⟩) (longTo rows q) (longTo rows q)) (mixL rows).length ((mixL rows).map (Value.int .i64))) := by
                refine HF2.out.list ?_ ?_
                · unfold mixL; rw [← Hr.out.1]; simp
                · intro i hi
                  unfold mixL
                  rw [← Hr.out.1, if_pos hi]
                  simp [List.getD_eq_getElem?_getD, hi]
              go_wp2_with fail
              go_ret2
              exact ⟨_, rfl, hfin.out, HB2.out⟩

set_option maxRecDepth 100000 in
set_option maxHeartbeats 1000000 in
theorem louder_256 (w : World) (a : Option Addr) (n cap : Nat) (xs : List Int) (hr : IRow .i64 w a n xs) (hs : Samples xs) (hn : n ≤ 20000) :
    Calls Tryd.prog 27 #[.slice a n cap, .int .i64 256] w (RowPost .i64 3 xs w) := by
  obtain ⟨i0, hi, hz0, hz1, hz2⟩ := info_parts Tryd.infoInt
  have Hr := Lib.hid hr
  have Hs := Lib.hid hs
  clear hr hs
  have HB8 : Hid (i0.bytes * n ≤ 281474976710656) := by show _ ≤ _; rw [hz2]; omega
  have HML : Hid (n ≤ maxLen) := by show n ≤ maxLen; unfold maxLen; omega
  go_enter Tryd.func27, Tryd.ntmps27
  go_wp2_with (first | (at_make; refine wpList_make_full _ rfl (.tmp 19) (.tmp 19) 22 rfl w.heap.size 3 i0 (.int .i64 0) 1 Tryd.underlying22 hi hz0 hz1 .i64 .i64 _ _ n (by simp [Act.eval]) (by simp [Act.eval]) rfl rfl HB8.out HML.out (Nat.le_refl _) ?_; intro w1 hown1 hgr1) | (go_at_call 30; refine (checkSamples_ok _ _ _ _ xs Hr.out Hs.out hn).mono ?_; rintro e w' ⟨rfl, rfl⟩) | (go_at_call 55; refine (within_m _ _ _ _ (by omega) (by omega)).mono ?_; rintro e w' ⟨rfl, rfl⟩))
  have hW1 := Lib.hid (below_of_grown_none hgr1)
  have HO : Hid (FillRow w1 w.heap.size 3 w.heap.size n 0 (xs.map (Value.int .i64)) (.int .i64 0)) := FillRow.start (by have := Hr.out.1; simp; omega) hown1
  clear hown1 hgr1
  go_loopw [23] (fun i wr => ∃ k : Nat, k ≤ n ∧ i = .int .i64 k ∧ Hid (Below w.heap.size w wr) ∧ Hid (FillRow wr w.heap.size 3 w.heap.size n k (xs.map (Value.int .i64)) (.int .i64 0))) (fun i _ => n - (intOf i).toNat)
  case atStart => exact ⟨0, Nat.zero_le _, rfl, hW1, HO⟩
  case round =>
    obtain ⟨k, hk, rfl, HB, HO2⟩ := hrel
    by_cases hlt : k < n
    · have hxl : k < xs.length := by rw [← Hr.out.1]; exact hlt
      rcases Hr.out.2 with h0 | ⟨b, off, rfl, hb, hc⟩
      · omega
      have c0 := (HB.out.cell (p := ⟨b, off + k, none⟩) hb).trans (hc k hlt)
      have hx := Hs.out _ (mem_getD (i := k) hxl)
      obtain ⟨hst, ⟨u, hu⟩, hf⟩ := HO2.out.step hlt (getD_map_int .i64 xs k hxl)
      have ST := Lib.hid hst
      clear hc hst hxl
      generalize xs.getD k 0 = x at c0 hx ST
      obtain ⟨x0, x1⟩ := hx
      have hcut := fun w0 => cut_any x w0
      rw [cut_sample x0 x1] at hcut
      have HC := Lib.hid hcut
      have e1 : x * 256 / 256 = x := Int.mul_ediv_cancel _ (by omega)
      clear hcut
      go_wp2_with (go_at_call 54; refine (HC.out _).mono ?_; rintro e w' ⟨rfl, rfl⟩)
      go_roundw
      case rel => exact ⟨k + 1, by omega, by go_num, ext_setCell HB.out (Nat.le_refl _), ST.out⟩
      case measure => simp [intOf]; omega
    · obtain rfl : k = n := by omega
      have hfin : Hid (wr.ownsRow w.heap.size 3 1 (.slice (some ⟨w.heap.size, 0, none⟩) k k) xs.length (xs.map (Value.int .i64))) := by
        have := HO2.out.done
        rwa [← Hr.out.1]
      go_wp2_with fail
      go_ret2
      exact ⟨_, rfl, hfin.out, HB.out⟩
end Go.Proofs.YtlllckclfpdhgaaDoor
