/- What is proved here: what media.Compress answers at a sample. Condition: the number is a sample. -/
import Derived.Test.YtlllckclfpdhgaaDoorBase
import Derived.Test.YtlllckclfpdhgaaDoorMediaMath
namespace Go.Proofs.YtlllckclfpdhgaaDoor
open Go.RowKit
set_option linter.unusedVariables false
set_option linter.unusedSimpArgs false

theorem within_m (n lo hi : Int) (w : World) (h1 : lo ≤ n) (h2 : n ≤ hi) :
    Calls Tryd.prog 55 #[.int .i64 n, .int .i64 lo, .int .i64 hi] w fun e w' => e = .returned (.bool true) ∧ w = w' := by
  go_enter Tryd.func55, Tryd.ntmps55
  go_wp2
  go_ret
  exact ⟨rfl, rfl⟩

theorem isSample_yes (n : Int) (w : World) (h1 : -32768 ≤ n) (h2 : n ≤ 32767) :
    Calls Tryd.prog 53 #[.int .i64 n] w fun e w' => e = .returned (.bool true) ∧ w = w' := by
  go_enter Tryd.func53, Tryd.ntmps53
  go_wp2_with (go_at_call 55; refine (within_m _ _ _ _ (by omega) (by omega)).mono ?_; rintro e w' ⟨rfl, rfl⟩)
  go_ret
  exact ⟨rfl, rfl⟩

set_option maxHeartbeats 2000000 in
theorem compress_nb (n : Int) (w : World) (h1 : -32768 ≤ n) (h2 : n ≤ 32767) (hs : n < 0) (hb : 8158 < (-n - 1) / 4) :
    Calls Tryd.prog 22 #[.int .i64 n] w fun e w' => e = .returned (.tuple #[.int .u8 (compI n), .int .i64 0]) ∧ w = w' := by
  have hm : magn n = 8191 := by unfold magn; rw [if_pos hs]; omega
  have hr := magn_range n h1 h2
  have hc : compI n = 255 - (128 + 16 * (expo (magn n) : Int) + (magn n / 2 ^ (expo (magn n) + 1) - 16)) := by unfold compI; rw [if_pos hs]
  have hcr := comp_range n h1 h2
  rw [hm] at hr hc
  have HC := Lib.hid hc
  have HR := Lib.hid hcr
  obtain ⟨r0, r1⟩ := hr
  clear hcr hm hc
  go_enter Tryd.func22, Tryd.ntmps22
  go_wp2_with (go_at_call 53; refine (isSample_yes _ _ (by omega) (by omega)).mono ?_; rintro e w' ⟨rfl, rfl⟩)
  go_loop [6] (fun s6 => ∃ e : Nat, e ≤ 7 ∧ s6 = .int .i64 e ∧ Hid (expo 8191 = expoTo 8191 (7 - e))) (fun s6 => 7 - (intOf s6).toNat)
  case atStart => exact ⟨0, by omega, rfl, rfl⟩
  case round =>
    obtain ⟨e, he, rfl, HE⟩ := hrel
    have h8 : e = 0 ∨ e = 1 ∨ e = 2 ∨ e = 3 ∨ e = 4 ∨ e = 5 ∨ e = 6 ∨ e = 7 := by omega
    rcases h8 with rfl | rfl | rfl | rfl | rfl | rfl | rfl | rfl
    · go_wp2_with fail
      go_round
      case rel => exact ⟨1, by omega, by go_num, HE.out.trans (expoTo_up0 _ (by omega))⟩
      case measure => simp [intOf]
    · go_wp2_with fail
      go_round
      case rel => exact ⟨2, by omega, by go_num, HE.out.trans (expoTo_up1 _ (by omega))⟩
      case measure => simp [intOf]
    · go_wp2_with fail
      go_round
      case rel => exact ⟨3, by omega, by go_num, HE.out.trans (expoTo_up2 _ (by omega))⟩
      case measure => simp [intOf]
    · go_wp2_with fail
      go_round
      case rel => exact ⟨4, by omega, by go_num, HE.out.trans (expoTo_up3 _ (by omega))⟩
      case measure => simp [intOf]
    · go_wp2_with fail
      go_round
      case rel => exact ⟨5, by omega, by go_num, HE.out.trans (expoTo_up4 _ (by omega))⟩
      case measure => simp [intOf]
    · go_wp2_with fail
      go_round
      case rel => exact ⟨6, by omega, by go_num, HE.out.trans (expoTo_up5 _ (by omega))⟩
      case measure => simp [intOf]
    · go_wp2_with fail
      go_round
      case rel => exact ⟨7, by omega, by go_num, HE.out.trans (expoTo_up6 _ (by omega))⟩
      case measure => simp [intOf]
    · have hx : expo 8191 = 7 := HE.out.trans (expoTo_out7 _)
      have hv := HC.out
      rw [hx] at hv
      have HV := Lib.hid hv
      clear hv hx
      go_wp2_with fail
      go_ret2
      refine ⟨?_, rfl⟩
      have hr2 := HR.out
      rw [HV.out] at hr2 ⊢
      exact congrArg (fun x => Ending.returned (.tuple #[.int .u8 x, .int .i64 0])) (by first | omega | (simp; omega))
set_option maxHeartbeats 2000000 in
theorem compress_ns (n : Int) (w : World) (h1 : -32768 ≤ n) (h2 : n ≤ 32767) (hs : n < 0) (hb : (-n - 1) / 4 ≤ 8158) :
    Calls Tryd.prog 22 #[.int .i64 n] w fun e w' => e = .returned (.tuple #[.int .u8 (compI n), .int .i64 0]) ∧ w = w' := by
  have hm : magn n = ((-n - 1) / 4 + 33) := by unfold magn; rw [if_pos hs]; omega
  have hr := magn_range n h1 h2
  have hc : compI n = 255 - (128 + 16 * (expo (magn n) : Int) + (magn n / 2 ^ (expo (magn n) + 1) - 16)) := by unfold compI; rw [if_pos hs]
  have hcr := comp_range n h1 h2
  rw [hm] at hr hc
  have HC := Lib.hid hc
  have HR := Lib.hid hcr
  obtain ⟨r0, r1⟩ := hr
  clear hcr hm hc
  go_enter Tryd.func22, Tryd.ntmps22
  go_wp2_with (go_at_call 53; refine (isSample_yes _ _ (by omega) (by omega)).mono ?_; rintro e w' ⟨rfl, rfl⟩)
  go_loop [6] (fun s6 => ∃ e : Nat, e ≤ 7 ∧ s6 = .int .i64 e ∧ Hid (expo ((-n - 1) / 4 + 33) = expoTo ((-n - 1) / 4 + 33) (7 - e))) (fun s6 => 7 - (intOf s6).toNat)
  case atStart => exact ⟨0, by omega, rfl, rfl⟩
  case round =>
    obtain ⟨e, he, rfl, HE⟩ := hrel
    have h8 : e = 0 ∨ e = 1 ∨ e = 2 ∨ e = 3 ∨ e = 4 ∨ e = 5 ∨ e = 6 ∨ e = 7 := by omega
    rcases h8 with rfl | rfl | rfl | rfl | rfl | rfl | rfl | rfl
    · by_cases hq : 64 ≤ ((-n - 1) / 4 + 33)
      · go_wp2_with fail
        go_round
        case rel => exact ⟨1, by omega, by go_num, HE.out.trans (expoTo_up0 _ (by omega))⟩
        case measure => simp [intOf]
      · have hx : expo ((-n - 1) / 4 + 33) = 0 := HE.out.trans (expoTo_out0 _ hq)
        have hv := HC.out
        rw [hx] at hv
        have HV := Lib.hid hv
        clear hv hx
        go_wp2_with fail
        go_ret2
        refine ⟨?_, rfl⟩
        have hr2 := HR.out
        rw [HV.out] at hr2 ⊢
        exact congrArg (fun x => Ending.returned (.tuple #[.int .u8 x, .int .i64 0])) (by first | omega | (simp; omega))
    · by_cases hq : 128 ≤ ((-n - 1) / 4 + 33)
      · go_wp2_with fail
        go_round
        case rel => exact ⟨2, by omega, by go_num, HE.out.trans (expoTo_up1 _ (by omega))⟩
        case measure => simp [intOf]
      · have hx : expo ((-n - 1) / 4 + 33) = 1 := HE.out.trans (expoTo_out1 _ hq)
        have hv := HC.out
        rw [hx] at hv
        have HV := Lib.hid hv
        clear hv hx
        go_wp2_with fail
        go_ret2
        refine ⟨?_, rfl⟩
        have hr2 := HR.out
        rw [HV.out] at hr2 ⊢
        exact congrArg (fun x => Ending.returned (.tuple #[.int .u8 x, .int .i64 0])) (by first | omega | (simp; omega))
    · by_cases hq : 256 ≤ ((-n - 1) / 4 + 33)
      · go_wp2_with fail
        go_round
        case rel => exact ⟨3, by omega, by go_num, HE.out.trans (expoTo_up2 _ (by omega))⟩
        case measure => simp [intOf]
      · have hx : expo ((-n - 1) / 4 + 33) = 2 := HE.out.trans (expoTo_out2 _ hq)
        have hv := HC.out
        rw [hx] at hv
        have HV := Lib.hid hv
        clear hv hx
        go_wp2_with fail
        go_ret2
        refine ⟨?_, rfl⟩
        have hr2 := HR.out
        rw [HV.out] at hr2 ⊢
        exact congrArg (fun x => Ending.returned (.tuple #[.int .u8 x, .int .i64 0])) (by first | omega | (simp; omega))
    · by_cases hq : 512 ≤ ((-n - 1) / 4 + 33)
      · go_wp2_with fail
        go_round
        case rel => exact ⟨4, by omega, by go_num, HE.out.trans (expoTo_up3 _ (by omega))⟩
        case measure => simp [intOf]
      · have hx : expo ((-n - 1) / 4 + 33) = 3 := HE.out.trans (expoTo_out3 _ hq)
        have hv := HC.out
        rw [hx] at hv
        have HV := Lib.hid hv
        clear hv hx
        go_wp2_with fail
        go_ret2
        refine ⟨?_, rfl⟩
        have hr2 := HR.out
        rw [HV.out] at hr2 ⊢
        exact congrArg (fun x => Ending.returned (.tuple #[.int .u8 x, .int .i64 0])) (by first | omega | (simp; omega))
    · by_cases hq : 1024 ≤ ((-n - 1) / 4 + 33)
      · go_wp2_with fail
        go_round
        case rel => exact ⟨5, by omega, by go_num, HE.out.trans (expoTo_up4 _ (by omega))⟩
        case measure => simp [intOf]
      · have hx : expo ((-n - 1) / 4 + 33) = 4 := HE.out.trans (expoTo_out4 _ hq)
        have hv := HC.out
        rw [hx] at hv
        have HV := Lib.hid hv
        clear hv hx
        go_wp2_with fail
        go_ret2
        refine ⟨?_, rfl⟩
        have hr2 := HR.out
        rw [HV.out] at hr2 ⊢
        exact congrArg (fun x => Ending.returned (.tuple #[.int .u8 x, .int .i64 0])) (by first | omega | (simp; omega))
    · by_cases hq : 2048 ≤ ((-n - 1) / 4 + 33)
      · go_wp2_with fail
        go_round
        case rel => exact ⟨6, by omega, by go_num, HE.out.trans (expoTo_up5 _ (by omega))⟩
        case measure => simp [intOf]
      · have hx : expo ((-n - 1) / 4 + 33) = 5 := HE.out.trans (expoTo_out5 _ hq)
        have hv := HC.out
        rw [hx] at hv
        have HV := Lib.hid hv
        clear hv hx
        go_wp2_with fail
        go_ret2
        refine ⟨?_, rfl⟩
        have hr2 := HR.out
        rw [HV.out] at hr2 ⊢
        exact congrArg (fun x => Ending.returned (.tuple #[.int .u8 x, .int .i64 0])) (by first | omega | (simp; omega))
    · by_cases hq : 4096 ≤ ((-n - 1) / 4 + 33)
      · go_wp2_with fail
        go_round
        case rel => exact ⟨7, by omega, by go_num, HE.out.trans (expoTo_up6 _ (by omega))⟩
        case measure => simp [intOf]
      · have hx : expo ((-n - 1) / 4 + 33) = 6 := HE.out.trans (expoTo_out6 _ hq)
        have hv := HC.out
        rw [hx] at hv
        have HV := Lib.hid hv
        clear hv hx
        go_wp2_with fail
        go_ret2
        refine ⟨?_, rfl⟩
        have hr2 := HR.out
        rw [HV.out] at hr2 ⊢
        exact congrArg (fun x => Ending.returned (.tuple #[.int .u8 x, .int .i64 0])) (by first | omega | (simp; omega))
    · have hx : expo ((-n - 1) / 4 + 33) = 7 := HE.out.trans (expoTo_out7 _)
      have hv := HC.out
      rw [hx] at hv
      have HV := Lib.hid hv
      clear hv hx
      go_wp2_with fail
      go_ret2
      refine ⟨?_, rfl⟩
      have hr2 := HR.out
      rw [HV.out] at hr2 ⊢
      exact congrArg (fun x => Ending.returned (.tuple #[.int .u8 x, .int .i64 0])) (by first | omega | (simp; omega))
set_option maxHeartbeats 2000000 in
theorem compress_pb (n : Int) (w : World) (h1 : -32768 ≤ n) (h2 : n ≤ 32767) (hs : 0 ≤ n) (hb : 8158 < n / 4) :
    Calls Tryd.prog 22 #[.int .i64 n] w fun e w' => e = .returned (.tuple #[.int .u8 (compI n), .int .i64 0]) ∧ w = w' := by
  have hm : magn n = 8191 := by unfold magn; rw [if_neg (by omega)]; omega
  have hr := magn_range n h1 h2
  have hc : compI n = 255 - (0 + 16 * (expo (magn n) : Int) + (magn n / 2 ^ (expo (magn n) + 1) - 16)) := by unfold compI; rw [if_neg (by omega)]
  have hcr := comp_range n h1 h2
  rw [hm] at hr hc
  have HC := Lib.hid hc
  have HR := Lib.hid hcr
  obtain ⟨r0, r1⟩ := hr
  clear hcr hm hc
  go_enter Tryd.func22, Tryd.ntmps22
  go_wp2_with (go_at_call 53; refine (isSample_yes _ _ (by omega) (by omega)).mono ?_; rintro e w' ⟨rfl, rfl⟩)
  go_loop [6] (fun s6 => ∃ e : Nat, e ≤ 7 ∧ s6 = .int .i64 e ∧ Hid (expo 8191 = expoTo 8191 (7 - e))) (fun s6 => 7 - (intOf s6).toNat)
  case atStart => exact ⟨0, by omega, rfl, rfl⟩
  case round =>
    obtain ⟨e, he, rfl, HE⟩ := hrel
    have h8 : e = 0 ∨ e = 1 ∨ e = 2 ∨ e = 3 ∨ e = 4 ∨ e = 5 ∨ e = 6 ∨ e = 7 := by omega
    rcases h8 with rfl | rfl | rfl | rfl | rfl | rfl | rfl | rfl
    · go_wp2_with fail
      go_round
      case rel => exact ⟨1, by omega, by go_num, HE.out.trans (expoTo_up0 _ (by omega))⟩
      case measure => simp [intOf]
    · go_wp2_with fail
      go_round
      case rel => exact ⟨2, by omega, by go_num, HE.out.trans (expoTo_up1 _ (by omega))⟩
      case measure => simp [intOf]
    · go_wp2_with fail
      go_round
      case rel => exact ⟨3, by omega, by go_num, HE.out.trans (expoTo_up2 _ (by omega))⟩
      case measure => simp [intOf]
    · go_wp2_with fail
      go_round
      case rel => exact ⟨4, by omega, by go_num, HE.out.trans (expoTo_up3 _ (by omega))⟩
      case measure => simp [intOf]
    · go_wp2_with fail
      go_round
      case rel => exact ⟨5, by omega, by go_num, HE.out.trans (expoTo_up4 _ (by omega))⟩
      case measure => simp [intOf]
    · go_wp2_with fail
      go_round
      case rel => exact ⟨6, by omega, by go_num, HE.out.trans (expoTo_up5 _ (by omega))⟩
      case measure => simp [intOf]
    · go_wp2_with fail
      go_round
      case rel => exact ⟨7, by omega, by go_num, HE.out.trans (expoTo_up6 _ (by omega))⟩
      case measure => simp [intOf]
    · have hx : expo 8191 = 7 := HE.out.trans (expoTo_out7 _)
      have hv := HC.out
      rw [hx] at hv
      have HV := Lib.hid hv
      clear hv hx
      go_wp2_with fail
      go_ret2
      refine ⟨?_, rfl⟩
      have hr2 := HR.out
      rw [HV.out] at hr2 ⊢
      exact congrArg (fun x => Ending.returned (.tuple #[.int .u8 x, .int .i64 0])) (by first | omega | (simp; omega))
set_option maxHeartbeats 2000000 in
theorem compress_ps (n : Int) (w : World) (h1 : -32768 ≤ n) (h2 : n ≤ 32767) (hs : 0 ≤ n) (hb : n / 4 ≤ 8158) :
    Calls Tryd.prog 22 #[.int .i64 n] w fun e w' => e = .returned (.tuple #[.int .u8 (compI n), .int .i64 0]) ∧ w = w' := by
  have hm : magn n = (n / 4 + 33) := by unfold magn; rw [if_neg (by omega)]; omega
  have hr := magn_range n h1 h2
  have hc : compI n = 255 - (0 + 16 * (expo (magn n) : Int) + (magn n / 2 ^ (expo (magn n) + 1) - 16)) := by unfold compI; rw [if_neg (by omega)]
  have hcr := comp_range n h1 h2
  rw [hm] at hr hc
  have HC := Lib.hid hc
  have HR := Lib.hid hcr
  obtain ⟨r0, r1⟩ := hr
  clear hcr hm hc
  go_enter Tryd.func22, Tryd.ntmps22
  go_wp2_with (go_at_call 53; refine (isSample_yes _ _ (by omega) (by omega)).mono ?_; rintro e w' ⟨rfl, rfl⟩)
  go_loop [6] (fun s6 => ∃ e : Nat, e ≤ 7 ∧ s6 = .int .i64 e ∧ Hid (expo (n / 4 + 33) = expoTo (n / 4 + 33) (7 - e))) (fun s6 => 7 - (intOf s6).toNat)
  case atStart => exact ⟨0, by omega, rfl, rfl⟩
  case round =>
    obtain ⟨e, he, rfl, HE⟩ := hrel
    have h8 : e = 0 ∨ e = 1 ∨ e = 2 ∨ e = 3 ∨ e = 4 ∨ e = 5 ∨ e = 6 ∨ e = 7 := by omega
    rcases h8 with rfl | rfl | rfl | rfl | rfl | rfl | rfl | rfl
    · by_cases hq : 64 ≤ (n / 4 + 33)
      · go_wp2_with fail
        go_round
        case rel => exact ⟨1, by omega, by go_num, HE.out.trans (expoTo_up0 _ (by omega))⟩
        case measure => simp [intOf]
      · have hx : expo (n / 4 + 33) = 0 := HE.out.trans (expoTo_out0 _ hq)
        have hv := HC.out
        rw [hx] at hv
        have HV := Lib.hid hv
        clear hv hx
        go_wp2_with fail
        go_ret2
        refine ⟨?_, rfl⟩
        have hr2 := HR.out
        rw [HV.out] at hr2 ⊢
        exact congrArg (fun x => Ending.returned (.tuple #[.int .u8 x, .int .i64 0])) (by first | omega | (simp; omega))
    · by_cases hq : 128 ≤ (n / 4 + 33)
      · go_wp2_with fail
        go_round
        case rel => exact ⟨2, by omega, by go_num, HE.out.trans (expoTo_up1 _ (by omega))⟩
        case measure => simp [intOf]
      · have hx : expo (n / 4 + 33) = 1 := HE.out.trans (expoTo_out1 _ hq)
        have hv := HC.out
        rw [hx] at hv
        have HV := Lib.hid hv
        clear hv hx
        go_wp2_with fail
        go_ret2
        refine ⟨?_, rfl⟩
        have hr2 := HR.out
        rw [HV.out] at hr2 ⊢
        exact congrArg (fun x => Ending.returned (.tuple #[.int .u8 x, .int .i64 0])) (by first | omega | (simp; omega))
    · by_cases hq : 256 ≤ (n / 4 + 33)
      · go_wp2_with fail
        go_round
        case rel => exact ⟨3, by omega, by go_num, HE.out.trans (expoTo_up2 _ (by omega))⟩
        case measure => simp [intOf]
      · have hx : expo (n / 4 + 33) = 2 := HE.out.trans (expoTo_out2 _ hq)
        have hv := HC.out
        rw [hx] at hv
        have HV := Lib.hid hv
        clear hv hx
        go_wp2_with fail
        go_ret2
        refine ⟨?_, rfl⟩
        have hr2 := HR.out
        rw [HV.out] at hr2 ⊢
        exact congrArg (fun x => Ending.returned (.tuple #[.int .u8 x, .int .i64 0])) (by first | omega | (simp; omega))
    · by_cases hq : 512 ≤ (n / 4 + 33)
      · go_wp2_with fail
        go_round
        case rel => exact ⟨4, by omega, by go_num, HE.out.trans (expoTo_up3 _ (by omega))⟩
        case measure => simp [intOf]
      · have hx : expo (n / 4 + 33) = 3 := HE.out.trans (expoTo_out3 _ hq)
        have hv := HC.out
        rw [hx] at hv
        have HV := Lib.hid hv
        clear hv hx
        go_wp2_with fail
        go_ret2
        refine ⟨?_, rfl⟩
        have hr2 := HR.out
        rw [HV.out] at hr2 ⊢
        exact congrArg (fun x => Ending.returned (.tuple #[.int .u8 x, .int .i64 0])) (by first | omega | (simp; omega))
    · by_cases hq : 1024 ≤ (n / 4 + 33)
      · go_wp2_with fail
        go_round
        case rel => exact ⟨5, by omega, by go_num, HE.out.trans (expoTo_up4 _ (by omega))⟩
        case measure => simp [intOf]
      · have hx : expo (n / 4 + 33) = 4 := HE.out.trans (expoTo_out4 _ hq)
        have hv := HC.out
        rw [hx] at hv
        have HV := Lib.hid hv
        clear hv hx
        go_wp2_with fail
        go_ret2
        refine ⟨?_, rfl⟩
        have hr2 := HR.out
        rw [HV.out] at hr2 ⊢
        exact congrArg (fun x => Ending.returned (.tuple #[.int .u8 x, .int .i64 0])) (by first | omega | (simp; omega))
    · by_cases hq : 2048 ≤ (n / 4 + 33)
      · go_wp2_with fail
        go_round
        case rel => exact ⟨6, by omega, by go_num, HE.out.trans (expoTo_up5 _ (by omega))⟩
        case measure => simp [intOf]
      · have hx : expo (n / 4 + 33) = 5 := HE.out.trans (expoTo_out5 _ hq)
        have hv := HC.out
        rw [hx] at hv
        have HV := Lib.hid hv
        clear hv hx
        go_wp2_with fail
        go_ret2
        refine ⟨?_, rfl⟩
        have hr2 := HR.out
        rw [HV.out] at hr2 ⊢
        exact congrArg (fun x => Ending.returned (.tuple #[.int .u8 x, .int .i64 0])) (by first | omega | (simp; omega))
    · by_cases hq : 4096 ≤ (n / 4 + 33)
      · go_wp2_with fail
        go_round
        case rel => exact ⟨7, by omega, by go_num, HE.out.trans (expoTo_up6 _ (by omega))⟩
        case measure => simp [intOf]
      · have hx : expo (n / 4 + 33) = 6 := HE.out.trans (expoTo_out6 _ hq)
        have hv := HC.out
        rw [hx] at hv
        have HV := Lib.hid hv
        clear hv hx
        go_wp2_with fail
        go_ret2
        refine ⟨?_, rfl⟩
        have hr2 := HR.out
        rw [HV.out] at hr2 ⊢
        exact congrArg (fun x => Ending.returned (.tuple #[.int .u8 x, .int .i64 0])) (by first | omega | (simp; omega))
    · have hx : expo (n / 4 + 33) = 7 := HE.out.trans (expoTo_out7 _)
      have hv := HC.out
      rw [hx] at hv
      have HV := Lib.hid hv
      clear hv hx
      go_wp2_with fail
      go_ret2
      refine ⟨?_, rfl⟩
      have hr2 := HR.out
      rw [HV.out] at hr2 ⊢
      exact congrArg (fun x => Ending.returned (.tuple #[.int .u8 x, .int .i64 0])) (by first | omega | (simp; omega))

theorem compress_any (n : Int) (w : World) (h1 : -32768 ≤ n) (h2 : n ≤ 32767) :
    Calls Tryd.prog 22 #[.int .i64 n] w fun e w' => e = .returned (.tuple #[.int .u8 (compI n), .int .i64 0]) ∧ w = w' := by
  by_cases hs : n < 0
  · by_cases hb : (-n - 1) / 4 ≤ 8158
    · exact compress_ns n w h1 h2 hs hb
    · exact compress_nb n w h1 h2 hs (by omega)
  · by_cases hb : n / 4 ≤ 8158
    · exact compress_ps n w h1 h2 (by omega) hb
    · exact compress_pb n w h1 h2 (by omega) (by omega)
end Go.Proofs.YtlllckclfpdhgaaDoor
