/- What is proved here: the walk of the statement SoundsComeBack: it answers true. Condition: the slice that came in lies in memory, and a table of the library as its initialiser lays it. -/
import Derived.Test.YtlllckclfpdhgaaDoorSounds
import Derived.Test.YtlllckclfpdhgaaDoorEquals
import Derived.Test.YtlllckclfpdhgaaDoorStream
namespace Go.Proofs.YtlllckclfpdhgaaDoor
open Go.RowKit
set_option linter.unusedVariables false
set_option linter.unusedSimpArgs false

theorem back_same {xs : List Int} (h : Bytes xs) : (xs.map expandI).map compI = xs := by
  rw [List.map_map]
  conv => rhs; rw [← List.map_id xs]
  exact List.map_congr_left fun x hx => (expand_sample x (h x hx).1 (h x hx).2).2.2
theorem great_samples {xs : List Int} (h : Bytes xs) : Samples (xs.map expandI) := by
  intro y hy
  obtain ⟨x, hx, rfl⟩ := List.mem_map.1 hy
  have := expand_sample x (h x hx).1 (h x hx).2
  exact ⟨this.1, this.2.1⟩

set_option maxRecDepth 100000 in
set_option maxHeartbeats 4000000 in
theorem sounds_true (w : World) (a : Option Addr) (len cap : Nat) (zs : List Int) (hr : ArgRow w a len cap zs) (ht : TabAt w) :
    Calls Tryd.prog 5 #[.slice a len cap] w fun e w' => e = .returned (.bool true) ∧ Below w.heap.size w w' := by
  obtain ⟨i0, hi, hz0, hz1, hz2⟩ := info_parts Tryd.infoByte
  have hst := stream_start hr
  have HT := Lib.hid ht
  have HS0 := Lib.hid hst
  clear hr ht hst
  go_enter Tryd.func5, Tryd.ntmps5
  go_wp2_with fail
  refine (range_any w.heap.size 0 (-32768) 32767 _ HS0.out (by omega) (by omega) (by omega) (by omega)).mono ?_
  rintro e w1 ⟨n, rfl, n0, n1, HS1, HK1⟩
  have hnear := comp_near n n0 n1
  have HCR := Lib.hid (comp_range n n0 n1)
  go_wp2_with (first | (go_at_call 22; refine (compress_any _ _ n0 n1).mono ?_; rintro e w' ⟨rfl, rfl⟩) | (go_at_call 23; refine (expand_any _ _ HCR.out.1 HCR.out.2).mono ?_; rintro e w' ⟨rfl, rfl⟩))
  clear hnear
  refine (range_any w.heap.size 1 0 9 _ HS1 (by omega) (by omega) (by omega) (by omega)).mono ?_
  rintro e w2 ⟨m, rfl, m0, m1, HS2, HK2⟩
  obtain ⟨m, rfl⟩ := Int.eq_ofNat_of_zero_le m0
  have HK2' := Lib.hid (HK1.trans HK2)
  have HS2' := Lib.hid HS2
  clear HK1 HK2 HS1 HS2
  go_wp2_with fail
  go_loopw [8, 46] (fun v i wr => ∃ (k : Nat) (xs : List Int), k ≤ m ∧ i = .int .i64 k ∧ Hid (xs.length = k) ∧ Hid (Bytes xs) ∧ Hid (wr.ownsRow (w.heap.size + 1) 5 1 v k (xs.map (Value.int .u8))) ∧ Hid (StreamOk wr w.heap.size (2 + k)) ∧ Hid (Keeps w.heap.size (w.alloc (.cells #[.slice a len cap, .int .i64 0] 25)) wr)) (fun _ i _ => m - (intOf i).toNat)
  case atStart => exact ⟨0, [], Nat.zero_le _, rfl, rfl, (fun x hx => by cases hx), World.ownsRow_nil _ _ _ _, HS2', HK2'⟩
  case round =>
    obtain ⟨k, xs, hk, rfl, HL, HBy, HO, HS, HK⟩ := hrel
    by_cases hlt : k < m
    · go_wp2_with fail
      refine (range_any w.heap.size (2 + k) 0 255 _ HS.out (by omega) (by omega) (by omega) (by omega)).mono ?_
      rintro e w3 ⟨y, rfl, y0, y1, HS3, HK3⟩
      have HO3 := Lib.hid (own_keeps HO.out HK3 (Nat.lt_succ_self _))
      have HK3' := Lib.hid (HK.out.trans HK3)
      have HS3' := Lib.hid HS3
      have hsz : w.heap.size + 1 ≤ w3.heap.size := by have := HK3'.out.size; simp at this; omega
      clear HS3 HK3
      go_wp2_with (at_builtin; refine wpList_append_own _ rfl (.tmp 48) (.tmp 52) 42 rfl (w.heap.size + 1) 5 i0 (.int .u8 0) 1 1 Tryd.underlying42 hi hz0 hz1 hz2 rfl (by decide) _ k (xs.map (Value.int .u8)) rfl (HO3.out.alloc _) ⟨w3.heap.size, 0, none⟩ 1 1 [.int .u8 y] rfl rfl (news_one (by go_simp)) (by simp [Value.oneCell']) (by simp only [maxLen]; omega) (by omega) (by simp; omega) ?_; intro v4 w4 hown4 hgr4 _)
      have hrow := fun b e => (HO3.out.lt b e).1
      go_roundw
      case rel => exact ⟨k + 1, xs ++ [y], by omega, by go_num, (by show (xs ++ [y]).length = k + 1; rw [List.length_append, HL.out]; rfl), (by
        intro x hx
        rcases List.mem_append.1 hx with hx | hx
        · exact HBy.out x hx
        · simp at hx; omega), (by show World.ownsRow _ _ _ _ _ _ _; rw [List.map_append]; exact hown4), (HS3'.out.upto (upto_grown hgr4 hsz hrow)), HK3'.out.grown hgr4 (fun b e => by simp; exact hrow b e)⟩
      case measure => simp [intOf]; omega
    · obtain rfl : k = m := by omega
      obtain ⟨a4, c4, hv, hrow4⟩ := IRow.of_own HO.out
      obtain ⟨wo, rfl⟩ : ∃ wo : World, wo = wr := ⟨_, rfl⟩
      rw [hv]
      have HR4 := Lib.hid hrow4
      have Hv := Lib.hid hv
      clear hv hrow4
      have k20 : k ≤ 20000 := by omega
      go_wp2_with (go_at_call 24; refine (great_any _ a4 k c4 xs HR4.out HBy.out k20).mono ?_; rintro e w5 ⟨v5, rfl, hown5, hB5⟩; obtain ⟨a5, c5, hv5, hrow5⟩ := IRow.of_own hown5; rw [hv5])
      have HR5 : Hid (IRow .i64 w5 a5 xs.length (xs.map expandI)) := by show IRow _ _ _ _ _; simpa using hrow5
      have Hv5 := Lib.hid hv5
      have hxl : xs.length ≤ 20000 := by rw [HL.out]; omega
      clear hown5 hv5 hrow5
      refine (small_any _ a5 _ c5 (xs.map expandI) HR5.out (great_samples HBy.out) hxl).mono ?_
      rw [back_same HBy.out]
      rintro e w6 ⟨v6, rfl, hown6, hB6⟩
      obtain ⟨a6, c6, hv6, hrow6⟩ := IRow.of_own hown6
      rw [hv6]
      have HR6 := Lib.hid hrow6
      have Hv6 := Lib.hid hv6
      clear hown6 hv6 hrow6
      have hW6 := Lib.hid (ext_trans hB5 hB6)
      go_wp2_with (go_at_call 21; refine (equal_bytes _ a4 a6 k c4 _ c6 xs (HR4.out.below hW6.out) HR6.out (by omega)).mono ?_; rintro e w7 ⟨rfl, q7, rfl⟩)
      have HS7 := Lib.hid (HS.out.below (ext_drewN (n := q7) hW6.out))
      have HK7 := Lib.hid (HK.out.ext (ext_drewN (n := q7) hW6.out))
      clear hB5 hB6
      generalize w6.drewN q7 = w7 at HS7 HK7
      refine (range_any w.heap.size (2 + k) (-32768) 32767 _ HS7.out (by omega) (by omega) (by omega) (by omega)).mono ?_
      rintro e w8 ⟨o, rfl, o0, o1, HS8, HK8⟩
      have HK8' := Lib.hid (HK7.out.trans HK8)
      have HT8 : Hid (TabAt w8) := (HT.out.below (ext_alloc (Below.refl _ _))).keeps HK8'.out (by have := HT.out.1; omega)
      have HCO := Lib.hid (comp_range o o0 o1)
      have m1 : ¬ o < n → expandI (compI n) ≤ expandI (compI o) := fun h => comp_mono n o (by omega) n0 o1
      have m2 : ¬ n < o → expandI (compI o) ≤ expandI (compI n) := fun h => comp_mono o n (by omega) o0 n1
      have M1 := Lib.hid m1
      have M2 := Lib.hid m2
      clear HS8 HK8 m1 m2
      have fin : Hid (∀ w9, Below w8.heap.size w8 w9 → Below w.heap.size w w9) := fun w9 hb => law_end (HK8'.out.ext hb)
      have hcon := fun w0 => expand_any (compI o) w0 HCO.out.1 HCO.out.2
      have hcon2 := fun w0 => compress_any o w0 o0 o1
      generalize expandI (compI n) = y1 at M1 M2
      generalize expandI (compI o) = y2 at M1 M2 hcon
      generalize compI o = yo at hcon hcon2
      have HC1 := Lib.hid hcon
      have HC2 := Lib.hid hcon2
      clear hcon hcon2
      by_cases q1 : o < n
      · have q2 : ¬ n < o := by omega
        have q3 := M2.out q2
        go_wp2_with (first | (go_at_call 22; refine (HC2.out _).mono ?_; rintro e w' ⟨rfl, rfl⟩) | (go_at_call 23; refine (HC1.out _).mono ?_; rintro e w' ⟨rfl, rfl⟩) | (go_at_call 15; refine (ready_true _ HT8.out).mono ?_; rintro e w9 ⟨rfl, hB9⟩))
        go_ret
        exact ⟨rfl, fin.out _ hB9⟩
      · have q4 := M1.out q1
        by_cases q2 : n < o
        · go_wp2_with (first | (go_at_call 22; refine (HC2.out _).mono ?_; rintro e w' ⟨rfl, rfl⟩) | (go_at_call 23; refine (HC1.out _).mono ?_; rintro e w' ⟨rfl, rfl⟩) | (go_at_call 15; refine (ready_true _ HT8.out).mono ?_; rintro e w9 ⟨rfl, hB9⟩))
          go_ret
          exact ⟨rfl, fin.out _ hB9⟩
        · have q3 := M2.out q2
          go_wp2_with (first | (go_at_call 22; refine (HC2.out _).mono ?_; rintro e w' ⟨rfl, rfl⟩) | (go_at_call 23; refine (HC1.out _).mono ?_; rintro e w' ⟨rfl, rfl⟩) | (go_at_call 15; refine (ready_true _ HT8.out).mono ?_; rintro e w9 ⟨rfl, hB9⟩))
          go_ret
          exact ⟨rfl, fin.out _ hB9⟩
end Go.Proofs.YtlllckclfpdhgaaDoor
