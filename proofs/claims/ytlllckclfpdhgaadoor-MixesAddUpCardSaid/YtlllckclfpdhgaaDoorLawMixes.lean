/- What is proved here: the walk of the statement MixesAddUp: it answers true. Condition: the slice that came in lies in memory, and a table of the library as its initialiser lays it. -/
import Derived.Test.YtlllckclfpdhgaaDoorMix
import Derived.Test.YtlllckclfpdhgaaDoorEquals
import Derived.Test.YtlllckclfpdhgaaDoorStream
namespace Go.Proofs.YtlllckclfpdhgaaDoor
open Go.RowKit
set_option linter.unusedVariables false
set_option linter.unusedSimpArgs false

theorem lrow_two {w : World} {g : Nat} {ax ay : Option Addr} {cx cy : Nat} {xs ys : List Int} (hg : g < w.heap.size) (h0 : w.cell? ⟨g, 0, none⟩ = some (.slice ax xs.length cx)) (h1 : w.cell? ⟨g, 1, none⟩ = some (.slice ay ys.length cy)) (hx : IRow .i64 w ax xs.length xs) (hy : IRow .i64 w ay ys.length ys) :
    LRow w (some ⟨g, 0, none⟩) 2 [xs, ys] :=
  ⟨rfl, Or.inr ⟨g, 0, rfl, hg, fun i hi => by
    match i, hi with
    | 0, _ => exact ⟨ax, cx, h0, hx⟩
    | 1, _ => exact ⟨ay, cy, h1, hy⟩⟩⟩
theorem two_samples {xs ys : List Int} (hx : Samples xs) (hy : Samples ys) : ∀ k, Samples (([xs, ys] : List (List Int)).getD k [])
  | 0 => hx
  | 1 => hy
  | k + 2 => fun v hv => by simp at hv
theorem two_long {xs ys : List Int} (hx : xs.length ≤ 20000) (hy : ys.length ≤ 20000) : ∀ k, (([xs, ys] : List (List Int)).getD k []).length ≤ 20000
  | 0 => hx
  | 1 => hy
  | k + 2 => by simp
theorem samples_snoc {xs : List Int} {y : Int} (h : Samples xs) (h0 : -32768 ≤ y) (h1 : y ≤ 32767) : Samples (xs ++ [y]) := by
  intro x hx
  rcases List.mem_append.1 hx with hx | hx
  · exact h x hx
  · simp at hx; omega

set_option maxRecDepth 100000 in
set_option maxHeartbeats 4000000 in
theorem mixes_true (w : World) (a : Option Addr) (len cap : Nat) (zs : List Int) (hr : ArgRow w a len cap zs) (ht : TabAt w) :
    Calls Tryd.prog 6 #[.slice a len cap] w fun e w' => e = .returned (.bool true) ∧ Below w.heap.size w w' := by
  obtain ⟨i0, hi, hz0, hz1, hz2⟩ := info_parts Tryd.infoInt
  have hst := stream_start hr
  have HT := Lib.hid ht
  have HS0 := Lib.hid hst
  clear hr ht hst
  go_enter Tryd.func6, Tryd.ntmps6
  go_wp2_with fail
  refine (range_any w.heap.size 0 0 9 _ HS0.out (by omega) (by omega) (by omega) (by omega)).mono ?_
  rintro e w1 ⟨m, rfl, m0, m1, HS1, HK1⟩
  obtain ⟨m, rfl⟩ := Int.eq_ofNat_of_zero_le m0
  have HK1' := Lib.hid HK1
  have HS1' := Lib.hid HS1
  clear HK1 HS1
  go_wp2_with fail
  go_loopw [4, 19] (fun v i wr => ∃ (k : Nat) (xs : List Int), k ≤ m ∧ i = .int .i64 k ∧ Hid (xs.length = k) ∧ Hid (Samples xs) ∧ Hid (wr.ownsRow (w.heap.size + 1) 3 1 v k (xs.map (Value.int .i64))) ∧ Hid (StreamOk wr w.heap.size (1 + k)) ∧ Hid (Keeps w.heap.size (w.alloc (.cells #[.slice a len cap, .int .i64 0] 25)) wr)) (fun _ i _ => m - (intOf i).toNat)
  case atStart => exact ⟨0, [], Nat.zero_le _, rfl, rfl, (fun x hx => by cases hx), World.ownsRow_nil _ _ _ _, HS1', HK1'⟩
  case round =>
    obtain ⟨k, xs, hk, rfl, HL, HSm, HO, HS, HK⟩ := hrel
    by_cases hlt : k < m
    · go_wp2_with fail
      refine (range_any w.heap.size (1 + k) (-32768) 32767 _ HS.out (by omega) (by omega) (by omega) (by omega)).mono ?_
      rintro e w3 ⟨y, rfl, y0, y1, HS3, HK3⟩
      have HO3 := Lib.hid (own_keeps HO.out HK3 (Nat.lt_succ_self _))
      have HK3' := Lib.hid (HK.out.trans HK3)
      have HS3' := Lib.hid HS3
      have hsz : w.heap.size + 1 ≤ w3.heap.size := by have := HK3'.out.size; simp at this; omega
      clear HS3 HK3
      go_wp2_with (at_builtin; refine wpList_append_own _ rfl (.tmp 21) (.tmp 24) 22 rfl (w.heap.size + 1) 3 i0 (.int .i64 0) 1 8 Tryd.underlying22 hi hz0 hz1 hz2 rfl (by decide) _ k (xs.map (Value.int .i64)) rfl (HO3.out.alloc _) ⟨w3.heap.size, 0, none⟩ 1 1 [.int .i64 y] rfl rfl (news_one (by go_simp)) (by simp [Value.oneCell']) (by simp only [maxLen]; omega) (by omega) (by simp; omega) ?_; intro v4 w4 hown4 hgr4 _)
      have hrow := fun b e => (HO3.out.lt b e).1
      go_roundw
      case rel => exact ⟨k + 1, xs ++ [y], by omega, by go_num, (by show (xs ++ [y]).length = k + 1; rw [List.length_append, HL.out]; rfl), samples_snoc HSm.out y0 y1, (by show World.ownsRow _ _ _ _ _ _ _; rw [List.map_append]; exact hown4), (HS3'.out.upto (upto_grown hgr4 hsz hrow)), HK3'.out.grown hgr4 (fun b e => by simp; exact hrow b e)⟩
      case measure => simp [intOf]; omega
    · obtain rfl : k = m := by omega
      obtain ⟨ax, cx, hv, hrowx, hax⟩ := IRow.of_own_at HO.out
      obtain ⟨wo, rfl⟩ : ∃ wo : World, wo = wr := ⟨_, rfl⟩
      rw [hv]
      have HRx := Lib.hid hrowx
      have Hv := Lib.hid hv
      have Hax : Hid (∀ b off, ax = some ⟨b, off, none⟩ → b ≠ w.heap.size) := fun b off e => by have := hax b off e; omega
      have hso : w.heap.size + 1 ≤ wo.heap.size := by have := HK.out.size; simp at this; omega
      clear hv hrowx hax
      go_wp2_with fail
      refine (range_any w.heap.size (1 + k) 0 9 _ HS.out (by omega) (by omega) (by omega) (by omega)).mono ?_
      rintro e w5 ⟨m2, rfl, p0, p1, HS5, HK5⟩
      obtain ⟨m2, rfl⟩ := Int.eq_ofNat_of_zero_le p0
      have HK5' := Lib.hid HK5
      have HS5' := Lib.hid HS5
      have hs5 : w.heap.size + 1 ≤ w5.heap.size := by have := HK5.size; omega
      clear HK5 HS5
      go_wp2_with fail
      go_loopw [5, 29] (fun v i wr => ∃ (q : Nat) (ys : List Int), q ≤ m2 ∧ i = .int .i64 q ∧ Hid (ys.length = q) ∧ Hid (Samples ys) ∧ Hid (wr.ownsRow w5.heap.size 3 1 v q (ys.map (Value.int .i64))) ∧ Hid (StreamOk wr w.heap.size (2 + k + q)) ∧ Hid (Keeps w.heap.size w5 wr)) (fun _ i _ => m2 - (intOf i).toNat)
      case atStart => exact ⟨0, [], Nat.zero_le _, rfl, rfl, (fun x hx => by cases hx), World.ownsRow_nil _ _ _ _, HS5'.out.mono (by omega), Keeps.refl _ _⟩
      case round =>
        obtain ⟨q, ys, hq, rfl, HL2, HSm2, HO2, HS2, HK2⟩ := hrel
        by_cases hlt2 : q < m2
        · go_wp2_with fail
          refine (range_any w.heap.size (2 + k + q) (-32768) 32767 _ HS2.out (by omega) (by omega) (by omega) (by omega)).mono ?_
          rintro e w3 ⟨y, rfl, y0, y1, HS3, HK3⟩
          have HO3 := Lib.hid (own_keeps HO2.out HK3 (by omega))
          have HK3' := Lib.hid (HK2.out.trans HK3)
          have HS3' := Lib.hid HS3
          have hsz : w5.heap.size ≤ w3.heap.size := HK3'.out.size
          clear HS3 HK3
          go_wp2_with (at_builtin; refine wpList_append_own _ rfl (.tmp 31) (.tmp 34) 22 rfl w5.heap.size 3 i0 (.int .i64 0) 1 8 Tryd.underlying22 hi hz0 hz1 hz2 rfl (by decide) _ q (ys.map (Value.int .i64)) rfl (HO3.out.alloc _) ⟨w3.heap.size, 0, none⟩ 1 1 [.int .i64 y] rfl rfl (news_one (by go_simp)) (by simp [Value.oneCell']) (by simp only [maxLen]; omega) (by omega) (by simp; omega) ?_; intro v4 w4 hown4 hgr4 _)
          have hrow := fun b e => (HO3.out.lt b e).1
          go_roundw
          case rel => exact ⟨q + 1, ys ++ [y], by omega, by go_num, (by show (ys ++ [y]).length = q + 1; rw [List.length_append, HL2.out]; rfl), samples_snoc HSm2.out y0 y1, (by show World.ownsRow _ _ _ _ _ _ _; rw [List.map_append]; exact hown4), (HS3'.out.upto (upto_grown hgr4 (by omega) (fun b e => by have := hrow b e; omega))), HK3'.out.grown hgr4 hrow⟩
          case measure => simp [intOf]; omega
        · obtain rfl : q = m2 := by omega
          obtain ⟨ay, cy, hv2, hrowy⟩ := IRow.of_own HO2.out
          obtain ⟨w6, rfl⟩ : ∃ w6 : World, w6 = wr := ⟨_, rfl⟩
          rw [hv2]
          have HRy := Lib.hid hrowy
          have Hv2 := Lib.hid hv2
          have HRx6 := Lib.hid ((HRx.out.keeps HK5'.out Hax.out).keeps HK2.out Hax.out)
          have HK6 := Lib.hid ((HK.out.trans HK5'.out).trans HK2.out)
          clear hv2 hrowy
          obtain rfl := HL.out
          obtain rfl := HL2.out
          go_wp2_with fail
          have hx20 : xs.length ≤ 20000 := by omega
          have hy20 : ys.length ≤ 20000 := by omega
          refine (mix_any _ _ 2 2 [xs, ys] (lrow_two (cx := cx) (cy := cy) (by simp) (by simp) (by simp) (HRx6.out.below (ext_alloc (Below.refl _ _))) (HRy.out.below (ext_alloc (Below.refl _ _)))) (two_samples HSm.out HSm2.out) (two_long hx20 hy20) (by omega)).mono ?_
          rintro e w7 ⟨v7, rfl, hown7, hB7⟩
          obtain ⟨a7, c7, hv7, hrow7⟩ := IRow.of_own hown7
          rw [hv7]
          have Hv7 := Lib.hid hv7
          have HR7 := Lib.hid hrow7
          have HB7 := Lib.hid (ext_trans (ext_alloc (Below.refl _ w6)) hB7)
          clear hown7 hv7 hrow7 hB7
          have hm1 : (mixL [xs, ys]).length = max xs.length ys.length := by rw [mix_two, List.length_map, List.length_range]
          have HMS := Lib.hid (mix_samples [xs, ys])
          have HMC := Lib.hid (mix_comm ys xs)
          generalize mixL [xs, ys] = ms at HR7 hm1 HMS HMC
          have HM1 := Lib.hid hm1
          clear hm1
          go_wp2_with fail
          refine (mix_any _ _ 2 2 [ys, xs] (lrow_two (cx := cy) (cy := cx) (by simp) (by simp) (by simp) (HRy.out.below (ext_alloc HB7.out)) (HRx6.out.below (ext_alloc HB7.out))) (two_samples HSm2.out HSm.out) (two_long hy20 hx20) (by omega)).mono ?_
          rw [HMC.out]
          rintro e w8 ⟨v8, rfl, hown8, hB8⟩
          obtain ⟨a8, c8, hv8, hrow8⟩ := IRow.of_own hown8
          rw [hv8]
          have Hv8 := Lib.hid hv8
          have HR8 := Lib.hid hrow8
          have HB8 := Lib.hid (ext_trans (ext_alloc (Below.refl _ w7)) hB8)
          have HB68 := Lib.hid (ext_trans HB7.out HB8.out)
          clear hown8 hv8 hrow8 hB8
          have HBY : Hid (i0.bytes * xs.length ≤ 281474976710656) := by show _ ≤ _; rw [hz2]; omega
          have HML : Hid (xs.length ≤ maxLen) := by show _ ≤ maxLen; unfold maxLen; omega
          go_wp2_with (at_make; refine wpList_make_full _ rfl (.tmp 54) (.tmp 54) 22 rfl w8.heap.size 3 i0 (.int .i64 0) 1 Tryd.underlying22 hi hz0 hz1 .i64 .i64 _ _ xs.length (by simp [Act.eval]) (by simp [Act.eval]) rfl rfl HBY.out HML.out (Nat.le_refl _) ?_; intro w9 hown9 hgr9)
          have HB9 := Lib.hid (below_of_grown_none hgr9)
          rw [made_ints] at hown9
          have hrow9 : IRow .i64 w9 (some ⟨w8.heap.size, 0, none⟩) (List.replicate xs.length (0 : Int)).length (List.replicate xs.length 0) := by
            have h9 : w9.ownsRow w8.heap.size 3 1 (.slice (some ⟨w8.heap.size, 0, none⟩) xs.length xs.length) xs.length ((List.replicate xs.length (0 : Int)).map (Value.int .i64)) := by simpa using hown9
            obtain ⟨a9, c9, e9, r9⟩ := IRow.of_own h9
            cases e9
            simpa using r9
          have HR9 := Lib.hid hrow9
          clear hown9 hgr9 hrow9
          have HB69 := Lib.hid (ext_trans HB68.out HB9.out)
          refine (mix_any _ _ 2 2 [xs, List.replicate xs.length 0] (lrow_two (cx := cx) (cy := xs.length) (by simp) (by simp) (by simp) (HRx6.out.below (ext_alloc HB69.out)) (HR9.out.below (ext_alloc (Below.refl _ _)))) (two_samples HSm.out (by intro v hv; have := List.eq_of_mem_replicate hv; omega)) (two_long hx20 (by simpa using hx20)) (by omega)).mono ?_
          rw [mix_silence HSm.out _ rfl]
          rintro e w10 ⟨v10, rfl, hown10, hB10⟩
          obtain ⟨a10, c10, hv10, hrow10⟩ := IRow.of_own hown10
          rw [hv10]
          have Hv10 := Lib.hid hv10
          have HR10 := Lib.hid hrow10
          have HB10 := Lib.hid (ext_trans (ext_alloc (Below.refl _ w9)) hB10)
          have HB610 := Lib.hid (ext_trans HB69.out HB10.out)
          clear hown10 hv10 hrow10 hB10
          go_wp2_with fail
          refine (louder_256 _ _ _ _ xs (HRx6.out.below HB610.out) HSm.out hx20).mono ?_
          rintro e w11 ⟨v11, rfl, hown11, hB11⟩
          obtain ⟨a11, c11, hv11, hrow11⟩ := IRow.of_own hown11
          rw [hv11]
          have Hv11 := Lib.hid hv11
          have HR11 := Lib.hid hrow11
          have HB11 := Lib.hid hB11
          have HB611 := Lib.hid (ext_trans HB610.out hB11)
          have HB711 := Lib.hid (ext_trans (ext_trans (ext_trans HB8.out HB9.out) HB10.out) hB11)
          have HB811 := Lib.hid (ext_trans (ext_trans HB9.out HB10.out) hB11)
          clear hown11 hv11 hrow11 hB11
          go_wp2_with fail
          refine (errs_zero _ _ 4 4 (by omega) ?_).mono ?_
          · intro i hi
            match i, hi with
            | 0, _ => go_simp
            | 1, _ => go_simp
            | 2, _ => go_simp
            | 3, _ => go_simp
          rintro e w12 ⟨rfl, rfl⟩
          have HX12 := Lib.hid (HRx6.out.below (ext_alloc (o := (.cells #[.int .i64 0, .int .i64 0, .int .i64 0, .int .i64 0] 33)) HB611.out))
          have H712 := Lib.hid (HR7.out.below (ext_alloc (o := (.cells #[.int .i64 0, .int .i64 0, .int .i64 0, .int .i64 0] 33)) HB711.out))
          have H812 := Lib.hid (HR8.out.below (ext_alloc (o := (.cells #[.int .i64 0, .int .i64 0, .int .i64 0, .int .i64 0] 33)) HB811.out))
          have H1012 := Lib.hid (HR10.out.below (ext_alloc (o := (.cells #[.int .i64 0, .int .i64 0, .int .i64 0, .int .i64 0] 33)) HB11.out))
          have H1112 := Lib.hid (HR11.out.below (ext_alloc (o := (.cells #[.int .i64 0, .int .i64 0, .int .i64 0, .int .i64 0] 33)) (Below.refl _ _)))
          have HK12 : Hid (Keeps w.heap.size (w.alloc (.cells #[.slice a len cap, .int .i64 0] 25)) (w11.alloc (.cells #[.int .i64 0, .int .i64 0, .int .i64 0, .int .i64 0] 33))) := HK6.out.ext (ext_alloc HB611.out)
          generalize w11.alloc (.cells #[.int .i64 0, .int .i64 0, .int .i64 0, .int .i64 0] 33) = w12 at HX12 H712 H812 H1012 H1112 HK12
          have hms : ms.length ≤ 20000 := by rw [HM1.out]; omega
          go_wp2_with fail
          refine (equal_ints _ _ _ _ _ _ _ ms H712.out H812.out (by omega)).mono ?_
          rintro e w13 ⟨rfl, q1, rfl⟩
          go_wp2_with fail
          refine (equal_ints _ _ _ _ _ _ _ xs (by exact H1012.out) (by exact HX12.out) (by omega)).mono ?_
          rintro e w14 ⟨rfl, q2, rfl⟩
          go_wp2_with fail
          refine (equal_ints _ _ _ _ _ _ _ xs (by exact H1112.out) (by exact HX12.out) (by omega)).mono ?_
          rintro e w15 ⟨rfl, q3, rfl⟩
          have H715 : Hid (IRow .i64 (w12.drewN (q1 + q2 + q3)) a7 ms.length ms) := H712.out
          have HK15 : Hid (Keeps w.heap.size (w.alloc (.cells #[.slice a len cap, .int .i64 0] 25)) (w12.drewN (q1 + q2 + q3))) := HK12.out.drewN _
          simp only [World.drewN_drewN]
          generalize w12.drewN (q1 + q2 + q3) = w15 at H715 HK15
          have HT15 : Hid (TabAt w15) := (HT.out.below (ext_alloc (Below.refl _ _))).keeps HK15.out (by have := HT.out.1; omega)
          have hml := HM1.out
          have HFIN : Hid (∀ w9, Below w15.heap.size w15 w9 → Below w.heap.size w w9) := fun w9 hb => law_end (HK15.out.ext hb)
          by_cases hxy : xs.length ≤ ys.length
          · have l1 : ms.length ≤ ys.length := by omega
            have l2 : ys.length ≤ ms.length := by omega
            clear hml
            go_wp2_with (first | (go_at_call 30; refine (checkSamples_ok _ _ _ _ ms H715.out HMS.out hms).mono ?_; rintro e w' ⟨rfl, rfl⟩) | (go_at_call 15; refine (ready_true _ HT15.out).mono ?_; rintro e w16 ⟨rfl, hB16⟩))
            go_ret
            exact ⟨rfl, HFIN.out _ hB16⟩
          · have l1 : ms.length ≤ xs.length := by omega
            have l2 : xs.length ≤ ms.length := by omega
            clear hml
            go_wp2_with (first | (go_at_call 30; refine (checkSamples_ok _ _ _ _ ms H715.out HMS.out hms).mono ?_; rintro e w' ⟨rfl, rfl⟩) | (go_at_call 15; refine (ready_true _ HT15.out).mono ?_; rintro e w16 ⟨rfl, hB16⟩))
            go_ret
            exact ⟨rfl, HFIN.out _ hB16⟩
end Go.Proofs.YtlllckclfpdhgaaDoor
