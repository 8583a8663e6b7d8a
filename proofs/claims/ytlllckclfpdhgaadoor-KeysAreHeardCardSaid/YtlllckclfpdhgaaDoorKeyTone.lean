/- What is proved here: the tones of the reference. Condition: what is handed in lies in memory as stated. -/
import Derived.Test.YtlllckclfpdhgaaDoorKeyKeys
import Derived.Deep.RegionLaw
import Derived.IntWalk
import Derived.Deep.Onto
namespace Go.Proofs.YtlllckclfpdhgaaDoor
open Go.RowKit
set_option linter.unusedVariables false
set_option linter.unusedSimpArgs false

theorem floor_any (x : Int) (w : World) (h0 : -9223372036854775808 ≤ x) (h1 : x ≤ 9223372036854775807) : Calls Tryd.prog 97 #[.int .i64 x, .int .i64 16384] w fun e w' => e = .returned (.int .i64 (x / 16384)) ∧ w = w' := by
  have e1 : 16384 * x.tdiv 16384 + x.tmod 16384 = x := Int.mul_tdiv_add_tmod x 16384
  have e2 : x.tmod 16384 < 16384 := Int.tmod_lt_of_pos x (by omega)
  have e3 : -16384 < x.tmod 16384 := Int.lt_tmod_of_pos x (by omega)
  by_cases hx : x.tmod 16384 < 0
  · have hd : Hid (x / 16384 = x.tdiv 16384 - 1) := by show _ = _; omega
    have hb : -9223372036854775808 ≤ x.tdiv 16384 - 1 := by omega
    have hb2 : x.tdiv 16384 - 1 ≤ 9223372036854775807 := by omega
    clear e1 e2 e3
    go_enter Tryd.func97, Tryd.ntmps97
    go_wp2_with fail
    go_ret
    exact ⟨ret_int (by rw [hd.out]; try (unfold wrap64; omega)), rfl⟩
  · have hd : Hid (x / 16384 = x.tdiv 16384) := by show _ = _; omega
    clear e1 e2 e3
    go_enter Tryd.func97, Tryd.ntmps97
    go_wp2_with fail
    go_ret
    exact ⟨ret_int (by rw [hd.out]), rfl⟩

theorem wrap64_range (x : Int) : -9223372036854775808 ≤ wrap64 x ∧ wrap64 x ≤ 9223372036854775807 := by unfold wrap64; omega

theorem i64_lo (x : Int) : -9223372036854775808 ≤ IntKind.i64.wrap x := by rw [IntKind.wrap_i64]; omega
theorem i64_hi (x : Int) : IntKind.i64.wrap x ≤ 9223372036854775807 := by rw [IntKind.wrap_i64]; omega
theorem i64_w (x : Int) : IntKind.i64.wrap x = wrap64 x := by rw [IntKind.wrap_i64]; unfold wrap64; rfl
/-- The tone's numbers by their places. -/
theorem humS_length (c : Int) : ∀ (n : Nat) (p : Int × Int), (humS c n p).length = n
  | 0, _ => rfl
  | n + 1, (a, b) => by simp [humS, humS_length c n]
theorem humS_take (c : Int) : ∀ (n m : Nat) (p : Int × Int), m ≤ n → (humS c n p).take m = humS c m p
  | n, 0, _, _ => by cases n <;> simp [humS]
  | n + 1, m + 1, (a, b), h => by simp [humS, humS_take c n m _ (by omega)]
theorem humS_next (c : Int) : ∀ (n i : Nat) (p : Int × Int), i + 2 < n → (humS c n p).getD (i + 2) 0 = wrap64 (wrap64 (c * (humS c n p).getD (i + 1) 0) / 16384 - (humS c n p).getD i 0)
  | n + 1, 0, (a, b), h => by
    match n, h with
    | n + 2, _ => simp [humS]
  | n + 1, i + 1, (a, b), h => by
    have := humS_next c n i (b, wrap64 (wrap64 (c * b) / 16384 - a)) (by omega)
    simpa [humS] using this
theorem humI_next (c : Int) (n i : Nat) (h : i + 2 < n) : (humI c n).getD (i + 2) 0 = wrap64 (wrap64 (c * (humI c n).getD (i + 1) 0) / 16384 - (humI c n).getD i 0) := humS_next c n i _ h

set_option maxRecDepth 100000 in
set_option maxHeartbeats 4000000 in
theorem hum_any (w : World) (c : Int) (n : Nat) (h0 : 0 ≤ c) (h1 : c ≤ 30000) (hn : n ≤ 1000) :
    Calls Tryd.prog 80 #[.int .i64 c, .int .i64 n] w fun e w' => ∃ v, e = .returned v ∧ w'.ownsRow w.heap.size 3 1 v n ((humI c n).map (Value.int .i64)) ∧ Below w.heap.size w w' := by
  obtain ⟨i0, hi, hz0, hz1, hz2⟩ := info_parts Tryd.infoInt
  obtain ⟨hs, HS⟩ : ∃ hs : List Int, Hid (hs = humI c n) := ⟨_, rfl⟩
  have HL : Hid (hs.length = n) := by show _ = _; rw [HS.out]; exact humS_length _ _ _
  have HN : Hid (∀ i, i + 2 < n → hs.getD (i + 2) 0 = wrap64 (wrap64 (c * hs.getD (i + 1) 0) / 16384 - hs.getD i 0)) := by rw [HS.out]; exact humI_next c n
  have H0 : Hid (0 < n → hs.getD 0 0 = 0) := by intro h; rw [HS.out]; match n, h with | n + 1, _ => rfl
  have H1 : Hid (1 < n → hs.getD 1 0 = c / 8) := by intro h; rw [HS.out]; match n, h with | n + 2, _ => rfl
  go_enter Tryd.func80, Tryd.ntmps80
  go_wp2_with fail
  go_loopw [5, 8] (fun v it wr => ∃ k : Nat, k ≤ n ∧ it = .int .i64 k ∧ Hid (wr.ownsRow w.heap.size 3 1 v k ((hs.take k).map (Value.int .i64))) ∧ Hid (Below w.heap.size w wr)) (fun _ it _ => n - (intOf it).toNat)
  case atStart => exact ⟨0, Nat.zero_le _, rfl, World.ownsRow_nil _ _ _ _, Below.refl _ _⟩
  case round =>
    obtain ⟨k, hk, rfl, HO, HB⟩ := hrel
    by_cases hlt : k < n
    · have hsz := HB.out.size
      have hrow := fun b e => (HO.out.lt b e).1
      have HSN : Hid (hs.take (k + 1) = hs.take k ++ [hs.getD k 0]) := by
        have hkl : k < hs.length := by rw [HL.out]; exact hlt
        show _ = _
        rw [List.take_succ_eq_append_getElem hkl]; simp [hkl]
      have fin : Hid (∀ (v' : Value) (w' : World), w'.ownsRow w.heap.size 3 1 v' (k + 1) ((hs.take k).map (Value.int .i64) ++ [.int .i64 (hs.getD k 0)]) → w'.ownsRow w.heap.size 3 1 v' (k + 1) ((hs.take (k + 1)).map (Value.int .i64))) := fun v' w' h => by rw [HSN.out, List.map_append]; exact h
      by_cases hk0 : k = 0
      · subst hk0
        have hv := H0.out hlt
        have HO' := Lib.hid (HO.out.alloc (.cells #[.int .i64 0] 3))
        go_wp2_with (at_builtin; refine wpList_append_own _ rfl (.tmp 31) (.tmp 32) 22 rfl w.heap.size 3 i0 (.int .i64 0) 1 8 Tryd.underlying22 hi hz0 hz1 hz2 rfl (by decide) _ 0 ((hs.take 0).map (Value.int .i64)) rfl HO'.out ⟨wr.heap.size, 0, none⟩ 1 1 [.int .i64 0] rfl rfl (news_one (by go_simp)) (by simp [Value.oneCell']) (by simp only [maxLen]; omega) (by omega) (by simp; omega) ?_; intro v4 w4 hown4 hgr4 _)
        have HO4 := Lib.hid (fin.out v4 w4 (by rw [hv]; exact hown4))
        have HB4 := Lib.hid (HB.out.trans (upto_grown hgr4 hsz hrow))
        clear hown4 hgr4
        go_roundw
        case rel => exact ⟨1, by omega, by go_num, HO4, HB4⟩
        case measure => simp [intOf]; omega
      · by_cases hk1 : k = 1
        · subst hk1
          have hv := H1.out hlt
          have HO' := Lib.hid (HO.out.alloc (.cells #[.int .i64 (c / 8)] 3))
          go_wp2_with (at_builtin; refine wpList_append_own _ rfl (.tmp 36) (.tmp 39) 22 rfl w.heap.size 3 i0 (.int .i64 0) 1 8 Tryd.underlying22 hi hz0 hz1 hz2 rfl (by decide) _ 1 ((hs.take 1).map (Value.int .i64)) rfl HO'.out ⟨wr.heap.size, 0, none⟩ 1 1 [.int .i64 (c / 8)] rfl rfl (news_one (by go_simp)) (by simp [Value.oneCell']) (by simp only [maxLen]; omega) (by omega) (by simp; omega) ?_; intro v4 w4 hown4 hgr4 _)
          have HO4 := Lib.hid (fin.out v4 w4 (by rw [hv]; exact hown4))
          have HB4 := Lib.hid (HB.out.trans (upto_grown hgr4 hsz hrow))
          clear hown4 hgr4
          go_roundw
          case rel => exact ⟨2, by omega, by go_num, HO4, HB4⟩
          case measure => simp [intOf]; omega
        · obtain ⟨q, rfl⟩ : ∃ q, k = q + 2 := ⟨k - 2, by omega⟩
          obtain ⟨g, cv, rfl⟩ := own_at HO.out
          have ht : ∀ j, j < q + 2 → wr.cell? ⟨g, j, none⟩ = some (.int .i64 (hs.getD j 0)) := by
            intro j hj
            have hjl : j < hs.length := by rw [HL.out]; omega
            rw [HO.out.cellAt j (by omega), getD_map_int .i64 _ j (by simp; omega)]
            simp [List.getD_eq_getElem?_getD, List.getElem?_take, show j < q + 2 by omega]
          have c1 := ht (q + 1) (by omega)
          have c2 := ht q (by omega)
          have HV := Lib.hid (HN.out q hlt)
          clear ht
          generalize hs.getD (q + 1) 0 = a1 at c1 HV
          generalize hs.getD q 0 = a0 at c2 HV
          have HO' := Lib.hid (World.ownsRow.drew HO.out)
          have j1 : IntKind.i64.wrap (((q + 2 : Nat) : Int) - 1) = (q : Int) + 1 := by rw [IntWalk.i64_in _ (by omega)]; omega
          have j2 : IntKind.i64.wrap (((q + 2 : Nat) : Int) - 2) = (q : Int) := by rw [IntWalk.i64_in _ (by omega)]; omega
          have j1' : IntKind.i64.wrap ((q : Int) + 2 - 1) = (q : Int) + 1 := by rw [IntWalk.i64_in _ (by omega)]; omega
          have j2' : IntKind.i64.wrap ((q : Int) + 2 - 2) = (q : Int) := by rw [IntWalk.i64_in _ (by omega)]; omega
          have j10 : (q : Int) < (q : Int) + 1 := by omega
          have j12 : (q : Int) + 1 < (q : Int) + 1 + 1 := by omega
          have j13 : (q : Int) < (q : Int) + 1 + 1 := by omega
          have j11 : IntKind.i64.wrap (q : Int) = (q : Int) := IntWalk.i64_in _ (by omega)
          have j3 : (0 : Int) ≤ (q : Int) + 1 := by omega
          have j4 : (q : Int) + 1 < (q : Int) + 2 := by omega
          have j5 : (0 : Int) ≤ (q : Int) := by omega
          have j6 : (q : Int) < (q : Int) + 2 := by omega
          have j7 : ((q : Int) + 1).toNat = q + 1 := by omega
          have j8 : q + 2 + 1 ≤ maxLen := by unfold maxLen; omega
          have j9 : (q + 2 + 1) * 8 ≤ 140737488355328 := by omega
          go_wp2_with fail
          go_region_law (first
            | (rw [if_pos (by rfl)]; refine wp_append_own _ (.tmp 12) (.tmp 27) 22 rfl w.heap.size 3 i0 (.int .i64 0) 1 8 Tryd.underlying22 hi hz0 hz1 hz2 rfl (by decide) (.slice (some ⟨g, 0, none⟩) (q + 1 + 1) cv) (q + 2) ((hs.take (q + 2)).map (Value.int .i64)) (by rfl) (HO'.out.alloc _) ⟨wr.heap.size, 0, none⟩ 1 1 [.int .i64 (IntKind.i64.wrap (IntKind.i64.wrap (c * a1) / 16384 - a0))] (by rfl) (by rfl) (news_one (by go_simp)) (by simp [Value.oneCell']) j8 j9 (by simp; omega) ?_; intro v4 w4 hown4 hgr4 _)
            | (go_simp; go_at_call 97; refine (floor_any _ _ (i64_lo _) (i64_hi _)).mono ?_; rintro e w' ⟨rfl, rfl⟩))
          all_goals
            have HO4 := Lib.hid (fin.out v4 w4 (by rw [HV.out, ← i64_w, ← i64_w]; exact hown4))
            have HB4 := Lib.hid (HB.out.drew.trans (upto_grown hgr4 hsz hrow))
            clear hown4 hgr4 j1 j2 j1' j2' j11 j7
            go_simp
            go_wp2_with fail
            go_roundw
            case rel => exact ⟨q + 2 + 1, by omega, by go_num, HO4, HB4⟩
            case measure => simp [intOf]; omega
    · obtain rfl : k = n := by omega
      have hx : Hid (hs.take k = hs) := List.take_of_length_le (by rw [HL.out]; exact Nat.le_refl _)
      go_wp2_with fail
      go_ret
      exact ⟨_, rfl, by have := HO.out; rwa [hx.out, HS.out] at this, HB.out⟩

theorem rowNumbers_any (w : World) : Calls Tryd.prog 81 #[] w fun e w' => e = .returned (.slice (some ⟨w.heap.size, 0, none⟩) 4 4) ∧ IRow .i64 w' (some ⟨w.heap.size, 0, none⟩) 4 rowsI ∧ Below w.heap.size w w' ∧ w.heap.size < w'.heap.size := by
  go_enter Tryd.func81, Tryd.ntmps81
  go_wp2_with fail
  go_ret
  exact ⟨rfl, four_row _ _ _ _ _, (by (try show Below _ _ _); repeat (with_reducible first | exact Below.refl _ _ | assumption | exact Hid.out (by assumption) | refine ext_alloc ?_ | refine ext_drewN ?_ | refine ext_drew ?_ | refine ext_setCell ?_ (Nat.le_refl _) | refine ext_setCell ?_ (Nat.le_succ _) | refine ext_trans ?_ (by assumption) | (refine ext_setCell ?_ (by simp)) | (refine ext_setCell ?_ (by simp at *; omega)))), by simp⟩
theorem columnNumbers_any (w : World) : Calls Tryd.prog 82 #[] w fun e w' => e = .returned (.slice (some ⟨w.heap.size, 0, none⟩) 4 4) ∧ IRow .i64 w' (some ⟨w.heap.size, 0, none⟩) 4 colsI ∧ Below w.heap.size w w' ∧ w.heap.size < w'.heap.size := by
  go_enter Tryd.func82, Tryd.ntmps82
  go_wp2_with fail
  go_ret
  exact ⟨rfl, four_row _ _ _ _ _, (by (try show Below _ _ _); repeat (with_reducible first | exact Below.refl _ _ | assumption | exact Hid.out (by assumption) | refine ext_alloc ?_ | refine ext_drewN ?_ | refine ext_drew ?_ | refine ext_setCell ?_ (Nat.le_refl _) | refine ext_setCell ?_ (Nat.le_succ _) | refine ext_trans ?_ (by assumption) | (refine ext_setCell ?_ (by simp)) | (refine ext_setCell ?_ (by simp at *; omega)))), by simp⟩

theorem rows_bd (j : Nat) (h : j < 4) : 0 ≤ rowsI.getD j 0 ∧ rowsI.getD j 0 ≤ 30000 := by
  match j, h with
  | 0, _ => decide
  | 1, _ => decide
  | 2, _ => decide
  | 3, _ => decide
  | n + 4, h => exact absurd h (by omega)
theorem cols_bd (j : Nat) (h : j < 4) : 0 ≤ colsI.getD j 0 ∧ colsI.getD j 0 ≤ 30000 := by
  match j, h with
  | 0, _ => decide
  | 1, _ => decide
  | 2, _ => decide
  | 3, _ => decide
  | n + 4, h => exact absurd h (by omega)
theorem row_cell (w : World) (l : List Int) (h : l.length = 4) (j : Nat) (hj : j < 4) : (w.alloc (.cells (l.map (Value.int .i64)).toArray 3)).cell? ⟨w.heap.size, j, none⟩ = some (.int .i64 (l.getD j 0)) := by
  refine (cell_of_row _ w.heap.size j _ _ _ (heap_alloc_new w _)).trans ?_
  simpa using getD_map_int .i64 l j (by omega)

theorem irow_cell {k : IntKind} {w : World} {b n : Nat} {xs : List Int} (h : IRow k w (some ⟨b, 0, none⟩) n xs) (j : Nat) (hj : j < n) : w.cell? ⟨b, j, none⟩ = some (.int k (xs.getD j 0)) := by
  rcases h.2 with h0 | ⟨b', off, e, _, hc⟩
  · omega
  · injection e with e; injection e with e1 e2 e3
    subst e1; subst e2
    have := hc j hj
    rwa [Nat.zero_add] at this

theorem indexByte_any (s : ByteArray) (c : Int) (w : World) : Calls Tryd.prog 79 #[.string s, .int .u8 c] w fun e w' => e = .returned (.int .i64 (Lib.indexByte s.data.toList c.toNat.toUInt8)) ∧ w = w' :=
  (Tryd.strings_IndexByte s c w).mono fun e w' ⟨h1, h2⟩ => ⟨h1, h2.symm⟩

def TonePost (k n : Nat) (w : World) (e : Ending) (w' : World) : Prop :=
  ∃ v, e = .returned (.tuple #[v, .bool true]) ∧ w'.ownsRow w.heap.size 3 1 v n ((toneI k n).map (Value.int .i64)) ∧ Below w.heap.size w w'

theorem pad_index (k : Nat) (h : k < 16) : Lib.indexByte [49, 50, 51, 65, 52, 53, 54, 66, 55, 56, 57, 67, 42, 48, 35, 68] (UInt8.ofNat (padI.getD k 0).toNat) = k := by
  match k, h with
  | 0, _ => decide
  | 1, _ => decide
  | 2, _ => decide
  | 3, _ => decide
  | 4, _ => decide
  | 5, _ => decide
  | 6, _ => decide
  | 7, _ => decide
  | 8, _ => decide
  | 9, _ => decide
  | 10, _ => decide
  | 11, _ => decide
  | 12, _ => decide
  | 13, _ => decide
  | 14, _ => decide
  | 15, _ => decide
  | n + 16, h => exact absurd h (by omega)

set_option maxRecDepth 100000 in
set_option maxHeartbeats 4000000 in
theorem tone_any (w : World) (k n : Nat) (pc : Int) (hpc : pc = padI.getD k 0) (hk : k < 16) (hn : n ≤ 1000) (hn1 : 1 ≤ n) :
    Calls Tryd.prog 56 #[.int .u8 pc, .int .i64 n] w (TonePost k n w) := by
  obtain ⟨i0, hi, hz0, hz1, hz2⟩ := info_parts Tryd.infoInt
  have HIX : Hid (Lib.indexByte [49, 50, 51, 65, 52, 53, 54, 66, 55, 56, 57, 67, 42, 48, 35, 68] pc.toNat.toUInt8 = k) := by rw [hpc]; exact pad_index k hk
  clear hpc
  have hrb := rows_bd (k / 4) (by omega)
  have hcb := cols_bd (k % 4) (by omega)
  have k0 : (0 : Int) ≤ k := by omega
  have k1 : ((k : Int) / 4).toNat = k / 4 := by omega
  have k2 : ((k : Int) % 4).toNat = k % 4 := by omega
  have k3 : (k : Int) / 4 < 4 := by omega
  have k4 : (k : Int) % 4 < 4 := by omega
  have k5 : (0 : Int) ≤ (k : Int) / 4 := by omega
  have k6 : (0 : Int) ≤ (k : Int) % 4 := by omega
  have k7 : (k : Int) ≤ 15 := by omega
  go_enter Tryd.func56, Tryd.ntmps56
  go_wp2_with fail
  refine (indexByte_any _ _ _).mono ?_
  rintro e w0 ⟨rfl, rfl⟩
  rw [show Lib.indexByte (⟨#[49, 50, 51, 65, 52, 53, 54, 66, 55, 56, 57, 67, 42, 48, 35, 68]⟩ : ByteArray).data.toList pc.toNat.toUInt8 = (k : Int) from HIX.out]
  go_wp2_with fail
  refine (rowNumbers_any _).mono ?_
  rintro e w1 ⟨rfl, hr1, hb1, z1⟩
  have cr := irow_cell hr1 (k / 4) (by omega)
  have HB1 := Lib.hid hb1
  clear hr1 hb1
  generalize hcr : rowsI.getD (k / 4) 0 = c1 at cr hrb
  have HC1 := Lib.hid hcr
  clear hcr
  go_wp2_with fail
  refine (hum_any _ c1 n hrb.1 hrb.2 hn).mono ?_
  rintro e w2 ⟨v2, rfl, hown2, hb2⟩
  have HO2 := Lib.hid hown2
  have HB2 := Lib.hid (ext_trans HB1.out hb2)
  have z2 : w1.heap.size ≤ w2.heap.size := hb2.size
  clear hown2 hb2 cr
  go_wp2_with fail
  refine (columnNumbers_any _).mono ?_
  rintro e w3 ⟨rfl, hr3, hb3, z3⟩
  have cc := irow_cell hr3 (k % 4) (by omega)
  have HO3 := Lib.hid (HO2.out.kept_below hb3)
  have HB3 := Lib.hid (ext_trans HB2.out hb3)
  clear hr3 hb3
  generalize hcc : colsI.getD (k % 4) 0 = c2 at cc hcb
  have HC2 := Lib.hid hcc
  clear hcc
  go_wp2_with fail
  refine (hum_any _ c2 n hcb.1 hcb.2 hn).mono ?_
  rintro e w4 ⟨v4, rfl, hown4, hb4⟩
  obtain ⟨m, rfl⟩ : ∃ m, n = m + 1 := ⟨n - 1, by omega⟩
  have hown3 := HO3.out.kept_below hb4
  obtain ⟨ga, ca, rfl⟩ := own_at hown3
  obtain ⟨gb, cb, rfl⟩ := own_at hown4
  have za := hown3.lt ga rfl
  have zb := hown4.lt gb rfl
  have hab : ga < gb := by have := (HO3.out.lt ga rfl).2; omega
  have hga3 : ga < w3.heap.size := (HO3.out.lt ga rfl).2
  have HO4 := Lib.hid hown3
  have HOb := Lib.hid hown4
  have HB4 := Lib.hid (ext_trans HB3.out hb4)
  clear hown3 hown4 hb4 cc
  obtain ⟨ta, HTA⟩ : ∃ ta : List Int, Hid (ta = humI c1 (m + 1)) := ⟨_, rfl⟩
  obtain ⟨tb, HTB⟩ : ∃ tb : List Int, Hid (tb = humI c2 (m + 1)) := ⟨_, rfl⟩
  obtain ⟨tt, HTT⟩ : ∃ tt : List Int, Hid (tt = List.zipWith (fun a b => wrap64 (a + b)) ta tb) := ⟨_, rfl⟩
  have hla : Hid (ta.length = m + 1) := by show _ = _; rw [HTA.out]; exact humS_length _ _ _
  have hlb : Hid (tb.length = m + 1) := by show _ = _; rw [HTB.out]; exact humS_length _ _ _
  have hlt : Hid (tt.length = m + 1) := by show _ = _; rw [HTT.out, List.length_zipWith, hla.out, hlb.out]; omega
  have HTK : Hid (tt = toneI k (m + 1)) := by show _ = _; unfold toneI; rw [HTT.out, HTA.out, HTB.out, HC1.out, HC2.out]
  have HST : Hid (w4.ownsRow w.heap.size 3 1 (.slice (some ⟨ga, 0, none⟩) (m + 1) ca) (m + 1) ((tt.take 0 ++ ta.drop 0).map (Value.int .i64))) := by
    show World.ownsRow _ _ _ _ _ _ _
    have := HO4.out.mono (base' := w.heap.size) (by omega)
    rw [← HTA.out] at this
    simpa using this
  go_wp2_with fail
  go_loopw [30] (fun it wr => ∃ j : Nat, j ≤ m + 1 ∧ it = .int .i64 j ∧ Hid (wr.ownsRow w.heap.size 3 1 (.slice (some ⟨ga, 0, none⟩) (m + 1) ca) (m + 1) ((tt.take j ++ ta.drop j).map (Value.int .i64))) ∧ Hid (wr.ownsRow w3.heap.size 3 1 (.slice (some ⟨gb, 0, none⟩) (m + 1) cb) (m + 1) (tb.map (Value.int .i64))) ∧ Hid (Below w.heap.size w wr)) (fun it _ => m + 1 - (intOf it).toNat)
  case atStart => exact ⟨0, Nat.zero_le _, rfl, HST, by rw [HTB.out]; exact HOb, HB4⟩
  case round =>
    obtain ⟨j, hj, rfl, HU, HV, HW⟩ := hrel
    by_cases hjl : j < m + 1
    · have ea : Hid (((tt.take j ++ ta.drop j).map (Value.int .i64))[j]? = some (.int .i64 (ta.getD j 0))) := by
        show _ = _
        rw [List.getElem?_map, List.getElem?_append_right (by rw [List.length_take, hlt.out]; omega), List.length_take, hlt.out, Nat.min_eq_left (by omega), Nat.sub_self, List.getElem?_drop, Nat.add_zero]
        have : j < ta.length := by rw [hla.out]; exact hjl
        simp [this]
      have cA := (HU.out.cellAt j (by omega)).trans ea.out
      have fA := HU.out.frozenAt j
      have cB := (HV.out.cellAt j (by omega)).trans (getD_map_int .i64 tb j (by rw [hlb.out]; exact hjl))
      have hset : Hid ((tt.take j ++ ta.drop j).set j (wrap64 (ta.getD j 0 + tb.getD j 0)) = tt.take (j + 1) ++ ta.drop (j + 1)) := by
        show _ = _
        have h1 : j < ta.length := by rw [hla.out]; exact hjl
        have h2 : j < tb.length := by rw [hlb.out]; exact hjl
        have h3 : j < tt.length := by rw [hlt.out]; exact hjl
        rw [List.set_append_right _ _ (by rw [List.length_take]; omega), show j - (tt.take j).length = 0 by rw [List.length_take]; omega, List.drop_eq_getElem_cons h1, List.set_cons_zero, List.take_succ_eq_append_getElem h3, List.append_assoc]
        have : tt[j] = wrap64 (ta.getD j 0 + tb.getD j 0) := by simp [HTT.out, h1, h2]
        rw [this]; rfl
      have HSTO := Lib.hid (fun u => (HU.out.stored j u).1)
      generalize ta.getD j 0 = xa at cA hset
      generalize tb.getD j 0 = xb at cB hset
      have j1 : (0 : Int) ≤ j := by omega
      have j2 : (j : Int) < (m : Int) + 1 := by omega
      have hzz := HW.out.size
      clear ea
      have hW := i64_w (xa + xb)
      have HU2 : Hid ((wr.setCell ⟨ga, j, none⟩ (.int .i64 (wrap64 (xa + xb)))).ownsRow w.heap.size 3 1 (.slice (some ⟨ga, 0, none⟩) (m + 1) ca) (m + 1) ((tt.take (j + 1) ++ ta.drop (j + 1)).map (Value.int .i64))) := by
        have := HSTO.out (.int .i64 (wrap64 (xa + xb)))
        rw [← List.map_set, hset.out] at this
        exact this
      have HV2 := Lib.hid (ownsRow_setCell_below HV.out (a := ⟨ga, j, none⟩) hga3 (.int .i64 (wrap64 (xa + xb))))
      have HW2 := Lib.hid (HW.out.setCell (p := ⟨ga, j, none⟩) (by show w.heap.size ≤ ga; omega) (.int .i64 (wrap64 (xa + xb))))
      go_wp2_with fail
      go_region
      all_goals
        clear hW
        go_wp2_with fail
        go_roundw
        case rel => exact ⟨j + 1, by omega, by go_num, HU2, HV2, HW2.out.drew⟩
        case measure => simp [intOf]; omega
    · obtain rfl : j = m + 1 := by omega
      have hx : Hid (tt.take (m + 1) ++ ta.drop (m + 1) = tt) := by show _ = _; rw [List.take_of_length_le (by rw [hlt.out]; omega), List.drop_of_length_le (by rw [hla.out]; omega), List.append_nil]
      go_wp2_with fail
      go_ret2
      exact ⟨_, rfl, by have := HU.out; rwa [hx.out, HTK.out] at this, HW.out⟩
end Go.Proofs.YtlllckclfpdhgaaDoor
