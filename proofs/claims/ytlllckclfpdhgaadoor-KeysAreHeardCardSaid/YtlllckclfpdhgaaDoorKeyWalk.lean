/- What is proved here: the strength of numbers in a block, as the program reckons it. Condition: what is handed in lies in memory as stated. -/
import Derived.Test.YtlllckclfpdhgaaDoorSounds
import Derived.Test.YtlllckclfpdhgaaDoorKeyMath
namespace Go.Proofs.YtlllckclfpdhgaaDoor
open Go.RowKit
set_option linter.unusedVariables false
set_option linter.unusedSimpArgs false

set_option maxRecDepth 100000 in
set_option maxHeartbeats 1000000 in
theorem strength_any (w : World) (c : Int) (a : Option Addr) (n cap : Nat) (xs : List Int) (hr : IRow .i64 w a n xs) (hn : n ≤ 100000) :
    Calls Tryd.prog 83 #[.int .i64 c, .slice a n cap] w fun e w' => e = .returned (.int .i64 (strI c xs)) ∧ w = w' := by
  obtain ⟨hl, hr⟩ := hr
  have Hl := Lib.hid hl
  have HR := Lib.hid hr
  clear hl hr
  go_enter Tryd.func83, Tryd.ntmps83
  go_wp2_with fail
  go_loop [5, 6, 12] (fun u v i => ∃ k : Nat, k ≤ n ∧ i = .int .i64 k ∧ u = .int .i64 ((xs.take k).foldl (stepI c) (0, 0)).1 ∧ v = .int .i64 ((xs.take k).foldl (stepI c) (0, 0)).2) (fun _ _ i => n - (intOf i).toNat)
  case atStart => exact ⟨0, Nat.zero_le _, rfl, rfl, rfl⟩
  case round =>
    obtain ⟨k, hk, rfl, rfl, rfl⟩ := hrel
    by_cases hlt : k < n
    · rcases HR.out with h0 | ⟨b, off, rfl, hb, hc⟩
      · omega
      have hcell := hc k hlt
      have hsn : Hid ((xs.take (k + 1)).foldl (stepI c) (0, 0) = stepI c ((xs.take k).foldl (stepI c) (0, 0)) (xs.getD k 0)) := by
        show _ = _
        have hkl : k < xs.length := by rw [← Hl.out]; exact hlt
        rw [List.take_succ_eq_append_getElem hkl, List.foldl_append]
        simp [hkl]
      generalize xs.getD k 0 = x at hcell hsn
      generalize (xs.take k).foldl (stepI c) (0, 0) = p at hsn
      clear hc
      go_wp2_with fail
      go_round
      case rel => exact ⟨k + 1, by omega, by go_num, by rw [hsn.out]; rfl, by rw [hsn.out]; rfl⟩
      case measure => simp [intOf]; omega
    · obtain rfl : k = n := by omega
      have hx : Hid (xs.take k = xs) := List.take_of_length_le (by rw [← Hl.out]; exact Nat.le_refl _)
      go_wp2_with fail
      go_ret
      exact ⟨by rw [hx.out]; rfl, rfl⟩

theorem bestTo_lt (a : List Int) : ∀ k, 0 < k → bestTo a k < k
  | k + 1, _ => by
    simp only [bestTo]
    split
    · omega
    · rcases Nat.eq_zero_or_pos k with h | h
      · subst h; simp [bestTo]
      · have := bestTo_lt a k h; omega

theorem noneNear_false {a : List Int} {b k n : Nat} (hk : k < n) (h : k ≠ b) (hl : a.getD b 0 < wrap64 (6 * a.getD k 0)) : noneNear a b n = false := by
  induction n with
  | zero => omega
  | succ n ih =>
    simp only [noneNear]
    rcases Nat.lt_or_ge k n with h1 | h1
    · rw [ih h1]; rfl
    · obtain rfl : k = n := by omega
      simp [h]
      intro _
      simpa using hl

theorem own_at {w : World} {base : Nat} {e : TypeId} {v : Value} {k : Nat} {xs : List Value} (h : w.ownsRow base e 1 v (k + 1) xs) : ∃ g cap, v = .slice (some ⟨g, 0, none⟩) (k + 1) cap := by
  rcases h.2 with ⟨_, h0⟩ | ⟨g, cap, cur, rfl, _⟩
  · omega
  · exact ⟨g, cap, rfl⟩

def StrongPost (ns zs : List Int) (w : World) (e : Ending) (w' : World) : Prop :=
  e = .returned (.tuple #[.int .i64 (strongI ns zs).1, .bool (strongI ns zs).2]) ∧ Below w.heap.size w w'

set_option maxRecDepth 100000 in
set_option maxHeartbeats 4000000 in
theorem strongest_any (w : World) (a a2 : Option Addr) (m cap n cap2 : Nat) (ns zs : List Int) (hr : IRow .i64 w a m ns) (hr2 : IRow .i64 w a2 n zs) (hm : m ≤ 100) (hm0 : 1 ≤ m) (hn : n ≤ 100000) :
    Calls Tryd.prog 57 #[.slice a m cap, .slice a2 n cap2] w (StrongPost ns zs w) := by
  obtain ⟨i0, hi, hz0, hz1, hz2⟩ := info_parts Tryd.infoInt
  have HR2 := Lib.hid hr2
  obtain ⟨hl, hr⟩ := hr
  have Hl := Lib.hid hl
  rcases hr with h0 | ⟨b, off, rfl, hb, hc⟩
  · omega
  have HC := Lib.hid hc
  clear hl hc hr2
  obtain ⟨st, HA⟩ : ∃ st : List Int, Hid (st = ns.map (fun c => strI c zs)) := ⟨_, rfl⟩
  have HAL : Hid (st.length = m) := by show _ = _; rw [HA.out, List.length_map, ← Hl.out]
  have HAK : Hid (∀ k, k < m → st.getD k 0 = strI (ns.getD k 0) zs) := by
    intro k hk
    have hkl : k < ns.length := by rw [← Hl.out]; exact hk
    rw [HA.out]; simp [hkl]
  have HP : Hid (strongI ns zs = if noneNear st (bestTo st m) m then (bestTo st m, decide (4000000 ≤ st.getD (bestTo st m) 0)) else (0, false)) := by
    show _ = _
    unfold strongI
    simp only [← HA.out, HAL.out]
  go_enter Tryd.func57, Tryd.ntmps57
  go_wp2_with fail
  go_loopw [6, 7, 14] (fun v bst i wr => ∃ k : Nat, k ≤ m ∧ i = .int .i64 k ∧ bst = .int .i64 (bestTo st k) ∧ Hid (wr.ownsRow w.heap.size 3 1 v k ((st.take k).map (Value.int .i64))) ∧ Hid (Below w.heap.size w wr)) (fun _ _ i _ => m - (intOf i).toNat)
  case atStart => exact ⟨0, Nat.zero_le _, rfl, rfl, World.ownsRow_nil _ _ _ _, Below.refl _ _⟩
  case round =>
    obtain ⟨k, hk, rfl, rfl, HO, HB⟩ := hrel
    by_cases hlt : k < m
    · have hcell := (HB.out.cell (p := ⟨b, off + k, none⟩) hb).trans (HC.out k hlt)
      have hak := HAK.out k hlt
      have hsz := HB.out.size
      generalize ns.getD k 0 = c at hcell hak
      go_wp2_with fail
      refine (strength_any _ c a2 n cap2 zs (HR2.out.below HB.out) hn).mono ?_
      rintro e w' ⟨rfl, rfl⟩
      rw [← hak]
      have HO' := Lib.hid (HO.out.alloc (.cells #[.int .i64 (st.getD k 0)] 3))
      have hrow := fun b e => (HO.out.lt b e).1
      have HSN : Hid (st.take (k + 1) = st.take k ++ [st.getD k 0]) := by
        have hkl : k < st.length := by rw [HAL.out]; exact hlt
        show _ = _
        rw [List.take_succ_eq_append_getElem hkl]; simp [hkl]
      clear hak
      go_wp2_with (at_builtin; refine wpList_append_own _ rfl (.tmp 19) (.tmp 23) 22 rfl w.heap.size 3 i0 (.int .i64 0) 1 8 Tryd.underlying22 hi hz0 hz1 hz2 rfl (by decide) _ k ((st.take k).map (Value.int .i64)) rfl HO'.out ⟨wr.heap.size, 0, none⟩ 1 1 [.int .i64 (st.getD k 0)] rfl rfl (news_one (by go_simp)) (by simp [Value.oneCell']) (by simp only [maxLen]; omega) (by omega) (by simp; omega) ?_; intro v4 w4 hown4 hgr4 _)
      have hown5 : w4.ownsRow w.heap.size 3 1 v4 (k + 1) ((st.take (k + 1)).map (Value.int .i64)) := by rw [HSN.out, List.map_append]; exact hown4
      have hb4 : Below w.heap.size w w4 := HB.out.trans (upto_grown hgr4 hsz hrow)
      obtain ⟨g, cap4, rfl⟩ := own_at hown5
      have HO5 := Lib.hid hown5
      have HB5 := Lib.hid hb4
      have hat : ∀ j, j ≤ k → w4.cell? ⟨g, j, none⟩ = some (.int .i64 (st.getD j 0)) := by
        intro j hj
        have hjl : j < st.length := by rw [HAL.out]; omega
        rw [hown5.cellAt j (by omega), getD_map_int .i64 _ j (by simp; omega)]
        simp [List.getD_eq_getElem?_getD, List.getElem?_take, show j < k + 1 by omega]
      have ck := hat k (Nat.le_refl _)
      have hbk : bestTo st k ≤ k := by
        rcases Nat.eq_zero_or_pos k with h | h
        · subst h; simp [bestTo]
        · exact Nat.le_of_lt (bestTo_lt st k h)
      have cb := hat (bestTo st k) hbk
      have HBT : Hid (bestTo st (k + 1) = if st.getD (bestTo st k) 0 < st.getD k 0 then k else bestTo st k) := rfl
      generalize bestTo st k = bb at cb HBT hbk
      have e1 : (bb : Int) < (k : Int) + 1 := by omega
      have e2 : (k : Int) < (k : Int) + 1 := by omega
      have e3 : (0 : Int) ≤ bb := by omega
      have e4 : (0 : Int) ≤ k := by omega
      have e5 : bb < k + 1 := by omega
      clear hown4 hgr4 hown5 hb4 hat
      generalize st.getD bb 0 = xb at cb HBT
      generalize st.getD k 0 = xk at ck HBT HSN
      by_cases hcmp : xb < xk
      · have hbt : Hid (bestTo st (k + 1) = k) := by show _ = _; rw [HBT.out, if_pos hcmp]
        go_quiet (fail)
        go_wp2_with fail
        go_roundw
        case rel => exact ⟨k + 1, by omega, by go_num, by rw [hbt.out], HO5, ext_drewN HB5.out⟩
        case measure => simp [intOf]; omega
      · have hbt : Hid (bestTo st (k + 1) = bb) := by show _ = _; rw [HBT.out, if_neg hcmp]
        go_quiet (fail)
        go_wp2_with fail
        go_roundw
        case rel => exact ⟨k + 1, by omega, by go_num, by rw [hbt.out], HO5, ext_drewN HB5.out⟩
        case measure => simp [intOf]; omega
    · obtain rfl : k = m := by omega
      obtain ⟨k, rfl⟩ : ∃ k', k = k' + 1 := ⟨k - 1, by omega⟩
      obtain ⟨g, cap4, rfl⟩ := own_at HO.out
      have hat : Hid (∀ j, j < k + 1 → wr.cell? ⟨g, j, none⟩ = some (.int .i64 (st.getD j 0))) := by
        intro j hj
        have hjl : j < st.length := by rw [HAL.out]; omega
        rw [HO.out.cellAt j (by omega), getD_map_int .i64 _ j (by simp; omega)]
        simp [List.getD_eq_getElem?_getD, List.getElem?_take, show j < k + 1 by omega]
      have hbk := bestTo_lt st (k + 1) (by omega)
      have cb := hat.out (bestTo st (k + 1)) hbk
      generalize bestTo st (k + 1) = bb at cb HP hbk
      have e1 : (bb : Int) < ((k + 1 : Nat) : Int) := by omega
      have e3 : (0 : Int) ≤ bb := by omega
      obtain ⟨wo, rfl⟩ : ∃ wo : World, wo = wr := ⟨_, rfl⟩
      go_wp2_with fail
      go_loop [38] (fun i => ∃ q : Nat, q ≤ k + 1 ∧ i = .int .i64 q ∧ Hid (noneNear st bb q = true)) (fun i => k + 1 - (intOf i).toNat)
      case atStart => exact ⟨0, Nat.zero_le _, rfl, rfl⟩
      case round =>
        obtain ⟨q, hq, rfl, HN⟩ := hrel
        by_cases hql : q < k + 1
        · have cq := hat.out q hql
          have HNF : Hid (q ≠ bb → st.getD bb 0 < wrap64 (6 * st.getD q 0) → noneNear st bb (k + 1) = false) := fun h1 h2 => noneNear_false hql h1 h2
          have HNS : Hid (noneNear st bb (q + 1) = (noneNear st bb q && (q == bb || decide (¬ st.getD bb 0 < wrap64 (6 * st.getD q 0))))) := rfl
          generalize st.getD bb 0 = xb at cb HP HNF HNS
          generalize st.getD q 0 = xq at cq HNF HNS
          by_cases hqb : q = bb
          · subst hqb
            have h1 : ((q : Int) != (q : Int)) = false := by simp
            have HN2 : Hid (noneNear st q (q + 1) = true) := by show _ = _; rw [HNS.out, HN.out]; simp
            go_wp2_with fail
            go_round
            case rel => exact ⟨q + 1, by omega, by go_num, HN2⟩
            case measure => simp [intOf]; omega
          · have h1 : ((q : Int) != (bb : Int)) = true := by simp; omega
            by_cases hcmp : xb < wrap64 (6 * xq)
            · have hfin : Hid (strongI ns zs = (0, false)) := by show _ = _; rw [HP.out, HNF.out hqb hcmp]; rfl
              go_wp2_with fail
              go_ret2
              exact ⟨by rw [hfin.out]; rfl, HB.out⟩
            · have HN2 : Hid (noneNear st bb (q + 1) = true) := by show _ = _; rw [HNS.out, HN.out]; simp [hcmp]
              go_wp2_with fail
              go_round
              case rel => exact ⟨q + 1, by omega, by go_num, HN2⟩
              case measure => simp [intOf]; omega
        · obtain rfl : q = k + 1 := by omega
          have hfin : Hid (strongI ns zs = (bb, decide (4000000 ≤ st.getD bb 0))) := by show _ = _; rw [HP.out, HN.out]; rfl
          generalize st.getD bb 0 = xb at cb hfin
          go_wp2_with fail
          go_quiet (fail)
          go_wp2_with fail
          go_ret2
          exact ⟨by rw [hfin.out]; rfl, ext_drewN HB.out⟩
end Go.Proofs.YtlllckclfpdhgaaDoor
