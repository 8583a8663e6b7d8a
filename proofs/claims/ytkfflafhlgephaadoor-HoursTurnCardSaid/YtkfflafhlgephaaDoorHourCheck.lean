/- What is proved here: CheckHours lets right hours pass. Condition: the hours lie in memory as stated. -/
import Derived.Test.YtkfflafhlgephaaDoorHourOpen
import Derived.Test.YtkfflafhlgephaaDoorNumber
set_option linter.unusedVariables false
set_option linter.unusedSimpArgs false
namespace Go.Proofs.YtkfflafhlgephaaDoor
open Go.RowKit

theorem within_d (n lo hi : Int) (w : World) (h1 : lo ≤ n) (h2 : n ≤ hi) :
    Calls Tryd.prog 62 #[.int .i64 n, .int .i64 lo, .int .i64 hi] w fun e w' => e = .returned (.bool true) ∧ w = w' := by
  go_enter Tryd.func62, Tryd.ntmps62
  go_wp2
  go_ret
  exact ⟨rfl, rfl⟩
theorem isTime_yes (a b : Int) (w : World) (h1 : 0 ≤ a) (h2 : a < b) (h3 : b ≤ 1440) :
    Calls Tryd.prog 94 #[.int .i64 a, .int .i64 b] w fun e w' => e = .returned (.bool true) ∧ w = w' := by
  go_enter Tryd.func94, Tryd.ntmps94
  go_wp2
  go_ret
  exact ⟨rfl, rfl⟩

set_option maxRecDepth 100000 in
set_option maxHeartbeats 4000000 in
theorem checkTimes_ok (w : World) (key : List UInt8) (zone : Int) (ra ha : Option Addr) (rn rc hn hc : Nat) (rows hols : List Tri) (hr : TriRow w ra rn rows) (hh : TriRow w ha hn hols) (hok : HoursOk zone rows hols) :
    Calls Tryd.prog 63 #[hoursVal key zone ra rn rc ha hn hc] w fun e w' => e = .returned (.int .i64 0) ∧ Below w.heap.size w w' := by
  have HR := Lib.hid hr
  have HH := Lib.hid hh
  have HOK := Lib.hid hok
  have hn200 : hn ≤ 200 := by have := hok.few2; have := hh.len; omega
  have rn50 : rn ≤ 50 := by have := hok.few1; have := hr.len; omega
  clear hr hh hok
  unfold hoursVal
  go_enter Tryd.func63, Tryd.ntmps63
  go_wp2_with fail
  go_loopw [14] (fun it wr => ∃ k : Nat, k ≤ rn ∧ it = .int .i64 k ∧ Hid (Below (w.alloc (.cells #[.string ⟨key.toArray⟩, .int .i64 zone, .slice ra rn rc, .slice ha hn hc] 29)).heap.size (w.alloc (.cells #[.string ⟨key.toArray⟩, .int .i64 zone, .slice ra rn rc, .slice ha hn hc] 29)) wr)) (fun it _ => rn - (intOf it).toNat)
  case atStart => exact ⟨0, Nat.zero_le _, rfl, Below.refl _ _⟩
  case round =>
    obtain ⟨k, hk, rfl, HB⟩ := hrel
    have HBW : Hid (Below w.heap.size w wr) := ext_trans (ext_alloc (Below.refl _ _)) HB.out
    have hz := HB.out.size
    by_cases hlt : k < rn
    · rcases HR.out.row with h0 | ⟨b, off, rfl, hb, hcl⟩
      · omega
      obtain ⟨c0, c1, c2⟩ := tri_cells (w := wr) (fun j hj => (HBW.out.cell (p := ⟨b, off + k * 3 + j, none⟩) hb).trans (hcl k hlt j hj))
      obtain ⟨x0, x1, x2, x3, x4⟩ := HOK.out.row k (by rw [← HR.out.len]; exact hlt)
      clear hcl
      generalize rows.getD k noTri = d at c0 c1 c2 x0 x1 x2 x3 x4
      go_wp2_with (first | (go_at_call 62; refine (within_d _ _ _ _ (by omega) (by omega)).mono ?_; rintro e w' ⟨rfl, rfl⟩) | (go_at_call 94; refine (isTime_yes _ _ _ x2 x3 x4).mono ?_; rintro e w' ⟨rfl, rfl⟩))
      go_roundw
      case rel => exact ⟨k + 1, hlt, by go_num, ext_alloc HB.out⟩
      case measure => simp [intOf]; omega
    · obtain rfl : k = rn := by omega
      have r3 := (HB.out.cell (p := ⟨w.heap.size, 3, none⟩) (by simp)).trans (show _ = some (.slice ha hn hc) by go_simp)
      have zz : w.heap.size < wr.heap.size := by simp at hz; omega
      have HK1 := Lib.hid HB.out
      go_wp2_with fail
      go_loopw [38] (fun it wq => ∃ q : Nat, q ≤ hn ∧ it = .int .i64 q ∧ Hid (Below (w.alloc (.cells #[.string ⟨key.toArray⟩, .int .i64 zone, .slice ra k rc, .slice ha hn hc] 29)).heap.size (w.alloc (.cells #[.string ⟨key.toArray⟩, .int .i64 zone, .slice ra k rc, .slice ha hn hc] 29)) wq)) (fun it _ => hn - (intOf it).toNat)
      case atStart => exact ⟨0, Nat.zero_le _, rfl, HB⟩
      case round =>
        obtain ⟨q, hq, rfl, HBQ⟩ := hrel
        have HBV : Hid (Below w.heap.size w wr) := ext_trans (ext_alloc (Below.refl _ _)) HBQ.out
        have hzq := HBQ.out.size
        by_cases hlq : q < hn
        · rcases HH.out.row with h0 | ⟨b, off, rfl, hb, hcl⟩
          · omega
          obtain ⟨c0, c1, c2⟩ := tri_cells (w := wr) (fun j hj => (HBV.out.cell (p := ⟨b, off + q * 3 + j, none⟩) hb).trans (hcl q hlq j hj))
          have hql : q < hols.length := by rw [← HH.out.len]; exact hlq
          obtain ⟨x0, x1, x2⟩ := HOK.out.hol q hql
          have HX : Hid (0 < q → wr.cell? ⟨b, off + (q - 1) * 3, none⟩ = some (.int .i64 (hols.getD (q - 1) noTri).a)) := fun h0 => (HBV.out.cell (p := ⟨b, off + (q - 1) * 3 + 0, none⟩) hb).trans (hcl (q - 1) (by omega) 0 (by omega))
          have HO : Hid (0 < q → (hols.getD (q - 1) noTri).a < (hols.getD q noTri).a) := fun h0 => HOK.out.ord q h0 hql
          have s3 := (HBQ.out.cell (p := ⟨w.heap.size, 3, none⟩) (by simp)).trans (show _ = some (.slice (some ⟨b, off, none⟩) hn hc) by go_simp)
          have zq : w.heap.size < wr.heap.size := by simp at hzq; omega
          have zb : b < wr.heap.size := by omega
          have HBN : Hid (∀ (o : Obj) m, Below (w.alloc (.cells #[.string ⟨key.toArray⟩, .int .i64 zone, .slice ra k rc, .slice (some ⟨b, off, none⟩) hn hc] 29)).heap.size (w.alloc (.cells #[.string ⟨key.toArray⟩, .int .i64 zone, .slice ra k rc, .slice (some ⟨b, off, none⟩) hn hc] 29)) ((wr.alloc o).drewN m)) := fun o m => ext_drewN (ext_alloc HBQ.out)
          clear hcl
          generalize hols.getD q noTri = d at c0 c1 c2 x0 x1 x2 HO
          generalize hols.getD (q - 1) noTri = y at HX HO
          have hcase : ((d.b != 0) = false ∧ (d.c != 0) = false) ∨ ((d.b != 0) = true ∧ (0 ≤ d.b ∧ d.b < d.c ∧ d.c ≤ 1440)) ∨ ((d.b != 0) = false ∧ (d.c != 0) = true ∧ (0 ≤ d.b ∧ d.b < d.c ∧ d.c ≤ 1440)) := by
            rcases x2 with ⟨u0, u1⟩ | u
            · exact Or.inl ⟨by simp [u0], by simp [u1]⟩
            · by_cases hb0 : d.b = 0
              · exact Or.inr (Or.inr ⟨by simp [hb0], by simp; omega, u⟩)
              · exact Or.inr (Or.inl ⟨by simp [hb0], u⟩)
          clear x2
          by_cases hk0 : q = 0
          · have hk1 : decide (0 < q) = false := decide_eq_false (by omega)
            have HK0 := Lib.hid hk0
            clear hk0
            rcases hcase with ⟨t1, t2⟩ | ⟨t1, ht⟩ | ⟨t1, t2, ht⟩
            · have HT := Lib.hid t1
              go_wp2_with (first | (go_at_call 62; refine (within_d _ _ _ _ (by omega) (by omega)).mono ?_; rintro e w' ⟨rfl, rfl⟩) | (go_at_call 94; refine (isTime_yes _ _ _ (by omega) (by omega) (by omega)).mono ?_; rintro e w' ⟨rfl, rfl⟩))
              go_quiet (fail)
              go_wp2_with fail
              go_roundw
              case rel => exact ⟨q + 1, by omega, by go_num, HBN.out _ _⟩
              case measure => simp [intOf]; omega
            · have HT := Lib.hid ht
              clear ht
              go_wp2_with (first | (go_at_call 62; refine (within_d _ _ _ _ (by omega) (by omega)).mono ?_; rintro e w' ⟨rfl, rfl⟩) | (go_at_call 94; refine (isTime_yes _ _ _ HT.out.1 HT.out.2.1 HT.out.2.2).mono ?_; rintro e w' ⟨rfl, rfl⟩))
              go_quiet (fail)
              go_wp2_with fail
              go_roundw
              case rel => exact ⟨q + 1, by omega, by go_num, HBN.out _ _⟩
              case measure => simp [intOf]; omega
            · have HT := Lib.hid ht
              clear ht
              go_wp2_with (first | (go_at_call 62; refine (within_d _ _ _ _ (by omega) (by omega)).mono ?_; rintro e w' ⟨rfl, rfl⟩) | (go_at_call 94; refine (isTime_yes _ _ _ HT.out.1 HT.out.2.1 HT.out.2.2).mono ?_; rintro e w' ⟨rfl, rfl⟩))
              go_quiet (fail)
              go_wp2_with fail
              go_roundw
              case rel => exact ⟨q + 1, by omega, by go_num, HBN.out _ _⟩
              case measure => simp [intOf]; omega
          · have hk1 : 0 < q := by omega
            clear hk0
            rcases hcase with ⟨t1, t2⟩ | ⟨t1, ht⟩ | ⟨t1, t2, ht⟩
            · have HT := Lib.hid t1
              have p0 := HX.out hk1
              have kq : ((q : Int) - 1).toNat = q - 1 := by omega
              have kr : 0 ≤ (q : Int) - 1 := by omega
              have ks : (q : Int) - 1 < hn := by omega
              have hno : decide (d.a ≤ y.a) = false := decide_eq_false (by have := HO.out hk1; omega)
              go_wp2_with (first | (go_at_call 62; refine (within_d _ _ _ _ (by omega) (by omega)).mono ?_; rintro e w' ⟨rfl, rfl⟩) | (go_at_call 94; refine (isTime_yes _ _ _ (by omega) (by omega) (by omega)).mono ?_; rintro e w' ⟨rfl, rfl⟩))
              go_quiet (fail)
              go_wp2_with fail
              go_roundw
              case rel => exact ⟨q + 1, by omega, by go_num, HBN.out _ _⟩
              case measure => simp [intOf]; omega
            · have HT := Lib.hid ht
              clear ht
              have p0 := HX.out hk1
              have kq : ((q : Int) - 1).toNat = q - 1 := by omega
              have kr : 0 ≤ (q : Int) - 1 := by omega
              have ks : (q : Int) - 1 < hn := by omega
              have hno : decide (d.a ≤ y.a) = false := decide_eq_false (by have := HO.out hk1; omega)
              go_wp2_with (first | (go_at_call 62; refine (within_d _ _ _ _ (by omega) (by omega)).mono ?_; rintro e w' ⟨rfl, rfl⟩) | (go_at_call 94; refine (isTime_yes _ _ _ HT.out.1 HT.out.2.1 HT.out.2.2).mono ?_; rintro e w' ⟨rfl, rfl⟩))
              go_quiet (fail)
              go_wp2_with fail
              go_roundw
              case rel => exact ⟨q + 1, by omega, by go_num, HBN.out _ _⟩
              case measure => simp [intOf]; omega
            · have HT := Lib.hid ht
              clear ht
              have p0 := HX.out hk1
              have kq : ((q : Int) - 1).toNat = q - 1 := by omega
              have kr : 0 ≤ (q : Int) - 1 := by omega
              have ks : (q : Int) - 1 < hn := by omega
              have hno : decide (d.a ≤ y.a) = false := decide_eq_false (by have := HO.out hk1; omega)
              go_wp2_with (first | (go_at_call 62; refine (within_d _ _ _ _ (by omega) (by omega)).mono ?_; rintro e w' ⟨rfl, rfl⟩) | (go_at_call 94; refine (isTime_yes _ _ _ HT.out.1 HT.out.2.1 HT.out.2.2).mono ?_; rintro e w' ⟨rfl, rfl⟩))
              go_quiet (fail)
              go_wp2_with fail
              go_roundw
              case rel => exact ⟨q + 1, by omega, by go_num, HBN.out _ _⟩
              case measure => simp [intOf]; omega
        · go_wp2_with fail
          go_ret
          exact ⟨rfl, HBV.out⟩
end Go.Proofs.YtkfflafhlgephaaDoor
