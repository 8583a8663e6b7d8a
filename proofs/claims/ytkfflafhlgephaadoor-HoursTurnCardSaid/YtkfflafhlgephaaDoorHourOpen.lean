/- What is proved here: what dialplan.floor and isOpen answer at right hours. Condition: the hours lie in memory as stated. -/
import Derived.Test.YtkfflafhlgephaaDoorHourMath
import Derived.IntWalk
set_option linter.unusedVariables false
set_option linter.unusedSimpArgs false
namespace Go.Proofs.YtkfflafhlgephaaDoor
open Go.RowKit

theorem floor_any (a b : Int) (w : World) (h : 1 ≤ b) (hb : b ≤ 1000000000) (a0 : -1000000000000000 ≤ a) (a1 : a ≤ 1000000000000000) :
    Calls Tryd.prog 64 #[.int .i64 a, .int .i64 b] w fun e w' => e = .returned (.int .i64 (a / b)) ∧ w = w' := by
  obtain ⟨h1, h2⟩ := floor_down a b (by omega)
  have hq : -1000000000000001 ≤ a.tdiv b ∧ a.tdiv b ≤ 1000000000000001 := by
    have h3 : a.tdiv b ≤ a.tdiv b := Int.le_refl _
    have h4 := Int.natAbs_tdiv_le_natAbs a b
    omega
  obtain ⟨q0, q1⟩ := hq
  by_cases hx : a.tmod b < 0
  · have hd : Hid (a / b = a.tdiv b - 1) := (h1 hx).symm
    clear h1 h2
    go_enter Tryd.func64, Tryd.ntmps64
    go_wp2
    go_ret
    exact ⟨ret_int hd.out.symm, rfl⟩
  · have hd : Hid (a / b = a.tdiv b) := (h2 hx).symm
    clear h1 h2
    go_enter Tryd.func64, Tryd.ntmps64
    go_wp2
    go_ret
    exact ⟨ret_int hd.out.symm, rfl⟩

theorem and_1 (x : Int) (h0 : -9223372036854775808 ≤ x) (h1 : x ≤ 9223372036854775807) : bits .and .i64 x 1 = x % 2 := by
  show IntKind.i64.wrap (((BitVec.ofInt 64 x &&& BitVec.ofInt 64 1).toNat : Nat) : Int) = _
  rw [BitVec.toNat_and, BitVec.toNat_ofInt, BitVec.toNat_ofInt]
  have e1 : ((1 : Int) % ((2 ^ 64 : Nat) : Int)).toNat = 2 ^ 1 - 1 := by decide
  rw [e1, Nat.and_two_pow_sub_one_eq_mod, IntKind.wrap_i64]
  have e2 : (((x % ((2 ^ 64 : Nat) : Int)).toNat % 2 ^ 1 : Nat) : Int) = x % 2 := by
    have h2 : ((2 ^ 64 : Nat) : Int) = 18446744073709551616 := by decide
    rw [h2]
    omega
  rw [e2]
  omega
theorem bit_of (days wd : Int) (h0 : 0 ≤ days) (h1 : days ≤ 127) : bits .and .i64 (days / 2 ^ wd.toNat) 1 = if bitB days wd then 1 else 0 := by
  have hp : (0 : Int) ≤ 2 ^ wd.toNat := Int.le_of_lt (Int.pow_pos (by decide))
  have a0 := Int.ediv_nonneg h0 hp
  have a1 : days / 2 ^ wd.toNat ≤ days := Int.ediv_le_self _ h0
  rw [and_1 _ (by omega) (by omega)]
  unfold bitB
  by_cases h : days / 2 ^ wd.toNat % 2 = 1
  · rw [decide_eq_true h]; simpa using h
  · rw [decide_eq_false h]; simp; omega

def hoursVal (key : List UInt8) (zone : Int) (ra : Option Addr) (rn rc : Nat) (ha : Option Addr) (hn hc : Nat) : Value := .agg #[.string ⟨key.toArray⟩, .int .i64 zone, .slice ra rn rc, .slice ha hn hc]

set_option maxRecDepth 100000 in
set_option maxHeartbeats 4000000 in
theorem isOpen_any (w : World) (key : List UInt8) (zone : Int) (ra ha : Option Addr) (rn rc hn hc : Nat) (rows hols : List Tri) (at_ : Int) (hr : TriRow w ra rn rows) (hh : TriRow w ha hn hols) (hok : HoursOk zone rows hols) (a0 : 0 ≤ at_) (a1 : at_ ≤ 345686400000) :
    Calls Tryd.prog 31 #[hoursVal key zone ra rn rc ha hn hc, .int .i64 at_] w fun e w' => e = .returned (.bool (openI zone rows hols at_)) ∧ Below w.heap.size w w' := by
  obtain ⟨d0, d1, m0, m1⟩ := day_range hok.z0 hok.z1 a0 a1
  have HR := Lib.hid hr
  have HH := Lib.hid hh
  have HOK := Lib.hid hok
  have z0 := hok.z0
  have z1 := hok.z1
  have hn200 : hn ≤ 200 := by have := hok.few2; have := hh.len; omega
  have rn50 : rn ≤ 50 := by have := hok.few1; have := hr.len; omega
  have HD : Hid ((at_ + zone * 60000) / 86400000 = dayI zone at_) := rfl
  have HM : Hid ((at_ + zone * 60000 - dayI zone at_ * 86400000) / 60000 = minI zone at_) := rfl
  have HOP : Hid (openI zone rows hols at_ = match hols.find? (fun d => decide (d.a = dayI zone at_)) with | some d => fitsB (minI zone at_) d | none => rows.any (rowB (dayI zone at_ % 7) (minI zone at_))) := rfl
  have hmr : at_ + zone * 60000 - dayI zone at_ * 86400000 ≥ 0 := by unfold dayI localI; omega
  generalize openI zone rows hols at_ = ans at HOP
  generalize dayI zone at_ = day at *
  generalize minI zone at_ = mn at *
  clear hr hh hok
  unfold hoursVal
  go_enter Tryd.func31, Tryd.ntmps31
  go_wp2_with (go_at_call 64; refine (floor_any _ _ _ (by omega) (by omega) (by omega) (by omega)).mono ?_; rw [HD.out]; rintro e w' ⟨rfl, rfl⟩)
  rw [HM.out]
  clear hmr
  go_loopw [28] (fun it wr => ∃ k : Nat, k ≤ hn ∧ it = .int .i64 k ∧ Hid (∀ i, i < k → ¬ (hols.getD i noTri).a = day) ∧ Hid (Below (w.alloc (.cells #[.string ⟨key.toArray⟩, .int .i64 zone, .slice ra rn rc, .slice ha hn hc] 29)).heap.size (w.alloc (.cells #[.string ⟨key.toArray⟩, .int .i64 zone, .slice ra rn rc, .slice ha hn hc] 29)) wr)) (fun it _ => hn - (intOf it).toNat)
  case atStart => exact ⟨0, Nat.zero_le _, rfl, (fun i hi => by omega), Below.refl _ _⟩
  case round =>
    obtain ⟨k, hk, rfl, HNO, HB⟩ := hrel
    have HBW : Hid (Below w.heap.size w wr) := ext_trans (ext_alloc (Below.refl _ _)) HB.out
    have hz := HB.out.size
    by_cases hlt : k < hn
    · rcases HH.out.row with h0 | ⟨b, off, rfl, hb, hcl⟩
      · omega
      obtain ⟨c0, c1, c2⟩ := tri_cells (w := wr) (fun j hj => (HBW.out.cell (p := ⟨b, off + k * 3 + j, none⟩) hb).trans (hcl k hlt j hj))
      have hkl : k < hols.length := by rw [← HH.out.len]; exact hlt
      have HFI : Hid ((hols.getD k noTri).a = day → ans = fitsB mn (hols.getD k noTri)) := fun e => by
        rw [HOP.out, find_at hols k hkl (fun i hi => decide_eq_false (HNO.out i hi)) (decide_eq_true e)]
      have HNX : Hid (¬ (hols.getD k noTri).a = day → ∀ i, i < k + 1 → ¬ (hols.getD i noTri).a = day) := fun e i hi => by
        by_cases h : i = k
        · subst h; exact e
        · exact HNO.out i (by omega)
      clear hcl
      generalize hols.getD k noTri = d at c0 c1 c2 HFI HNX
      by_cases he : d.a = day
      · have hfin := HFI.out he
        have HF : Hid (ans = (decide (d.b ≤ mn) && decide (mn < d.c))) := hfin
        have he2 : (d.a == day) = true := by simpa using he
        clear hfin he
        by_cases q1 : d.b ≤ mn
        · by_cases q2 : mn < d.c
          · go_wp2_with fail
            go_ret
            rw [HF.out, decide_eq_true q1, decide_eq_true q2]
            exact ⟨rfl, (by (try show Below _ _ _); repeat (with_reducible first | exact Below.refl _ _ | assumption | exact Hid.out (by assumption) | refine ext_alloc ?_ | refine ext_drewN ?_ | refine ext_drew ?_ | refine ext_setCell ?_ (Nat.le_refl _) | refine ext_setCell ?_ (Nat.le_succ _) | refine ext_trans ?_ (by assumption) | (refine ext_setCell ?_ (by simp)) | (refine ext_setCell ?_ (by simp at *; omega))))⟩
          · go_wp2_with fail
            go_ret
            rw [HF.out, decide_eq_true q1, show decide (mn < d.c) = false from decide_eq_false (by omega)]
            exact ⟨rfl, (by (try show Below _ _ _); repeat (with_reducible first | exact Below.refl _ _ | assumption | exact Hid.out (by assumption) | refine ext_alloc ?_ | refine ext_drewN ?_ | refine ext_drew ?_ | refine ext_setCell ?_ (Nat.le_refl _) | refine ext_setCell ?_ (Nat.le_succ _) | refine ext_trans ?_ (by assumption) | (refine ext_setCell ?_ (by simp)) | (refine ext_setCell ?_ (by simp at *; omega))))⟩
        · have q3 : decide (d.b ≤ mn) = false := decide_eq_false q1
          go_wp2_with fail
          go_ret
          rw [HF.out, q3]
          exact ⟨rfl, (by (try show Below _ _ _); repeat (with_reducible first | exact Below.refl _ _ | assumption | exact Hid.out (by assumption) | refine ext_alloc ?_ | refine ext_drewN ?_ | refine ext_drew ?_ | refine ext_setCell ?_ (Nat.le_refl _) | refine ext_setCell ?_ (Nat.le_succ _) | refine ext_trans ?_ (by assumption) | (refine ext_setCell ?_ (by simp)) | (refine ext_setCell ?_ (by simp at *; omega))))⟩
      · have he2 : (d.a == day) = false := by simpa using he
        have HN2 := Lib.hid (HNX.out he)
        clear he
        go_wp2_with fail
        go_roundw
        case rel => exact ⟨k + 1, hlt, by go_num, HN2, ext_alloc HB.out⟩
        case measure => simp [intOf]; omega
    · obtain rfl : k = hn := by omega
      have HAN : Hid (ans = rows.any (rowB (day % 7) mn)) := by
        show _ = _
        rw [HOP.out, find_no hols (fun i hi => decide_eq_false (HNO.out i (by rw [HH.out.len]; exact hi)))]
      have r2 := (HB.out.cell (p := ⟨w.heap.size, 2, none⟩) (by simp)).trans (show _ = some (.slice ra rn rc) by go_simp)
      have hwd : day - 7 * (day / 7) = day % 7 := by omega
      have wd0 : 0 ≤ day % 7 := by omega
      have wd1 : day % 7 ≤ 6 := by omega
      go_wp2_with (go_at_call 64; refine (floor_any _ _ _ (by omega) (by omega) (by omega) (by omega)).mono ?_; rintro e w' ⟨rfl, rfl⟩)
      generalize day % 7 = wd at *
      clear hwd
      go_loopw [55] (fun it wq => ∃ q : Nat, q ≤ rn ∧ it = .int .i64 q ∧ Hid (∀ i, i < q → rowB wd mn (rows.getD i noTri) = false) ∧ Hid (Below w.heap.size w wq)) (fun it _ => rn - (intOf it).toNat)
      case atStart => exact ⟨0, Nat.zero_le _, rfl, (fun i hi => by omega), HBW⟩
      case round =>
        obtain ⟨q, hq, rfl, HNR, HBQ⟩ := hrel
        by_cases hlq : q < rn
        · rcases HR.out.row with h0 | ⟨b, off, rfl, hb, hcl⟩
          · omega
          obtain ⟨c0, c1, c2⟩ := tri_cells (w := wr) (fun j hj => (HBQ.out.cell (p := ⟨b, off + q * 3 + j, none⟩) hb).trans (hcl q hlq j hj))
          have hql : q < rows.length := by rw [← HR.out.len]; exact hlq
          obtain ⟨x0, x1, x2, x3, x4⟩ := HOK.out.row q hql
          have HYES : Hid (rowB wd mn (rows.getD q noTri) = true → ans = true) := fun e => by rw [HAN.out]; exact any_yes rows q hql e
          have HNX : Hid (rowB wd mn (rows.getD q noTri) = false → ∀ i, i < q + 1 → rowB wd mn (rows.getD i noTri) = false) := fun e i hi => by
            by_cases h : i = q
            · subst h; exact e
            · exact HNR.out i (by omega)
          clear hcl
          generalize rows.getD q noTri = d at c0 c1 c2 HYES HNX x0 x1 x2 x3 x4
          have hbt := bit_of d.a wd (by omega) x1
          by_cases hb1 : bitB d.a wd = true
          · rw [hb1, if_pos rfl] at hbt
            have HRW : Hid (rowB wd mn d = (decide (d.b ≤ mn) && decide (mn < d.c))) := by
              show _ = _
              unfold rowB fitsB
              rw [hb1]; rfl
            clear hb1
            by_cases q1 : d.b ≤ mn
            · by_cases q2 : mn < d.c
              · have hy := HYES.out (by rw [HRW.out, decide_eq_true q1, decide_eq_true q2]; rfl)
                have HY := Lib.hid hy
                clear hy
                go_wp2_with fail
                go_ret
                rw [HY.out]
                exact ⟨rfl, (by (try show Below _ _ _); repeat (with_reducible first | exact Below.refl _ _ | assumption | exact Hid.out (by assumption) | refine ext_alloc ?_ | refine ext_drewN ?_ | refine ext_drew ?_ | refine ext_setCell ?_ (Nat.le_refl _) | refine ext_setCell ?_ (Nat.le_succ _) | refine ext_trans ?_ (by assumption) | (refine ext_setCell ?_ (by simp)) | (refine ext_setCell ?_ (by simp at *; omega))))⟩
              · have HN2 := Lib.hid (HNX.out (by rw [HRW.out, decide_eq_false q2]; simp))
                go_wp2_with fail
                go_roundw
                case rel => exact ⟨q + 1, hlq, by go_num, HN2, ext_alloc HBQ.out⟩
                case measure => simp [intOf]; omega
            · have HN2 := Lib.hid (HNX.out (by rw [HRW.out, decide_eq_false q1]; rfl))
              have q3 : decide (d.b ≤ mn) = false := decide_eq_false q1
              go_wp2_with fail
              go_roundw
              case rel => exact ⟨q + 1, hlq, by go_num, HN2, ext_alloc HBQ.out⟩
              case measure => simp [intOf]; omega
          · have hb2 : bitB d.a wd = false := by simpa using hb1
            rw [hb2] at hbt
            simp only [Bool.false_eq_true, if_false] at hbt
            have HN2 := Lib.hid (HNX.out (by unfold rowB; rw [hb2]; rfl))
            clear hb1 hb2
            go_wp2_with fail
            go_roundw
            case rel => exact ⟨q + 1, hlq, by go_num, HN2, ext_alloc HBQ.out⟩
            case measure => simp [intOf]; omega
        · have hfin : Hid (ans = false) := by
            show _ = _
            rw [HAN.out]
            exact any_no rows (fun i hi => HNR.out i (by have := HR.out.len; omega))
          go_wp2_with fail
          go_ret
          rw [hfin.out]
          exact ⟨rfl, HBQ.out⟩
end Go.Proofs.YtkfflafhlgephaaDoor
