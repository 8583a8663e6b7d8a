/- What is proved here: lemmas and contracts for the statement, put together out of smaller texts (CarrPf, CarrOfr, CarrCst, CarrCsf, RegionLate). No condition beyond those stated. -/
import Derived.Test.YtppinnjdaoaddaaGreatDoorCoPkE
import Derived.Deep.DeepCutAuto
import Derived.Test.YtppinnjdaoaddaaGreatDoorCoPkA
import Derived.Test.YtppinnjdaoaddaaGreatDoorCoPkB
set_option linter.unusedVariables false
set_option linter.unusedSimpArgs false
namespace Go.Proofs.YtppinnjdaoaddaaGreatDoor
open Go.RowKit

theorem rateFor_str (w : World) (ra : Option Addr) (rn rc : Nat) (cs : List Rate) (l : List UInt8) (s : ByteArray) (hs : s = ⟨l.toArray⟩) (hr : RateRow w ra rn cs) (hl : l.length ≤ 1000) :
    Calls Tryz.prog 137 #[.slice ra rn rc, .string s] w (RatePost (refTo cs l cs.length) w) := by
  subst hs
  exact rateFor_any w ra rn rc cs l hr hl
set_option maxRecDepth 100000 in
set_option maxHeartbeats 8000000 in
theorem rateForD_any (w : World) (df ds dl dp : Int) (ra : Option Addr) (rn rc : Nat) (cs : List Rate) (n : List UInt8) (hr : RateRow w ra rn cs) (hn1 : 1 ≤ n.length) (hn2 : n.length ≤ 1000) :
    Calls Tryz.prog 105 #[.agg #[.int .i64 df, .int .i64 ds, .int .i64 dl, .int .i64 dp, .slice ra rn rc], .string ⟨n.toArray⟩] w (RatePost (refTo cs (n.drop 1) cs.length) w) := by
  have hnd : (n.drop 1).length ≤ 1000 := by rw [List.length_drop]; omega
  have HPO : Hid (∀ W, Below w.heap.size w W → Calls Tryz.prog 137 #[.slice ra rn rc, .string ((⟨n.toArray⟩ : ByteArray).extract 1 n.length)] W (RatePost (refTo cs (n.drop 1) cs.length) W)) := fun W hW => rateFor_str W ra rn rc cs (n.drop 1) _ (extract_drop n 1) (hr.below hW) hnd
  have HFIN : Hid (∀ W, Below w.heap.size w W → RatePost (refTo cs (n.drop 1) cs.length) w (.returned (.tuple #[.agg #[.string ⟨((refTo cs (n.drop 1) cs.length).getD noRate).p.toArray⟩, .int .i64 ((refTo cs (n.drop 1) cs.length).getD noRate).price, .bool ((refTo cs (n.drop 1) cs.length).getD noRate).closed], .bool (refTo cs (n.drop 1) cs.length).isSome])) W) := fun W hW => ⟨hW, rfl⟩
  generalize hP : RatePost (refTo cs (n.drop 1) cs.length) w = PP at HFIN ⊢
  clear hP hnd hr
  generalize refTo cs (n.drop 1) cs.length = o at HPO HFIN
  go_enter Tryz.func105, Tryz.ntmps105
  go_upto_region 1 with (fail)
  have HD : Hid (Blk ((w.alloc (.cells #[.int .i64 df, .int .i64 ds, .int .i64 dl, .int .i64 dp, .slice ra rn rc] 63)).alloc (.cells #[.string ⟨#[]⟩, .int .i64 0, .bool false] 120)) w.heap.size [.int .i64 df, .int .i64 ds, .int .i64 dl, .int .i64 dp, .slice ra rn rc] 63) := (Blk.new w [.int .i64 df, .int .i64 ds, .int .i64 dl, .int .i64 dp, .slice ra rn rc] 63).alloc _
  have HZ : Hid (Blk ((w.alloc (.cells #[.int .i64 df, .int .i64 ds, .int .i64 dl, .int .i64 dp, .slice ra rn rc] 63)).alloc (.cells #[.string ⟨#[]⟩, .int .i64 0, .bool false] 120)) (w.heap.size + 1) [.string ⟨#[]⟩, .int .i64 0, .bool false] 120) := by
    have := Blk.new (w.alloc (.cells #[.int .i64 df, .int .i64 ds, .int .i64 dl, .int .i64 dp, .slice ra rn rc] 63)) [.string ⟨#[]⟩, .int .i64 0, .bool false] 120
    show Blk _ _ _ _
    simpa using this
  have HB : Hid (Below w.heap.size w ((w.alloc (.cells #[.int .i64 df, .int .i64 ds, .int .i64 dl, .int .i64 dp, .slice ra rn rc] 63)).alloc (.cells #[.string ⟨#[]⟩, .int .i64 0, .bool false] 120))) := ext_alloc (ext_alloc (Below.refl _ _))
  generalize World.alloc (World.alloc w _) _ = W at HD HZ HB ⊢
  have d4 := HD.out.cell 4 rfl
  go_region_with (go_at_call 137; refine (HPO.out _ (ext_drew HB.out)).mono ?_; rintro e w3 ⟨hb3, rfl⟩; have HZ3 := Lib.hid (HZ.out.below (ext_trans (ext_drew (Below.refl _ _)) hb3)); have z0 := HZ3.out.cell 0 rfl; have z1 := HZ3.out.cell 1 rfl; have z2 := HZ3.out.cell 2 rfl; have zF := HZ3.out.fr)
  all_goals
    have HF3 := Lib.hid (HFIN.out _ (rbox_far 0 (show w.heap.size ≤ w.heap.size + 1 by omega) (ext_trans (ext_drew HB.out) hb3) (.string ⟨(o.getD noRate).p.toArray⟩) (.int .i64 (o.getD noRate).price) (.bool (o.getD noRate).closed)))
    have HZ9 := HZ3.out.put3 (.string ⟨(o.getD noRate).p.toArray⟩) (.int .i64 (o.getD noRate).price) (.bool (o.getD noRate).closed)
    have r0 := HZ9.cell 0 rfl
    have r1 := HZ9.cell 1 rfl
    have r2 := HZ9.cell 2 rfl
    clear HFIN hb3 HZ9
    go_wp2_with fail
    refine bodyPost_ret (by simp [results, Tryz.results105, go_sem, r0, r1, r2]) rfl HF3.out
theorem paid_step {p dp talk : Int} (h1 : 1 ≤ dp) (h : p < talk) : paidR (p + dp) dp talk = paidR p dp talk := by
  unfold paidR
  rw [if_pos h]
  by_cases h2 : p + dp < talk
  · rw [if_pos h2]
    rw [show talk - p + dp - 1 = (talk - (p + dp) + dp - 1) + 1 * dp by omega, Int.add_mul_ediv_right _ _ (by omega), Int.add_mul]
    omega
  · rw [if_neg h2]
    have h3 : (talk - p + dp - 1) / dp = 1 := by
      rw [show talk - p + dp - 1 = (talk - p - 1) + 1 * dp by omega, Int.add_mul_ediv_right _ _ (by omega), Int.ediv_eq_zero_of_lt (by omega) (by omega)]
      rfl
    rw [h3]; omega
set_option maxRecDepth 100000 in
set_option maxHeartbeats 8000000 in
theorem priceFor_any (w : World) (df ds dl dp : Int) (ra : Option Addr) (rn rc : Nat) (cs : List Rate) (n : List UInt8) (talk : Int) (hr : RateRow w ra rn cs) (hg : DeckGood ds dl dp cs) (hn1 : 1 ≤ n.length) (hn2 : n.length ≤ 16) (h5 : 0 ≤ talk ∧ talk ≤ 86400000) :
    Calls Tryz.prog 78 #[.agg #[.int .i64 df, .int .i64 ds, .int .i64 dl, .int .i64 dp, .slice ra rn rc], .string ⟨n.toArray⟩, .int .i64 talk] w (PriceOfPost (priceV ds dl dp cs (n.drop 1) talk) w) := by
  obtain ⟨h1, h2, h3, ho, he⟩ := hg
  have HR := Lib.hid (rateForD_any (w.alloc (.cells #[.int .i64 df, .int .i64 ds, .int .i64 dl, .int .i64 dp, .slice ra rn rc] 63)) df ds dl dp ra rn rc cs n (hr.below (ext_alloc (Below.refl _ _))) hn1 (by omega))
  rw [ref_same ho (by rw [List.length_drop]; omega)] at HR
  have HV : Hid (priceV ds dl dp cs (n.drop 1) talk = match rateOf cs (n.drop 1) 15 with | none => (0, false) | some r => if r.closed = true then (0, false) else (priceR ds dl dp r.price talk, true)) := rfl
  have HM : Hid (∀ r, rateOf cs (n.drop 1) 15 = some r → 0 ≤ r.price ∧ r.price ≤ 100000000) := fun r h => he r (rateTo_mem _ h)
  generalize priceV ds dl dp cs (n.drop 1) talk = V at HV ⊢
  generalize rateOf cs (n.drop 1) 15 = o at HV HR HM
  clear hr ho he
  go_enter Tryz.func78, Tryz.ntmps78
  go_upto_region 1 with (fail)
  have HD : Hid (Blk (w.alloc (.cells #[.int .i64 df, .int .i64 ds, .int .i64 dl, .int .i64 dp, .slice ra rn rc] 63)) w.heap.size [.int .i64 df, .int .i64 ds, .int .i64 dl, .int .i64 dp, .slice ra rn rc] 63) := Blk.new w [.int .i64 df, .int .i64 ds, .int .i64 dl, .int .i64 dp, .slice ra rn rc] 63
  have HB : Hid (Below w.heap.size w (w.alloc (.cells #[.int .i64 df, .int .i64 ds, .int .i64 dl, .int .i64 dp, .slice ra rn rc] 63))) := ext_alloc (Below.refl _ _)
  have hsz : w.heap.size < (w.alloc (.cells #[.int .i64 df, .int .i64 ds, .int .i64 dl, .int .i64 dp, .slice ra rn rc] 63)).heap.size := by simp
  generalize w.alloc _ = W at HD HB HR hsz ⊢
  have HRA : Hid (W.rangeAt w.heap.size 0 [.int .i64 df, .int .i64 ds, .int .i64 dl, .int .i64 dp, .slice ra rn rc]) := fun j v hj => by rw [Nat.zero_add]; exact HD.out.cell j hj
  as_aux_lemma =>
    go_wp2_with (refine wpList_load_mid rfl 63 (.tmp 3) rfl w.heap.size 0 rfl [.int .i64 df, .int .i64 ds, .int .i64 dl, .int .i64 dp, .slice ra rn rc] _ HRA.out Tryz.underlying63 rfl Tryz.deckSz ?_)
    refine HR.out.mono ?_
    rintro e w1 ⟨hb1, rfl⟩
    have HB1 := Lib.hid (ext_trans HB.out hb1)
    have HD1 := Lib.hid (HD.out.below hb1)
    have hz1 : w.heap.size < w1.heap.size := by have := hb1.size; omega
    clear hb1 HB HD HRA HR hsz
    cases o with
    | none =>
      obtain rfl : V = (0, false) := HV.out
      clear HV HM
      as_aux_lemma =>
        go_wp2_with fail
        go_ret2
        exact ⟨rfl, (by (try show Below _ _ _); repeat (with_reducible first | exact Below.refl _ _ | assumption | exact Hid.out (by assumption) | refine ext_alloc ?_ | refine ext_drewN ?_ | refine ext_drew ?_ | refine ext_setCell ?_ (Nat.le_refl _) | refine ext_setCell ?_ (Nat.le_succ _) | refine ext_trans ?_ (by assumption) | (refine ext_setCell ?_ (by simp)) | (refine ext_setCell ?_ (by simp at *; omega))))⟩
    | some r =>
      obtain ⟨rp, pr, cl⟩ := r
      obtain ⟨h40, h41⟩ := HM.out _ rfl
      clear HM
      simp only [Option.getD_some, Option.isSome_some] at h40 h41 ⊢
      cases cl with
      | true =>
        obtain rfl : V = (0, false) := HV.out
        clear HV
        as_aux_lemma =>
          go_wp2_with fail
          go_ret2
          exact ⟨rfl, (by (try show Below _ _ _); repeat (with_reducible first | exact Below.refl _ _ | assumption | exact Hid.out (by assumption) | refine ext_alloc ?_ | refine ext_drewN ?_ | refine ext_drew ?_ | refine ext_setCell ?_ (Nat.le_refl _) | refine ext_setCell ?_ (Nat.le_succ _) | refine ext_trans ?_ (by assumption) | (refine ext_setCell ?_ (by simp)) | (refine ext_setCell ?_ (by simp at *; omega))))⟩
      | false =>
        obtain rfl : V = (priceR ds dl dp pr talk, true) := HV.out
        clear HV
        have HPR : Hid (priceR ds dl dp pr talk = if talk = 0 then ds else ds + (pr * paidR dl dp talk + 59999) / 60000) := rfl
        have d1 := HD1.out.cell 1 rfl
        have d2 := HD1.out.cell 2 rfl
        have d3 := HD1.out.cell 3 rfl
        have hne : w.heap.size ≠ w1.heap.size := by omega
        have hne2 : w1.heap.size ≠ w.heap.size := by omega
        by_cases ht : talk = 0
        · have ht2 : (talk == 0) = true := by simpa using ht
          have HF : Hid (priceR ds dl dp pr talk = ds) := by show _ = ds; rw [HPR.out, if_pos ht]
          clear HPR ht h5
          as_aux_lemma =>
            go_wp2_with fail
            go_ret2
            exact ⟨by rw [HF.out]; rfl, by have HB1 := HB1.out; exact (by (try show Below _ _ _); repeat (with_reducible first | exact Below.refl _ _ | assumption | exact Hid.out (by assumption) | refine ext_alloc ?_ | refine ext_drewN ?_ | refine ext_drew ?_ | refine ext_setCell ?_ (Nat.le_refl _) | refine ext_setCell ?_ (Nat.le_succ _) | refine ext_trans ?_ (by assumption) | (refine ext_setCell ?_ (by simp)) | (refine ext_setCell ?_ (by simp at *; omega))))⟩
        have ht2 : (talk == 0) = false := by simpa using ht
        have HF : Hid (priceR ds dl dp pr talk = ds + (pr * paidR dl dp talk + 59999) / 60000) := by show _ = _; rw [HPR.out, if_neg ht]
        have hpb := paid_bound h2 h3 h5
        clear HPR ht
        skip
        as_aux_lemma =>
          go_upto_region 6 with (fail)
          have HX : Hid (Blk (w1.alloc (.cells #[.string ⟨rp.toArray⟩, .int .i64 pr, .bool false] 120)) w1.heap.size [.string ⟨rp.toArray⟩, .int .i64 pr, .bool false] 120) := Blk.new w1 [.string ⟨rp.toArray⟩, .int .i64 pr, .bool false] 120
          have HDA := Lib.hid (HD1.out.alloc (.cells #[.string ⟨rp.toArray⟩, .int .i64 pr, .bool false] 120))
          have HBA : Hid (Below w.heap.size w (w1.alloc (.cells #[.string ⟨rp.toArray⟩, .int .i64 pr, .bool false] 120))) := ext_alloc HB1.out
          generalize w1.alloc (.cells #[.string ⟨rp.toArray⟩, .int .i64 pr, .bool false] 120) = wa at HX HDA HBA ⊢
          generalize w1.heap.size = X at HX hne hne2 hz1 ⊢
          clear d1 d2 d3 HD1 HB1
          have d1 := HDA.out.cell 1 rfl
          have d2 := HDA.out.cell 2 rfl
          have d3 := HDA.out.cell 3 rfl
          have x1 := HX.out.cell 1 rfl
          go_wp2_with fail
          go_loopw [10] (fun v10 wr => ∃ p : Int, v10 = .int .i64 p ∧ 0 ≤ p ∧ p ≤ 300000000 ∧ Hid (paidR p dp talk = paidR dl dp talk) ∧ Hid (wr = wa)) (fun v10 _ => (talk - intOf v10).toNat)
          case atStart => exact ⟨dl, rfl, h2.1, by omega, rfl, rfl⟩
          case round =>
            obtain ⟨p, rfl, p0, p1, HP, HW⟩ := hrel
            obtain rfl := HW.out
            clear HW
            by_cases hlt : p < talk
            · by_cases hst : 1000000 < dp
              · have wp1 : IntKind.i64.wrap (p + dp) = p + dp := IntWalk.i64_in _ (by omega)
                as_aux_lemma =>
                  go_wp2_with fail
                  go_roundw
                  case rel => exact ⟨p + dp, rfl, by omega, by omega, by show _ = _; rw [paid_step h3.1 hlt]; exact HP.out, by first | exact rfl | exact Lib.hid trivial⟩
                  case measure => simp [intOf]; omega
              · have hM : Hid (p + upD (talk - p) dp * dp = paidR dl dp talk) := by
                  show _ = _
                  rw [← HP.out]; unfold paidR; rw [if_pos hlt]; rfl
                have q0 : 0 ≤ upD (talk - p) dp := Int.ediv_nonneg (by omega) (by omega)
                have q1 : upD (talk - p) dp * dp ≤ talk - p + dp - 1 := Int.ediv_mul_le _ (by omega)
                have q2 : 0 ≤ upD (talk - p) dp * dp := Int.mul_nonneg q0 (by omega)
                have HU := Lib.hid (fun W => upward_any (talk - p) dp ⟨by omega, by omega⟩ ⟨by omega, by omega⟩ W)
                generalize upD (talk - p) dp = U at hM q0 q1 q2 HU
                have v1 : IntKind.i64.wrap (talk - p) = talk - p := IntWalk.i64_in _ (by omega)
                have v2 : IntKind.i64.wrap (U * dp) = U * dp := IntWalk.i64_in _ (by omega)
                have v3 : IntKind.i64.wrap (p + U * dp) = p + U * dp := IntWalk.i64_in _ (by omega)
                clear q0 q1 q2 HP
                as_aux_lemma =>
                  go_upto_region 9 with (fail)
                  go_upto_if 43 with (fail)
                  go_cut [10] (fun v wx => v = .int .i64 (paidR dl dp talk) ∧ Hid (Blk wx w.heap.size [.int .i64 df, .int .i64 ds, .int .i64 dl, .int .i64 dp, .slice ra rn rc] 63) ∧ Hid (Blk wx X [.string ⟨rp.toArray⟩, .int .i64 pr, .bool false] 120) ∧ Hid (Below w.heap.size w wx))
                  case first =>
                    go_wp2_with fail
                    go_quiet (first | (go_at_call 106; refine Calls.quiet_of_same (v := .int .i64 U) ((HU.out _).mono ?_); rintro e w' ⟨rfl, rfl⟩; exact ⟨rfl, rfl⟩))
                    go_wp2_with fail
                    go_meet
                    exact ⟨by rw [hM.out], HDA.out.below (ext_drewN (Below.refl _ _)), HX.out.below (ext_drewN (Below.refl _ _)), ext_drewN HBA.out⟩
                  case rest =>
                    clear d1 d2 d3 x1 HU v1 v2 v3 hM
                    obtain ⟨rfl, HDC, HXC, HBC⟩ := hcut
                    have d1 := HDC.out.cell 1 rfl
                    have x1 := HXC.out.cell 1 rfl
                    have m0 : 0 ≤ pr * paidR dl dp talk := Int.mul_nonneg h40 hpb.1
                    have m1 : pr * paidR dl dp talk ≤ 100000000 * 200000000 := Int.mul_le_mul h41 hpb.2 hpb.1 (by omega)
                    have HU2 := Lib.hid (fun W => upward_any (pr * paidR dl dp talk) 60000 ⟨m0, by omega⟩ ⟨by omega, by omega⟩ W)
                    have HQ : Hid (upD (pr * paidR dl dp talk) 60000 = (pr * paidR dl dp talk + 59999) / 60000) := by show (_ + 60000 - 1) / 60000 = _; congr 1; omega
                    rw [HQ.out] at HU2
                    have v4 : IntKind.i64.wrap (pr * paidR dl dp talk) = pr * paidR dl dp talk := IntWalk.i64_in _ (by omega)
                    have v5 : IntKind.i64.wrap (ds + (pr * paidR dl dp talk + 59999) / 60000) = ds + (pr * paidR dl dp talk + 59999) / 60000 := IntWalk.i64_in _ (by omega)
                    clear m0 m1 hpb HQ h41 h40 HDC HXC
                    generalize (pr * paidR dl dp talk + 59999) / 60000 = Y at HU2 v5 HF
                    as_aux_lemma =>
                      go_wp2_with fail
                      go_region_with (go_at_call 106; refine (HU2.out _).mono ?_; rintro e w' ⟨rfl, rfl⟩)
                      all_goals
                        go_wp2_with fail
                        go_ret2
                        exact ⟨by rw [HF.out]; rfl, by have HBC := HBC.out; exact (by (try show Below _ _ _); repeat (with_reducible first | exact Below.refl _ _ | assumption | exact Hid.out (by assumption) | refine ext_alloc ?_ | refine ext_drewN ?_ | refine ext_drew ?_ | refine ext_setCell ?_ (Nat.le_refl _) | refine ext_setCell ?_ (Nat.le_succ _) | refine ext_trans ?_ (by assumption) | (refine ext_setCell ?_ (by simp)) | (refine ext_setCell ?_ (by simp at *; omega))))⟩
            · have hM : Hid (p = paidR dl dp talk) := by
                show p = _
                rw [← HP.out]; unfold paidR; rw [if_neg hlt]
              clear HP
              as_aux_lemma =>
                go_upto_region 9 with (fail)
                go_upto_if 43 with (fail)
                go_cut [10] (fun v wx => v = .int .i64 (paidR dl dp talk) ∧ Hid (Blk wx w.heap.size [.int .i64 df, .int .i64 ds, .int .i64 dl, .int .i64 dp, .slice ra rn rc] 63) ∧ Hid (Blk wx X [.string ⟨rp.toArray⟩, .int .i64 pr, .bool false] 120) ∧ Hid (Below w.heap.size w wx))
                case first =>
                  go_wp2_with fail
                  go_meet
                  exact ⟨by rw [← hM.out], HDA.out, HX.out, HBA.out⟩
                case rest =>
                  clear d1 d2 d3 x1 hM
                  obtain ⟨rfl, HDC, HXC, HBC⟩ := hcut
                  have d1 := HDC.out.cell 1 rfl
                  have x1 := HXC.out.cell 1 rfl
                  have m0 : 0 ≤ pr * paidR dl dp talk := Int.mul_nonneg h40 hpb.1
                  have m1 : pr * paidR dl dp talk ≤ 100000000 * 200000000 := Int.mul_le_mul h41 hpb.2 hpb.1 (by omega)
                  have HU2 := Lib.hid (fun W => upward_any (pr * paidR dl dp talk) 60000 ⟨m0, by omega⟩ ⟨by omega, by omega⟩ W)
                  have HQ : Hid (upD (pr * paidR dl dp talk) 60000 = (pr * paidR dl dp talk + 59999) / 60000) := by show (_ + 60000 - 1) / 60000 = _; congr 1; omega
                  rw [HQ.out] at HU2
                  have v4 : IntKind.i64.wrap (pr * paidR dl dp talk) = pr * paidR dl dp talk := IntWalk.i64_in _ (by omega)
                  have v5 : IntKind.i64.wrap (ds + (pr * paidR dl dp talk + 59999) / 60000) = ds + (pr * paidR dl dp talk + 59999) / 60000 := IntWalk.i64_in _ (by omega)
                  clear m0 m1 hpb HQ h41 h40 HDC HXC
                  generalize (pr * paidR dl dp talk + 59999) / 60000 = Y at HU2 v5 HF
                  as_aux_lemma =>
                    go_wp2_with fail
                    go_region_with (go_at_call 106; refine (HU2.out _).mono ?_; rintro e w' ⟨rfl, rfl⟩)
                    all_goals
                      go_wp2_with fail
                      go_ret2
                      exact ⟨by rw [HF.out]; rfl, by have HBC := HBC.out; exact (by (try show Below _ _ _); repeat (with_reducible first | exact Below.refl _ _ | assumption | exact Hid.out (by assumption) | refine ext_alloc ?_ | refine ext_drewN ?_ | refine ext_drew ?_ | refine ext_setCell ?_ (Nat.le_refl _) | refine ext_setCell ?_ (Nat.le_succ _) | refine ext_trans ?_ (by assumption) | (refine ext_setCell ?_ (by simp)) | (refine ext_setCell ?_ (by simp at *; omega))))⟩
end Go.Proofs.YtppinnjdaoaddaaGreatDoor

set_option linter.unusedVariables false
set_option linter.unusedSimpArgs false
namespace Go.Proofs.YtppinnjdaoaddaaGreatDoor
open Go.RowKit Go.Sort Go.Lib

theorem bl_ofr0 (e : Operand → Value) (he : ∀ v, e (.const v) = v) (o : Oper) (w : World) (i0 : Nat) (p0_0 : ByteArray) (z0_1 : Int) (ho : o.op = .buildSlice 74 1 #[(0, .tmp i0)]) (h0 : e (.tmp i0) = .agg #[.string p0_0, .int .i64 z0_1]) :
   (execOp e o).run Tryz.prog w = .ok (.value (.slice (some ⟨w.heap.size, 0, none⟩) 1 1)) (w.alloc (.cells #[.string p0_0, .int .i64 z0_1] 80)) := by
  unfold execOp
  rw [ho]
  simp only [List.map_toArray, List.map_cons, List.map_nil, h0]
  kernel_rfl
set_option maxRecDepth 100000 in
set_option maxHeartbeats 8000000 in
theorem offersFor_any (w : World) (a : Option Addr) (n cap : Nat) (l : List Carr) (hl : CarrRow w a n l) (hn3 : n ≤ 3) (nm : List UInt8) (h1 : 1 ≤ nm.length) (h16 : nm.length ≤ 16) (t : Int) (hg : GoodAt l t) : Calls Tryz.prog 37 #[.slice a n cap, .string ⟨nm.toArray⟩, .int .i64 t] w (OfsPost (insL (ltOf cfPC) (offTo l (nm.drop 1) t n)) w) := by
  obtain ⟨i1, hi1, hy0, hy1, hy2⟩ := info_parts Tryz.infoOff
  have HR := Lib.hid hl
  have HG := Lib.hid hg
  have HLEN := Lib.hid hl.len
  clear hl hg
  go_enter Tryz.func37, Tryz.ntmps37
  go_wp2_with fail
  go_loopw [7, 16] (fun vo it wr => ∃ k : Nat, k ≤ n ∧ it = .int .i64 k ∧ Hid (OffRow wr w.heap.size vo (offTo l (nm.drop 1) t k)) ∧ Hid (Below w.heap.size w wr)) (fun _ it _ => n - (intOf it).toNat)
  case atStart => exact ⟨0, Nat.zero_le _, rfl, World.ownsRow_nil _ _ _ _, Below.refl _ _⟩
  case round =>
    obtain ⟨k, hk, rfl, HO, HB⟩ := hrel
    by_cases hlt : k < n
    case neg =>
      obtain rfl : k = n := by omega
      have hge : ¬ (k : Int) < (k : Int) := by omega
      have hol := offTo_len l (nm.drop 1) t k
      obtain ⟨vo, rfl⟩ : ∃ x : Value, x = u7 := ⟨_, rfl⟩
      as_aux_lemma =>
        go_wp2_with fail
        refine (sortFO_any _ w.heap.size vo _ HO.out (by omega)).mono ?_
        rintro e w5 ⟨rfl, ho, hb⟩
        have HO5 := Lib.hid ho
        have HB5 := Lib.hid (HB.out.trans hb)
        clear ho hb
        go_wp2_with fail
        go_ret
        exact ⟨_, rfl, HO5.out, HB5.out⟩
    have hlti : (k : Int) < (n : Int) := by omega
    obtain ⟨b, off, rfl, hb, hc⟩ := (HR.out.below HB.out).at (by omega)
    obtain ⟨c0, c1, c2⟩ := hc k hlt
    have HCF : Hid (CarrFine wr (l.getD k noCarr)) := (HR.out.below HB.out).each k (by rw [← HLEN.out]; exact hlt)
    have HGK : Hid (∀ d, deckV (l.getD k noCarr).decks t = some d → DeckGood d.setup d.least d.step d.rates) := HG.out k (by rw [← HLEN.out]; exact hlt)
    have HE : Hid (offTo l (nm.drop 1) t (k + 1) = offTo l (nm.drop 1) t k ++ (if (costV (l.getD k noCarr).decks (nm.drop 1) t 60000).2 = true then [⟨(l.getD k noCarr).key, (costV (l.getD k noCarr).decks (nm.drop 1) t 60000).1⟩] else [])) := rfl
    have hol := offTo_len l (nm.drop 1) t k
    clear hc
    generalize l.getD k noCarr = cx at c0 c1 c2 HCF HE HGK
    obtain ⟨ky, ln, da, dn, dc, dk⟩ := cx
    simp only at c0 c1 c2 HE HGK
    generalize hos : offTo l (nm.drop 1) t k = os at HO HE hol
    clear hos
    have HDK : Hid (∀ W, Below wr.heap.size wr W → Calls Tryz.prog 32 #[.agg #[.string ⟨ky.toArray⟩, .int .i64 ln, .slice da dn dc], .int .i64 t] W (DeckAns (deckV dk t) W)) := fun W hW => deckOf_any W ky ln da dn dc dk (HCF.out.below hW).row HCF.out.cap t
    have HRF : Hid (∀ W, Below wr.heap.size wr W → RateRow W ((deckV dk t).getD noDeck).ra ((deckV dk t).getD noDeck).rn ((deckV dk t).getD noDeck).rates) := fun W hW => deckV_fineR (HCF.out.below hW).row t
    have HC : Hid (costV dk (nm.drop 1) t 60000 = match deckV dk t with | none => (0, false) | some d => priceV d.setup d.least d.step d.rates (nm.drop 1) 60000) := rfl
    generalize costV dk (nm.drop 1) t 60000 = V at HE HC
    generalize deckV dk t = od at HDK HRF HC HGK
    clear HCF
    as_aux_lemma =>
      go_upto_region 5 with (fail)
      have HX : Hid (Blk (wr.alloc (.cells #[.string ⟨ky.toArray⟩, .int .i64 ln, .slice da dn dc] 72)) wr.heap.size [.string ⟨ky.toArray⟩, .int .i64 ln, .slice da dn dc] 72) := Blk.new wr [.string ⟨ky.toArray⟩, .int .i64 ln, .slice da dn dc] 72
      have hA : Below wr.heap.size wr (wr.alloc (.cells #[.string ⟨ky.toArray⟩, .int .i64 ln, .slice da dn dc] 72)) := ext_alloc (Below.refl _ _)
      have HBA := Lib.hid (ext_trans HB.out hA)
      have HWA := Lib.hid hA
      have HOA : Hid (OffRow (wr.alloc (.cells #[.string ⟨ky.toArray⟩, .int .i64 ln, .slice da dn dc] 72)) w.heap.size u7 os) := World.ownsRow.alloc HO.out _
      have hX : wr.heap.size < ((wr.alloc (.cells #[.string ⟨ky.toArray⟩, .int .i64 ln, .slice da dn dc] 72))).heap.size := by simp
      clear hA HB HO
      generalize (wr.alloc (.cells #[.string ⟨ky.toArray⟩, .int .i64 ln, .slice da dn dc] 72)) = wa at HX HBA HWA HOA hX ⊢
      have x0 := HX.out.cell 0 rfl
      have x1 := HX.out.cell 1 rfl
      have x2 := HX.out.cell 2 rfl
      obtain ⟨vo, rfl⟩ : ∃ x : Value, x = u7 := ⟨_, rfl⟩
      go_wp2_with fail
      refine (HDK.out _ HWA.out).mono ?_
      rintro e w3 ⟨rfl, hb3⟩
      have HB3 := Lib.hid (ext_trans HBA.out hb3)
      have HW3 := Lib.hid (ext_trans HWA.out hb3)
      have HX3 := Lib.hid (HX.out.below hb3)
      have HO3 : Hid (OffRow w3 w.heap.size vo os) := own_keep HOA.out hb3
      have hX3 : wr.heap.size < w3.heap.size := HX3.out.lt
      clear hb3 HBA HWA HX HOA HDK x0 x1 x2 hX
      cases od with
      | none =>
        obtain rfl : V = (0, false) := HC.out
        have HE2 : Hid (offTo l (nm.drop 1) t (k + 1) = os) := by show _ = _; rw [HE.out, if_neg (by simp), List.append_nil]
        have HB4 : Hid (Below w.heap.size w (w3.alloc (.cells #[.int .i64 0, .int .i64 0, .int .i64 0, .int .i64 0, .slice none 0 0] 63))) := ext_alloc HB3.out
        have HO4 : Hid (OffRow (w3.alloc (.cells #[.int .i64 0, .int .i64 0, .int .i64 0, .int .i64 0, .slice none 0 0] 63)) w.heap.size vo os) := World.ownsRow.alloc HO3.out _
        clear HE HC HRF HGK
        as_aux_lemma =>
          go_wp2_with fail
          go_roundw
          case rel => exact ⟨k + 1, by omega, by go_num, by rw [HE2.out]; exact HO4.out, HB4.out⟩
          case measure => simp [intOf]; omega
      | some d =>
        have hgd := HGK.out d rfl
        have HR3 := Lib.hid (HRF.out _ HW3.out)
        obtain ⟨df, ds, dl, dp, ra, rn, rc, rates⟩ := d
        obtain rfl : V = priceV ds dl dp rates (nm.drop 1) 60000 := HC.out
        simp only [Option.getD_some, Option.isSome_some] at HR3 ⊢
        have HTX : Hid ((w3.alloc (.cells #[.int .i64 0, .int .i64 0, .int .i64 0, .int .i64 0, .slice none 0 0] 63)).there w3.heap.size 0 5) := (Blk.new w3 [.int .i64 0, .int .i64 0, .int .i64 0, .int .i64 0, .slice none 0 0] 63).th 5 (by decide)
        have HX4 : Hid (Blk (World.setCells (w3.alloc (.cells #[.int .i64 0, .int .i64 0, .int .i64 0, .int .i64 0, .slice none 0 0] 63)) w3.heap.size 0 [.int .i64 df, .int .i64 ds, .int .i64 dl, .int .i64 dp, .slice ra rn rc]) w3.heap.size [.int .i64 df, .int .i64 ds, .int .i64 dl, .int .i64 dp, .slice ra rn rc] 63) := ((((((Blk.new w3 [.int .i64 0, .int .i64 0, .int .i64 0, .int .i64 0, .slice none 0 0] 63).put 0 _).put 1 _).put 2 _).put 3 _).put 4 _)
        have hA : Below w3.heap.size w3 (World.setCells (w3.alloc (.cells #[.int .i64 0, .int .i64 0, .int .i64 0, .int .i64 0, .slice none 0 0] 63)) w3.heap.size 0 [.int .i64 df, .int .i64 ds, .int .i64 dl, .int .i64 dp, .slice ra rn rc]) := below5 (Nat.le_refl _) (ext_alloc (Below.refl _ _)) _
        have HB4 := Lib.hid (ext_trans HB3.out hA)
        have HC4 := Lib.hid (HX3.out.below hA)
        have HO4 : Hid (OffRow (World.setCells (w3.alloc (.cells #[.int .i64 0, .int .i64 0, .int .i64 0, .int .i64 0, .slice none 0 0] 63)) w3.heap.size 0 [.int .i64 df, .int .i64 ds, .int .i64 dl, .int .i64 dp, .slice ra rn rc]) w.heap.size vo os) := own_keep HO3.out hA
        have HR4 : Hid (RateRow (World.setCells (w3.alloc (.cells #[.int .i64 0, .int .i64 0, .int .i64 0, .int .i64 0, .slice none 0 0] 63)) w3.heap.size 0 [.int .i64 df, .int .i64 ds, .int .i64 dl, .int .i64 dp, .slice ra rn rc]) ra rn rates) := HR3.out.below hA
        clear hA HC HGK HRF HR3 HB3 HX3 HO3 HW3
        as_aux_lemma =>
          go_upto_region 6 with (refine wpList_store_mid rfl 63 (.tmp 10) (.tmp 24) rfl w3.heap.size 0 #[.int .i64 df, .int .i64 ds, .int .i64 dl, .int .i64 dp, .slice ra rn rc] rfl rfl HTX.out Tryz.deckSz (by simp [Value.oneCell']) ?_; generalize World.setCells (w3.alloc (.cells #[.int .i64 0, .int .i64 0, .int .i64 0, .int .i64 0, .slice none 0 0] 63)) w3.heap.size 0 _ = w4 at HX4 HB4 HC4 HO4 HR4 ⊢)
          generalize w3.heap.size = D at HX4 hX3 ⊢
          clear HTX
          have HRX : Hid (w4.rangeAt D 0 [.int .i64 df, .int .i64 ds, .int .i64 dl, .int .i64 dp, .slice ra rn rc]) := fun j v hj => by rw [Nat.zero_add]; exact HX4.out.cell j hj
          clear HX4
          have HPF : Hid (Calls Tryz.prog 78 #[.agg #[.int .i64 df, .int .i64 ds, .int .i64 dl, .int .i64 dp, .slice ra rn rc], .string ⟨nm.toArray⟩, .int .i64 60000] w4 (PriceOfPost (priceV ds dl dp rates (nm.drop 1) 60000) w4)) := priceFor_any w4 df ds dl dp ra rn rc rates nm 60000 HR4.out hgd h1 h16 ⟨by omega, by omega⟩
          generalize priceV ds dl dp rates (nm.drop 1) 60000 = V at HE HPF
          obtain ⟨p, bb⟩ := V
          clear HR4 hgd
          as_aux_lemma =>
            go_wp2_with (refine wpList_load_mid rfl 63 (.tmp 10) rfl D 0 rfl [.int .i64 df, .int .i64 ds, .int .i64 dl, .int .i64 dp, .slice ra rn rc] _ HRX.out Tryz.underlying63 rfl Tryz.deckSz ?_)
            refine HPF.out.mono ?_
            rintro e w5 ⟨rfl, hb⟩
            have HB5 := Lib.hid (ext_trans HB4.out hb)
            have HC5 := Lib.hid (HC4.out.below hb)
            have HO5 : Hid (OffRow w5 w.heap.size vo os) := own_keep HO4.out hb
            clear hb HB4 HC4 HO4 HPF HRX
            have x0 := HC5.out.cell 0 rfl
            have x1 := HC5.out.cell 1 rfl
            have x2 := HC5.out.cell 2 rfl
            cases bb
            · have HE2 : Hid (offTo l (nm.drop 1) t (k + 1) = os) := by show _ = _; rw [HE.out, if_neg (by simp), List.append_nil]
              clear HE
              as_aux_lemma =>
                go_wp2_with fail
                go_roundw
                case rel => exact ⟨k + 1, by omega, by go_num, by rw [HE2.out]; exact HO5.out, HB5.out⟩
                case measure => simp [intOf]; omega
            · have HE2 : Hid (offTo l (nm.drop 1) t (k + 1) = os ++ [⟨ky, p⟩]) := by show _ = _; rw [HE.out, if_pos rfl]
              clear HE
              have hW9 : w.heap.size ≤ w5.heap.size := HB5.out.size
              obtain ⟨oa, oc, rfl⟩ := own_shape HO5.out
              have hvw : ∀ b, (Value.slice oa os.length oc).ownBlock = some b → w.heap.size ≤ b := fun b e => (HO5.out.lt b e).1
              have HOA : Hid (World.ownsRow (w5.alloc (.cells #[.string ⟨ky.toArray⟩, .int .i64 p] 80)) w.heap.size 80 2 (.slice oa os.length oc) os.length ((os.map Off.cells).flatten)) := World.ownsRow.alloc HO5.out (.cells #[.string ⟨ky.toArray⟩, .int .i64 p] 80)
              have HNA : Hid (Blk (w5.alloc (.cells #[.string ⟨ky.toArray⟩, .int .i64 p] 80)) w5.heap.size [.string ⟨ky.toArray⟩, .int .i64 p] 80) := Blk.new w5 [.string ⟨ky.toArray⟩, .int .i64 p] 80
              clear HO5
              as_aux_lemma =>
                go_wp2_with (first | (refine wpList_val rfl (bl_ofr0 _ (fun _ => rfl) _ _ 38 ⟨ky.toArray⟩ p rfl rfl) ?_) | (at_builtin; go_loud (refine wpList_append_own_at _ rfl (.tmp 34) (.tmp 39) 74 rfl w.heap.size 80 i1 _ 2 24 Tryz.underlying74 hi1 hy0 hy1 hy2 rfl (by omega) (.slice oa os.length oc) os.length _ rfl HOA.out ⟨w5.heap.size, 0, none⟩ 1 1 [.string ⟨ky.toArray⟩, .int .i64 p] rfl rfl (fun j u hj => by rw [add0]; exact HNA.out.cell j hj) (by simp [Value.oneCell']) (by simp only [maxLen]; omega) (by omega) (by simp; omega) ?_); intro v12 w12 hown12 hgr12 _ hat12; have HQ1 := Lib.hid hown12; have HQ2 := Lib.hid hgr12; clear hown12 hgr12 hat12 HOA HNA; refine Hid.out ?_))
                refine Lib.hid ?_
                have HO12 : Hid (OffRow w12 w.heap.size v12 (os ++ [⟨ky, p⟩])) := off_snoc HQ1.out
                have HB12 : Hid (Below w.heap.size w w12) := HB5.out.trans (upto_grown HQ2.out hW9 hvw)
                clear HQ1 HQ2
                as_aux_lemma =>
                  go_wp2_with fail
                  go_roundw
                  case rel => exact ⟨k + 1, by omega, by go_num, by rw [HE2.out]; exact HO12.out, HB12.out⟩
                  case measure => simp [intOf]; omega
end Go.Proofs.YtppinnjdaoaddaaGreatDoor

set_option linter.unusedVariables false
set_option linter.unusedSimpArgs false
namespace Go.Proofs.YtppinnjdaoaddaaGreatDoor
open Go.RowKit Go.Sort Go.Lib

/-- The error of Cost; what it answers. -/
def costE (l : List Carr) (r : Rcd) : Int := if carrsErr l ≠ 0 then carrsErr l else if isNumB r.to_ = false then 3 else if isMomB r.at_ = false ∨ inB r.talk 0 86400000 = false then 1 else if r.carrier ≠ [] ∧ idxC l r.carrier < 0 then 8 else 0
def costR (l : List Carr) (r : Rcd) : Int × Bool := if r.carrier = [] then (0, false) else costV (l.getD (idxC l r.carrier).toNat noCarr).decks (r.to_.drop 1) r.at_ r.talk
def CostPost (E : Int) (R : Int × Bool) (w : World) (e : Ending) (w' : World) : Prop := e = .returned (.tuple #[.int .i64 (if E = 0 then R.1 else 0), .bool (if E = 0 then R.2 else false), .int .i64 E]) ∧ Below w.heap.size w w'
set_option maxRecDepth 100000 in
set_option maxHeartbeats 8000000 in
theorem costX_any (w : World) (a : Option Addr) (n cap : Nat) (l : List Carr) (hl : CarrRow w a n l) (hcap : n ≤ cap) (r : Rcd) (h1 : r.to_.length ≤ 100) (h2 : r.carrier.length ≤ 100) : Calls Tryz.prog 38 #[.slice a n cap, .agg (Rcd.cells r).toArray] w (CostPost (costE l r) (costR l r) w) := by
  have HR := Lib.hid hl
  have HLEN := Lib.hid hl.len
  have HE : Hid (costE l r = if carrsErr l ≠ 0 then carrsErr l else if isNumB r.to_ = false then 3 else if isMomB r.at_ = false ∨ inB r.talk 0 86400000 = false then 1 else if r.carrier ≠ [] ∧ idxC l r.carrier < 0 then 8 else 0) := rfl
  have HC : Hid (costR l r = if r.carrier = [] then (0, false) else costV (l.getD (idxC l r.carrier).toNat noCarr).decks (r.to_.drop 1) r.at_ r.talk) := rfl
  have HBAD : Hid (∀ E W, costE l r = E → E ≠ 0 → Below w.heap.size w W → CostPost (costE l r) (costR l r) w (.returned (.tuple #[.int .i64 0, .bool false, .int .i64 E])) W) := fun E W q1 q2 q3 => by
    unfold CostPost; rw [q1, if_neg q2, if_neg q2]; exact ⟨rfl, q3⟩
  have HOK : Hid (∀ p b W, costE l r = 0 → costR l r = (p, b) → Below w.heap.size w W → CostPost (costE l r) (costR l r) w (.returned (.tuple #[.int .i64 p, .bool b, .int .i64 0])) W) := fun p b W q1 q2 q3 => by
    unfold CostPost; rw [q1, if_pos rfl, if_pos rfl, q2]; exact ⟨rfl, q3⟩
  have HCC := Lib.hid (fun W (h : Below w.heap.size w W) => checkCarr_any W a n cap l (hl.below h) hcap)
  have HFD := Lib.hid (fun W (h : Below w.heap.size w W) => find_any W a n cap l (hl.below h) r.carrier)
  have HID : Hid (0 ≤ idxC l r.carrier → (idxC l r.carrier).toNat < l.length) := fun h => idxC_lt h
  have HGD : Hid (carrsErr l = 0 → GoodAt l r.at_) := fun h => good_row hl h
  have HIN := Lib.hid (fun W => isNumber_l r.to_ W (by omega))
  have HNL : Hid (isNumB r.to_ = true → 1 ≤ r.to_.length) := fun h => by obtain ⟨d, q, -⟩ := num_parts h; rw [q]; simp
  generalize hPP : CostPost (costE l r) (costR l r) w = PP at HBAD HOK ⊢
  clear hPP hl
  generalize costE l r = X at HE HBAD HOK
  generalize costR l r = R at HC HOK
  obtain ⟨ri, rf, rt, at_, rg, tk, hw, rcr⟩ := r
  simp only at h1 h2 HE HC HFD HID HGD HIN HNL
  show Calls Tryz.prog 38 #[.slice a n cap, .agg #[.string ⟨ri.toArray⟩, .string ⟨rf.toArray⟩, .string ⟨rt.toArray⟩, .int .i64 at_, .int .i64 rg, .int .i64 tk, .int .i64 hw, .string ⟨rcr.toArray⟩]] w _
  generalize carrsErr l = F at HCC HE HGD
  generalize isNumB rt = g1 at HE HIN HNL
  generalize idxC l rcr = K at HE HC HFD HID
  go_enter Tryz.func38, Tryz.ntmps38
  go_upto_region 1 with (fail)
  have HX : Hid (Blk (w.alloc (.cells #[.string ⟨ri.toArray⟩, .string ⟨rf.toArray⟩, .string ⟨rt.toArray⟩, .int .i64 at_, .int .i64 rg, .int .i64 tk, .int .i64 hw, .string ⟨rcr.toArray⟩] 83)) w.heap.size [.string ⟨ri.toArray⟩, .string ⟨rf.toArray⟩, .string ⟨rt.toArray⟩, .int .i64 at_, .int .i64 rg, .int .i64 tk, .int .i64 hw, .string ⟨rcr.toArray⟩] 83) := Blk.new w [.string ⟨ri.toArray⟩, .string ⟨rf.toArray⟩, .string ⟨rt.toArray⟩, .int .i64 at_, .int .i64 rg, .int .i64 tk, .int .i64 hw, .string ⟨rcr.toArray⟩] 83
  have HB : Hid (Below w.heap.size w (w.alloc (.cells #[.string ⟨ri.toArray⟩, .string ⟨rf.toArray⟩, .string ⟨rt.toArray⟩, .int .i64 at_, .int .i64 rg, .int .i64 tk, .int .i64 hw, .string ⟨rcr.toArray⟩] 83))) := ext_alloc (Below.refl _ _)
  generalize (w.alloc (.cells #[.string ⟨ri.toArray⟩, .string ⟨rf.toArray⟩, .string ⟨rt.toArray⟩, .int .i64 at_, .int .i64 rg, .int .i64 tk, .int .i64 hw, .string ⟨rcr.toArray⟩] 83)) = w0 at HX HB ⊢
  as_aux_lemma =>
    go_wp2_with fail
    refine (HCC.out _ HB.out).mono ?_
    rintro e w1 ⟨rfl, hb⟩
    have HB1 := Lib.hid (ext_trans HB.out hb)
    have HX1 := Lib.hid (HX.out.below hb)
    clear hb HCC HB HX
    by_cases hF : F = 0
    case neg =>
      have hX : X = F := by rw [HE.out, if_pos hF]
      subst hX
      have HFX := Lib.hid (HBAD.out _ w1 rfl hF HB1.out)
      have hFb : (X == 0) = false := by simpa using hF
      clear HE HOK HBAD hF HGD HC HFD HID HX1
      as_aux_lemma =>
        go_wp2_with fail
        first | exact HFX.out | (go_ret3; exact HFX.out)
    subst hF
    have HE1 : Hid (X = if g1 = false then 3 else if isMomB at_ = false ∨ inB tk 0 86400000 = false then 1 else if rcr ≠ [] ∧ K < 0 then 8 else 0) := by show X = _; rw [HE.out, if_neg (by simp)]
    have HGA : Hid (GoodAt l at_) := HGD.out (by trivial)
    have c7 := HX1.out.cell 7 rfl
    clear HE HGD
    as_aux_lemma =>
      go_wp2_with fail
      refine (HFD.out _ HB1.out).mono ?_
      rintro e w2 ⟨rfl, hb⟩
      have HB2 := Lib.hid (ext_trans HB1.out hb)
      have HX2 := Lib.hid (HX1.out.below hb)
      clear hb HB1 HX1 HFD c7
      have c2 := HX2.out.cell 2 rfl
      as_aux_lemma =>
        go_wp2_with fail
        refine (HIN.out _).mono ?_
        rintro e w3 ⟨rfl, hb⟩
        have HB3 := Lib.hid (ext_trans HB2.out hb)
        have HX3 := Lib.hid (HX2.out.below hb)
        clear hb HB2 HX2 HIN c2
        cases g1
        · obtain rfl : X = 3 := by rw [HE1.out, if_pos rfl]
          have HFX := Lib.hid (HBAD.out _ w3 rfl (by decide) HB3.out)
          clear HE1 HOK HBAD HC HID HX3 HGA
          skip
          as_aux_lemma =>
            go_wp2_with fail
            first | exact HFX.out | (go_ret3; exact HFX.out)
        have HE2 : Hid (X = if isMomB at_ = false ∨ inB tk 0 86400000 = false then 1 else if rcr ≠ [] ∧ K < 0 then 8 else 0) := by show X = _; rw [HE1.out, if_neg (by decide)]
        have hn1 : 1 ≤ rt.length := HNL.out (by trivial)
        have c3 := HX3.out.cell 3 rfl
        have c5 := HX3.out.cell 5 rfl
        clear HE1 HNL
        as_aux_lemma =>
          go_wp2_with fail
          refine (isMoment_any at_ _).mono ?_
          rintro e w9 ⟨rfl, rfl⟩
          generalize isMomB at_ = g2 at HE2 ⊢
          cases g2
          · obtain rfl : X = 1 := by rw [HE2.out, if_pos (Or.inl rfl)]
            have HFX := Lib.hid (HBAD.out _ w3 rfl (by decide) HB3.out)
            clear HE2 HOK HBAD HC HID HX3 HGA
            skip
            as_aux_lemma =>
              go_wp2_with fail
              first | exact HFX.out | (go_ret3; exact HFX.out)
          skip
          as_aux_lemma =>
            go_wp2_with fail
            refine (within_c tk 0 86400000 _).mono ?_
            rintro e w9 ⟨rfl, rfl⟩
            have HTK : Hid (inB tk 0 86400000 = true → 0 ≤ tk ∧ tk ≤ 86400000) := fun h => by unfold inB at h; simpa using h
            generalize inB tk 0 86400000 = g3 at HE2 HTK ⊢
            cases g3
            · obtain rfl : X = 1 := by rw [HE2.out, if_pos (Or.inr rfl)]
              have HFX := Lib.hid (HBAD.out _ w3 rfl (by decide) HB3.out)
              clear HE2 HOK HBAD HC HID HX3 HGA
              skip
              as_aux_lemma =>
                go_wp2_with fail
                first | exact HFX.out | (go_ret3; exact HFX.out)
            have HE3 : Hid (X = if rcr ≠ [] ∧ K < 0 then 8 else 0) := by show X = _; rw [HE2.out, if_neg (by simp)]
            obtain ⟨t0, t1⟩ := HTK.out (by trivial)
            have c7 := HX3.out.cell 7 rfl
            clear HE2 HTK
            cases rcr with
            | nil =>
              obtain rfl : X = 0 := by rw [HE3.out, if_neg (by simp)]
              have HFX := Lib.hid (HOK.out 0 false w3 (by trivial) (by rw [HC.out, if_pos rfl]) HB3.out)
              clear HE3 HOK HBAD HC HID HX3 HGA
              skip
              as_aux_lemma =>
                go_wp2_with fail
                first | exact HFX.out | (go_ret3; exact HFX.out)
            | cons z zs =>
              by_cases hK : K < 0
              · obtain rfl : X = 8 := by rw [HE3.out, if_pos ⟨by simp, hK⟩]
                have HFX := Lib.hid (HBAD.out _ w3 rfl (by decide) HB3.out)
                clear HE3 HOK HBAD HC HID HX3 HGA
                skip
                as_aux_lemma =>
                  go_wp2_with fail
                  first | exact HFX.out | (go_ret3; exact HFX.out)
              obtain rfl : X = 0 := by rw [HE3.out, if_neg (fun h => hK h.2)]
              obtain ⟨kk, rfl⟩ := Int.eq_ofNat_of_zero_le (show 0 ≤ K by omega)
              have hkn : kk < n := by have q1 := HID.out (by omega); have q2 := HLEN.out; omega
              have hkb : ¬ ((kk : Int) < 0) := by omega
              have hkni : (kk : Int) < (n : Int) := by omega
              have HRC : Hid (R = costV (l.getD kk noCarr).decks (rt.drop 1) at_ tk) := by show R = _; rw [HC.out, if_neg (by simp)]; rfl
              have HR3 := Lib.hid (HR.out.below HB3.out)
              have HGK : Hid (∀ d, deckV (l.getD kk noCarr).decks at_ = some d → DeckGood d.setup d.least d.step d.rates) := HGA.out kk (by rw [← HLEN.out]; exact hkn)
              have HCF : Hid (CarrFine w3 (l.getD kk noCarr)) := HR3.out.each kk (by rw [← HLEN.out]; exact hkn)
              obtain ⟨b, off, rfl, hbl, hc⟩ := HR3.out.at (by omega)
              obtain ⟨d0, d1, d2⟩ := hc kk hkn
              have c2 := HX3.out.cell 2 rfl
              have hnd : (rt.drop 1).length ≤ 1000 := by rw [List.length_drop]; omega
              clear hc HR3 HR HE3 HC HID hK HBAD HGA HLEN
              generalize l.getD kk noCarr = cx at d0 d1 d2 HCF HRC HGK
              obtain ⟨ky, ln, da, dn, dc, dk⟩ := cx
              simp only at d0 d1 d2 HRC HGK
              have HCB : Hid (∀ W, Below w3.heap.size w3 W → Calls Tryz.prog 84 #[.agg #[.string ⟨ky.toArray⟩, .int .i64 ln, .slice da dn dc], .string ((⟨rt.toArray⟩ : ByteArray).extract 1 rt.length), .int .i64 at_, .int .i64 tk] W (PriceOfPost (costV dk (rt.drop 1) at_ tk) W)) := fun W hW => by
                rw [extract_drop rt 1]
                exact costBy_any W ky ln da dn dc dk (HCF.out.below hW).row HCF.out.cap (rt.drop 1) hnd at_ tk HGK.out ⟨t0, t1⟩
              rw [← HRC.out] at HCB
              obtain ⟨p, bb⟩ := R
              have HOK2 := Lib.hid (fun W h => HOK.out p bb W (by trivial) rfl h)
              clear HCF HGK HRC HOK
              as_aux_lemma =>
                have hnI : ¬ ((rt.length : Int) < 1) := by omega
                go_upto_region 13 with (fail)
                have hS : (fun W9 : World => W9.cell? ⟨b, off + kk * 3, none⟩ = some (.string ⟨ky.toArray⟩) ∧ W9.cell? ⟨b, off + kk * 3 + 1, none⟩ = some (.int .i64 ln) ∧ W9.cell? ⟨b, off + kk * 3 + 2, none⟩ = some (.slice da dn dc) ∧ W9.cell? ⟨w.heap.size, 2, none⟩ = some (.string ⟨rt.toArray⟩) ∧ W9.cell? ⟨w.heap.size, 3, none⟩ = some (.int .i64 at_) ∧ W9.cell? ⟨w.heap.size, 5, none⟩ = some (.int .i64 tk)) w3.drew := ⟨d0, d1, d2, c2, c3, c5⟩
                refine region_seqI (S := fun W9 : World => W9.cell? ⟨b, off + kk * 3, none⟩ = some (.string ⟨ky.toArray⟩) ∧ W9.cell? ⟨b, off + kk * 3 + 1, none⟩ = some (.int .i64 ln) ∧ W9.cell? ⟨b, off + kk * 3 + 2, none⟩ = some (.slice da dn dc) ∧ W9.cell? ⟨w.heap.size, 2, none⟩ = some (.string ⟨rt.toArray⟩) ∧ W9.cell? ⟨w.heap.size, 3, none⟩ = some (.int .i64 at_) ∧ W9.cell? ⟨w.heap.size, 5, none⟩ = some (.int .i64 tk)) [(true, 0), (true, 1), (true, 2), (true, 3), (true, 4), (true, 5), (true, 6), (true, 7), (true, 8), (true, 9), (true, 10), (false, 11), (true, 12), (true, 13), (true, 14), (true, 15), (true, 16)] (by kernel_rfl) (by kernel_rfl) rfl (by kernel_rfl) hS ?_
                simp only [seqOps, List.getD_cons_zero, List.getD_cons_succ]
                refine seqI_take (v := .slice (some ⟨b, off, none⟩) n cap) rfl (fun W hW => by clear hW; go_simp) (fun _ _ _ h => h) ?_
                simp only [Act.put, List.setIfInBounds_toArray, List.set_cons_zero, List.set_cons_succ]
                refine seqI_take (v := .int .i64 kk) rfl (fun W hW => by clear hW; go_simp) (fun _ _ _ h => h) ?_
                simp only [Act.put, List.setIfInBounds_toArray, List.set_cons_zero, List.set_cons_succ]
                refine seqI_take (v := .pointer (some ⟨b, off + kk * 3, none⟩)) rfl (fun W hW => by clear hW; go_simp) (fun _ _ _ h => h) ?_
                simp only [Act.put, List.setIfInBounds_toArray, List.set_cons_zero, List.set_cons_succ]
                refine seqI_take (v := .agg #[.string ⟨ky.toArray⟩, .int .i64 ln, .slice da dn dc]) rfl (fun W hW => by obtain ⟨m0, m1, m2, m3, m4, m5⟩ := hW; go_simp) (fun _ _ _ h => h) ?_
                simp only [Act.put, List.setIfInBounds_toArray, List.set_cons_zero, List.set_cons_succ]
                refine seqI_take (v := .pointer (some ⟨w.heap.size, 2, none⟩)) rfl (fun W hW => by clear hW; go_simp) (fun _ _ _ h => h) ?_
                simp only [Act.put, List.setIfInBounds_toArray, List.set_cons_zero, List.set_cons_succ]
                refine seqI_take (v := .string ⟨rt.toArray⟩) rfl (fun W hW => by obtain ⟨m0, m1, m2, m3, m4, m5⟩ := hW; go_simp) (fun _ _ _ h => h) ?_
                simp only [Act.put, List.setIfInBounds_toArray, List.set_cons_zero, List.set_cons_succ]
                refine seqI_take (v := .string ((⟨rt.toArray⟩ : ByteArray).extract 1 rt.length)) rfl (fun W hW => by clear hW; go_simp) (fun _ _ _ h => h) ?_
                simp only [Act.put, List.setIfInBounds_toArray, List.set_cons_zero, List.set_cons_succ]
                refine seqI_take (v := .pointer (some ⟨w.heap.size, 3, none⟩)) rfl (fun W hW => by clear hW; go_simp) (fun _ _ _ h => h) ?_
                simp only [Act.put, List.setIfInBounds_toArray, List.set_cons_zero, List.set_cons_succ]
                refine seqI_take (v := .int .i64 at_) rfl (fun W hW => by obtain ⟨m0, m1, m2, m3, m4, m5⟩ := hW; go_simp) (fun _ _ _ h => h) ?_
                simp only [Act.put, List.setIfInBounds_toArray, List.set_cons_zero, List.set_cons_succ]
                refine seqI_take (v := .pointer (some ⟨w.heap.size, 5, none⟩)) rfl (fun W hW => by clear hW; go_simp) (fun _ _ _ h => h) ?_
                simp only [Act.put, List.setIfInBounds_toArray, List.set_cons_zero, List.set_cons_succ]
                refine seqI_take (v := .int .i64 tk) rfl (fun W hW => by obtain ⟨m0, m1, m2, m3, m4, m5⟩ := hW; go_simp) (fun _ _ _ h => h) ?_
                simp only [Act.put, List.setIfInBounds_toArray, List.set_cons_zero, List.set_cons_succ]
                refine seqI_call 84 #[.agg #[.string ⟨ky.toArray⟩, .int .i64 ln, .slice da dn dc], .string ((⟨rt.toArray⟩ : ByteArray).extract 1 rt.length), .int .i64 at_, .int .i64 tk] rfl (by go_simp) (HCB.out _ (ext_drew (Below.refl _ _))) ?_
                rintro e w5 ⟨rfl, hb5⟩
                have HFX := Lib.hid (HOK2.out _ (ext_trans (ext_drew HB3.out) hb5))
                have hb3 : b < w3.drew.heap.size := hbl
                have hG3 : w.heap.size < w3.drew.heap.size := HX3.out.lt
                have hS5 : (fun W9 : World => W9.cell? ⟨b, off + kk * 3, none⟩ = some (.string ⟨ky.toArray⟩) ∧ W9.cell? ⟨b, off + kk * 3 + 1, none⟩ = some (.int .i64 ln) ∧ W9.cell? ⟨b, off + kk * 3 + 2, none⟩ = some (.slice da dn dc) ∧ W9.cell? ⟨w.heap.size, 2, none⟩ = some (.string ⟨rt.toArray⟩) ∧ W9.cell? ⟨w.heap.size, 3, none⟩ = some (.int .i64 at_) ∧ W9.cell? ⟨w.heap.size, 5, none⟩ = some (.int .i64 tk)) w5 := ⟨(hb5.cell (p := ⟨b, off + kk * 3, none⟩) hb3).trans d0, (hb5.cell (p := ⟨b, off + kk * 3 + 1, none⟩) hb3).trans d1, (hb5.cell (p := ⟨b, off + kk * 3 + 2, none⟩) hb3).trans d2, (hb5.cell (p := ⟨w.heap.size, 2, none⟩) hG3).trans c2, (hb5.cell (p := ⟨w.heap.size, 3, none⟩) hG3).trans c3, (hb5.cell (p := ⟨w.heap.size, 5, none⟩) hG3).trans c5⟩
                refine ⟨_, rfl, hS5, ?_⟩
                simp only [Act.put, List.setIfInBounds_toArray, List.set_cons_zero, List.set_cons_succ]
                refine seqI_take (v := .tuple #[.int .i64 p, .bool bb]) rfl (fun W hW => by clear hW; go_simp) (fun _ _ _ h => h) ?_
                simp only [Act.put, List.setIfInBounds_toArray, List.set_cons_zero, List.set_cons_succ]
                refine seqI_take (v := .int .i64 p) rfl (fun W hW => by clear hW; go_simp) (fun _ _ _ h => h) ?_
                simp only [Act.put, List.setIfInBounds_toArray, List.set_cons_zero, List.set_cons_succ]
                refine seqI_take (v := .bool bb) rfl (fun W hW => by clear hW; go_simp) (fun _ _ _ h => h) ?_
                simp only [Act.put, List.setIfInBounds_toArray, List.set_cons_zero, List.set_cons_succ]
                refine seqI_take (v := .int .i64 p) rfl (fun W hW => by clear hW; go_simp) (fun _ _ _ h => h) ?_
                simp only [Act.put, List.setIfInBounds_toArray, List.set_cons_zero, List.set_cons_succ]
                refine seqI_take (v := .bool bb) rfl (fun W hW => by clear hW; go_simp) (fun _ _ _ h => h) ?_
                simp only [Act.put, List.setIfInBounds_toArray, List.set_cons_zero, List.set_cons_succ]
                refine seqI_nil ?_
                go_wp2_with fail
                first | exact HFX.out | (go_ret3; exact HFX.out)
end Go.Proofs.YtppinnjdaoaddaaGreatDoor

set_option linter.unusedVariables false
set_option linter.unusedSimpArgs false
namespace Go.Proofs.YtppinnjdaoaddaaGreatDoor
open Go.RowKit Go.Sort Go.Lib

/-- The reference's error of Cost. -/
def costF (l : List Carr) (r : Rcd) : Int := if isNumB r.to_ = false then 3 else if isMomB r.at_ = false ∨ inB r.talk 0 86400000 = false then 1 else if r.carrier ≠ [] ∧ idxC l r.carrier < 0 then 8 else 0
theorem cost_join (l : List Carr) (r : Rcd) : firstE (carrsErr l) (if (carrsErr l == 0) = true then costF l r else 0) = costE l r := by
  unfold firstE costE
  by_cases h : carrsErr l = 0
  · rw [h]; simp [costF]
  · rw [if_pos h, if_pos h]
set_option maxRecDepth 100000 in
set_option maxHeartbeats 8000000 in
theorem costFault_any (w : World) (a : Option Addr) (n cap : Nat) (l : List Carr) (hl : CarrRow w a n l) (hcap : n ≤ cap) (r : Rcd) (h1 : r.to_.length ≤ 100) (h2 : r.carrier.length ≤ 100) : Calls Tryz.prog 39 #[.slice a n cap, .agg (Rcd.cells r).toArray] w (ErrPost (costF l r) w) := by
  have HE : Hid (costF l r = if isNumB r.to_ = false then 3 else if isMomB r.at_ = false ∨ inB r.talk 0 86400000 = false then 1 else if r.carrier ≠ [] ∧ idxC l r.carrier < 0 then 8 else 0) := rfl
  have HFD := Lib.hid (fun W (h : Below w.heap.size w W) => carrAt_any W a n cap l (hl.below h) r.carrier)
  have HIN := Lib.hid (fun W => form_l r.to_ W (by omega))
  clear hl
  generalize costF l r = X at HE ⊢
  obtain ⟨ri, rf, rt, at_, rg, tk, hw, rcr⟩ := r
  simp only at h1 h2 HE HFD HIN
  show Calls Tryz.prog 39 #[.slice a n cap, .agg #[.string ⟨ri.toArray⟩, .string ⟨rf.toArray⟩, .string ⟨rt.toArray⟩, .int .i64 at_, .int .i64 rg, .int .i64 tk, .int .i64 hw, .string ⟨rcr.toArray⟩]] w _
  generalize isNumB rt = g1 at HE HIN
  generalize idxC l rcr = K at HE HFD
  go_enter Tryz.func39, Tryz.ntmps39
  go_upto_region 1 with (fail)
  have HX : Hid (Blk (w.alloc (.cells #[.string ⟨ri.toArray⟩, .string ⟨rf.toArray⟩, .string ⟨rt.toArray⟩, .int .i64 at_, .int .i64 rg, .int .i64 tk, .int .i64 hw, .string ⟨rcr.toArray⟩] 83)) w.heap.size [.string ⟨ri.toArray⟩, .string ⟨rf.toArray⟩, .string ⟨rt.toArray⟩, .int .i64 at_, .int .i64 rg, .int .i64 tk, .int .i64 hw, .string ⟨rcr.toArray⟩] 83) := Blk.new w [.string ⟨ri.toArray⟩, .string ⟨rf.toArray⟩, .string ⟨rt.toArray⟩, .int .i64 at_, .int .i64 rg, .int .i64 tk, .int .i64 hw, .string ⟨rcr.toArray⟩] 83
  have HB : Hid (Below w.heap.size w (w.alloc (.cells #[.string ⟨ri.toArray⟩, .string ⟨rf.toArray⟩, .string ⟨rt.toArray⟩, .int .i64 at_, .int .i64 rg, .int .i64 tk, .int .i64 hw, .string ⟨rcr.toArray⟩] 83))) := ext_alloc (Below.refl _ _)
  generalize (w.alloc (.cells #[.string ⟨ri.toArray⟩, .string ⟨rf.toArray⟩, .string ⟨rt.toArray⟩, .int .i64 at_, .int .i64 rg, .int .i64 tk, .int .i64 hw, .string ⟨rcr.toArray⟩] 83)) = w0 at HX HB ⊢
  have c2 := HX.out.cell 2 rfl
  as_aux_lemma =>
    go_wp2_with fail
    refine (HIN.out _).mono ?_
    rintro e w3 ⟨rfl, hb⟩
    have HB3 := Lib.hid (ext_trans HB.out hb)
    have HX3 := Lib.hid (HX.out.below hb)
    clear hb HB HX HIN c2
    cases g1
    · obtain rfl : X = 3 := by rw [HE.out, if_pos rfl]
      clear HE HX3
      skip
      as_aux_lemma =>
        go_wp2_with fail
        go_ret
        exact ⟨rfl, HB3.out⟩
    have HE2 : Hid (X = if isMomB at_ = false ∨ inB tk 0 86400000 = false then 1 else if rcr ≠ [] ∧ K < 0 then 8 else 0) := by show X = _; rw [HE.out, if_neg (by decide)]
    have c3 := HX3.out.cell 3 rfl
    have c5 := HX3.out.cell 5 rfl
    clear HE
    as_aux_lemma =>
      go_wp2_with fail
      refine (momF_same at_ _).mono ?_
      rintro e w9 ⟨rfl, rfl⟩
      generalize isMomB at_ = g2 at HE2 ⊢
      cases g2
      · obtain rfl : X = 1 := by rw [HE2.out, if_pos (Or.inl rfl)]
        clear HE2 HX3
        skip
        as_aux_lemma =>
          go_wp2_with fail
          go_ret
          exact ⟨rfl, HB3.out⟩
      skip
      as_aux_lemma =>
        go_wp2_with fail
        refine (in_same tk 0 86400000 _).mono ?_
        rintro e w9 ⟨rfl, rfl⟩
        generalize inB tk 0 86400000 = g3 at HE2 ⊢
        cases g3
        · obtain rfl : X = 1 := by rw [HE2.out, if_pos (Or.inr rfl)]
          clear HE2 HX3
          skip
          as_aux_lemma =>
            go_wp2_with fail
            go_ret
            exact ⟨rfl, HB3.out⟩
        have HE3 : Hid (X = if rcr ≠ [] ∧ K < 0 then 8 else 0) := by show X = _; rw [HE2.out, if_neg (by simp)]
        have c7 := HX3.out.cell 7 rfl
        clear HE2
        cases rcr with
        | nil =>
          obtain rfl : X = 0 := by rw [HE3.out, if_neg (by simp)]
          clear HE3 HX3
          skip
          as_aux_lemma =>
            go_wp2_with fail
            go_ret
            exact ⟨rfl, HB3.out⟩
        | cons z zs =>
          skip
          as_aux_lemma =>
            go_wp2_with fail
            refine (HFD.out _ HB3.out).mono ?_
            rintro e w5 ⟨rfl, hb⟩
            have HB5 := Lib.hid (ext_trans HB3.out hb)
            clear hb HB3 HFD HX3
            by_cases hK : K < 0
            · obtain rfl : X = 8 := by rw [HE3.out, if_pos ⟨by simp, hK⟩]
              clear HE3
              as_aux_lemma =>
                go_wp2_with fail
                go_ret
                exact ⟨rfl, HB5.out⟩
            · obtain rfl : X = 0 := by rw [HE3.out, if_neg (fun h => hK h.2)]
              clear HE3
              as_aux_lemma =>
                go_wp2_with fail
                go_ret
                exact ⟨rfl, HB5.out⟩
end Go.Proofs.YtppinnjdaoaddaaGreatDoor

namespace Go.Proofs.YtppinnjdaoaddaaGreatDoor
open Go.RowKit

section
variable {P : Program} {ops : Array Oper} {Q : Exit → Act → World → Prop}

/-- What is to be shown of an operation: it may look at what it waits for, and at what was there. A call hands out at most W numbers. -/
def LateOp (P : Program) (ops : Array Oper) (Q : Exit → Act → World → Prop) (a0 : Act) (S k W : Nat) (w0 : World) (specs : List Spec) (calls : List Nat) (i : Nat) (o : Oper) (s : Spec) : Prop :=
  ∀ (a : Act) (w : World) (c : Nat), Keeps S w0 w → StreamOk w S (k + W * c) → c + (if calls.contains i then 1 else 0) ≤ calls.length →
    (∀ t, ((ops.extract 0 specs.length).all fun o => o.dst != some t) = true → a.eval (.tmp t) = a0.eval (.tmp t)) →
    (∀ (j : Nat) (t : Tmp) (s' : Spec), (o.after.any fun e => Region.binds .any e && e.on == j) = true → dstOf ops j = some t → specs[j]? = some s' → s'.holds S w (a.eval (.tmp t))) →
    ∀ K : Act → World → Prop, (∀ v w', s.holds S w' v → Keeps S w w' → StreamOk w' S (k + W * (c + if calls.contains i then 1 else 0)) → K (a.put o.dst v) w') → Oper.wp P o a w K Q
def LateOps (P : Program) (ops : Array Oper) (Q : Exit → Act → World → Prop) (a0 : Act) (S k W : Nat) (w0 : World) (specs : List Spec) (calls : List Nat) : Nat → List Oper → List Spec → Prop
  | i, o :: os, s :: ss => LateOp P ops Q a0 S k W w0 specs calls i o s ∧ LateOps P ops Q a0 S k W w0 specs calls (i + 1) os ss
  | _, _, _ => True
theorem lateOps_at {a0 : Act} {S k W : Nat} {w0 : World} {specs : List Spec} {calls : List Nat} : ∀ (i : Nat) (os : List Oper) (ss : List Spec), LateOps P ops Q a0 S k W w0 specs calls i os ss → ∀ (j : Nat) (o : Oper) (s : Spec), os[j]? = some o → ss[j]? = some s → LateOp P ops Q a0 S k W w0 specs calls (i + j) o s
  | i, o :: os, s :: ss, h, 0, _, _, ho, hs => by simp at ho hs; subst ho; subst hs; exact h.1
  | i, o :: os, s :: ss, h, j + 1, o', s', ho, hs => by
    have := lateOps_at (i + 1) os ss h.2 j o' s' (by simpa using ho) (by simpa using hs)
    rw [show i + (j + 1) = i + 1 + j by omega]; exact this
  | i, [], _, _, j, _, _, ho, _ => by simp at ho
  | i, _ :: _, [], _, j, _, _, _, hs => by simp at hs

/-- Operation m waits, through others, for all ahead of it but number d: each of those is waited for by one behind it, up to m, that is not d. -/
def lateChk (ops : Array Oper) (m d : Nat) : Bool :=
  ((List.range m).all fun i => i == d || (List.range (m + 1)).any fun k => decide (i < k) && k != d && ((ops[k]?).map fun o => o.after.any fun e => Region.binds .any e && e.on == i).getD false) && decide (d < m)

theorem late_listed {m d : Nat} (hc : lateChk ops m d = true) {l : Array Bool} (hl : l.size = m + 1) (hcl : ClosedL ops l) {om : Oper} (hom : ops[m]? = some om) (hall : ∀ e ∈ om.after, Region.binds .any e = true → l.getD e.on false = true) : ∀ i, i < m → i ≠ d → l.getD i true = true := by
  simp only [lateChk, Bool.and_eq_true, List.all_eq_true, List.any_eq_true, List.mem_range, decide_eq_true_eq, Bool.or_eq_true, beq_iff_eq, bne_iff_ne] at hc
  have main : ∀ n i, i < m → i ≠ d → m - i ≤ n → l.getD i false = true := by
    intro n
    induction n with
    | zero => intro i hi _ h; omega
    | succ n ih =>
      intro i hi hne h
      obtain ⟨k, hk, ⟨hik, hkd⟩, hk2⟩ := (hc.1 i hi).resolve_left hne
      cases ho : ops[k]? with
      | none => simp [ho] at hk2
      | some o =>
        simp only [ho, Option.map_some, Option.getD_some] at hk2
        obtain ⟨e, he, hb⟩ := Array.any_eq_true'.1 hk2
        simp only [Bool.and_eq_true, beq_iff_eq] at hb
        rcases Nat.lt_or_ge k m with hkm | hkm
        · rw [← hb.2]; exact hcl k o ho (ih k hkm hkd (by omega)) e he hb.1
        · obtain rfl : k = m := by omega
          rw [hom] at ho; cases ho
          rw [← hb.2]; exact hall e he hb.1
  intro i hi hne
  rw [getD_two (by omega) true false]
  exact main (m - i) i hi hne (Nat.le_refl _)

/-- Operation m waits, through others, for all ahead of it. -/
def lateAll (ops : Array Oper) (m : Nat) : Bool :=
  (List.range m).all fun i => (List.range (m + 1)).any fun k => decide (i < k) && ((ops[k]?).map fun o => o.after.any fun e => Region.binds .any e && e.on == i).getD false
theorem allW_listed {m : Nat} (hc : lateAll ops m = true) {l : Array Bool} (hl : l.size = m + 1) (hcl : ClosedL ops l) {om : Oper} (hom : ops[m]? = some om) (hall : ∀ e ∈ om.after, Region.binds .any e = true → l.getD e.on false = true) : ∀ i, i < m → l.getD i true = true := by
  simp only [lateAll, Bool.and_eq_true, List.all_eq_true, List.any_eq_true, List.mem_range, decide_eq_true_eq] at hc
  have main : ∀ n i, i < m → m - i ≤ n → l.getD i false = true := by
    intro n
    induction n with
    | zero => intro i hi h; omega
    | succ n ih =>
      intro i hi h
      obtain ⟨k, hk, hik, hk2⟩ := hc i hi
      cases ho : ops[k]? with
      | none => simp [ho] at hk2
      | some o =>
        simp only [ho, Option.map_some, Option.getD_some] at hk2
        obtain ⟨e, he, hb⟩ := Array.any_eq_true'.1 hk2
        simp only [Bool.and_eq_true, beq_iff_eq] at hb
        rcases Nat.lt_or_ge k m with hkm | hkm
        · rw [← hb.2]; exact hcl k o ho (ih k hkm (by omega)) e he hb.1
        · obtain rfl : k = m := by omega
          rw [hom] at ho; cases ho
          rw [← hb.2]; exact hall e he hb.1
  intro i hi
  rw [getD_two (by omega) true false]
  exact main (m - i) i hi (Nat.le_refl _)

theorem gen_late {m d W : Nat} {a0 : Act} {S k : Nat} {w0 : World} {specs : List Spec} {calls : List Nat} {st od : Oper} (hsz : ops.size = m + 1) (hc : genChk ops a0.tmps.size m calls = true) (hlen : specs.length = m) (hst : ops[m]? = some st) (hsg : st.guard = none) (hod : ops[d]? = some od) (hlate : lateChk ops m d = true) (hdc : d ∉ calls)
    (hdown : ∀ i, i < m + 1 → ∃ o, ops[i]? = some o ∧ ∀ e ∈ o.after, Region.binds .any e = true → e.on < i)
    (hstep : ∀ i o s, i < m → ops[i]? = some o → specs[i]? = some s → LateOp P ops Q a0 S k W w0 specs calls i o s)
    (hA : ∀ (vals : Nat → Value) (w : World), Keeps S w0 w → StreamOk w S (k + W * calls.length) → (∀ (i : Nat) (s : Spec), specs[i]? = some s → s.holds S w (vals i)) → lastQ P st Q .normal (putSome ops vals (fun _ => true) (List.range m) a0) w)
    (hB : lateAll ops m = false → ∀ (vals : Nat → Value) (w : World), Keeps S w0 w → StreamOk w S (k + W * calls.length) → (∀ (i : Nat) (s : Spec), i ≠ d → specs[i]? = some s → s.holds S w (vals i)) → lastQ P st (lastQ P od Q) .normal (putSome ops vals (fun i => i != d) (List.range m) a0) w) :
    ∀ (fuel : Nat) (l : Array Bool) (vals : Nat → Value) (w : World), l.size = m + 1 → l.getD m true = false → ClosedL ops l → Keeps S w0 w → StreamOk w S (k + W * calls.countP (fun i => l.getD i true)) → (∀ (i : Nat) (s : Spec), l.getD i true = true → specs[i]? = some s → s.holds S w (vals i)) → (l.toList.countP (fun b => !b) ≤ fuel) →
      wpAny P .any ops Q fuel l (putSome ops vals (fun i => l.getD i true) (List.range m) a0) w := by
  simp only [genChk, Bool.and_eq_true, List.all_eq_true, List.mem_range, decide_eq_true_eq, Bool.or_eq_true, beq_iff_eq] at hc
  obtain ⟨⟨⟨⟨⟨hdst, hgd⟩, hmn⟩, h1n⟩, hnd⟩, hcm⟩ := hc
  have hdm : d < m := by
    simp only [lateChk, Bool.and_eq_true, decide_eq_true_eq] at hlate
    exact hlate.2
  have dlt' : ∀ i t, dstOf ops i = some t → i < ops.size := by
    intro i t h
    rcases Nat.lt_or_ge i ops.size with h' | h'
    · exact h'
    · unfold dstOf at h; rw [Array.getElem?_eq_none h'] at h; cases h
  have dne : ∀ i j, i ≠ j → ∀ t, dstOf ops j = some t → dstOf ops i ≠ some t := by
    intro i j hij t hj hi
    have := (hdst i (dlt' i t hi) j (dlt' j t hj)).resolve_left hij
    simp [hi, hj] at this
  have dlt : ∀ i t, dstOf ops i = some t → t < a0.tmps.size := by
    intro i t hi
    have hj : ∃ j, j < ops.size ∧ i ≠ j := if h : i = 0 then ⟨1, by omega, by omega⟩ else ⟨0, by omega, h⟩
    obtain ⟨j, hj, hij⟩ := hj
    have := (hdst i (dlt' i t hi) j hj).resolve_left hij
    simp [hi] at this
    exact this.1
  have cntAll : ∀ l : Array Bool, (∀ i, i < m → i ≠ d → l.getD i true = true) → calls.countP (fun i => l.getD i true) = calls.length := fun l h => List.countP_eq_length.2 (fun i hi => h i (by simpa using hcm i hi) (fun e => hdc (e ▸ hi)))
  intro fuel
  induction fuel with
  | zero =>
    intro l vals w hl hlm hcl hk hstm hs hf
    exfalso
    have : 0 < l.toList.countP (fun b => !b) := List.countP_pos_iff.2 ⟨false, by
      have hlt : m < l.size := by omega
      have : l[m] = false := by simpa [hlt] using hlm
      rw [← this]; simp, rfl⟩
    omega
  | succ fuel ih =>
    intro l vals w hl hlm hcl hk hstm hs hf
    have cntSet : ∀ i, i < l.size → l.getD i true = false → (l.setIfInBounds i true).toList.countP (fun b => !b) + 1 = l.toList.countP (fun b => !b) := by
      intro i hilt hun
      have hli : l[i] = false := by simpa [hilt] using hun
      have hpos : 0 < l.toList.countP (fun b => !b) := List.countP_pos_iff.2 ⟨false, by rw [← hli]; simp, rfl⟩
      have := List.countP_set (p := fun b : Bool => !b) (l := l.toList) (i := i) (a := true) (by simpa using hilt)
      have e4 : l.toList[i]'(by simpa using hilt) = false := by simpa using hli
      rw [Array.toList_setIfInBounds, this, e4]
      rw [if_pos (by decide : (!false) = true), if_neg (by decide : ¬ (!true) = true)]
      omega
    refine ⟨fun h0 => ?_, fun i hi => ?_⟩
    · exfalso
      have hall : ∀ i, i < m + 1 → l.getD i true = true := by
        intro i
        induction i using Nat.strongRecOn with
        | _ i ihi =>
          intro hi
          rcases Bool.eq_false_or_eq_true (l.getD i true) with h | h
          · exact h
          · exfalso
            obtain ⟨o, ho, hd⟩ := hdown i hi
            have : i ∈ Region.ready .any ops l := mem_ready.2 ⟨h, o, ho, fun e he hb => by rw [getD_two (by have := hd e he hb; omega) false true]; exact ihi e.on (hd e he hb) (by have := hd e he hb; omega)⟩
            rw [h0] at this; cases this
      rw [hall m (by omega)] at hlm; cases hlm
    · obtain ⟨hun, o, ho, hall⟩ := mem_ready.1 hi
      have hile : i ≤ m := by have := (Array.getElem?_eq_some_iff.1 ho).1; omega
      by_cases him : i = m
      · subst him
        rw [hst] at ho; cases ho
        have hothers := late_listed hlate hl hcl hst hall
        unfold wpOp
        simp only [hst]
        rw [if_pos (by simp [Region.wanted, hsg])]
        rw [cntAll l hothers] at hstm
        by_cases hdl : l.getD d true = true
        · have e1 : putSome ops vals (fun j => l.getD j true) (List.range i) a0 = putSome ops vals (fun _ => true) (List.range i) a0 := putSome_congr _ _ (fun j hj => ⟨by
            by_cases hjd : j = d
            · rw [hjd]; exact hdl
            · exact hothers j (List.mem_range.1 hj) hjd, fun _ => rfl⟩)
          rw [e1]
          refine (hA vals w hk hstm (fun j s h => hs j s ?_ h)).imp (Oper.wp_mono (fun a' w' h' => wpAny_done (ready_all hsz fun j hj => ?_) h' fuel)) id
          · by_cases hjd : j = d
            · rw [hjd]; exact hdl
            · exact hothers j (by have := (List.getElem?_eq_some_iff.1 h).1; omega) hjd
          · by_cases hji : j = i
            · subst hji; simp [hl]
            · rw [getD_set_ne true (Ne.symm hji)]
              by_cases hjd : j = d
              · rw [hjd]; exact hdl
              · exact hothers j (by omega) hjd
        · have hdf : l.getD d true = false := by simpa using hdl
          have hla : lateAll ops i = false := by
            rcases Bool.eq_false_or_eq_true (lateAll ops i) with h | h
            · exact absurd (allW_listed h hl hcl hst hall d hdm) (by rw [hdf]; decide)
            · exact h
          have e1 : putSome ops vals (fun j => l.getD j true) (List.range i) a0 = putSome ops vals (fun j => j != d) (List.range i) a0 := putSome_congr _ _ (fun j hj => ⟨by
            by_cases hjd : j = d
            · rw [hjd, hdf]; simp
            · rw [hothers j (List.mem_range.1 hj) hjd]; simp [hjd], fun _ => rfl⟩)
          rw [e1]
          have hf1 : 1 ≤ fuel := by
            have h1 := cntSet d (by omega) hdf
            have h2 : 0 < (l.setIfInBounds d true).toList.countP (fun b => !b) := List.countP_pos_iff.2 ⟨false, by
              have hlt : i < (l.setIfInBounds d true).size := by simp; omega
              have : (l.setIfInBounds d true)[i] = false := by
                have h3 : (l.setIfInBounds d true).getD i true = false := by rw [getD_set_ne true (by omega)]; exact hlm
                rw [Array.getD_eq_getD_getElem?, Array.getElem?_eq_getElem hlt] at h3
                exact h3
              rw [← this]; exact Array.getElem_mem_toList _, rfl⟩
            omega
          obtain ⟨fuel', rfl⟩ : ∃ f, fuel = f + 1 := ⟨fuel - 1, by omega⟩
          have hg : od.guard = none := by
            have hx := hgd d hdm
            simpa [hod] using hx
          have hset : ∀ j, j < i + 1 → j ≠ d → (l.setIfInBounds i true).getD j true = true := by
            intro j hj hjd
            by_cases hji : j = i
            · subst hji; simp [hl]
            · rw [getD_set_ne true (Ne.symm hji)]; exact hothers j (by omega) hjd
          rcases hB hla vals w hk hstm (fun j s hjd h => hs j s (hothers j (by have := (List.getElem?_eq_some_iff.1 h).1; omega) hjd) h) with hq | hq
          · refine Or.inl ?_
            have conv : Oper.wp P st (putSome ops vals (fun j => j != d) (List.range i) a0) w (fun a' w' => lastQ P od Q .normal a' w') Q := by
              unfold Oper.wp at *
              generalize (execOp (putSome ops vals (fun j => j != d) (List.range i) a0).eval st).run P w = r at *
              cases r with
              | ok n w' =>
                cases n <;> simp only [Oper.upon] at hq ⊢ <;>
                  first
                    | exact hq
                    | exact Calls.mono hq (fun e w'' he => by cases e <;> exact he)
                    | exact Rows.mono hq (fun _ _ he => he)
              | halt x w' => cases x <;> simp only [Oper.upon] at hq ⊢ <;> exact hq
            refine Oper.wp_mono (fun a' w' h' => ?_) conv
            refine ⟨fun h0 => ?_, fun j hj => ?_⟩
            · exfalso
              obtain ⟨o2, ho2, hd2⟩ := hdown d (by omega)
              have : d ∈ Region.ready .any ops (l.setIfInBounds i true) := mem_ready.2 ⟨by rw [getD_set_ne true (by omega)]; exact hdf, o2, ho2, fun e he hb => by
                have := hd2 e he hb
                rw [getD_two (by simp; omega) false true]
                exact hset _ (by omega) (by omega)⟩
              rw [h0] at this; cases this
            · obtain ⟨hun2, o2, ho2, _⟩ := mem_ready.1 hj
              have hjle : j < i + 1 := by have := (Array.getElem?_eq_some_iff.1 ho2).1; omega
              obtain rfl : j = d := by
                apply Classical.byContradiction
                intro hjd
                rw [hset j hjle hjd] at hun2; cases hun2
              unfold wpOp
              simp only [hod]
              rw [if_pos (by simp [Region.wanted, hg])]
              refine h'.imp (Oper.wp_mono (fun a'' w'' h'' => wpAny_done (ready_all hsz fun q hq => ?_) h'' fuel')) id
              by_cases hqd : q = j
              · subst hqd; simp [show q < l.size by omega]
              · rw [getD_set_ne true (Ne.symm hqd)]; exact hset q hq hqd
          · exact Or.inr ⟨hq.1, by
              obtain ⟨a1, w1, h2⟩ := hq.2
              exact ⟨a1, w1, lastQ_other h2 (by simp)⟩⟩
      · have him' : i < m := by omega
        have hilt : i < l.size := by omega
        obtain ⟨s, hsi⟩ : ∃ s, specs[i]? = some s := ⟨specs[i]'(by omega), by simp⟩
        have hguard : o.guard = none := by
          have hx := hgd i him'
          simpa [ho] using hx
        have hdo : dstOf ops i = o.dst := by simp [dstOf, ho]
        unfold wpOp
        simp only [ho]
        rw [if_pos (by simp [Region.wanted, hguard])]
        refine Or.inl ?_
        have hcnt := countP_set calls hnd (fun j => l.getD j true) i hun
        refine hstep i o s him' ho hsi _ w (calls.countP fun j => l.getD j true) hk hstm ?_ ?_ ?_ _ ?_
        · rw [← hcnt]; exact List.countP_le_length
        · intro t ht
          refine putSome_eval_other _ _ (fun j hj => ?_)
          intro hjt
          have hjm := List.mem_range.1 hj
          unfold dstOf at hjt
          cases hoj : ops[j]? with
          | none => rw [hoj] at hjt; cases hjt
          | some oj =>
            rw [hoj] at hjt
            have h9 : (ops.extract 0 specs.length)[j]? = some oj := by rw [ext_get _ _ _ (by omega)]; exact hoj
            have := Array.all_eq_true_iff_forall_mem.1 ht oj (Array.mem_of_getElem? h9)
            simp at this hjt
            exact this hjt
        · intro j t s' hj ht hs'
          obtain ⟨e, he, hb⟩ := Array.any_eq_true'.1 hj
          simp only [Bool.and_eq_true, beq_iff_eq] at hb
          obtain ⟨hb, rfl⟩ := hb
          have hlt : e.on < m := by have := (List.getElem?_eq_some_iff.1 hs').1; omega
          have hon' : l.getD e.on true = true := by rw [getD_two (by omega) true false]; exact hall e he hb
          rw [putSome_eval (i := e.on) _ _ List.nodup_range (List.mem_range.2 hlt) hon' ht (dlt _ _ ht) (fun j _ hj => fun h2 => dne e.on j (Ne.symm hj) t h2 ht)]
          exact hs e.on s' hon' hs'
        · intro v w' hv hkw hst'
          have e2 := putSome_set (ops := ops) (vals := vals) (listed := fun j => l.getD j true) (i := i) v (List.range m) a0 List.nodup_range (List.mem_range.2 him') hun (fun j _ hj t ht => dne i j (Ne.symm hj) t ht)
          have e3 : (fun j => if j = i then true else l.getD j true) = fun j => (l.setIfInBounds i true).getD j true := by
            funext j
            by_cases hji : j = i
            · subst hji; simp [hilt]
            · simp only [hji, if_false]; rw [getD_set_ne true (Ne.symm hji)]
          rw [← hdo, ← e2, e3]
          refine ih _ _ w' (by simpa using hl) (by rw [getD_set_ne true him]; exact hlm) (hcl.set hi) (hk.trans hkw) ?_ ?_ ?_
          · rw [← e3, hcnt]; exact hst'
          · intro j s' hj hs'
            by_cases hji : j = i
            · subst hji
              rw [hsi] at hs'; cases hs'
              simp only [if_true]; exact hv
            · simp only [hji, if_false]
              rw [getD_set_ne true (Ne.symm hji)] at hj
              exact (hs j s' hj hs').keeps hkw
          · have := cntSet i hilt hun
            omega

theorem tailQ_wp {k : Nat} {o : Oper} {a : Act} {w : World} {K : Act → World → Prop} (h : Oper.wp P o a w K Q) : Oper.wp P o a w K (tailQ P ops Q k) := by
  unfold Oper.wp at *
  generalize (execOp a.eval o).run P w = r at *
  cases r with
  | ok n w' =>
    cases n <;> simp only [Oper.upon] at h ⊢ <;>
      first
        | exact h
        | exact Calls.mono h (fun e w'' he => by cases e <;> exact he)
        | exact Rows.mono h (fun _ _ he => he)
  | halt x w' => cases x <;> simp only [Oper.upon] at h ⊢ <;> exact h

theorem toTail_of {L : List Oper} : ∀ (l : List Oper), (∀ o ∈ l, o.guard = none) → ∀ a w, wpList P L.toArray Q l a w → tailQ.wpTail P Q l a w := by
  intro l
  induction l with
  | nil => intro _ a w h; exact h
  | cons o l ih =>
    intro hg a w h
    unfold wpList at h
    rw [if_pos (by simp [Region.wanted, hg o List.mem_cons_self])] at h
    exact h.imp (Oper.wp_mono (fun a w h => ih (fun o ho => hg o (List.mem_cons_of_mem _ ho)) a w h)) (fun h => h)

theorem forVals_skip {S : Nat} {w : World} {K : Act → Prop} {vals : Nat → Value} {ops : Array Oper} {d : Nat} : ∀ (ss : List Spec) (i : Nat) (a : Act), ForVals S w K (((List.range' i ss.length).map (dstOf ops)).eraseIdx (d - i)) (ss.eraseIdx (d - i)) a → i ≤ d → d < i + ss.length → (∀ (j : Nat) (s : Spec), i + j ≠ d → ss[j]? = some s → s.holds S w (vals (i + j))) → K (putSome ops vals (fun j => j != d) (List.range' i ss.length) a)
  | [], i, a, h, _, h2, _ => by simp at h2; omega
  | s :: ss, i, a, h, h1, h2, hs => by
    by_cases hid : i = d
    · subst hid
      simp only [Nat.sub_self, List.length_cons, List.range'_succ, List.map_cons, List.eraseIdx_cons_zero] at h
      have := forVals_all (vals := vals) ss (i + 1) a h (fun j s' hj => by have := hs (j + 1) s' (by omega) (by simpa using hj); rwa [show i + (j + 1) = i + 1 + j by omega] at this)
      simp only [putSome, List.length_cons, List.range'_succ, List.foldl_cons, bne_self_eq_false, Bool.false_eq_true, if_false] at this ⊢
      have e : ∀ (l : List Nat) (a : Act), (∀ j ∈ l, j ≠ i) → List.foldl (fun a j => if (j != i) = true then a.put (dstOf ops j) (vals j) else a) a l = List.foldl (fun a j => a.put (dstOf ops j) (vals j)) a l := by
        intro l
        induction l with
        | nil => intro a _; rfl
        | cons x xs ih =>
          intro a hx
          have hxi := hx x (by simp)
          have hb : (x != i) = true := by simpa using hxi
          simp only [List.foldl_cons, hb, if_true]
          exact ih _ (fun j hj => hx j (by simp [hj]))
      rw [e _ _ (fun j hj => by have := List.mem_range'_1.1 hj; omega)]
      simpa using this
    · have hsub : d - i = (d - (i + 1)) + 1 := by omega
      rw [hsub] at h
      simp only [List.length_cons, List.range'_succ, List.map_cons, List.eraseIdx_cons_succ] at h
      have h1' : ForVals S w K (((List.range' (i + 1) ss.length).map (dstOf ops)).eraseIdx (d - (i + 1))) (ss.eraseIdx (d - (i + 1))) (a.put (dstOf ops i) (vals i)) := h (vals i) (hs 0 s (by omega) rfl)
      have := forVals_skip ss (i + 1) _ h1' (by omega) (by simp at h2; omega) (fun j s' hj hj2 => by have := hs (j + 1) s' (by omega) (by simpa using hj2); rwa [show i + (j + 1) = i + 1 + j by omega] at this)
      simp only [putSome, List.length_cons, List.range'_succ, List.foldl_cons, bne_iff_ne, ne_eq, hid, not_false_eq_true, if_true] at this ⊢
      exact this

/-- **A region that draws its order**: shown for all orders at once; operation m comes behind all of the first m but, it may be, number d. -/
theorem region_lateC {L : List Oper} {id : Nat} {a0 : Act} {w : World} (S k W m d : Nat) (specs : List Spec) (calls : List Nat) (ds : List (Option Tmp)) {st od : Oper} (hm : P.follows .mixedOrders = true) (hc : genChk L.toArray a0.tmps.size m calls = true) (hc2 : ((L.toArray.extract 0 (m + 1)).size == m + 1) = true) (ht : tailChk L.toArray (m + 1) = true) (hd : downChk L.toArray (m + 1) = true) (hlate : lateChk (L.toArray.extract 0 (m + 1)) m d = true) (hlen : specs.length = m)
    (hds : (List.range m).map (dstOf L.toArray) = ds) (hst : L[m]? = some st) (hod : L[d]? = some od) (hsg : (st.guard.isNone && od.guard.isNone && decide (d ∉ calls)) = true) (h0 : StreamOk w S k)
    (hstep : LateOps P L.toArray (tailQ P L.toArray Q (m + 1)) a0 S k W w.drew specs calls 0 (L.take m) specs)
    (hA : ∀ w', Keeps S w.drew w' → StreamOk w' S (k + W * calls.length) → ForVals S w' (fun a => wpList P L.toArray Q (st :: L.drop (m + 1)) a w') ds specs a0)
    (hB : lateAll (L.toArray.extract 0 (m + 1)) m = false → ∀ w', Keeps S w.drew w' → StreamOk w' S (k + W * calls.length) → ForVals S w' (fun a => wpList P L.toArray Q (st :: od :: L.drop (m + 1)) a w') (ds.eraseIdx d) (specs.eraseIdx d) a0) : (Code.region id L.toArray true).wp P Q a0 w := by
  subst hlen
  simp only [Bool.and_eq_true, Option.isNone_iff_eq_none, decide_eq_true_eq] at hsg
  obtain ⟨⟨hsg, hog⟩, hdc⟩ := hsg
  have hsz : (L.toArray.extract 0 (specs.length + 1)).size = specs.length + 1 := by simpa using hc2
  have hmL : specs.length + 1 ≤ L.length := by simp at hsz; omega
  have hdm : d < specs.length := by
    simp only [lateChk, Bool.and_eq_true, decide_eq_true_eq] at hlate
    exact hlate.2
  have tailNone : ∀ o ∈ L.drop (specs.length + 1), o.guard = none := by
    intro o ho
    obtain ⟨j, hj⟩ := List.getElem?_of_mem ho
    rw [List.getElem?_drop] at hj
    have hlt := (List.getElem?_eq_some_iff.1 hj).1
    have h := List.all_eq_true.1 ht (specs.length + 1 + j) (List.mem_range.2 (by simpa using hlt))
    simp only [Bool.or_eq_true, decide_eq_true_eq, Bool.and_eq_true] at h
    have h2 := (h.resolve_left (by omega)).2
    rw [show L.toArray[specs.length + 1 + j]? = some o by simpa using hj] at h2
    simpa using h2
  have hdown : ∀ i, i < specs.length + 1 → ∃ o, (L.toArray.extract 0 (specs.length + 1))[i]? = some o ∧ ∀ e ∈ o.after, Region.binds .any e = true → e.on < i := by
    intro i hi
    have h := List.all_eq_true.1 hd i (List.mem_range.2 hi)
    rw [ext_get _ _ _ hi]
    cases ho : L.toArray[i]? with
    | none => rw [ho] at h; cases h
    | some o =>
      rw [ho] at h
      simp only [Option.map_some, Option.getD_some] at h
      refine ⟨o, rfl, fun e he hb => ?_⟩
      have h1 := Array.all_eq_true_iff_forall_mem.1 h e he
      simpa [hb] using h1
  have dEq : ∀ j, j < specs.length → dstOf (L.toArray.extract 0 (specs.length + 1)) j = dstOf L.toArray j := fun j hj => by unfold dstOf; rw [ext_get _ _ _ (by omega)]
  have pEq : ∀ (vals : Nat → Value) (f : Nat → Bool) (l : List Nat), (∀ j ∈ l, j < specs.length) → ∀ a, putSome (L.toArray.extract 0 (specs.length + 1)) vals f l a = putSome L.toArray vals f l a := by
    intro vals f l
    induction l with
    | nil => intro _ a; rfl
    | cons j l ih =>
      intro hl a
      have ih' := ih (fun i hi => hl i (List.mem_cons_of_mem _ hi))
      simp only [putSome, List.foldl_cons] at ih' ⊢
      rw [dEq j (hl j List.mem_cons_self)]
      exact ih' _
  have hc' : genChk (L.toArray.extract 0 (specs.length + 1)) a0.tmps.size specs.length calls = true := by
    simp only [genChk, Bool.and_eq_true, List.all_eq_true, List.mem_range, decide_eq_true_eq, Bool.or_eq_true, beq_iff_eq] at hc ⊢
    obtain ⟨⟨⟨⟨⟨hdst, hgd⟩, hmn⟩, h1n⟩, hnd⟩, hcm⟩ := hc
    refine ⟨⟨⟨⟨⟨fun i hi j hj => ?_, fun i hi => ?_⟩, by omega⟩, by omega⟩, hnd⟩, hcm⟩
    · rw [hsz] at hi hj
      have := hdst i (by simp; omega) j (by simp; omega)
      have ei : dstOf (L.toArray.extract 0 (specs.length + 1)) i = dstOf L.toArray i := by unfold dstOf; rw [ext_get _ _ _ hi]
      have ej : dstOf (L.toArray.extract 0 (specs.length + 1)) j = dstOf L.toArray j := by unfold dstOf; rw [ext_get _ _ _ hj]
      rw [ei, ej]; exact this
    · rw [ext_get _ _ _ (by omega)]; exact hgd i hi
  refine wp_region_any hm ?_
  refine tail_any (specs.length + 1) ht (L.length - (specs.length + 1)) (specs.length + 1) (by simp; omega) (Nat.le_refl _) a0 _ ?_
  have g := gen_late (P := P) (ops := L.toArray.extract 0 (specs.length + 1)) (Q := tailQ P L.toArray Q (specs.length + 1)) (m := specs.length) (d := d) (W := W) (a0 := a0) (S := S) (k := k) (w0 := w.drew) (specs := specs) (calls := calls) (st := st) (od := od) hsz hc' rfl (by rw [ext_get _ _ _ (by omega)]; simpa using hst) hsg (by rw [ext_get _ _ _ (by omega)]; simpa using hod) hlate hdc hdown ?_ ?_ ?_ (specs.length + 1) (Array.replicate (specs.length + 1) false) (fun _ => undef) w.drew (by simp) (by simp) ?_ (Keeps.refl _ _) ?_ ?_ ?_
  · have e0 : ∀ (l : List Nat), (∀ i ∈ l, i < specs.length) → ∀ a, putSome (L.toArray.extract 0 (specs.length + 1)) (fun _ => undef) (fun i => (Array.replicate (specs.length + 1) false).getD i true) l a = a := by
      intro l
      induction l with
      | nil => intro _ a; rfl
      | cons j l ih =>
        intro hl a
        have hj := hl j List.mem_cons_self
        have ih' := ih (fun i hi => hl i (List.mem_cons_of_mem _ hi))
        simp only [putSome, List.foldl_cons] at ih' ⊢
        rw [show (Array.replicate (specs.length + 1) false).getD j true = false by simp [show j < specs.length + 1 by omega]]
        exact ih' a
    rw [e0 _ (fun i hi => List.mem_range.1 hi) a0] at g
    exact g
  · intro i o s hi ho hs a w' c hk hst2 hcc hfr hdp K hK
    have hoL : L[i]? = some o := by rw [ext_get _ _ _ (by omega)] at ho; simpa using ho
    have st2 := lateOps_at 0 _ _ hstep i o s (by rw [List.getElem?_take_of_lt hi]; exact hoL) hs
    rw [Nat.zero_add] at st2
    refine st2 a w' c hk hst2 hcc (fun t ht => hfr t ?_) (fun j t s' hj ht hs' => hdp j t s' hj (by rw [dEq j (List.getElem?_eq_some_iff.1 hs').1]; exact ht) hs') K hK
    rw [Array.extract_extract] 
    simpa [Nat.min_eq_left (show specs.length ≤ specs.length + 1 by omega)] using ht
  · intro vals w' hk hst2 hs
    rw [pEq vals _ _ (fun j hj => List.mem_range.1 hj)]
    have h := hA w' hk hst2
    subst hds
    have h2 := forVals_all (S := S) (w := w') (vals := vals) (ops := L.toArray) (K := fun a => wpList P L.toArray Q (st :: L.drop (specs.length + 1)) a w') specs 0 a0 (by rw [← List.range_eq_range']; exact h) (fun j s hj => by rw [Nat.zero_add]; exact hs j s hj)
    rw [← List.range_eq_range'] at h2
    have h3 := toTail_of (st :: L.drop (specs.length + 1)) (fun o ho => by
      rcases List.mem_cons.1 ho with rfl | ho
      · exact hsg
      · exact tailNone o ho) _ _ h2
    exact h3.imp (fun h => tailQ_wp h) (fun h => h)
  · intro hla vals w' hk hst2 hs
    rw [pEq vals _ _ (fun j hj => List.mem_range.1 hj)]
    have h := hB hla w' hk hst2
    subst hds
    have h2 := forVals_skip (S := S) (w := w') (vals := vals) (ops := L.toArray) (d := d) (K := fun a => wpList P L.toArray Q (st :: od :: L.drop (specs.length + 1)) a w') specs 0 a0 (by rw [← List.range_eq_range']; exact h) (Nat.zero_le _) (by omega) (fun j s hne hj => by rw [Nat.zero_add] at hne ⊢; exact hs j s hne hj)
    rw [← List.range_eq_range'] at h2
    have h3 := toTail_of (st :: od :: L.drop (specs.length + 1)) (fun o ho => by
      rcases List.mem_cons.1 ho with rfl | ho
      · exact hsg
      · rcases List.mem_cons.1 ho with rfl | ho
        · exact hog
        · exact tailNone o ho) _ _ h2
    refine h3.imp (fun h => ?_) (fun h => h)
    have h4 := Oper.wp_mono (K' := fun a' w' => lastQ P od (tailQ P L.toArray Q (specs.length + 1)) .normal a' w') (fun a w h => h.imp (fun h => tailQ_wp h) (fun h => h)) h
    unfold Oper.wp at *
    generalize (execOp (putSome L.toArray vals (fun i => i != d) (List.range specs.length) a0).eval st).run P w' = r at *
    cases r with
    | ok n w' =>
      cases n <;> simp only [Oper.upon] at h4 ⊢ <;>
        first
          | exact h4
          | exact Calls.mono h4 (fun e w'' he => by cases e <;> exact he)
          | exact Rows.mono h4 (fun _ _ he => he)
    | halt x w' => cases x <;> simp only [Oper.upon] at h4 ⊢ <;> exact h4
  · intro i o _ hl
    exfalso
    by_cases h' : i < specs.length + 1
    · simp [h'] at hl
    · simp [h'] at hl
  · have : calls.countP (fun i => (Array.replicate (specs.length + 1) false).getD i true) = 0 := List.countP_eq_zero.2 (fun i hi => by
      have h5 := hc
      simp only [genChk, Bool.and_eq_true, List.all_eq_true, decide_eq_true_eq] at h5
      have := h5.2 i hi
      simp [show i < specs.length + 1 by omega])
    rw [this, Nat.mul_zero]
    exact h0
  · intro i s h hs
    have hlt := (List.getElem?_eq_some_iff.1 hs).1
    simp [show i < specs.length + 1 by omega] at h
  · exact Nat.le_trans List.countP_le_length (by simp)
theorem region_late {L : List Oper} {id : Nat} {a0 : Act} {w : World} (S k W m d : Nat) (specs : List Spec) (calls : List Nat) (ds : List (Option Tmp)) {st od : Oper} (hm : P.follows .mixedOrders = true) (hc : genChk L.toArray a0.tmps.size m calls = true) (hc2 : ((L.toArray.extract 0 (m + 1)).size == m + 1) = true) (ht : tailChk L.toArray (m + 1) = true) (hd : downChk L.toArray (m + 1) = true) (hlate : lateChk (L.toArray.extract 0 (m + 1)) m d = true) (hlen : specs.length = m)
    (hds : (List.range m).map (dstOf L.toArray) = ds) (hst : L[m]? = some st) (hod : L[d]? = some od) (hsg : (st.guard.isNone && od.guard.isNone && decide (d ∉ calls)) = true) (h0 : StreamOk w S k)
    (hstep : LateOps P L.toArray (tailQ P L.toArray Q (m + 1)) a0 S k W w.drew specs calls 0 (L.take m) specs)
    (hA : ∀ w', Keeps S w.drew w' → StreamOk w' S (k + W * calls.length) → ForVals S w' (fun a => wpList P L.toArray Q (st :: L.drop (m + 1)) a w') ds specs a0)
    (hB : ∀ w', Keeps S w.drew w' → StreamOk w' S (k + W * calls.length) → ForVals S w' (fun a => wpList P L.toArray Q (st :: od :: L.drop (m + 1)) a w') (ds.eraseIdx d) (specs.eraseIdx d) a0) : (Code.region id L.toArray true).wp P Q a0 w :=
  region_lateC S k W m d specs calls ds hm hc hc2 ht hd hlate hlen hds hst hod hsg h0 hstep hA (fun _ => hB)
/-- The same where operation m waits, through others, for all ahead of it (d: any one that is no call): one end goal. -/
theorem region_all {L : List Oper} {id : Nat} {a0 : Act} {w : World} (S k W m d : Nat) (specs : List Spec) (calls : List Nat) (ds : List (Option Tmp)) {st od : Oper} (hm : P.follows .mixedOrders = true) (hc : genChk L.toArray a0.tmps.size m calls = true) (hc2 : ((L.toArray.extract 0 (m + 1)).size == m + 1) = true) (ht : tailChk L.toArray (m + 1) = true) (hd : downChk L.toArray (m + 1) = true) (hlate : (lateAll (L.toArray.extract 0 (m + 1)) m && lateChk (L.toArray.extract 0 (m + 1)) m d) = true) (hlen : specs.length = m)
    (hds : (List.range m).map (dstOf L.toArray) = ds) (hst : L[m]? = some st) (hod : L[d]? = some od) (hsg : (st.guard.isNone && od.guard.isNone && decide (d ∉ calls)) = true) (h0 : StreamOk w S k)
    (hstep : LateOps P L.toArray (tailQ P L.toArray Q (m + 1)) a0 S k W w.drew specs calls 0 (L.take m) specs)
    (hA : ∀ w', Keeps S w.drew w' → StreamOk w' S (k + W * calls.length) → ForVals S w' (fun a => wpList P L.toArray Q (st :: L.drop (m + 1)) a w') ds specs a0) : (Code.region id L.toArray true).wp P Q a0 w := by
  rw [Bool.and_eq_true] at hlate
  exact region_lateC S k W m d specs calls ds hm hc hc2 ht hd hlate.2 hlen hds hst hod hsg h0 hstep hA (fun h => by rw [hlate.1] at h; cases h)
theorem heap_alloc_new (w : World) (o : Obj) : (w.alloc o).heap[w.heap.size]? = some o := by
  show (w.heap.push o)[w.heap.size]? = some o
  simp
/-- A new block behind a pointer. -/
theorem gen_box {o : Oper} {a : Act} {w : World} {K : Act → World → Prop} {S k : Nat} {p : World → Value → Prop} (cs : Array Value) (ty : TypeId) (h : (execOp a.eval o).run P w = .ok (.value (.pointer (some ⟨w.heap.size, 0, none⟩))) (w.alloc (.cells cs ty))) (hp : ∀ w', Keeps S (w.alloc (.cells cs ty)) w' → p w' (.pointer (some ⟨w.heap.size, 0, none⟩))) (hst : StreamOk w S k)
    (hK : ∀ v w', (Spec.mem p).holds S w' v → Keeps S w w' → StreamOk w' S k → K (a.put o.dst v) w') : Oper.wp P o a w K Q := by
  unfold Oper.wp; rw [h]
  exact hK _ _ hp ((Keeps.refl S w).alloc _) (hst.below (ext_alloc (Below.refl _ _)))
/-- What was there before, asked on a list (quick to reckon). -/
theorem fr_list {ops : Array Oper} {n : Nat} {R : Tmp → Prop} (h : ∀ t, ((ops.extract 0 n).all fun o => o.dst != some t) = true → R t) (t : Tmp) (hl : ((ops.toList.take n).all fun o => o.dst != some t) = true) : R t := by
  refine h t ?_
  rw [← Array.all_toList, Array.toList_extract, List.extract_eq_take_drop]
  simpa using hl
end
end Go.Proofs.YtppinnjdaoaddaaGreatDoor
