/- What is proved here: the walk of the statement PatternsOrdered: it answers true. Condition: the slice that came in lies in memory, and a table of the library as its initialiser lays it. -/
import Derived.Test.YtkfflafhlgephaaDoorPatShared
import Derived.Test.YtkfflafhlgephaaDoorReady
import Derived.Deep.DeepCutAuto
set_option linter.unusedVariables false
set_option linter.unusedSimpArgs false
namespace Go.Proofs.YtkfflafhlgephaaDoor
open Go.RowKit

theorem lex_range (f g : Nat → Nat) : ∀ n i, -1 ≤ lexI f g n i ∧ lexI f g n i ≤ 1
  | 0, i => by simp [lexI]
  | n + 1, i => by
    unfold lexI
    split
    · omega
    · split
      · omega
      · exact lex_range f g n (i + 1)
theorem sign_mono : ∀ i, i < 12 → ∀ j, j < 12 → i ≤ j → (signN i).toNat ≤ (signN j).toNat := by decide
theorem less_pointwise : ∀ (x d : List Nat), x.length = d.length → (∀ j, j < x.length → x.getD j 0 ≤ d.getD j 0) → (∀ j, j < d.length → d.getD j 0 < 12) → Op.bytesLess (d.map signN) (x.map signN) = false
  | [], [], _, _, _ => rfl
  | a :: x, [], h, _, _ => by simp at h
  | [], b :: d, h, _, _ => by simp at h
  | a :: x, b :: d, h, hle, hlt => by
    have h0 : a ≤ b := hle 0 (by simp)
    have h1 : b < 12 := hlt 0 (by simp)
    have hs := sign_mono a (by omega) b h1 h0
    simp only [List.map_cons, less_cons]
    have hn : decide (signN b < signN a) = false := decide_eq_false (by rw [UInt8.lt_iff_toNat_lt]; omega)
    rw [hn, Bool.false_or, less_pointwise x d (by simpa using h) (fun j hj => by have := hle (j + 1) (by simpa using hj); simpa using this) (fun j hj => by have := hlt (j + 1) (by simpa using hj); simpa using this)]
    simp

theorem gt_false {xs ds : List UInt8} (h : Op.bytesLess ds xs = false) : (!Op.bytesLess xs ds && !xs == ds) = false := by
  by_cases he : xs = ds
  · simp [he]
  · rw [less_total ds xs h (fun e => he e.symm)]; rfl
/-- What is known of two patterns and of what is dialled. -/
theorem share_facts {p q : Pat} {d : List Nat} (hd : ∀ j, j < d.length → d.getD j 0 < 12) (h1 : 1 ≤ d.length) (h2 : d.length ≤ 30) (ha : matchB p d = true) (hb : matchB q d = true) : ∃ x, shareL [p, q] = some x ∧ x.length ≤ d.length ∧ (x.length = d.length → Op.bytesLess (d.map signN) (x.map signN) = false) := by
  obtain ⟨x, hx, hl, hle⟩ := share_both (l := [p, q]) (d := d) (fun r hr => by simp at hr; rcases hr with rfl | rfl <;> assumption) hd h1 h2
  exact ⟨x, hx, hl, fun he => less_pointwise x d he hle hd⟩

set_option maxRecDepth 100000 in
set_option maxHeartbeats 8000000 in
theorem patterns_true (w : World) (a : Option Addr) (len cap : Nat) (zs : List Int) (hr : ArgRow w a len cap zs) (ht : TabAt w) :
    Calls Tryd.prog 4 #[.slice a len cap] w fun e w' => e = .returned (.bool true) ∧ Below w.heap.size w w' := by
  have hst := stream_start hr
  have HT0 := Lib.hid ht
  have HS0 := Lib.hid hst
  clear hr ht hst
  go_enter Tryd.func4, Tryd.ntmps4
  go_wp2_with fail
  refine (rightPattern_any w.heap.size 0 _ HS0.out (by omega)).mono ?_
  rintro e w1 ⟨x, hx, rfl, hst1, hk1⟩
  have HX := Lib.hid hx
  have HST1 := Lib.hid hst1
  have HK1 := Lib.hid hk1
  clear hx hst1 hk1
  go_wp2_with fail
  refine (rightPattern_any w.heap.size 6 _ HST1.out (by omega)).mono ?_
  rintro e w2 ⟨y, hy, rfl, hst2, hk2⟩
  have HY := Lib.hid hy
  have HST2 := Lib.hid hst2
  have HK2 := Lib.hid (HK1.out.trans hk2)
  clear hy hst2 hk2
  go_wp2_with fail
  refine (rightPattern_any w.heap.size 12 _ HST2.out (by omega)).mono ?_
  rintro e w3 ⟨z, hz, rfl, hst3, hk3⟩
  have HZ := Lib.hid hz
  have HST3 := Lib.hid hst3
  have HK3 := Lib.hid (HK2.out.trans hk3)
  clear hz hst3 hk3
  go_wp2_with fail
  refine (rightDialled_any w.heap.size 18 _ HST3.out (by omega)).mono ?_
  rintro e w4 ⟨d, hd, hd1, hd6, rfl, hst4, hk4⟩
  have HD := Lib.hid hd
  have HK4 := Lib.hid (HK3.out.trans hk4)
  have HTB : Hid (TabAt w4) := (HT0.out.below (ext_alloc (Below.refl _ _))).keeps HK4.out (by have := HT0.out.1; omega)
  clear hd hst4 hk4 HK1 HK2 HK3 HST1 HST2 HST3
  -- the strings
  generalize hps : x.str = ps
  generalize hqs : y.str = qs
  generalize hrs : z.str = rs
  generalize hds : d.map signN = ds
  have HPS : Hid ((⟨ps.toArray⟩ : ByteArray).data.toList = x.str) := hps.symm
  have HQS : Hid ((⟨qs.toArray⟩ : ByteArray).data.toList = y.str) := hqs.symm
  have HRS : Hid ((⟨rs.toArray⟩ : ByteArray).data.toList = z.str) := hrs.symm
  have HDS : Hid ((⟨ds.toArray⟩ : ByteArray).data.toList = d.map signN) := hds.symm
  have hdl : ds.length = d.length := by rw [← hds, List.length_map]
  have HDL := Lib.hid hdl
  have HEQ : Hid (befI x y = 0 ↔ ps = qs) := by show _ ↔ _; rw [← hps, ← hqs]; exact bef_zero HX.out HY.out
  have dl : ds.length ≤ 6 := by omega
  clear hps hqs hrs hds hdl
  go_wp2_with fail
  refine (Before_any _ x y HX.out HY.out _ _ HPS.out HQS.out).mono ?_
  rintro e w5 ⟨rfl, hb5⟩
  have HB5 := Lib.hid hb5
  clear hb5
  go_wp2_with fail
  refine (Before_any _ y x HY.out HX.out _ _ HQS.out HPS.out).mono ?_
  rintro e w6 ⟨rfl, hb6⟩
  have HB6 := Lib.hid (ext_trans HB5.out hb6)
  clear hb6
  go_wp2_with fail
  refine (Before_any _ y z HY.out HZ.out _ _ HQS.out HRS.out).mono ?_
  rintro e w7 ⟨rfl, hb7⟩
  have HB7 := Lib.hid (ext_trans HB6.out hb7)
  clear hb7
  go_wp2_with fail
  refine (Before_any _ x z HX.out HZ.out _ _ HPS.out HRS.out).mono ?_
  rintro e w8 ⟨rfl, hb8⟩
  have HB8 := Lib.hid (ext_trans HB7.out hb8)
  clear hb8 HB5 HB6 HB7
  have hneg := bef_neg HX.out HY.out
  have htr := bef_trans HX.out HY.out HZ.out
  have hra := lex_range x.rk y.rk (max x.els.length y.els.length + 1) 0
  have hrb := lex_range y.rk x.rk (max y.els.length x.els.length + 1) 0
  have hrc := lex_range y.rk z.rk (max y.els.length z.els.length + 1) 0
  have hrd := lex_range x.rk z.rk (max x.els.length z.els.length + 1) 0
  change -1 ≤ befI x y ∧ befI x y ≤ 1 at hra
  change -1 ≤ befI y x ∧ befI y x ≤ 1 at hrb
  change -1 ≤ befI y z ∧ befI y z ≤ 1 at hrc
  change -1 ≤ befI x z ∧ befI x z ≤ 1 at hrd
  generalize befI x y = A at HEQ hneg htr hra ⊢
  generalize befI y x = B at hneg hrb ⊢
  generalize befI y z = C at htr hrc ⊢
  generalize befI x z = D at htr hrd ⊢
  obtain ⟨a0, a1⟩ := hra
  obtain ⟨b0, b1⟩ := hrb
  obtain ⟨c0, c1⟩ := hrc
  obtain ⟨d0, d1⟩ := hrd
  have HNE : Hid (A = -B) := hneg
  have HTR := Lib.hid htr
  have q1 : (A != -B) = false := by rw [hneg]; simp
  have q2 : (A == 0) = (ps == qs) := by
    rw [Bool.eq_iff_iff]; simp; exact HEQ.out
  clear hneg htr
  go_upto_region 7 with (fail)
  go_cut [88] (fun s88 wx => s88 = .bool false ∧ Hid (Below w8.heap.size w8 wx))
  case first =>
    by_cases hA : A < 0
    · by_cases hC : C < 0
      · have hD := HTR.out hA hC
        have hD2 : decide (0 ≤ D) = false := decide_eq_false (by omega)
        obtain ⟨eqb, hqe⟩ : ∃ eqb, (ps == qs) = eqb := ⟨_, rfl⟩
        rw [hqe] at q2
        go_wp2_with (go_at_call 12; refine (errs_zero _ _ 4 4 (by omega) (fun i hi => by match i, hi with | 0, _ => go_simp | 1, _ => go_simp | 2, _ => go_simp | 3, _ => go_simp)).mono ?_; rintro e w' ⟨rfl, rfl⟩)
        go_meet
        exact ⟨rfl, (by (try show Below _ _ _); repeat (with_reducible first | exact Below.refl _ _ | assumption | exact Hid.out (by assumption) | refine ext_alloc ?_ | refine ext_drewN ?_ | refine ext_drew ?_ | refine ext_setCell ?_ (Nat.le_refl _) | refine ext_setCell ?_ (Nat.le_succ _) | refine ext_trans ?_ (by assumption) | (refine ext_setCell ?_ (by simp)) | (refine ext_setCell ?_ (by simp at *; omega))))⟩
      · have hC2 : decide (C < 0) = false := decide_eq_false hC
        obtain ⟨eqb, hqe⟩ : ∃ eqb, (ps == qs) = eqb := ⟨_, rfl⟩
        rw [hqe] at q2
        go_wp2_with (go_at_call 12; refine (errs_zero _ _ 4 4 (by omega) (fun i hi => by match i, hi with | 0, _ => go_simp | 1, _ => go_simp | 2, _ => go_simp | 3, _ => go_simp)).mono ?_; rintro e w' ⟨rfl, rfl⟩)
        go_meet
        exact ⟨rfl, (by (try show Below _ _ _); repeat (with_reducible first | exact Below.refl _ _ | assumption | exact Hid.out (by assumption) | refine ext_alloc ?_ | refine ext_drewN ?_ | refine ext_drew ?_ | refine ext_setCell ?_ (Nat.le_refl _) | refine ext_setCell ?_ (Nat.le_succ _) | refine ext_trans ?_ (by assumption) | (refine ext_setCell ?_ (by simp)) | (refine ext_setCell ?_ (by simp at *; omega))))⟩
    · have hA2 : decide (A < 0) = false := decide_eq_false hA
      obtain ⟨eqb, hqe⟩ : ∃ eqb, (ps == qs) = eqb := ⟨_, rfl⟩
      rw [hqe] at q2
      go_wp2_with (go_at_call 12; refine (errs_zero _ _ 4 4 (by omega) (fun i hi => by match i, hi with | 0, _ => go_simp | 1, _ => go_simp | 2, _ => go_simp | 3, _ => go_simp)).mono ?_; rintro e w' ⟨rfl, rfl⟩)
      go_meet
      exact ⟨rfl, (by (try show Below _ _ _); repeat (with_reducible first | exact Below.refl _ _ | assumption | exact Hid.out (by assumption) | refine ext_alloc ?_ | refine ext_drewN ?_ | refine ext_drew ?_ | refine ext_setCell ?_ (Nat.le_refl _) | refine ext_setCell ?_ (Nat.le_succ _) | refine ext_trans ?_ (by assumption) | (refine ext_setCell ?_ (by simp)) | (refine ext_setCell ?_ (by simp at *; omega))))⟩
  case rest =>
    obtain ⟨rfl, HB⟩ := hcut
    obtain ⟨w9, rfl⟩ : ∃ w9 : World, w9 = wc := ⟨_, rfl⟩
    have HB9 := Lib.hid (ext_trans HB8.out HB.out)
    clear HB HB8 q1 q2
    go_wp2_with fail
    refine (Shared_any _ x y HX.out HY.out _ _ HPS.out HQS.out (HTB.out.below HB9.out)).mono ?_
    rintro e wa ⟨rfl, hba⟩
    have HBA := Lib.hid (ext_trans HB9.out hba)
    clear hba
    have HSF : Hid (matchB x.pat d = true → matchB y.pat d = true → ∃ xx, shareL [x.pat, y.pat] = some xx ∧ xx.length ≤ d.length ∧ (xx.length = d.length → Op.bytesLess (d.map signN) (xx.map signN) = false)) := share_facts HD.out hd1 (by omega)
    have HEA : Hid (∀ xx, shareL [x.pat, y.pat] = some xx → matchB x.pat xx = true ∧ matchB y.pat xx = true ∧ (∀ j, j < xx.length → xx.getD j 0 < 12) ∧ 1 ≤ xx.length ∧ xx.length ≤ 30) := fun xx hxx => by
      obtain ⟨k1, k2, k3, k4⟩ := share_each hxx
      exact ⟨k1 _ (by simp), k1 _ (by simp), k2, k3, k4⟩
    have HSF2 : Hid (matchB x.pat d = true → matchB y.pat d = true → (shareL [x.pat, y.pat]).isSome = true ∧ (((shareL [x.pat, y.pat]).getD []).map signN).length ≤ ds.length ∧ ((((shareL [x.pat, y.pat]).getD []).map signN).length = ds.length → Op.bytesLess ds (((shareL [x.pat, y.pat]).getD []).map signN) = false)) := fun h1 h2 => by
      obtain ⟨xx, hO, hxl, hxe⟩ := HSF.out h1 h2
      have h7 : ds = d.map signN := HDS.out
      rw [hO]
      refine ⟨rfl, ?_, fun h9 => ?_⟩
      · rw [Option.getD_some, List.length_map, HDL.out]; exact hxl
      · rw [Option.getD_some, List.length_map, HDL.out] at h9
        rw [h7]; exact hxe h9
    have HEA2 : Hid ((shareL [x.pat, y.pat]).isSome = true → ∃ xx, (⟨(((shareL [x.pat, y.pat]).getD []).map signN).toArray⟩ : ByteArray).data.toList = xx.map signN ∧ matchB x.pat xx = true ∧ matchB y.pat xx = true ∧ (∀ j, j < xx.length → xx.getD j 0 < 12) ∧ 1 ≤ xx.length ∧ xx.length ≤ 30) := fun h1 => by
      obtain ⟨xx, hO⟩ := Option.isSome_iff_exists.1 h1
      obtain ⟨k1, k2, k3, k4, k5⟩ := HEA.out xx hO
      exact ⟨xx, by rw [hO]; rfl, k1, k2, k3, k4, k5⟩
    clear HSF HEA
    generalize ((shareL [x.pat, y.pat]).getD []).map signN = xs at HSF2 HEA2 ⊢
    generalize (shareL [x.pat, y.pat]).isSome = ok at HSF2 HEA2 ⊢
    go_wp2_with fail
    refine (matches_any _ x HX.out _ HPS.out _ d HDS.out HD.out hd1 (by omega)).mono ?_
    rintro e wb ⟨rfl, hbb⟩
    have HBB := Lib.hid (ext_trans HBA.out hbb)
    clear hbb
    go_wp2_with fail
    refine (matches_any _ y HY.out _ HQS.out _ d HDS.out HD.out hd1 (by omega)).mono ?_
    rintro e wd ⟨rfl, hbd⟩
    have HBD := Lib.hid (ext_trans HBB.out hbd)
    clear hbd HBA HBB HB9
    generalize matchB x.pat d = ma at HSF2 ⊢
    generalize matchB y.pat d = mb at HSF2 ⊢
    go_upto_region 12 with (fail)
    go_cut [142] (fun s142 wx => s142 = .bool false ∧ Hid (Below wd.heap.size wd wx))
    case first =>
      cases ma
      · go_wp2_with (go_at_call 12; refine (errs_zero _ _ 3 3 (by omega) (fun i hi => by match i, hi with | 0, _ => go_simp | 1, _ => go_simp | 2, _ => go_simp)).mono ?_; rintro e w' ⟨rfl, rfl⟩)
        go_meet
        exact ⟨rfl, (by (try show Below _ _ _); repeat (with_reducible first | exact Below.refl _ _ | assumption | exact Hid.out (by assumption) | refine ext_alloc ?_ | refine ext_drewN ?_ | refine ext_drew ?_ | refine ext_setCell ?_ (Nat.le_refl _) | refine ext_setCell ?_ (Nat.le_succ _) | refine ext_trans ?_ (by assumption) | (refine ext_setCell ?_ (by simp)) | (refine ext_setCell ?_ (by simp at *; omega))))⟩
      · cases mb
        · go_wp2_with (go_at_call 12; refine (errs_zero _ _ 3 3 (by omega) (fun i hi => by match i, hi with | 0, _ => go_simp | 1, _ => go_simp | 2, _ => go_simp)).mono ?_; rintro e w' ⟨rfl, rfl⟩)
          go_meet
          exact ⟨rfl, (by (try show Below _ _ _); repeat (with_reducible first | exact Below.refl _ _ | assumption | exact Hid.out (by assumption) | refine ext_alloc ?_ | refine ext_drewN ?_ | refine ext_drew ?_ | refine ext_setCell ?_ (Nat.le_refl _) | refine ext_setCell ?_ (Nat.le_succ _) | refine ext_trans ?_ (by assumption) | (refine ext_setCell ?_ (by simp)) | (refine ext_setCell ?_ (by simp at *; omega))))⟩
        · obtain ⟨hok, hxs, hxq⟩ := HSF2.out rfl rfl
          subst hok
          have HXQ := Lib.hid hxq
          clear hxq
          have h1 : decide (ds.length < xs.length) = false := decide_eq_false (by omega)
          by_cases hle : xs.length = ds.length
          · have hbl := HXQ.out hle
            have h2 : ((xs.length : Int) == ds.length) = true := by simp; omega
            by_cases hxd : xs = ds
            · have h3 : (xs == ds) = true := by simpa using hxd
              clear hle hxs hbl hxd
              go_wp2_with (go_at_call 12; refine (errs_zero _ _ 3 3 (by omega) (fun i hi => by match i, hi with | 0, _ => go_simp | 1, _ => go_simp | 2, _ => go_simp)).mono ?_; rintro e w' ⟨rfl, rfl⟩)
              go_meet
              exact ⟨rfl, (by (try show Below _ _ _); repeat (with_reducible first | exact Below.refl _ _ | assumption | exact Hid.out (by assumption) | refine ext_alloc ?_ | refine ext_drewN ?_ | refine ext_drew ?_ | refine ext_setCell ?_ (Nat.le_refl _) | refine ext_setCell ?_ (Nat.le_succ _) | refine ext_trans ?_ (by assumption) | (refine ext_setCell ?_ (by simp)) | (refine ext_setCell ?_ (by simp at *; omega))))⟩
            · have h3 : Op.bytesLess xs ds = true := less_total ds xs hbl (fun e => hxd e.symm)
              clear hle hxs hbl hxd
              go_wp2_with (go_at_call 12; refine (errs_zero _ _ 3 3 (by omega) (fun i hi => by match i, hi with | 0, _ => go_simp | 1, _ => go_simp | 2, _ => go_simp)).mono ?_; rintro e w' ⟨rfl, rfl⟩)
              go_meet
              exact ⟨rfl, (by (try show Below _ _ _); repeat (with_reducible first | exact Below.refl _ _ | assumption | exact Hid.out (by assumption) | refine ext_alloc ?_ | refine ext_drewN ?_ | refine ext_drew ?_ | refine ext_setCell ?_ (Nat.le_refl _) | refine ext_setCell ?_ (Nat.le_succ _) | refine ext_trans ?_ (by assumption) | (refine ext_setCell ?_ (by simp)) | (refine ext_setCell ?_ (by simp at *; omega))))⟩
          · have h2 : ((xs.length : Int) == ds.length) = false := by simp; omega
            clear hle hxs
            go_wp2_with (go_at_call 12; refine (errs_zero _ _ 3 3 (by omega) (fun i hi => by match i, hi with | 0, _ => go_simp | 1, _ => go_simp | 2, _ => go_simp)).mono ?_; rintro e w' ⟨rfl, rfl⟩)
            go_meet
            exact ⟨rfl, (by (try show Below _ _ _); repeat (with_reducible first | exact Below.refl _ _ | assumption | exact Hid.out (by assumption) | refine ext_alloc ?_ | refine ext_drewN ?_ | refine ext_drew ?_ | refine ext_setCell ?_ (Nat.le_refl _) | refine ext_setCell ?_ (Nat.le_succ _) | refine ext_trans ?_ (by assumption) | (refine ext_setCell ?_ (by simp)) | (refine ext_setCell ?_ (by simp at *; omega))))⟩
    case rest =>
      obtain ⟨rfl, HB⟩ := hcut
      obtain ⟨we, rfl⟩ : ∃ we : World, we = wc := ⟨_, rfl⟩
      have HBE := Lib.hid (ext_trans HBD.out HB.out)
      clear HB HBD HSF2
      cases ok
      · have HBZ := HBE
        go_wp2_with fail
        refine (Least_any _ x HX.out _ HPS.out (HTB.out.below HBZ.out)).mono ?_
        rintro e wl ⟨rfl, hbl⟩
        have HBL := Lib.hid (ext_trans HBZ.out hbl)
        obtain ⟨lx, hlx⟩ := share_one (Els.ok HX.out)
        obtain ⟨l1, l2, l3, l4⟩ := share_each hlx
        have hm := l1 _ (List.mem_singleton.2 rfl)
        have HLX := Lib.hid hlx
        have HL2 := Lib.hid l2
        have HM := Lib.hid hm
        rw [hlx]
        clear hbl hlx l1 l2 hm
        simp only [Option.getD_some]
        generalize hls : lx.map signN = ls
        have HLS : Hid ((⟨ls.toArray⟩ : ByteArray).data.toList = lx.map signN) := hls.symm
        clear hls
        go_wp2_with fail
        refine (matches_any _ x HX.out _ HPS.out _ lx HLS.out HL2.out l3 l4).mono ?_
        rintro e wm ⟨rfl, hbm⟩
        rw [HM.out]
        have HBM := Lib.hid (ext_trans HBL.out hbm)
        clear hbm
        have HK9 := Lib.hid (HK4.out.ext HBM.out)
        have HT9 := Lib.hid ((HT0.out.below (ext_alloc (Below.refl _ _))).keeps HK9.out (by have := HT0.out.1; omega))
        go_wp2_with fail
        refine (ready_true _ HT9.out).mono ?_
        rintro e w9 ⟨rfl, hB9⟩
        go_wp2_with fail
        go_ret
        exact ⟨rfl, law_end (HK9.out.ext hB9)⟩
      · obtain ⟨xx, hxx, m1, m2, x12, xl1, xl2⟩ := HEA2.out rfl
        have HXX := Lib.hid hxx
        have HM1 := Lib.hid m1
        have HM2 := Lib.hid m2
        have H12 := Lib.hid x12
        clear hxx m1 m2 x12 HEA2
        go_wp2_with fail
        refine (matches_any _ x HX.out _ HPS.out _ xx HXX.out H12.out xl1 xl2).mono ?_
        rintro e wf ⟨rfl, hbf⟩
        rw [HM1.out]
        have HBF := Lib.hid (ext_trans HBE.out hbf)
        clear hbf
        go_wp2_with fail
        refine (matches_any _ y HY.out _ HQS.out _ xx HXX.out H12.out xl1 xl2).mono ?_
        rintro e wg ⟨rfl, hbg⟩
        rw [HM2.out]
        have HBG := Lib.hid (ext_trans HBF.out hbg)
        clear hbg
        go_wp2_with (go_at_call 12; refine (errs_zero _ _ 2 2 (by omega) (fun i hi => by match i, hi with | 0, _ => go_simp | 1, _ => go_simp)).mono ?_; rintro e w' ⟨rfl, rfl⟩)
        have HBZ : Hid (Below w4.heap.size w4 (wg.alloc (.cells #[.int .i64 0, .int .i64 0] 35))) := ext_alloc HBG.out
        go_wp2_with fail
        refine (Least_any _ x HX.out _ HPS.out (HTB.out.below HBZ.out)).mono ?_
        rintro e wl ⟨rfl, hbl⟩
        have HBL := Lib.hid (ext_trans HBZ.out hbl)
        obtain ⟨lx, hlx⟩ := share_one (Els.ok HX.out)
        obtain ⟨l1, l2, l3, l4⟩ := share_each hlx
        have hm := l1 _ (List.mem_singleton.2 rfl)
        have HLX := Lib.hid hlx
        have HL2 := Lib.hid l2
        have HM := Lib.hid hm
        rw [hlx]
        clear hbl hlx l1 l2 hm
        simp only [Option.getD_some]
        generalize hls : lx.map signN = ls
        have HLS : Hid ((⟨ls.toArray⟩ : ByteArray).data.toList = lx.map signN) := hls.symm
        clear hls
        go_wp2_with fail
        refine (matches_any _ x HX.out _ HPS.out _ lx HLS.out HL2.out l3 l4).mono ?_
        rintro e wm ⟨rfl, hbm⟩
        rw [HM.out]
        have HBM := Lib.hid (ext_trans HBL.out hbm)
        clear hbm
        have HK9 := Lib.hid (HK4.out.ext HBM.out)
        have HT9 := Lib.hid ((HT0.out.below (ext_alloc (Below.refl _ _))).keeps HK9.out (by have := HT0.out.1; omega))
        go_wp2_with fail
        refine (ready_true _ HT9.out).mono ?_
        rintro e w9 ⟨rfl, hB9⟩
        go_wp2_with fail
        go_ret
        exact ⟨rfl, law_end (HK9.out.ext hB9)⟩
end Go.Proofs.YtkfflafhlgephaaDoor
