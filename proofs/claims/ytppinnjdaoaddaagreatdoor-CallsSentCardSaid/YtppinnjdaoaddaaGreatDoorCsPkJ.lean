/- What is proved here: lemmas and contracts for the statement, put together out of smaller texts (CarrCst, CarrCsf, CarrRfr, CarrRfw, CarrPf). No condition beyond those stated. -/
import Derived.Test.YtppinnjdaoaddaaGreatDoorCsPkI
import Derived.Test.YtppinnjdaoaddaaGreatDoorCsPkH
import Derived.Test.YtppinnjdaoaddaaGreatDoorShelfNum
import Derived.Deep.DeepCutAuto
set_option linter.unusedVariables false
set_option linter.unusedSimpArgs false
namespace Go.Proofs.YtppinnjdaoaddaaGreatDoor
open Go.RowKit Go.Sort Go.Lib

/-- The error of Cost; what it answers. -/
def costE (l : List Carr) (r : Rcd) : Int := if carrsErr l ≠ 0 then carrsErr l else if isNumB r.to_ = false then 3 else if isMomB r.at_ = false ∨ inB r.talk 0 86400000 = false then 1 else if r.carrier ≠ [] ∧ idxC l r.carrier < 0 then 8 else 0
def costR (l : List Carr) (r : Rcd) : Int × Bool := if r.carrier = [] then (0, false) else costV (l.getD (idxC l r.carrier).toNat noCarr).decks (r.to_.drop 1) r.at_ r.talk
def CostPost (E : Int) (R : Int × Bool) (w : World) (e : Ending) (w' : World) : Prop := e = .returned (.tuple #[.int .i64 (if E = 0 then R.1 else 0), .bool (if E = 0 then R.2 else false), .int .i64 E]) ∧ Below w.heap.size w w'
set_option maxRecDepth 100000 in
set_option maxHeartbeats 8000000 in
theorem costX_any (w : World) (a : Option Addr) (n cap : Nat) (l : List Carr) (hl : CarrRow w a n l) (hcap : n ≤ cap) (r : Rcd) (h1 : r.to_.length ≤ 100) (h2 : r.carrier.length ≤ 100) : Calls Tryz.prog 38 #[.slice a n cap, .agg (Rcd.cells r).toArray] w (CostPost (costE l r) (costR l r) w) := by
  have HR := Lib.hid hl
  have HLEN := Lib.hid hl.len
  have HE : Hid (costE l r = if carrsErr l ≠ 0 then carrsErr l else if isNumB r.to_ = false then 3 else if isMomB r.at_ = false ∨ inB r.talk 0 86400000 = false then 1 else if r.carrier ≠ [] ∧ idxC l r.carrier < 0 then 8 else 0) := rfl
  have HC : Hid (costR l r = if r.carrier = [] then (0, false) else costV (l.getD (idxC l r.carrier).toNat noCarr).decks (r.to_.drop 1) r.at_ r.talk) := rfl
  have HBAD : Hid (∀ E W, costE l r = E → E ≠ 0 → Below w.heap.size w W → CostPost (costE l r) (costR l r) w (.returned (.tuple #[.int .i64 0, .bool false, .int .i64 E])) W) := fun E W q1 q2 q3 => by
    unfold CostPost; rw [q1, if_neg q2, if_neg q2]; exact ⟨rfl, q3⟩
  have HOK : Hid (∀ p b W, costE l r = 0 → costR l r = (p, b) → Below w.heap.size w W → CostPost (costE l r) (costR l r) w (.returned (.tuple #[.int .i64 p, .bool b, .int .i64 0])) W) := fun p b W q1 q2 q3 => by
    unfold CostPost; rw [q1, if_pos rfl, if_pos rfl, q2]; exact ⟨rfl, q3⟩
  have HCC := Lib.hid (fun W (h : Below w.heap.size w W) => checkCarr_any W a n cap l (hl.below h) hcap)
  have HFD := Lib.hid (fun W (h : Below w.heap.size w W) => find_any W a n cap l (hl.below h) r.carrier)
  have HID : Hid (0 ≤ idxC l r.carrier → (idxC l r.carrier).toNat < l.length) := fun h => idxC_lt h
  have HGD : Hid (carrsErr l = 0 → GoodAt l r.at_) := fun h => good_row hl h
  have HIN := Lib.hid (fun W => isNumber_l r.to_ W (by omega))
  have HNL : Hid (isNumB r.to_ = true → 1 ≤ r.to_.length) := fun h => by obtain ⟨d, q, -⟩ := num_parts h; rw [q]; simp
  generalize hPP : CostPost (costE l r) (costR l r) w = PP at HBAD HOK ⊢
  clear hPP hl
  generalize costE l r = X at HE HBAD HOK
  generalize costR l r = R at HC HOK
  obtain ⟨ri, rf, rt, at_, rg, tk, hw, rcr⟩ := r
  simp only at h1 h2 HE HC HFD HID HGD HIN HNL
  show Calls Tryz.prog 38 #[.slice a n cap, .agg #[.string ⟨ri.toArray⟩, .string ⟨rf.toArray⟩, .string ⟨rt.toArray⟩, .int .i64 at_, .int .i64 rg, .int .i64 tk, .int .i64 hw, .string ⟨rcr.toArray⟩]] w _
  generalize carrsErr l = F at HCC HE HGD
  generalize isNumB rt = g1 at HE HIN HNL
  generalize idxC l rcr = K at HE HC HFD HID
  go_enter Tryz.func38, Tryz.ntmps38
  go_upto_region 1 with (fail)
  have HX : Hid (Blk (w.alloc (.cells #[.string ⟨ri.toArray⟩, .string ⟨rf.toArray⟩, .string ⟨rt.toArray⟩, .int .i64 at_, .int .i64 rg, .int .i64 tk, .int .i64 hw, .string ⟨rcr.toArray⟩] 83)) w.heap.size [.string ⟨ri.toArray⟩, .string ⟨rf.toArray⟩, .string ⟨rt.toArray⟩, .int .i64 at_, .int .i64 rg, .int .i64 tk, .int .i64 hw, .string ⟨rcr.toArray⟩] 83) := Blk.new w [.string ⟨ri.toArray⟩, .string ⟨rf.toArray⟩, .string ⟨rt.toArray⟩, .int .i64 at_, .int .i64 rg, .int .i64 tk, .int .i64 hw, .string ⟨rcr.toArray⟩] 83
  have HB : Hid (Below w.heap.size w (w.alloc (.cells #[.string ⟨ri.toArray⟩, .string ⟨rf.toArray⟩, .string ⟨rt.toArray⟩, .int .i64 at_, .int .i64 rg, .int .i64 tk, .int .i64 hw, .string ⟨rcr.toArray⟩] 83))) := ext_alloc (Below.refl _ _)
  generalize (w.alloc (.cells #[.string ⟨ri.toArray⟩, .string ⟨rf.toArray⟩, .string ⟨rt.toArray⟩, .int .i64 at_, .int .i64 rg, .int .i64 tk, .int .i64 hw, .string ⟨rcr.toArray⟩] 83)) = w0 at HX HB ⊢
  as_aux_lemma =>
    go_wp2_with fail
    refine (HCC.out _ HB.out).mono ?_
    rintro e w1 ⟨rfl, hb⟩
    have HB1 := Lib.hid (ext_trans HB.out hb)
    have HX1 := Lib.hid (HX.out.below hb)
    clear hb HCC HB HX
    by_cases hF : F = 0
    case neg =>
      have hX : X = F := by rw [HE.out, if_pos hF]
      subst hX
      have HFX := Lib.hid (HBAD.out _ w1 rfl hF HB1.out)
      have hFb : (X == 0) = false := by simpa using hF
      clear HE HOK HBAD hF HGD HC HFD HID HX1
      as_aux_lemma =>
        go_wp2_with fail
        first | exact HFX.out | (go_ret3; exact HFX.out)
    subst hF
    have HE1 : Hid (X = if g1 = false then 3 else if isMomB at_ = false ∨ inB tk 0 86400000 = false then 1 else if rcr ≠ [] ∧ K < 0 then 8 else 0) := by show X = _; rw [HE.out, if_neg (by simp)]
    have HGA : Hid (GoodAt l at_) := HGD.out (by trivial)
    have c7 := HX1.out.cell 7 rfl
    clear HE HGD
    as_aux_lemma =>
      go_wp2_with fail
      refine (HFD.out _ HB1.out).mono ?_
      rintro e w2 ⟨rfl, hb⟩
      have HB2 := Lib.hid (ext_trans HB1.out hb)
      have HX2 := Lib.hid (HX1.out.below hb)
      clear hb HB1 HX1 HFD c7
      have c2 := HX2.out.cell 2 rfl
      as_aux_lemma =>
        go_wp2_with fail
        refine (HIN.out _).mono ?_
        rintro e w3 ⟨rfl, hb⟩
        have HB3 := Lib.hid (ext_trans HB2.out hb)
        have HX3 := Lib.hid (HX2.out.below hb)
        clear hb HB2 HX2 HIN c2
        cases g1
        · obtain rfl : X = 3 := by rw [HE1.out, if_pos rfl]
          have HFX := Lib.hid (HBAD.out _ w3 rfl (by decide) HB3.out)
          clear HE1 HOK HBAD HC HID HX3 HGA
          skip
          as_aux_lemma =>
            go_wp2_with fail
            first | exact HFX.out | (go_ret3; exact HFX.out)
        have HE2 : Hid (X = if isMomB at_ = false ∨ inB tk 0 86400000 = false then 1 else if rcr ≠ [] ∧ K < 0 then 8 else 0) := by show X = _; rw [HE1.out, if_neg (by decide)]
        have hn1 : 1 ≤ rt.length := HNL.out (by trivial)
        have c3 := HX3.out.cell 3 rfl
        have c5 := HX3.out.cell 5 rfl
        clear HE1 HNL
        as_aux_lemma =>
          go_wp2_with fail
          refine (isMoment_any at_ _).mono ?_
          rintro e w9 ⟨rfl, rfl⟩
          generalize isMomB at_ = g2 at HE2 ⊢
          cases g2
          · obtain rfl : X = 1 := by rw [HE2.out, if_pos (Or.inl rfl)]
            have HFX := Lib.hid (HBAD.out _ w3 rfl (by decide) HB3.out)
            clear HE2 HOK HBAD HC HID HX3 HGA
            skip
            as_aux_lemma =>
              go_wp2_with fail
              first | exact HFX.out | (go_ret3; exact HFX.out)
          skip
          as_aux_lemma =>
            go_wp2_with fail
            refine (within_c tk 0 86400000 _).mono ?_
            rintro e w9 ⟨rfl, rfl⟩
            have HTK : Hid (inB tk 0 86400000 = true → 0 ≤ tk ∧ tk ≤ 86400000) := fun h => by unfold inB at h; simpa using h
            generalize inB tk 0 86400000 = g3 at HE2 HTK ⊢
            cases g3
            · obtain rfl : X = 1 := by rw [HE2.out, if_pos (Or.inr rfl)]
              have HFX := Lib.hid (HBAD.out _ w3 rfl (by decide) HB3.out)
              clear HE2 HOK HBAD HC HID HX3 HGA
              skip
              as_aux_lemma =>
                go_wp2_with fail
                first | exact HFX.out | (go_ret3; exact HFX.out)
            have HE3 : Hid (X = if rcr ≠ [] ∧ K < 0 then 8 else 0) := by show X = _; rw [HE2.out, if_neg (by simp)]
            obtain ⟨t0, t1⟩ := HTK.out (by trivial)
            have c7 := HX3.out.cell 7 rfl
            clear HE2 HTK
            cases rcr with
            | nil =>
              obtain rfl : X = 0 := by rw [HE3.out, if_neg (by simp)]
              have HFX := Lib.hid (HOK.out 0 false w3 (by trivial) (by rw [HC.out, if_pos rfl]) HB3.out)
              clear HE3 HOK HBAD HC HID HX3 HGA
              skip
              as_aux_lemma =>
                go_wp2_with fail
                first | exact HFX.out | (go_ret3; exact HFX.out)
            | cons z zs =>
              by_cases hK : K < 0
              · obtain rfl : X = 8 := by rw [HE3.out, if_pos ⟨by simp, hK⟩]
                have HFX := Lib.hid (HBAD.out _ w3 rfl (by decide) HB3.out)
                clear HE3 HOK HBAD HC HID HX3 HGA
                skip
                as_aux_lemma =>
                  go_wp2_with fail
                  first | exact HFX.out | (go_ret3; exact HFX.out)
              obtain rfl : X = 0 := by rw [HE3.out, if_neg (fun h => hK h.2)]
              obtain ⟨kk, rfl⟩ := Int.eq_ofNat_of_zero_le (show 0 ≤ K by omega)
              have hkn : kk < n := by have q1 := HID.out (by omega); have q2 := HLEN.out; omega
              have hkb : ¬ ((kk : Int) < 0) := by omega
              have hkni : (kk : Int) < (n : Int) := by omega
              have HRC : Hid (R = costV (l.getD kk noCarr).decks (rt.drop 1) at_ tk) := by show R = _; rw [HC.out, if_neg (by simp)]; rfl
              have HR3 := Lib.hid (HR.out.below HB3.out)
              have HGK : Hid (∀ d, deckV (l.getD kk noCarr).decks at_ = some d → DeckGood d.setup d.least d.step d.rates) := HGA.out kk (by rw [← HLEN.out]; exact hkn)
              have HCF : Hid (CarrFine w3 (l.getD kk noCarr)) := HR3.out.each kk (by rw [← HLEN.out]; exact hkn)
              obtain ⟨b, off, rfl, hbl, hc⟩ := HR3.out.at (by omega)
              obtain ⟨d0, d1, d2⟩ := hc kk hkn
              have c2 := HX3.out.cell 2 rfl
              have hnd : (rt.drop 1).length ≤ 1000 := by rw [List.length_drop]; omega
              clear hc HR3 HR HE3 HC HID hK HBAD HGA HLEN
              generalize l.getD kk noCarr = cx at d0 d1 d2 HCF HRC HGK
              obtain ⟨ky, ln, da, dn, dc, dk⟩ := cx
              simp only at d0 d1 d2 HRC HGK
              have HCB : Hid (∀ W, Below w3.heap.size w3 W → Calls Tryz.prog 84 #[.agg #[.string ⟨ky.toArray⟩, .int .i64 ln, .slice da dn dc], .string ((⟨rt.toArray⟩ : ByteArray).extract 1 rt.length), .int .i64 at_, .int .i64 tk] W (PriceOfPost (costV dk (rt.drop 1) at_ tk) W)) := fun W hW => by
                rw [extract_drop rt 1]
                exact costBy_any W ky ln da dn dc dk (HCF.out.below hW).row HCF.out.cap (rt.drop 1) hnd at_ tk HGK.out ⟨t0, t1⟩
              rw [← HRC.out] at HCB
              obtain ⟨p, bb⟩ := R
              have HOK2 := Lib.hid (fun W h => HOK.out p bb W (by trivial) rfl h)
              clear HCF HGK HRC HOK
              as_aux_lemma =>
                have hnI : ¬ ((rt.length : Int) < 1) := by omega
                go_upto_region 13 with (fail)
                have hS : (fun W9 : World => W9.cell? ⟨b, off + kk * 3, none⟩ = some (.string ⟨ky.toArray⟩) ∧ W9.cell? ⟨b, off + kk * 3 + 1, none⟩ = some (.int .i64 ln) ∧ W9.cell? ⟨b, off + kk * 3 + 2, none⟩ = some (.slice da dn dc) ∧ W9.cell? ⟨w.heap.size, 2, none⟩ = some (.string ⟨rt.toArray⟩) ∧ W9.cell? ⟨w.heap.size, 3, none⟩ = some (.int .i64 at_) ∧ W9.cell? ⟨w.heap.size, 5, none⟩ = some (.int .i64 tk)) w3.drew := ⟨d0, d1, d2, c2, c3, c5⟩
                refine region_seqI (S := fun W9 : World => W9.cell? ⟨b, off + kk * 3, none⟩ = some (.string ⟨ky.toArray⟩) ∧ W9.cell? ⟨b, off + kk * 3 + 1, none⟩ = some (.int .i64 ln) ∧ W9.cell? ⟨b, off + kk * 3 + 2, none⟩ = some (.slice da dn dc) ∧ W9.cell? ⟨w.heap.size, 2, none⟩ = some (.string ⟨rt.toArray⟩) ∧ W9.cell? ⟨w.heap.size, 3, none⟩ = some (.int .i64 at_) ∧ W9.cell? ⟨w.heap.size, 5, none⟩ = some (.int .i64 tk)) [(true, 0), (true, 1), (true, 2), (true, 3), (true, 4), (true, 5), (true, 6), (true, 7), (true, 8), (true, 9), (true, 10), (false, 11), (true, 12), (true, 13), (true, 14), (true, 15), (true, 16)] (by kernel_rfl) (by kernel_rfl) rfl (by kernel_rfl) hS ?_
                simp only [seqOps, List.getD_cons_zero, List.getD_cons_succ]
                refine seqI_take (v := .slice (some ⟨b, off, none⟩) n cap) rfl (fun W hW => by clear hW; go_simp) (fun _ _ _ h => h) ?_
                simp only [Act.put, List.setIfInBounds_toArray, List.set_cons_zero, List.set_cons_succ]
                refine seqI_take (v := .int .i64 kk) rfl (fun W hW => by clear hW; go_simp) (fun _ _ _ h => h) ?_
                simp only [Act.put, List.setIfInBounds_toArray, List.set_cons_zero, List.set_cons_succ]
                refine seqI_take (v := .pointer (some ⟨b, off + kk * 3, none⟩)) rfl (fun W hW => by clear hW; go_simp) (fun _ _ _ h => h) ?_
                simp only [Act.put, List.setIfInBounds_toArray, List.set_cons_zero, List.set_cons_succ]
                refine seqI_take (v := .agg #[.string ⟨ky.toArray⟩, .int .i64 ln, .slice da dn dc]) rfl (fun W hW => by obtain ⟨m0, m1, m2, m3, m4, m5⟩ := hW; go_simp) (fun _ _ _ h => h) ?_
                simp only [Act.put, List.setIfInBounds_toArray, List.set_cons_zero, List.set_cons_succ]
                refine seqI_take (v := .pointer (some ⟨w.heap.size, 2, none⟩)) rfl (fun W hW => by clear hW; go_simp) (fun _ _ _ h => h) ?_
                simp only [Act.put, List.setIfInBounds_toArray, List.set_cons_zero, List.set_cons_succ]
                refine seqI_take (v := .string ⟨rt.toArray⟩) rfl (fun W hW => by obtain ⟨m0, m1, m2, m3, m4, m5⟩ := hW; go_simp) (fun _ _ _ h => h) ?_
                simp only [Act.put, List.setIfInBounds_toArray, List.set_cons_zero, List.set_cons_succ]
                refine seqI_take (v := .string ((⟨rt.toArray⟩ : ByteArray).extract 1 rt.length)) rfl (fun W hW => by clear hW; go_simp) (fun _ _ _ h => h) ?_
                simp only [Act.put, List.setIfInBounds_toArray, List.set_cons_zero, List.set_cons_succ]
                refine seqI_take (v := .pointer (some ⟨w.heap.size, 3, none⟩)) rfl (fun W hW => by clear hW; go_simp) (fun _ _ _ h => h) ?_
                simp only [Act.put, List.setIfInBounds_toArray, List.set_cons_zero, List.set_cons_succ]
                refine seqI_take (v := .int .i64 at_) rfl (fun W hW => by obtain ⟨m0, m1, m2, m3, m4, m5⟩ := hW; go_simp) (fun _ _ _ h => h) ?_
                simp only [Act.put, List.setIfInBounds_toArray, List.set_cons_zero, List.set_cons_succ]
                refine seqI_take (v := .pointer (some ⟨w.heap.size, 5, none⟩)) rfl (fun W hW => by clear hW; go_simp) (fun _ _ _ h => h) ?_
                simp only [Act.put, List.setIfInBounds_toArray, List.set_cons_zero, List.set_cons_succ]
                refine seqI_take (v := .int .i64 tk) rfl (fun W hW => by obtain ⟨m0, m1, m2, m3, m4, m5⟩ := hW; go_simp) (fun _ _ _ h => h) ?_
                simp only [Act.put, List.setIfInBounds_toArray, List.set_cons_zero, List.set_cons_succ]
                refine seqI_call 84 #[.agg #[.string ⟨ky.toArray⟩, .int .i64 ln, .slice da dn dc], .string ((⟨rt.toArray⟩ : ByteArray).extract 1 rt.length), .int .i64 at_, .int .i64 tk] rfl (by go_simp) (HCB.out _ (ext_drew (Below.refl _ _))) ?_
                rintro e w5 ⟨rfl, hb5⟩
                have HFX := Lib.hid (HOK2.out _ (ext_trans (ext_drew HB3.out) hb5))
                have hb3 : b < w3.drew.heap.size := hbl
                have hG3 : w.heap.size < w3.drew.heap.size := HX3.out.lt
                have hS5 : (fun W9 : World => W9.cell? ⟨b, off + kk * 3, none⟩ = some (.string ⟨ky.toArray⟩) ∧ W9.cell? ⟨b, off + kk * 3 + 1, none⟩ = some (.int .i64 ln) ∧ W9.cell? ⟨b, off + kk * 3 + 2, none⟩ = some (.slice da dn dc) ∧ W9.cell? ⟨w.heap.size, 2, none⟩ = some (.string ⟨rt.toArray⟩) ∧ W9.cell? ⟨w.heap.size, 3, none⟩ = some (.int .i64 at_) ∧ W9.cell? ⟨w.heap.size, 5, none⟩ = some (.int .i64 tk)) w5 := ⟨(hb5.cell (p := ⟨b, off + kk * 3, none⟩) hb3).trans d0, (hb5.cell (p := ⟨b, off + kk * 3 + 1, none⟩) hb3).trans d1, (hb5.cell (p := ⟨b, off + kk * 3 + 2, none⟩) hb3).trans d2, (hb5.cell (p := ⟨w.heap.size, 2, none⟩) hG3).trans c2, (hb5.cell (p := ⟨w.heap.size, 3, none⟩) hG3).trans c3, (hb5.cell (p := ⟨w.heap.size, 5, none⟩) hG3).trans c5⟩
                refine ⟨_, rfl, hS5, ?_⟩
                simp only [Act.put, List.setIfInBounds_toArray, List.set_cons_zero, List.set_cons_succ]
                refine seqI_take (v := .tuple #[.int .i64 p, .bool bb]) rfl (fun W hW => by clear hW; go_simp) (fun _ _ _ h => h) ?_
                simp only [Act.put, List.setIfInBounds_toArray, List.set_cons_zero, List.set_cons_succ]
                refine seqI_take (v := .int .i64 p) rfl (fun W hW => by clear hW; go_simp) (fun _ _ _ h => h) ?_
                simp only [Act.put, List.setIfInBounds_toArray, List.set_cons_zero, List.set_cons_succ]
                refine seqI_take (v := .bool bb) rfl (fun W hW => by clear hW; go_simp) (fun _ _ _ h => h) ?_
                simp only [Act.put, List.setIfInBounds_toArray, List.set_cons_zero, List.set_cons_succ]
                refine seqI_take (v := .int .i64 p) rfl (fun W hW => by clear hW; go_simp) (fun _ _ _ h => h) ?_
                simp only [Act.put, List.setIfInBounds_toArray, List.set_cons_zero, List.set_cons_succ]
                refine seqI_take (v := .bool bb) rfl (fun W hW => by clear hW; go_simp) (fun _ _ _ h => h) ?_
                simp only [Act.put, List.setIfInBounds_toArray, List.set_cons_zero, List.set_cons_succ]
                refine seqI_nil ?_
                go_wp2_with fail
                first | exact HFX.out | (go_ret3; exact HFX.out)
end Go.Proofs.YtppinnjdaoaddaaGreatDoor

set_option linter.unusedVariables false
set_option linter.unusedSimpArgs false
namespace Go.Proofs.YtppinnjdaoaddaaGreatDoor
open Go.RowKit Go.Sort Go.Lib

/-- The reference's error of Cost. -/
def costF (l : List Carr) (r : Rcd) : Int := if isNumB r.to_ = false then 3 else if isMomB r.at_ = false ∨ inB r.talk 0 86400000 = false then 1 else if r.carrier ≠ [] ∧ idxC l r.carrier < 0 then 8 else 0
theorem cost_join (l : List Carr) (r : Rcd) : firstE (carrsErr l) (if (carrsErr l == 0) = true then costF l r else 0) = costE l r := by
  unfold firstE costE
  by_cases h : carrsErr l = 0
  · rw [h]; simp [costF]
  · rw [if_pos h, if_pos h]
set_option maxRecDepth 100000 in
set_option maxHeartbeats 8000000 in
theorem costFault_any (w : World) (a : Option Addr) (n cap : Nat) (l : List Carr) (hl : CarrRow w a n l) (hcap : n ≤ cap) (r : Rcd) (h1 : r.to_.length ≤ 100) (h2 : r.carrier.length ≤ 100) : Calls Tryz.prog 39 #[.slice a n cap, .agg (Rcd.cells r).toArray] w (ErrPost (costF l r) w) := by
  have HE : Hid (costF l r = if isNumB r.to_ = false then 3 else if isMomB r.at_ = false ∨ inB r.talk 0 86400000 = false then 1 else if r.carrier ≠ [] ∧ idxC l r.carrier < 0 then 8 else 0) := rfl
  have HFD := Lib.hid (fun W (h : Below w.heap.size w W) => carrAt_any W a n cap l (hl.below h) r.carrier)
  have HIN := Lib.hid (fun W => form_l r.to_ W (by omega))
  clear hl
  generalize costF l r = X at HE ⊢
  obtain ⟨ri, rf, rt, at_, rg, tk, hw, rcr⟩ := r
  simp only at h1 h2 HE HFD HIN
  show Calls Tryz.prog 39 #[.slice a n cap, .agg #[.string ⟨ri.toArray⟩, .string ⟨rf.toArray⟩, .string ⟨rt.toArray⟩, .int .i64 at_, .int .i64 rg, .int .i64 tk, .int .i64 hw, .string ⟨rcr.toArray⟩]] w _
  generalize isNumB rt = g1 at HE HIN
  generalize idxC l rcr = K at HE HFD
  go_enter Tryz.func39, Tryz.ntmps39
  go_upto_region 1 with (fail)
  have HX : Hid (Blk (w.alloc (.cells #[.string ⟨ri.toArray⟩, .string ⟨rf.toArray⟩, .string ⟨rt.toArray⟩, .int .i64 at_, .int .i64 rg, .int .i64 tk, .int .i64 hw, .string ⟨rcr.toArray⟩] 83)) w.heap.size [.string ⟨ri.toArray⟩, .string ⟨rf.toArray⟩, .string ⟨rt.toArray⟩, .int .i64 at_, .int .i64 rg, .int .i64 tk, .int .i64 hw, .string ⟨rcr.toArray⟩] 83) := Blk.new w [.string ⟨ri.toArray⟩, .string ⟨rf.toArray⟩, .string ⟨rt.toArray⟩, .int .i64 at_, .int .i64 rg, .int .i64 tk, .int .i64 hw, .string ⟨rcr.toArray⟩] 83
  have HB : Hid (Below w.heap.size w (w.alloc (.cells #[.string ⟨ri.toArray⟩, .string ⟨rf.toArray⟩, .string ⟨rt.toArray⟩, .int .i64 at_, .int .i64 rg, .int .i64 tk, .int .i64 hw, .string ⟨rcr.toArray⟩] 83))) := ext_alloc (Below.refl _ _)
  generalize (w.alloc (.cells #[.string ⟨ri.toArray⟩, .string ⟨rf.toArray⟩, .string ⟨rt.toArray⟩, .int .i64 at_, .int .i64 rg, .int .i64 tk, .int .i64 hw, .string ⟨rcr.toArray⟩] 83)) = w0 at HX HB ⊢
  have c2 := HX.out.cell 2 rfl
  as_aux_lemma =>
    go_wp2_with fail
    refine (HIN.out _).mono ?_
    rintro e w3 ⟨rfl, hb⟩
    have HB3 := Lib.hid (ext_trans HB.out hb)
    have HX3 := Lib.hid (HX.out.below hb)
    clear hb HB HX HIN c2
    cases g1
    · obtain rfl : X = 3 := by rw [HE.out, if_pos rfl]
      clear HE HX3
      skip
      as_aux_lemma =>
        go_wp2_with fail
        go_ret
        exact ⟨rfl, HB3.out⟩
    have HE2 : Hid (X = if isMomB at_ = false ∨ inB tk 0 86400000 = false then 1 else if rcr ≠ [] ∧ K < 0 then 8 else 0) := by show X = _; rw [HE.out, if_neg (by decide)]
    have c3 := HX3.out.cell 3 rfl
    have c5 := HX3.out.cell 5 rfl
    clear HE
    as_aux_lemma =>
      go_wp2_with fail
      refine (momF_same at_ _).mono ?_
      rintro e w9 ⟨rfl, rfl⟩
      generalize isMomB at_ = g2 at HE2 ⊢
      cases g2
      · obtain rfl : X = 1 := by rw [HE2.out, if_pos (Or.inl rfl)]
        clear HE2 HX3
        skip
        as_aux_lemma =>
          go_wp2_with fail
          go_ret
          exact ⟨rfl, HB3.out⟩
      skip
      as_aux_lemma =>
        go_wp2_with fail
        refine (in_same tk 0 86400000 _).mono ?_
        rintro e w9 ⟨rfl, rfl⟩
        generalize inB tk 0 86400000 = g3 at HE2 ⊢
        cases g3
        · obtain rfl : X = 1 := by rw [HE2.out, if_pos (Or.inr rfl)]
          clear HE2 HX3
          skip
          as_aux_lemma =>
            go_wp2_with fail
            go_ret
            exact ⟨rfl, HB3.out⟩
        have HE3 : Hid (X = if rcr ≠ [] ∧ K < 0 then 8 else 0) := by show X = _; rw [HE2.out, if_neg (by simp)]
        have c7 := HX3.out.cell 7 rfl
        clear HE2
        cases rcr with
        | nil =>
          obtain rfl : X = 0 := by rw [HE3.out, if_neg (by simp)]
          clear HE3 HX3
          skip
          as_aux_lemma =>
            go_wp2_with fail
            go_ret
            exact ⟨rfl, HB3.out⟩
        | cons z zs =>
          skip
          as_aux_lemma =>
            go_wp2_with fail
            refine (HFD.out _ HB3.out).mono ?_
            rintro e w5 ⟨rfl, hb⟩
            have HB5 := Lib.hid (ext_trans HB3.out hb)
            clear hb HB3 HFD HX3
            by_cases hK : K < 0
            · obtain rfl : X = 8 := by rw [HE3.out, if_pos ⟨by simp, hK⟩]
              clear HE3
              as_aux_lemma =>
                go_wp2_with fail
                go_ret
                exact ⟨rfl, HB5.out⟩
            · obtain rfl : X = 0 := by rw [HE3.out, if_neg (fun h => hK h.2)]
              clear HE3
              as_aux_lemma =>
                go_wp2_with fail
                go_ret
                exact ⟨rfl, HB5.out⟩
end Go.Proofs.YtppinnjdaoaddaaGreatDoor

set_option linter.unusedVariables false
set_option linter.unusedSimpArgs false
namespace Go.Proofs.YtppinnjdaoaddaaGreatDoor
open Go.RowKit

theorem hasPre_c (s p : List UInt8) (w : World) : Calls Tryz.prog 95 #[.string ⟨s.toArray⟩, .string ⟨p.toArray⟩] w fun e w' => e = .returned (.bool (Lib.hasPrefix s p)) ∧ w = w' := (Tryz.strings_HasPrefix ⟨s.toArray⟩ ⟨p.toArray⟩ w).mono (fun e w' h => ⟨h.1, h.2.symm⟩)
/-- The rate with the longest prefix, among the first. -/
def refTo (cs : List Rate) (s : List UInt8) : Nat → Option Rate
  | 0 => none
  | k + 1 => if Lib.hasPrefix s (cs.getD k noRate).p = true ∧ ((refTo cs s k).isSome = false ∨ ((refTo cs s k).getD noRate).p.length < (cs.getD k noRate).p.length) then some (cs.getD k noRate) else refTo cs s k
/-- What both searches find. -/
def BestR (cs : List Rate) (s : List UInt8) (o : Option Rate) : Prop :=
  match o with
  | none => ∀ r ∈ cs, Lib.hasPrefix s r.p = false
  | some r => r ∈ cs ∧ Lib.hasPrefix s r.p = true ∧ ∀ q ∈ cs, Lib.hasPrefix s q.p = true → q.p.length ≤ r.p.length
theorem refTo_best (cs : List Rate) (s : List UInt8) : ∀ k, k ≤ cs.length → (match refTo cs s k with
    | none => ∀ i, i < k → Lib.hasPrefix s (cs.getD i noRate).p = false
    | some r => r ∈ cs ∧ Lib.hasPrefix s r.p = true ∧ ∀ i, i < k → Lib.hasPrefix s (cs.getD i noRate).p = true → (cs.getD i noRate).p.length ≤ r.p.length)
  | 0, _ => by intro i hi; omega
  | k + 1, hk => by
    have ih := refTo_best cs s k (by omega)
    unfold refTo
    cases h9 : refTo cs s k with
    | none =>
      rw [h9] at ih
      simp only at ih
      by_cases h1 : Lib.hasPrefix s (cs.getD k noRate).p = true
      · rw [if_pos ⟨h1, Or.inl rfl⟩]
        refine ⟨mem_getD _ (by omega), h1, fun i hi h2 => ?_⟩
        rcases Nat.lt_succ_iff_lt_or_eq.1 hi with h3 | rfl
        · rw [ih i h3] at h2; cases h2
        · exact Nat.le_refl _
      · rw [if_neg (fun h => h1 h.1)]
        intro i hi
        rcases Nat.lt_succ_iff_lt_or_eq.1 hi with h3 | rfl
        · exact ih i h3
        · simpa using h1
    | some r =>
      rw [h9] at ih
      simp only at ih
      obtain ⟨i1, i2, i3⟩ := ih
      by_cases h1 : Lib.hasPrefix s (cs.getD k noRate).p = true ∧ r.p.length < (cs.getD k noRate).p.length
      · rw [if_pos ⟨h1.1, Or.inr h1.2⟩]
        refine ⟨mem_getD _ (by omega), h1.1, fun i hi h2 => ?_⟩
        rcases Nat.lt_succ_iff_lt_or_eq.1 hi with h3 | rfl
        · have := i3 i h3 h2; omega
        · exact Nat.le_refl _
      · rw [if_neg (fun h => h1 ⟨h.1, h.2.resolve_left (by simp)⟩)]
        refine ⟨i1, i2, fun i hi h2 => ?_⟩
        rcases Nat.lt_succ_iff_lt_or_eq.1 hi with h3 | rfl
        · exact i3 i h3 h2
        · by_cases h4 : (cs.getD i noRate).p.length ≤ r.p.length
          · exact h4
          · exact absurd ⟨h2, by omega⟩ h1
theorem refTo_is (cs : List Rate) (s : List UInt8) : BestR cs s (refTo cs s cs.length) := by
  have h := refTo_best cs s cs.length (Nat.le_refl _)
  unfold BestR
  cases h9 : refTo cs s cs.length with
  | none =>
    rw [h9] at h
    intro r hr
    obtain ⟨j, hj, rfl⟩ := List.getElem_of_mem hr
    have := h j hj
    rwa [List.getD_eq_getElem?_getD, List.getElem?_eq_getElem hj] at this
  | some r =>
    rw [h9] at h
    obtain ⟨h1, h2, h3⟩ := h
    refine ⟨h1, h2, fun q hq h4 => ?_⟩
    obtain ⟨j, hj, rfl⟩ := List.getElem_of_mem hq
    have := h3 j hj
    rw [List.getD_eq_getElem?_getD, List.getElem?_eq_getElem hj] at this
    exact this h4
theorem pre_take {s p : List UInt8} (h : Lib.hasPrefix s p = true) : s.take p.length = p := by
  have h1 := Lib.hasPrefix_of_take s p
  rw [h] at h1
  simp only [Bool.and_eq_true, decide_eq_true_eq] at h1
  simpa using h1.2
theorem prefix_len {s p : List UInt8} (h : Lib.hasPrefix s p = true) : p.length ≤ s.length := by
  have h1 := Lib.hasPrefix_of_take s p
  rw [h] at h1
  simp only [Bool.and_eq_true, decide_eq_true_eq] at h1
  exact h1.1
theorem take_pre {s : List UInt8} (k : Nat) : Lib.hasPrefix s (s.take k) = true := by
  rw [← Lib.hasPrefix_of_take]
  simp [Nat.min_le_right]
theorem findR_none {cs : List Rate} {t : List UInt8} (h : findR cs t = none) : ∀ r ∈ cs, r.p ≠ t := fun r hr h9 => by
  unfold findR at h
  rw [List.find?_eq_none] at h
  exact h r hr (by simpa using h9)
theorem findR_some {cs : List Rate} {t : List UInt8} {r : Rate} (h : findR cs t = some r) : r.p = t := by
  unfold findR at h
  have := List.find?_some h
  simpa using this
theorem rateTo_best (cs : List Rate) (s : List UInt8) : ∀ k, k ≤ s.length → (match rateTo cs s k with
    | none => ∀ r ∈ cs, r.p.length ≤ k → Lib.hasPrefix s r.p = false
    | some r => r ∈ cs ∧ Lib.hasPrefix s r.p = true ∧ ∀ q ∈ cs, q.p.length ≤ k → Lib.hasPrefix s q.p = true → q.p.length ≤ r.p.length)
  | 0, _ => by
    unfold rateTo
    cases h9 : findR cs (s.take 0) with
    | none =>
      intro r hr h1
      cases h2 : Lib.hasPrefix s r.p with
      | false => rfl
      | true =>
        have h3 := pre_take h2
        exact absurd (by rw [show r.p.length = 0 by omega] at h3; exact h3.symm) (findR_none h9 r hr)
    | some r =>
      have h1 := findR_some h9
      refine ⟨findR_mem h9, by rw [h1]; exact take_pre 0, fun q hq h2 _ => by omega⟩
  | k + 1, hk => by
    have ih := rateTo_best cs s k (by omega)
    unfold rateTo
    cases h9 : findR cs (s.take (k + 1)) with
    | some r =>
      have h1 := findR_some h9
      refine ⟨findR_mem h9, by rw [h1]; exact take_pre _, fun q hq h2 _ => by rw [h1, List.length_take]; omega⟩
    | none =>
      have hno : ∀ q ∈ cs, q.p.length ≤ k + 1 → Lib.hasPrefix s q.p = true → q.p.length ≤ k := fun q hq h2 h3 => by
        rcases Nat.lt_or_ge k q.p.length with h4 | h4
        · have h5 := pre_take h3
          exact absurd (by rw [show q.p.length = k + 1 by omega] at h5; exact h5.symm) (findR_none h9 q hq)
        · exact h4
      show (match (none : Option Rate).or (rateTo cs s k) with | none => _ | some r => _)
      simp only [Option.none_or]
      cases h8 : rateTo cs s k with
      | none =>
        rw [h8] at ih
        intro r hr h1
        cases h2 : Lib.hasPrefix s r.p with
        | false => rfl
        | true => rw [ih r hr (hno r hr h1 h2)] at h2; cases h2
      | some r =>
        rw [h8] at ih
        obtain ⟨i1, i2, i3⟩ := ih
        exact ⟨i1, i2, fun q hq h1 h2 => i3 q hq (hno q hq h1 h2) h2⟩
theorem rateOf_is (cs : List Rate) (s : List UInt8) (hs : s.length ≤ 15) : BestR cs s (rateOf cs s 15) := by
  have h := rateTo_best cs s s.length (Nat.le_refl _)
  unfold rateOf
  rw [show min s.length 15 = s.length by omega]
  unfold BestR
  cases h9 : rateTo cs s s.length with
  | none =>
    rw [h9] at h
    intro r hr
    cases h2 : Lib.hasPrefix s r.p with
    | false => rfl
    | true => rw [h r hr (prefix_len h2)] at h2; cases h2
  | some r =>
    rw [h9] at h
    obtain ⟨h1, h2, h3⟩ := h
    exact ⟨h1, h2, fun q hq h4 => h3 q hq (prefix_len h4) h4⟩
theorem RSorted.inj {cs : List Rate} (h : RSorted cs) {a b : Rate} (ha : a ∈ cs) (hb : b ∈ cs) (hp : a.p = b.p) : a = b := by
  obtain ⟨i, hi, rfl⟩ := List.getElem_of_mem ha
  obtain ⟨j, hj, rfl⟩ := List.getElem_of_mem hb
  have e1 : cs.getD i noRate = cs[i] := by simp [List.getD_eq_getElem?_getD, List.getElem?_eq_getElem hi]
  have e2 : cs.getD j noRate = cs[j] := by simp [List.getD_eq_getElem?_getD, List.getElem?_eq_getElem hj]
  rcases Nat.lt_trichotomy i j with h1 | rfl | h1
  · have h2 := h.lt' h1 hj
    rw [e1, e2, hp, less_irrefl] at h2; cases h2
  · rfl
  · have h2 := h.lt' h1 hi
    rw [e1, e2, hp, less_irrefl] at h2; cases h2
theorem best_same {cs : List Rate} {s : List UInt8} (h : RSorted cs) {o q : Option Rate} (ho : BestR cs s o) (hq : BestR cs s q) : o = q := by
  cases o with
  | none =>
    cases q with
    | none => rfl
    | some r => obtain ⟨h1, h2, -⟩ := hq; rw [ho r h1] at h2; cases h2
  | some r =>
    cases q with
    | none => obtain ⟨h1, h2, -⟩ := ho; rw [hq r h1] at h2; cases h2
    | some r' =>
      obtain ⟨h1, h2, h3⟩ := ho
      obtain ⟨g1, g2, g3⟩ := hq
      have hl : r.p.length = r'.p.length := Nat.le_antisymm (g3 r h1 h2) (h3 r' g1 g2)
      have hp : r.p = r'.p := by rw [← pre_take h2, ← pre_take g2, hl]
      rw [h.inj h1 g1 hp]
theorem ref_same {cs : List Rate} {s : List UInt8} (h : RSorted cs) (hs : s.length ≤ 15) : refTo cs s cs.length = rateOf cs s 15 := best_same h (refTo_is cs s) (rateOf_is cs s hs)

/-- Division, rounded up. -/
def upD (a b : Int) : Int := (a + b - 1) / b
set_option maxHeartbeats 2000000 in
theorem upward_any (a b : Int) (ha : 0 ≤ a ∧ a ≤ 1000000000000000000) (hb : 1 ≤ b ∧ b ≤ 1000000000000) (w : World) : Calls Tryz.prog 106 #[.int .i64 a, .int .i64 b] w fun e w' => e = .returned (.int .i64 (upD a b)) ∧ w = w' := by
  have q1 : a.tdiv b = a / b := Int.tdiv_eq_ediv_of_nonneg ha.1
  have q2 : a.tmod b = a % b := Int.tmod_eq_emod_of_nonneg ha.1
  have m0 := Int.emod_nonneg a (show b ≠ 0 by omega)
  have m1 := Int.emod_lt_of_pos a (show 0 < b by omega)
  have d1 : b * (a / b) + a % b = a := Int.mul_ediv_add_emod a b
  have d0 : 0 ≤ a / b := Int.ediv_nonneg ha.1 (by omega)
  have d2 : a / b ≤ a := Int.ediv_le_self b ha.1
  have hU : Hid (upD a b = if 0 < a % b then a / b + 1 else a / b) := by
    show (a + b - 1) / b = _
    split
    · rename_i h
      rw [show a + b - 1 = (a % b - 1) + (a / b + 1) * b by have := Int.mul_comm b (a / b); rw [Int.add_mul]; omega, Int.add_mul_ediv_right _ _ (by omega), Int.ediv_eq_zero_of_lt (by omega) (by omega)]
      omega
    · rename_i h
      rw [show a + b - 1 = (b - 1) + (a / b) * b by have := Int.mul_comm b (a / b); omega, Int.add_mul_ediv_right _ _ (by omega), Int.ediv_eq_zero_of_lt (by omega) (by omega)]
      omega
  generalize upD a b = U at hU ⊢
  generalize a / b = q at q1 d0 d1 d2 hU
  generalize a % b = r at q2 m0 m1 d1 hU
  have w1 : IntKind.i64.wrap q = q := IntWalk.i64_in _ (by omega)
  have w2 : IntKind.i64.wrap r = r := IntWalk.i64_in _ (by omega)
  have w3 : IntKind.i64.wrap (q + 1) = q + 1 := IntWalk.i64_in _ (by omega)
  have hb0 : ¬ b = 0 := by omega
  clear d1 m0 m1 d0 d2
  by_cases h : 0 < r
  · have HU : Hid (U = q + 1) := by show U = _; rw [hU.out, if_pos h]
    clear hU
    go_enter Tryz.func106, Tryz.ntmps106
    go_wp2_with fail
    go_ret
    exact ⟨by rw [HU.out]; rfl, rfl⟩
  · have HU : Hid (U = q) := by show U = _; rw [hU.out, if_neg h]
    clear hU
    go_enter Tryz.func106, Tryz.ntmps106
    go_wp2_with fail
    go_ret
    exact ⟨by rw [HU.out]; rfl, rfl⟩
end Go.Proofs.YtppinnjdaoaddaaGreatDoor

set_option linter.unusedVariables false
set_option linter.unusedSimpArgs false
namespace Go.Proofs.YtppinnjdaoaddaaGreatDoor
open Go.RowKit

theorem rbox_far {w W : World} {G : Nat} (n : Nat) (hG : w.heap.size ≤ G) (h : Below w.heap.size w W) (u0 u1 u2 : Value) : Below w.heap.size w (((W.setCell ⟨G, 0, none⟩ u0).setCell ⟨G, 1, none⟩ u1).setCell ⟨G, 2, none⟩ u2) :=
  ((h.setCell (p := ⟨G, 0, none⟩) hG u0).setCell (p := ⟨G, 1, none⟩) hG u1).setCell (p := ⟨G, 2, none⟩) hG u2
theorem Blk.far3 {W : World} {B G : Nat} {cs : List Value} {ty : TypeId} (h : Blk W B cs ty) (hn : G ≠ B) (u0 u1 u2 : Value) : Blk (((W.setCell ⟨G, 0, none⟩ u0).setCell ⟨G, 1, none⟩ u1).setCell ⟨G, 2, none⟩ u2) B cs ty := ((h.far (p := ⟨G, 0, none⟩) hn).far (p := ⟨G, 1, none⟩) hn).far (p := ⟨G, 2, none⟩) hn
theorem Blk.put3 {W : World} {G : Nat} {a b c : Value} {ty : TypeId} (h : Blk W G [a, b, c] ty) (u0 u1 u2 : Value) : Blk (((W.setCell ⟨G, 0, none⟩ u0).setCell ⟨G, 1, none⟩ u1).setCell ⟨G, 2, none⟩ u2) G [u0, u1, u2] ty := ((h.put 0 u0).put 1 u1).put 2 u2
def rz : List Value := [.string ⟨#[]⟩, .int .i64 0, .bool false]
def rv (o : Option Rate) : List Value := [.string ⟨(o.getD noRate).p.toArray⟩, .int .i64 (o.getD noRate).price, .bool (o.getD noRate).closed]
set_option maxRecDepth 100000 in
set_option maxHeartbeats 8000000 in
theorem rateFor_any (w : World) (ra : Option Addr) (rn rc : Nat) (cs : List Rate) (s : List UInt8) (hr : RateRow w ra rn cs) (hs : s.length ≤ 1000) :
    Calls Tryz.prog 137 #[.slice ra rn rc, .string ⟨s.toArray⟩] w (RatePost (refTo cs s cs.length) w) := by
  have HR := Lib.hid hr
  have HLEN := Lib.hid hr.len
  have hfew := hr.few
  clear hr
  go_enter Tryz.func137, Tryz.ntmps137
  go_upto_region 2 with (fail)
  have HG0 : Hid (Blk ((w.alloc (.cells #[.string ⟨#[]⟩, .int .i64 0, .bool false] 120)).alloc (.cells #[.string ⟨#[]⟩, .int .i64 0, .bool false] 120)) w.heap.size rz 120) := (Blk.new w rz 120).alloc _
  have HY0 : Hid (Blk ((w.alloc (.cells #[.string ⟨#[]⟩, .int .i64 0, .bool false] 120)).alloc (.cells #[.string ⟨#[]⟩, .int .i64 0, .bool false] 120)) (w.heap.size + 1) (rv none) 120) := by
    have := Blk.new (w.alloc (.cells #[.string ⟨#[]⟩, .int .i64 0, .bool false] 120)) (rv none) 120
    show Blk _ _ _ _
    simpa [rv, noRate] using this
  have HB0 : Hid (Below w.heap.size w ((w.alloc (.cells #[.string ⟨#[]⟩, .int .i64 0, .bool false] 120)).alloc (.cells #[.string ⟨#[]⟩, .int .i64 0, .bool false] 120))) := ext_alloc (ext_alloc (Below.refl _ _))
  generalize World.alloc (World.alloc w _) _ = W0 at HG0 HY0 HB0 ⊢
  as_aux_lemma =>
    go_wp2_with fail
    go_loopw [7, 13] (fun v7 it wr => ∃ k : Nat, k ≤ rn ∧ it = .int .i64 k ∧ v7 = .bool (refTo cs s k).isSome ∧ Hid (Blk wr w.heap.size rz 120) ∧ Hid (Blk wr (w.heap.size + 1) (rv (refTo cs s k)) 120) ∧ Hid (Below w.heap.size w wr)) (fun _ it _ => rn - (intOf it).toNat)
    case atStart => exact ⟨0, Nat.zero_le _, rfl, rfl, HG0.out, HY0.out, HB0.out⟩
    case round =>
      clear HG0 HY0 HB0
      obtain ⟨k, hk, rfl, rfl, HG, HY, HB⟩ := hrel
      have y0 := HY.out.cell 0 rfl
      have y1 := HY.out.cell 1 rfl
      have y2 := HY.out.cell 2 rfl
      have yF := HY.out.fr
      by_cases hlt : k < rn
      case neg =>
        obtain rfl : k = rn := by omega
        have hge : ¬ (k : Int) < (k : Int) := by omega
        have g0 := HG.out.cell 0 rfl
        have g1 := HG.out.cell 1 rfl
        have g2 := HG.out.cell 2 rfl
        have gF := HG.out.fr
        have hle : k = cs.length := HLEN.out
        subst hle
        clear hlt
        as_aux_lemma =>
          go_wp2_with fail
          refine bodyPost_ret (v := .tuple #[.agg #[.string ⟨((refTo cs s cs.length).getD noRate).p.toArray⟩, .int .i64 ((refTo cs s cs.length).getD noRate).price, .bool ((refTo cs s cs.length).getD noRate).closed], .bool (refTo cs s cs.length).isSome]) (by simp [results, Tryz.results137, go_sem, g0, g1, g2]) rfl ⟨rbox_far 0 (Nat.le_refl _) HB.out _ _ _, rfl⟩
      have hlti : (k : Int) < (rn : Int) := by omega
      obtain ⟨b, off, rfl, hb, hc⟩ := (HR.out.below HB.out).at (by omega)
      obtain ⟨c0, c1, c2⟩ := hc k hlt
      have hw1 : w.heap.size + 1 < wr.heap.size := HY.out.lt
      have HE : Hid (refTo cs s (k + 1) = if Lib.hasPrefix s (cs.getD k noRate).p = true ∧ ((refTo cs s k).isSome = false ∨ ((refTo cs s k).getD noRate).p.length < (cs.getD k noRate).p.length) then some (cs.getD k noRate) else refTo cs s k) := rfl
      have hkl : (cs.getD k noRate).p.length ≤ 100 := (HR.out.each k (by rw [← HLEN.out]; exact hlt)).1
      clear hc
      generalize refTo cs s k = o at HE HY y0 y1 y2 ⊢
      generalize hcl : cs.getD k noRate = cl at c0 c1 c2 HE hkl
      obtain ⟨cp, cpr, ccl⟩ := cl
      simp only at c0 c1 c2 HE hkl
      clear hcl
      as_aux_lemma =>
        go_wp2_with fail
        refine (hasPre_c s cp _).mono ?_
        rintro e w' ⟨rfl, rfl⟩
        generalize Lib.hasPrefix s cp = g at HE ⊢
        have hA : Below wr.heap.size wr (wr.alloc (.cells #[.string ⟨cp.toArray⟩, .int .i64 cpr, .bool ccl] 120)) := ext_alloc (Below.refl _ _)
        have HGA := Lib.hid (HG.out.below hA)
        have HYA := Lib.hid (HY.out.below hA)
        have HBA := Lib.hid (ext_trans HB.out hA)
        have HXA : Hid (Blk (wr.alloc (.cells #[.string ⟨cp.toArray⟩, .int .i64 cpr, .bool ccl] 120)) wr.heap.size [.string ⟨cp.toArray⟩, .int .i64 cpr, .bool ccl] 120) := Blk.new wr [.string ⟨cp.toArray⟩, .int .i64 cpr, .bool ccl] 120
        generalize wr.alloc (.cells #[.string ⟨cp.toArray⟩, .int .i64 cpr, .bool ccl] 120) = wa at HGA HYA HBA HXA ⊢
        generalize wr.heap.size = X at HXA hw1 ⊢
        have x0 := HXA.out.cell 0 rfl
        have x1 := HXA.out.cell 1 rfl
        have x2 := HXA.out.cell 2 rfl
        have y0 := HYA.out.cell 0 rfl
        have y1 := HYA.out.cell 1 rfl
        have y2 := HYA.out.cell 2 rfl
        have yF := HYA.out.fr
        clear hA HG HY HB c0 c1 c2 HXA
        cases g with
        | false =>
          have HO2 : Hid (refTo cs s (k + 1) = o) := by show _ = _; rw [HE.out, if_neg (by simp)]
          clear HE
          as_aux_lemma =>
            go_wp2_with fail
            go_roundw
            case rel => exact ⟨k + 1, by omega, by go_num, by first | (rw [HO2.out]; done) | (rw [HO2.out]; rfl), HGA.out, by rw [HO2.out]; exact HYA.out, HBA.out⟩
            case measure => simp [intOf]; omega
        | true =>
          cases o with
          | none =>
            have HO2 : Hid (refTo cs s (k + 1) = some ⟨cp, cpr, ccl⟩) := by show _ = _; rw [HE.out, if_pos ⟨rfl, Or.inl rfl⟩]
            clear HE
            as_aux_lemma =>
              go_wp2_with fail
              go_roundw
              case rel => exact ⟨k + 1, by omega, by go_num, by first | (rw [HO2.out]; done) | (rw [HO2.out]; rfl), HGA.out.far3 (by omega) _ _ _, by rw [HO2.out]; exact HYA.out.put3 _ _ _, rbox_far 0 (by omega) HBA.out _ _ _⟩
              case measure => simp [intOf]; omega
          | some r =>
            obtain ⟨rp, rpr, rcl⟩ := r
            simp only [Option.getD_some, Option.isSome_some] at y0 y1 y2 HE ⊢
            by_cases hl : rp.length < cp.length
            · have HO2 : Hid (refTo cs s (k + 1) = some ⟨cp, cpr, ccl⟩) := by show _ = _; rw [HE.out, if_pos ⟨by trivial, Or.inr hl⟩]
              have hli : (rp.length : Int) < (cp.length : Int) := by omega
              clear HE hl
              as_aux_lemma =>
                go_wp2_with fail
                go_roundw
                case rel => exact ⟨k + 1, by omega, by go_num, by first | (rw [HO2.out]; done) | (rw [HO2.out]; rfl), HGA.out.far3 (by omega) _ _ _, by rw [HO2.out]; exact HYA.out.put3 _ _ _, rbox_far 0 (by omega) HBA.out _ _ _⟩
                case measure => simp [intOf]; omega
            · have HO2 : Hid (refTo cs s (k + 1) = some ⟨rp, rpr, rcl⟩) := by show _ = _; rw [HE.out, if_neg (fun h => hl (h.2.resolve_left (by simp)))]
              have hli : ¬ (rp.length : Int) < (cp.length : Int) := by omega
              clear HE hl
              as_aux_lemma =>
                go_wp2_with fail
                go_roundw
                case rel => exact ⟨k + 1, by omega, by go_num, by first | (rw [HO2.out]; done) | (rw [HO2.out]; rfl), HGA.out, by rw [HO2.out]; exact HYA.out, HBA.out⟩
                case measure => simp [intOf]; omega
end Go.Proofs.YtppinnjdaoaddaaGreatDoor


set_option linter.unusedVariables false
set_option linter.unusedSimpArgs false
namespace Go.Proofs.YtppinnjdaoaddaaGreatDoor
open Go.RowKit

theorem rateFor_str (w : World) (ra : Option Addr) (rn rc : Nat) (cs : List Rate) (l : List UInt8) (s : ByteArray) (hs : s = ⟨l.toArray⟩) (hr : RateRow w ra rn cs) (hl : l.length ≤ 1000) :
    Calls Tryz.prog 137 #[.slice ra rn rc, .string s] w (RatePost (refTo cs l cs.length) w) := by
  subst hs
  exact rateFor_any w ra rn rc cs l hr hl
set_option maxRecDepth 100000 in
set_option maxHeartbeats 8000000 in
theorem rateForD_any (w : World) (df ds dl dp : Int) (ra : Option Addr) (rn rc : Nat) (cs : List Rate) (n : List UInt8) (hr : RateRow w ra rn cs) (hn1 : 1 ≤ n.length) (hn2 : n.length ≤ 1000) :
    Calls Tryz.prog 105 #[.agg #[.int .i64 df, .int .i64 ds, .int .i64 dl, .int .i64 dp, .slice ra rn rc], .string ⟨n.toArray⟩] w (RatePost (refTo cs (n.drop 1) cs.length) w) := by
  have hnd : (n.drop 1).length ≤ 1000 := by rw [List.length_drop]; omega
  have HPO : Hid (∀ W, Below w.heap.size w W → Calls Tryz.prog 137 #[.slice ra rn rc, .string ((⟨n.toArray⟩ : ByteArray).extract 1 n.length)] W (RatePost (refTo cs (n.drop 1) cs.length) W)) := fun W hW => rateFor_str W ra rn rc cs (n.drop 1) _ (extract_drop n 1) (hr.below hW) hnd
  have HFIN : Hid (∀ W, Below w.heap.size w W → RatePost (refTo cs (n.drop 1) cs.length) w (.returned (.tuple #[.agg #[.string ⟨((refTo cs (n.drop 1) cs.length).getD noRate).p.toArray⟩, .int .i64 ((refTo cs (n.drop 1) cs.length).getD noRate).price, .bool ((refTo cs (n.drop 1) cs.length).getD noRate).closed], .bool (refTo cs (n.drop 1) cs.length).isSome])) W) := fun W hW => ⟨hW, rfl⟩
  generalize hP : RatePost (refTo cs (n.drop 1) cs.length) w = PP at HFIN ⊢
  clear hP hnd hr
  generalize refTo cs (n.drop 1) cs.length = o at HPO HFIN
  go_enter Tryz.func105, Tryz.ntmps105
  go_upto_region 1 with (fail)
  have HD : Hid (Blk ((w.alloc (.cells #[.int .i64 df, .int .i64 ds, .int .i64 dl, .int .i64 dp, .slice ra rn rc] 63)).alloc (.cells #[.string ⟨#[]⟩, .int .i64 0, .bool false] 120)) w.heap.size [.int .i64 df, .int .i64 ds, .int .i64 dl, .int .i64 dp, .slice ra rn rc] 63) := (Blk.new w [.int .i64 df, .int .i64 ds, .int .i64 dl, .int .i64 dp, .slice ra rn rc] 63).alloc _
  have HZ : Hid (Blk ((w.alloc (.cells #[.int .i64 df, .int .i64 ds, .int .i64 dl, .int .i64 dp, .slice ra rn rc] 63)).alloc (.cells #[.string ⟨#[]⟩, .int .i64 0, .bool false] 120)) (w.heap.size + 1) [.string ⟨#[]⟩, .int .i64 0, .bool false] 120) := by
    have := Blk.new (w.alloc (.cells #[.int .i64 df, .int .i64 ds, .int .i64 dl, .int .i64 dp, .slice ra rn rc] 63)) [.string ⟨#[]⟩, .int .i64 0, .bool false] 120
    show Blk _ _ _ _
    simpa using this
  have HB : Hid (Below w.heap.size w ((w.alloc (.cells #[.int .i64 df, .int .i64 ds, .int .i64 dl, .int .i64 dp, .slice ra rn rc] 63)).alloc (.cells #[.string ⟨#[]⟩, .int .i64 0, .bool false] 120))) := ext_alloc (ext_alloc (Below.refl _ _))
  generalize World.alloc (World.alloc w _) _ = W at HD HZ HB ⊢
  have d4 := HD.out.cell 4 rfl
  go_region_with (go_at_call 137; refine (HPO.out _ (ext_drew HB.out)).mono ?_; rintro e w3 ⟨hb3, rfl⟩; have HZ3 := Lib.hid (HZ.out.below (ext_trans (ext_drew (Below.refl _ _)) hb3)); have z0 := HZ3.out.cell 0 rfl; have z1 := HZ3.out.cell 1 rfl; have z2 := HZ3.out.cell 2 rfl; have zF := HZ3.out.fr)
  all_goals
    have HF3 := Lib.hid (HFIN.out _ (rbox_far 0 (show w.heap.size ≤ w.heap.size + 1 by omega) (ext_trans (ext_drew HB.out) hb3) (.string ⟨(o.getD noRate).p.toArray⟩) (.int .i64 (o.getD noRate).price) (.bool (o.getD noRate).closed)))
    have HZ9 := HZ3.out.put3 (.string ⟨(o.getD noRate).p.toArray⟩) (.int .i64 (o.getD noRate).price) (.bool (o.getD noRate).closed)
    have r0 := HZ9.cell 0 rfl
    have r1 := HZ9.cell 1 rfl
    have r2 := HZ9.cell 2 rfl
    clear HFIN hb3 HZ9
    go_wp2_with fail
    refine bodyPost_ret (by simp [results, Tryz.results105, go_sem, r0, r1, r2]) rfl HF3.out
theorem paid_step {p dp talk : Int} (h1 : 1 ≤ dp) (h : p < talk) : paidR (p + dp) dp talk = paidR p dp talk := by
  unfold paidR
  rw [if_pos h]
  by_cases h2 : p + dp < talk
  · rw [if_pos h2]
    rw [show talk - p + dp - 1 = (talk - (p + dp) + dp - 1) + 1 * dp by omega, Int.add_mul_ediv_right _ _ (by omega), Int.add_mul]
    omega
  · rw [if_neg h2]
    have h3 : (talk - p + dp - 1) / dp = 1 := by
      rw [show talk - p + dp - 1 = (talk - p - 1) + 1 * dp by omega, Int.add_mul_ediv_right _ _ (by omega), Int.ediv_eq_zero_of_lt (by omega) (by omega)]
      rfl
    rw [h3]; omega
set_option maxRecDepth 100000 in
set_option maxHeartbeats 8000000 in
theorem priceFor_any (w : World) (df ds dl dp : Int) (ra : Option Addr) (rn rc : Nat) (cs : List Rate) (n : List UInt8) (talk : Int) (hr : RateRow w ra rn cs) (hg : DeckGood ds dl dp cs) (hn1 : 1 ≤ n.length) (hn2 : n.length ≤ 16) (h5 : 0 ≤ talk ∧ talk ≤ 86400000) :
    Calls Tryz.prog 78 #[.agg #[.int .i64 df, .int .i64 ds, .int .i64 dl, .int .i64 dp, .slice ra rn rc], .string ⟨n.toArray⟩, .int .i64 talk] w (PriceOfPost (priceV ds dl dp cs (n.drop 1) talk) w) := by
  obtain ⟨h1, h2, h3, ho, he⟩ := hg
  have HR := Lib.hid (rateForD_any (w.alloc (.cells #[.int .i64 df, .int .i64 ds, .int .i64 dl, .int .i64 dp, .slice ra rn rc] 63)) df ds dl dp ra rn rc cs n (hr.below (ext_alloc (Below.refl _ _))) hn1 (by omega))
  rw [ref_same ho (by rw [List.length_drop]; omega)] at HR
  have HV : Hid (priceV ds dl dp cs (n.drop 1) talk = match rateOf cs (n.drop 1) 15 with | none => (0, false) | some r => if r.closed = true then (0, false) else (priceR ds dl dp r.price talk, true)) := rfl
  have HM : Hid (∀ r, rateOf cs (n.drop 1) 15 = some r → 0 ≤ r.price ∧ r.price ≤ 100000000) := fun r h => he r (rateTo_mem _ h)
  generalize priceV ds dl dp cs (n.drop 1) talk = V at HV ⊢
  generalize rateOf cs (n.drop 1) 15 = o at HV HR HM
  clear hr ho he
  go_enter Tryz.func78, Tryz.ntmps78
  go_upto_region 1 with (fail)
  have HD : Hid (Blk (w.alloc (.cells #[.int .i64 df, .int .i64 ds, .int .i64 dl, .int .i64 dp, .slice ra rn rc] 63)) w.heap.size [.int .i64 df, .int .i64 ds, .int .i64 dl, .int .i64 dp, .slice ra rn rc] 63) := Blk.new w [.int .i64 df, .int .i64 ds, .int .i64 dl, .int .i64 dp, .slice ra rn rc] 63
  have HB : Hid (Below w.heap.size w (w.alloc (.cells #[.int .i64 df, .int .i64 ds, .int .i64 dl, .int .i64 dp, .slice ra rn rc] 63))) := ext_alloc (Below.refl _ _)
  have hsz : w.heap.size < (w.alloc (.cells #[.int .i64 df, .int .i64 ds, .int .i64 dl, .int .i64 dp, .slice ra rn rc] 63)).heap.size := by simp
  generalize w.alloc _ = W at HD HB HR hsz ⊢
  have HRA : Hid (W.rangeAt w.heap.size 0 [.int .i64 df, .int .i64 ds, .int .i64 dl, .int .i64 dp, .slice ra rn rc]) := fun j v hj => by rw [Nat.zero_add]; exact HD.out.cell j hj
  as_aux_lemma =>
    go_wp2_with (refine wpList_load_mid rfl 63 (.tmp 3) rfl w.heap.size 0 rfl [.int .i64 df, .int .i64 ds, .int .i64 dl, .int .i64 dp, .slice ra rn rc] _ HRA.out Tryz.underlying63 rfl Tryz.deckSz ?_)
    refine HR.out.mono ?_
    rintro e w1 ⟨hb1, rfl⟩
    have HB1 := Lib.hid (ext_trans HB.out hb1)
    have HD1 := Lib.hid (HD.out.below hb1)
    have hz1 : w.heap.size < w1.heap.size := by have := hb1.size; omega
    clear hb1 HB HD HRA HR hsz
    cases o with
    | none =>
      obtain rfl : V = (0, false) := HV.out
      clear HV HM
      as_aux_lemma =>
        go_wp2_with fail
        go_ret2
        exact ⟨rfl, (by (try show Below _ _ _); repeat (with_reducible first | exact Below.refl _ _ | assumption | exact Hid.out (by assumption) | refine ext_alloc ?_ | refine ext_drewN ?_ | refine ext_drew ?_ | refine ext_setCell ?_ (Nat.le_refl _) | refine ext_setCell ?_ (Nat.le_succ _) | refine ext_trans ?_ (by assumption) | (refine ext_setCell ?_ (by simp)) | (refine ext_setCell ?_ (by simp at *; omega))))⟩
    | some r =>
      obtain ⟨rp, pr, cl⟩ := r
      obtain ⟨h40, h41⟩ := HM.out _ rfl
      clear HM
      simp only [Option.getD_some, Option.isSome_some] at h40 h41 ⊢
      cases cl with
      | true =>
        obtain rfl : V = (0, false) := HV.out
        clear HV
        as_aux_lemma =>
          go_wp2_with fail
          go_ret2
          exact ⟨rfl, (by (try show Below _ _ _); repeat (with_reducible first | exact Below.refl _ _ | assumption | exact Hid.out (by assumption) | refine ext_alloc ?_ | refine ext_drewN ?_ | refine ext_drew ?_ | refine ext_setCell ?_ (Nat.le_refl _) | refine ext_setCell ?_ (Nat.le_succ _) | refine ext_trans ?_ (by assumption) | (refine ext_setCell ?_ (by simp)) | (refine ext_setCell ?_ (by simp at *; omega))))⟩
      | false =>
        obtain rfl : V = (priceR ds dl dp pr talk, true) := HV.out
        clear HV
        have HPR : Hid (priceR ds dl dp pr talk = if talk = 0 then ds else ds + (pr * paidR dl dp talk + 59999) / 60000) := rfl
        have d1 := HD1.out.cell 1 rfl
        have d2 := HD1.out.cell 2 rfl
        have d3 := HD1.out.cell 3 rfl
        have hne : w.heap.size ≠ w1.heap.size := by omega
        have hne2 : w1.heap.size ≠ w.heap.size := by omega
        by_cases ht : talk = 0
        · have ht2 : (talk == 0) = true := by simpa using ht
          have HF : Hid (priceR ds dl dp pr talk = ds) := by show _ = ds; rw [HPR.out, if_pos ht]
          clear HPR ht h5
          as_aux_lemma =>
            go_wp2_with fail
            go_ret2
            exact ⟨by rw [HF.out]; rfl, by have HB1 := HB1.out; exact (by (try show Below _ _ _); repeat (with_reducible first | exact Below.refl _ _ | assumption | exact Hid.out (by assumption) | refine ext_alloc ?_ | refine ext_drewN ?_ | refine ext_drew ?_ | refine ext_setCell ?_ (Nat.le_refl _) | refine ext_setCell ?_ (Nat.le_succ _) | refine ext_trans ?_ (by assumption) | (refine ext_setCell ?_ (by simp)) | (refine ext_setCell ?_ (by simp at *; omega))))⟩
        have ht2 : (talk == 0) = false := by simpa using ht
        have HF : Hid (priceR ds dl dp pr talk = ds + (pr * paidR dl dp talk + 59999) / 60000) := by show _ = _; rw [HPR.out, if_neg ht]
        have hpb := paid_bound h2 h3 h5
        clear HPR ht
        skip
        as_aux_lemma =>
          go_upto_region 6 with (fail)
          have HX : Hid (Blk (w1.alloc (.cells #[.string ⟨rp.toArray⟩, .int .i64 pr, .bool false] 120)) w1.heap.size [.string ⟨rp.toArray⟩, .int .i64 pr, .bool false] 120) := Blk.new w1 [.string ⟨rp.toArray⟩, .int .i64 pr, .bool false] 120
          have HDA := Lib.hid (HD1.out.alloc (.cells #[.string ⟨rp.toArray⟩, .int .i64 pr, .bool false] 120))
          have HBA : Hid (Below w.heap.size w (w1.alloc (.cells #[.string ⟨rp.toArray⟩, .int .i64 pr, .bool false] 120))) := ext_alloc HB1.out
          generalize w1.alloc (.cells #[.string ⟨rp.toArray⟩, .int .i64 pr, .bool false] 120) = wa at HX HDA HBA ⊢
          generalize w1.heap.size = X at HX hne hne2 hz1 ⊢
          clear d1 d2 d3 HD1 HB1
          have d1 := HDA.out.cell 1 rfl
          have d2 := HDA.out.cell 2 rfl
          have d3 := HDA.out.cell 3 rfl
          have x1 := HX.out.cell 1 rfl
          go_wp2_with fail
          go_loopw [10] (fun v10 wr => ∃ p : Int, v10 = .int .i64 p ∧ 0 ≤ p ∧ p ≤ 300000000 ∧ Hid (paidR p dp talk = paidR dl dp talk) ∧ Hid (wr = wa)) (fun v10 _ => (talk - intOf v10).toNat)
          case atStart => exact ⟨dl, rfl, h2.1, by omega, rfl, rfl⟩
          case round =>
            obtain ⟨p, rfl, p0, p1, HP, HW⟩ := hrel
            obtain rfl := HW.out
            clear HW
            by_cases hlt : p < talk
            · by_cases hst : 1000000 < dp
              · have wp1 : IntKind.i64.wrap (p + dp) = p + dp := IntWalk.i64_in _ (by omega)
                as_aux_lemma =>
                  go_wp2_with fail
                  go_roundw
                  case rel => exact ⟨p + dp, rfl, by omega, by omega, by show _ = _; rw [paid_step h3.1 hlt]; exact HP.out, by first | exact rfl | exact Lib.hid trivial⟩
                  case measure => simp [intOf]; omega
              · have hM : Hid (p + upD (talk - p) dp * dp = paidR dl dp talk) := by
                  show _ = _
                  rw [← HP.out]; unfold paidR; rw [if_pos hlt]; rfl
                have q0 : 0 ≤ upD (talk - p) dp := Int.ediv_nonneg (by omega) (by omega)
                have q1 : upD (talk - p) dp * dp ≤ talk - p + dp - 1 := Int.ediv_mul_le _ (by omega)
                have q2 : 0 ≤ upD (talk - p) dp * dp := Int.mul_nonneg q0 (by omega)
                have HU := Lib.hid (fun W => upward_any (talk - p) dp ⟨by omega, by omega⟩ ⟨by omega, by omega⟩ W)
                generalize upD (talk - p) dp = U at hM q0 q1 q2 HU
                have v1 : IntKind.i64.wrap (talk - p) = talk - p := IntWalk.i64_in _ (by omega)
                have v2 : IntKind.i64.wrap (U * dp) = U * dp := IntWalk.i64_in _ (by omega)
                have v3 : IntKind.i64.wrap (p + U * dp) = p + U * dp := IntWalk.i64_in _ (by omega)
                clear q0 q1 q2 HP
                as_aux_lemma =>
                  go_upto_region 9 with (fail)
                  go_upto_if 43 with (fail)
                  go_cut [10] (fun v wx => v = .int .i64 (paidR dl dp talk) ∧ Hid (Blk wx w.heap.size [.int .i64 df, .int .i64 ds, .int .i64 dl, .int .i64 dp, .slice ra rn rc] 63) ∧ Hid (Blk wx X [.string ⟨rp.toArray⟩, .int .i64 pr, .bool false] 120) ∧ Hid (Below w.heap.size w wx))
                  case first =>
                    go_wp2_with fail
                    go_quiet (first | (go_at_call 106; refine Calls.quiet_of_same (v := .int .i64 U) ((HU.out _).mono ?_); rintro e w' ⟨rfl, rfl⟩; exact ⟨rfl, rfl⟩))
                    go_wp2_with fail
                    go_meet
                    exact ⟨by rw [hM.out], HDA.out.below (ext_drewN (Below.refl _ _)), HX.out.below (ext_drewN (Below.refl _ _)), ext_drewN HBA.out⟩
                  case rest =>
                    clear d1 d2 d3 x1 HU v1 v2 v3 hM
                    obtain ⟨rfl, HDC, HXC, HBC⟩ := hcut
                    have d1 := HDC.out.cell 1 rfl
                    have x1 := HXC.out.cell 1 rfl
                    have m0 : 0 ≤ pr * paidR dl dp talk := Int.mul_nonneg h40 hpb.1
                    have m1 : pr * paidR dl dp talk ≤ 100000000 * 200000000 := Int.mul_le_mul h41 hpb.2 hpb.1 (by omega)
                    have HU2 := Lib.hid (fun W => upward_any (pr * paidR dl dp talk) 60000 ⟨m0, by omega⟩ ⟨by omega, by omega⟩ W)
                    have HQ : Hid (upD (pr * paidR dl dp talk) 60000 = (pr * paidR dl dp talk + 59999) / 60000) := by show (_ + 60000 - 1) / 60000 = _; congr 1; omega
                    rw [HQ.out] at HU2
                    have v4 : IntKind.i64.wrap (pr * paidR dl dp talk) = pr * paidR dl dp talk := IntWalk.i64_in _ (by omega)
                    have v5 : IntKind.i64.wrap (ds + (pr * paidR dl dp talk + 59999) / 60000) = ds + (pr * paidR dl dp talk + 59999) / 60000 := IntWalk.i64_in _ (by omega)
                    clear m0 m1 hpb HQ h41 h40 HDC HXC
                    generalize (pr * paidR dl dp talk + 59999) / 60000 = Y at HU2 v5 HF
                    as_aux_lemma =>
                      go_wp2_with fail
                      go_region_with (go_at_call 106; refine (HU2.out _).mono ?_; rintro e w' ⟨rfl, rfl⟩)
                      all_goals
                        go_wp2_with fail
                        go_ret2
                        exact ⟨by rw [HF.out]; rfl, by have HBC := HBC.out; exact (by (try show Below _ _ _); repeat (with_reducible first | exact Below.refl _ _ | assumption | exact Hid.out (by assumption) | refine ext_alloc ?_ | refine ext_drewN ?_ | refine ext_drew ?_ | refine ext_setCell ?_ (Nat.le_refl _) | refine ext_setCell ?_ (Nat.le_succ _) | refine ext_trans ?_ (by assumption) | (refine ext_setCell ?_ (by simp)) | (refine ext_setCell ?_ (by simp at *; omega))))⟩
            · have hM : Hid (p = paidR dl dp talk) := by
                show p = _
                rw [← HP.out]; unfold paidR; rw [if_neg hlt]
              clear HP
              as_aux_lemma =>
                go_upto_region 9 with (fail)
                go_upto_if 43 with (fail)
                go_cut [10] (fun v wx => v = .int .i64 (paidR dl dp talk) ∧ Hid (Blk wx w.heap.size [.int .i64 df, .int .i64 ds, .int .i64 dl, .int .i64 dp, .slice ra rn rc] 63) ∧ Hid (Blk wx X [.string ⟨rp.toArray⟩, .int .i64 pr, .bool false] 120) ∧ Hid (Below w.heap.size w wx))
                case first =>
                  go_wp2_with fail
                  go_meet
                  exact ⟨by rw [← hM.out], HDA.out, HX.out, HBA.out⟩
                case rest =>
                  clear d1 d2 d3 x1 hM
                  obtain ⟨rfl, HDC, HXC, HBC⟩ := hcut
                  have d1 := HDC.out.cell 1 rfl
                  have x1 := HXC.out.cell 1 rfl
                  have m0 : 0 ≤ pr * paidR dl dp talk := Int.mul_nonneg h40 hpb.1
                  have m1 : pr * paidR dl dp talk ≤ 100000000 * 200000000 := Int.mul_le_mul h41 hpb.2 hpb.1 (by omega)
                  have HU2 := Lib.hid (fun W => upward_any (pr * paidR dl dp talk) 60000 ⟨m0, by omega⟩ ⟨by omega, by omega⟩ W)
                  have HQ : Hid (upD (pr * paidR dl dp talk) 60000 = (pr * paidR dl dp talk + 59999) / 60000) := by show (_ + 60000 - 1) / 60000 = _; congr 1; omega
                  rw [HQ.out] at HU2
                  have v4 : IntKind.i64.wrap (pr * paidR dl dp talk) = pr * paidR dl dp talk := IntWalk.i64_in _ (by omega)
                  have v5 : IntKind.i64.wrap (ds + (pr * paidR dl dp talk + 59999) / 60000) = ds + (pr * paidR dl dp talk + 59999) / 60000 := IntWalk.i64_in _ (by omega)
                  clear m0 m1 hpb HQ h41 h40 HDC HXC
                  generalize (pr * paidR dl dp talk + 59999) / 60000 = Y at HU2 v5 HF
                  as_aux_lemma =>
                    go_wp2_with fail
                    go_region_with (go_at_call 106; refine (HU2.out _).mono ?_; rintro e w' ⟨rfl, rfl⟩)
                    all_goals
                      go_wp2_with fail
                      go_ret2
                      exact ⟨by rw [HF.out]; rfl, by have HBC := HBC.out; exact (by (try show Below _ _ _); repeat (with_reducible first | exact Below.refl _ _ | assumption | exact Hid.out (by assumption) | refine ext_alloc ?_ | refine ext_drewN ?_ | refine ext_drew ?_ | refine ext_setCell ?_ (Nat.le_refl _) | refine ext_setCell ?_ (Nat.le_succ _) | refine ext_trans ?_ (by assumption) | (refine ext_setCell ?_ (by simp)) | (refine ext_setCell ?_ (by simp at *; omega))))⟩
end Go.Proofs.YtppinnjdaoaddaaGreatDoor
