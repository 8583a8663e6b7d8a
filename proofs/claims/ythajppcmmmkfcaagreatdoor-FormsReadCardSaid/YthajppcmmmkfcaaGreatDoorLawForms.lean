/- What is proved here: the walk of the statement FormsRead: it answers true. Condition: the slice that came in lies in memory. -/
import Derived.Test.YthajppcmmmkfcaaGreatDoorFormString
import Derived.Test.YthajppcmmmkfcaaGreatDoorReadForm
import Derived.Test.YthajppcmmmkfcaaGreatDoorPlanDrawn
import Derived.Test.YthajppcmmmkfcaaGreatDoorNumbered
set_option linter.unusedVariables false
set_option linter.unusedSimpArgs false
namespace Go.Proofs.YthajppcmmmkfcaaGreatDoor
open Go.RowKit

theorem home_found {l : List Ctry} {code area : List UInt8} (hE : planErr l = 0) (hH : homeErr l code area = 0) : ∃ c, homeC l code area = some c ∧ (l.find? fun c => c.code == code) = some c := by
  unfold homeErr at hH
  cases hq : homeR l code area with
  | none => rw [hq] at hH; cases hH
  | some c =>
    refine ⟨c, by rw [home_same _ _ hE, hq], ?_⟩
    unfold homeR at hq
    cases hf : l.find? fun c => c.code == code with
    | none => rw [hf] at hq; cases hq
    | some d =>
      rw [hf] at hq
      simp only [Option.bind_some] at hq
      split at hq
      · exact hq
      · cases hq
theorem home_not {l : List Ctry} {code area : List UInt8} (hE : planErr l = 0) (hH : homeErr l code area ≠ 0) : homeC l code area = none ∧ homeErr l code area = 8 := by
  unfold homeErr at hH ⊢
  rw [home_same _ _ hE]
  cases hq : homeR l code area with
  | none => exact ⟨rfl, rfl⟩
  | some c => rw [hq] at hH; exact absurd rfl hH

set_option maxRecDepth 100000 in
set_option maxHeartbeats 4000000 in
theorem forms_true (w : World) (a : Option Addr) (len cap : Nat) (zs : List Int) (hr : ArgRow w a len cap zs) :
    Calls Tryz.prog 5 #[.slice a len cap] w fun e w' => e = .returned (.bool true) ∧ Below w.heap.size w w' := by
  have HS0 := Lib.hid (stream_start hr)
  clear hr
  go_enter Tryz.func5, Tryz.ntmps5
  go_wp2_with fail
  refine (countries_any w.heap.size 0 _ HS0.out (by omega)).mono ?_
  rintro e w1 ⟨P, l, rfl, hrow, hna, hst1, hk1⟩
  have HR := Lib.hid hrow
  have HNA := Lib.hid hna
  have HS1 := Lib.hid hst1
  have HK1 := Lib.hid hk1
  clear hrow hna hst1 hk1 HS0
  as_aux_lemma =>
    go_wp2_with fail
    refine (home_drawn w.heap.size 20 _ HS1.out (by omega)).mono ?_
    rintro e w2 ⟨code, area, rfl, hco, har, hst2, hk2⟩
    have HK2 := Lib.hid (HK1.out.trans hk2)
    have HR2 : Hid (∀ w9, Keeps w.heap.size w2 w9 → CtryRow w9 (some ⟨P, 0, none⟩) 3 l) := fun w9 h9 => HR.out w9 (hk2.trans h9)
    have HS2 := Lib.hid hst2
    clear hst2 hk2 HR HS1 HK1
    as_aux_lemma =>
      go_upto_region 3 with (fail)
      have HKB : Hid (Keeps w.heap.size w2 (w2.alloc (.cells #[.string ⟨code.toArray⟩, .string ⟨area.toArray⟩] 29))) := (Keeps.refl _ w2).alloc _
      have HSB : Hid (StreamOk (w2.alloc (.cells #[.string ⟨code.toArray⟩, .string ⟨area.toArray⟩] 29)) w.heap.size 23) := HS2.out.below (ext_alloc (Below.refl _ _))
      have hwl := HS2.out.lt
      have HC0 : Hid (∀ w9, Keeps w.heap.size (w2.alloc (.cells #[.string ⟨code.toArray⟩, .string ⟨area.toArray⟩] 29)) w9 → w9.cell? ⟨w2.heap.size, 0, none⟩ = some (.string ⟨code.toArray⟩) ∧ w9.cell? ⟨w2.heap.size, 1, none⟩ = some (.string ⟨area.toArray⟩) ∧ w2.heap.size < w9.heap.size) := fun w9 h9 => ⟨(h9.cell (p := ⟨w2.heap.size, 0, none⟩) (by simp) (by show w2.heap.size ≠ w.heap.size; omega)).trans (by go_simp), (h9.cell (p := ⟨w2.heap.size, 1, none⟩) (by simp) (by show w2.heap.size ≠ w.heap.size; omega)).trans (by go_simp), by have := h9.size; simp at this; omega⟩
      generalize World.alloc w2 _ = W0 at HKB HSB HC0 ⊢
      generalize w2.heap.size = D at HC0 ⊢
      have hS0 : (fun W => W.cell? ⟨D, 0, none⟩ = some (.string ⟨code.toArray⟩) ∧ W.cell? ⟨D, 1, none⟩ = some (.string ⟨area.toArray⟩) ∧ D < W.heap.size) W0.drew := HC0.out _ (Keeps.of_below (ext_drew (Below.refl _ _)))
      have HKD : Hid (Keeps w.heap.size W0 W0.drew) := Keeps.of_below (ext_drew (Below.refl _ _))
      refine region_seqI (S := fun W => W.cell? ⟨D, 0, none⟩ = some (.string ⟨code.toArray⟩) ∧ W.cell? ⟨D, 1, none⟩ = some (.string ⟨area.toArray⟩) ∧ D < W.heap.size) [(true, 0), (true, 1), (true, 3), (true, 4), (true, 5), (false, 2), (false, 6), (true, 7), (true, 8)] (by kernel_rfl) (by kernel_rfl) rfl (by kernel_rfl) hS0 ?_
      clear hS0
      simp only [seqOps, List.getD_cons_zero, List.getD_cons_succ]
      refine seqI_take (v := .pointer (some ⟨w.heap.size, 0, none⟩)) rfl (fun W hW => by obtain ⟨m0, m1, m2⟩ := hW; go_simp) (fun _ _ _ h => h) ?_
      simp only [Act.put, List.setIfInBounds_toArray, List.set_cons_zero, List.set_cons_succ]
      refine seqI_take (v := .slice (some ⟨P, 0, none⟩) 3 3) rfl (fun W hW => by obtain ⟨m0, m1, m2⟩ := hW; go_simp) (fun _ _ _ h => h) ?_
      simp only [Act.put, List.setIfInBounds_toArray, List.set_cons_zero, List.set_cons_succ]
      refine seqI_take (v := .pointer (some ⟨w.heap.size, 0, none⟩)) rfl (fun W hW => by obtain ⟨m0, m1, m2⟩ := hW; go_simp) (fun _ _ _ h => h) ?_
      simp only [Act.put, List.setIfInBounds_toArray, List.set_cons_zero, List.set_cons_succ]
      refine seqI_take (v := .slice (some ⟨P, 0, none⟩) 3 3) rfl (fun W hW => by obtain ⟨m0, m1, m2⟩ := hW; go_simp) (fun _ _ _ h => h) ?_
      simp only [Act.put, List.setIfInBounds_toArray, List.set_cons_zero, List.set_cons_succ]
      refine seqI_take (v := .agg #[.string ⟨code.toArray⟩, .string ⟨area.toArray⟩]) rfl (fun W hW => by obtain ⟨m0, m1, m2⟩ := hW; go_simp) (fun _ _ _ h => h) ?_
      simp only [Act.put, List.setIfInBounds_toArray, List.set_cons_zero, List.set_cons_succ]
      refine seqI_call 18 #[.pointer (some ⟨w.heap.size, 0, none⟩), .slice (some ⟨P, 0, none⟩) 3 3] rfl (by go_simp) (number_any w.heap.size 23 _ (some ⟨P, 0, none⟩) 3 3 l (HSB.out.below (ext_drew (Below.refl _ _))) (by omega) (fun w9 h9 => HR2.out w9 (HKB.out.trans (HKD.out.trans h9))) (by omega) (by omega) HNA.out) ?_
      rintro e w3 ⟨s, rfl, hs, hst3, hk3⟩
      have HK3 := Lib.hid (HKD.out.trans hk3)
      have HS3 := Lib.hid hst3
      refine ⟨_, rfl, HC0.out _ HK3.out, ?_⟩
      clear hst3 hk3
      simp only [Act.put, List.setIfInBounds_toArray, List.set_cons_zero, List.set_cons_succ]
      refine seqI_call 26 #[.pointer (some ⟨w.heap.size, 0, none⟩), .slice (some ⟨P, 0, none⟩) 3 3, .agg #[.string ⟨code.toArray⟩, .string ⟨area.toArray⟩]] rfl (by go_simp) (formString_any w.heap.size (23 + 4000) _ (some ⟨P, 0, none⟩) 3 3 l code area HS3.out (by omega) (fun w9 h9 => HR2.out w9 (HKB.out.trans (HK3.out.trans h9))) (by omega) (by omega) HNA.out hco har) ?_
      rintro e w4 ⟨t, rfl, ht, hst4, hk4⟩
      have HK4 := Lib.hid (HK3.out.trans hk4)
      refine ⟨_, rfl, HC0.out _ HK4.out, ?_⟩
      clear hst4 hk4 HS3 HK3
      simp only [Act.put, List.setIfInBounds_toArray, List.set_cons_zero, List.set_cons_succ]
      refine seqI_take (v := .string ⟨s.toArray⟩) rfl (fun W hW => by obtain ⟨m0, m1, m2⟩ := hW; go_simp) (fun _ _ _ h => h) ?_
      simp only [Act.put, List.setIfInBounds_toArray, List.set_cons_zero, List.set_cons_succ]
      refine seqI_take (v := .string ⟨t.toArray⟩) rfl (fun W hW => by obtain ⟨m0, m1, m2⟩ := hW; go_simp) (fun _ _ _ h => h) ?_
      simp only [Act.put, List.setIfInBounds_toArray, List.set_cons_zero, List.set_cons_succ]
      refine seqI_nil ?_
      have HRW : Hid (∀ w9, Below w4.heap.size w4 w9 → CtryRow w9 (some ⟨P, 0, none⟩) 3 l) := fun w9 h9 => HR2.out w9 (HKB.out.trans (HK4.out.trans (Keeps.of_below h9)))
      have HCW : Hid (∀ w9, Below w4.heap.size w4 w9 → w9.cell? ⟨D, 0, none⟩ = some (.string ⟨code.toArray⟩) ∧ w9.cell? ⟨D, 1, none⟩ = some (.string ⟨area.toArray⟩) ∧ D < w9.heap.size) := fun w9 h9 => HC0.out w9 (HK4.out.trans (Keeps.of_below h9))
      have HEND : Hid (∀ w9, Below w4.heap.size w4 w9 → Below w.heap.size w w9) := fun w9 h9 => law_end (HK2.out.trans (HKB.out.trans (HK4.out.trans (Keeps.of_below h9))))
      have hs' : s.length ≤ 1000 := by omega
      clear HC0 HKD HKB HSB HR2 HS2 HK2 HK4
      generalize hKR : keysR t = K
      have HKE := Lib.hid (fun W => keys_any t (by omega) W)
      have HKO := Lib.hid (fun W => keysOf_any t (by omega) W)
      rw [hKR] at HKE HKO
      obtain ⟨k0, k1⟩ := K
      clear hKR
      as_aux_lemma =>
        go_wp2_with fail
        refine (HKE.out _).mono ?_
        rintro e w5 ⟨rfl, hb5⟩
        have HB5 := Lib.hid hb5
        clear hb5
        as_aux_lemma =>
          go_wp2_with fail
          refine (HKO.out _).mono ?_
          rintro e w6 ⟨rfl, hb6⟩
          have HB6 := Lib.hid (ext_trans HB5.out hb6)
          obtain ⟨c0, c1, hz⟩ := HCW.out w6 HB6.out
          have HF0 : Hid (formTop l code area s = if planErr l ≠ 0 then (planErr l, ([] : List UInt8)) else match homeC l code area with | none => (8, []) | some c => if (splitP l s).err ≠ 0 then ((splitP l s).err, []) else (0, formP c (splitP l s))) := rfl
          have HG0 : Hid (readTop l code area t = if planErr l ≠ 0 then (planErr l, ([] : List UInt8)) else match homeC l code area with | none => (8, []) | some c => readP l c area t) := rfl
          have HFO := Lib.hid (fun W hW => form_any W (some ⟨P, 0, none⟩) 3 3 l hW (by omega) (by omega) HNA.out code area s hs')
          have HRE := Lib.hid (fun W hW => readForm_any W (some ⟨P, 0, none⟩) 3 3 l hW (by omega) (by omega) HNA.out code area t har ht)
          generalize formTop l code area s = F at HF0 HFO
          generalize readTop l code area t = G at HG0 HRE
          obtain ⟨f0, f1⟩ := F
          obtain ⟨g0, g1⟩ := G
          clear hb6 HB5 HKE HKO
          as_aux_lemma =>
            go_wp2_with fail
            refine (HFO.out _ (HRW.out _ HB6.out)).mono ?_
            rintro e w7 ⟨rfl, hb7⟩
            have HB7 := Lib.hid (ext_trans HB6.out hb7)
            clear c0 c1 hz
            obtain ⟨c0, c1, hz⟩ := HCW.out w7 HB7.out
            clear hb7 HB6
            as_aux_lemma =>
              go_wp2_with fail
              refine (HRE.out _ (HRW.out _ HB7.out)).mono ?_
              rintro e w8 ⟨rfl, hb8⟩
              have HB8 := Lib.hid (ext_trans HB7.out hb8)
              clear hb8 HB7 HFO HRE c0 c1 hz
              as_aux_lemma =>
                go_wp2_with fail
                refine (planFault_any _ (some ⟨P, 0, none⟩) 3 3 l (HRW.out _ HB8.out) (by omega)).mono ?_
                rintro e w9 ⟨rfl, hb9⟩
                have HB9 := Lib.hid (ext_trans HB8.out hb9)
                obtain ⟨c0, c1, hz⟩ := HCW.out w9 HB9.out
                clear hb9 HB8
                by_cases hE : planErr l = 0
                · have HEE := Lib.hid hE
                  rw [hE]
                  clear hE
                  as_aux_lemma =>
                    go_wp2_with fail
                    refine (homeFault_any _ (some ⟨P, 0, none⟩) 3 3 l (HRW.out _ HB9.out) (by omega) (by omega) HNA.out code area).mono ?_
                    rintro e w10 ⟨rfl, hb10⟩
                    have HB10 := Lib.hid (ext_trans HB9.out hb10)
                    clear c0 c1 hz
                    obtain ⟨c0, c1, hz⟩ := HCW.out w10 HB10.out
                    clear hb10 HB9
                    by_cases hH : homeErr l code area = 0
                    · obtain ⟨c, hc, hfc⟩ := home_found HEE.out hH
                      have HFC := Lib.hid hfc
                      have HF1 : Hid ((f0, f1) = if (splitP l s).err ≠ 0 then ((splitP l s).err, []) else (0, formP c (splitP l s))) := by show _ = _; rw [HF0.out, if_neg (by simp [HEE.out]), hc]
                      have HG1 : Hid (readP l c area t = (g0, g1)) := by show _ = _; rw [HG0.out, if_neg (by simp [HEE.out]), hc]
                      rw [hH]
                      have HFR := Lib.hid (fun W hW => formRead_any W (some ⟨P, 0, none⟩) 3 3 l hW (by omega) (by omega) HEE.out c code area t hfc har ht)
                      rw [HG1.out] at HFR
                      have HSP := Lib.hid (fun W hW => splitOf_any W (some ⟨P, 0, none⟩) 3 3 l hW (by omega) s hs')
                      have HFF := Lib.hid (fun W hW => formFrom_any W (some ⟨P, 0, none⟩) 3 3 l hW (by omega) (by omega) HEE.out c code area s hfc hs')
                      rw [split_same s HEE.out] at HSP
                      generalize splitP l s = X at HSP HF1 HFF
                      obtain ⟨er, x1, x2, x3⟩ := X
                      simp only at HSP HF1 HFF
                      generalize formP c _ = y at HF1 HFF
                      clear hH hc hfc HF0 HG0 HG1
                      as_aux_lemma =>
                        go_wp2_with fail
                        refine (HFR.out _ (HRW.out _ HB10.out)).mono ?_
                        rintro e w11 ⟨rfl, hb11⟩
                        have HB11 := Lib.hid (ext_trans HB10.out hb11)
                        clear c0 c1 hz
                        clear hb11 HB10 HFR
                        as_aux_lemma =>
                          go_wp2_with fail
                          refine (HSP.out _ (HRW.out _ HB11.out)).mono ?_
                          rintro e w12 ⟨rfl, hb12⟩
                          have HB12 := Lib.hid (ext_trans HB11.out hb12)
                          obtain ⟨c0, c1, hz⟩ := HCW.out w12 HB12.out
                          clear hb12 HB11 HSP
                          simp only
                          by_cases her : er = 0
                          · subst her
                            obtain ⟨rfl, rfl⟩ : f0 = 0 ∧ f1 = y := by have := HF1.out; simp at this; exact this
                            have hDne : w12.heap.size ≠ D := by omega
                            as_aux_lemma =>
                              go_wp2_with fail
                              refine (HFF.out _ (HRW.out _ (by (try show Below _ _ _); repeat (with_reducible first | exact Below.refl _ _ | assumption | exact Hid.out (by assumption) | refine ext_alloc ?_ | refine ext_drewN ?_ | refine ext_drew ?_ | refine ext_setCell ?_ (Nat.le_refl _) | refine ext_setCell ?_ (Nat.le_succ _) | refine ext_trans ?_ (by assumption) | (refine ext_setCell ?_ (by simp)) | (refine ext_setCell ?_ (by simp at *; omega)))))).mono ?_
                              rintro e w13 ⟨rfl, hb13⟩
                              have HB13 := Lib.hid (ext_trans (ext_alloc HB12.out) hb13)
                              clear hb13
                              as_aux_lemma =>
                                go_wp2_with fail
                                refine (numbered_any _).mono ?_
                                rintro e w14 ⟨rfl, hb14⟩
                                have HF := Lib.hid (HEND.out _ (ext_trans HB13.out hb14))
                                clear hb14
                                go_wp2_with fail
                                go_ret
                                exact ⟨rfl, HF.out⟩
                          · obtain ⟨rfl, rfl⟩ : f0 = er ∧ f1 = [] := by have := HF1.out; simp [her] at this; exact this
                            clear HF1
                            as_aux_lemma =>
                              go_wp2_with fail
                              refine (numbered_any _).mono ?_
                              rintro e w14 ⟨rfl, hb14⟩
                              have HF := Lib.hid (HEND.out _ (ext_trans (ext_alloc HB12.out) hb14))
                              clear hb14
                              go_wp2_with fail
                              go_ret
                              exact ⟨rfl, HF.out⟩
                    · obtain ⟨hc, h8⟩ := home_not HEE.out hH
                      obtain ⟨rfl, rfl⟩ : f0 = 8 ∧ f1 = [] := by have := HF0.out; simp [HEE.out, hc] at this; exact this
                      obtain ⟨rfl, rfl⟩ : g0 = 8 ∧ g1 = [] := by have := HG0.out; simp [HEE.out, hc] at this; exact this
                      rw [h8]
                      clear hc h8 hH HF0 HG0
                      have hcat : ((⟨#[]⟩ : ByteArray) ++ (⟨#[]⟩ : ByteArray)).toList = [] := by decide +kernel
                      as_aux_lemma =>
                        go_wp2_with fail
                        refine (numbered_any _).mono ?_
                        rintro e w14 ⟨rfl, hb14⟩
                        have HF := Lib.hid (HEND.out _ (ext_trans HB10.out hb14))
                        clear hb14
                        go_wp2_with fail
                        go_ret
                        exact ⟨rfl, HF.out⟩
                · have HF2 := HF0.out
                  have HG2 := HG0.out
                  rw [if_pos hE] at HF2 HG2
                  generalize planErr l = E at *
                  obtain ⟨rfl, rfl⟩ : f0 = E ∧ f1 = [] := by simpa using HF2
                  obtain ⟨rfl, rfl⟩ : g0 = f0 ∧ g1 = [] := by simpa using HG2
                  clear HF0 HG0 HF2 HG2
                  have hcat : ((⟨#[]⟩ : ByteArray) ++ (⟨#[]⟩ : ByteArray)).toList = [] := by decide +kernel
                  as_aux_lemma =>
                    go_wp2_with fail
                    refine (numbered_any _).mono ?_
                    rintro e w14 ⟨rfl, hb14⟩
                    have HF := Lib.hid (HEND.out _ (ext_trans HB9.out hb14))
                    clear hb14
                    go_wp2_with fail
                    go_ret
                    exact ⟨rfl, HF.out⟩
end Go.Proofs.YthajppcmmmkfcaaGreatDoor
