/- What is proved here: lemmas and contracts for the statement, put together out of smaller texts (PortRng, PortLaw). No condition beyond those stated. -/
import Derived.Test.YtmbimfmalijjpaaGreatDoorNmPkB
import Derived.Test.YtmbimfmalijjpaaGreatDoorNmPkA
import Derived.Test.YtmbimfmalijjpaaGreatDoorNmPkD
import Derived.Deep.RegionWith
import Derived.Deep.DeepCutAuto
import Derived.IntWalk
set_option linter.unusedVariables false
set_option linter.unusedSimpArgs false
namespace Go.Proofs.YtmbimfmalijjpaaGreatDoor
open Go.RowKit

theorem Tryz.spanSize : (Tryz.prog.info? 99).map (·.size) = some 3 := by kernel_rfl
theorem Tryz.infoSpan2 : (Tryz.prog.info? 99).map (fun i => (i.zero, i.size, i.bytes)) = some (some (.agg #[.int .i64 0, .int .i64 0, .int .i64 0]), 3, 24) := by kernel_rfl
/-- The span of a right range. -/
theorem spanOf_num (f t : List UInt8) (hf : isNumB f = true) (ht : isNumB t = true) (w : World) : Calls Tryz.prog 71 #[.agg #[.string ⟨f.toArray⟩, .string ⟨t.toArray⟩]] w fun e w' => e = .returned (.agg #[.int .i64 ((f.length : Int) - 1), .int .i64 (numV f), .int .i64 (numV t)]) ∧ Below w.heap.size w w' := by
  have h1 := num_len hf
  have h2 := num_len ht
  exact spanOf_any w f t (numV f) (numV t) (by omega) (by omega) (by omega) (by omega) (num_atoi hf) (num_atoi ht)
/-- The first error of a row decides. -/
theorem rngs_at {apart : Int} {l : List Rng} (hl : l.length ≤ 1000) : (∀ k, k < l.length → (∀ j, j < k → rngErr apart l j = 0) → rngErr apart l k ≠ 0 → rngsErr apart l = rngErr apart l k) ∧ ((∀ j, j < l.length → rngErr apart l j = 0) → rngsErr apart l = 0) := by
  unfold rngsErr
  rw [if_neg (by omega)]
  exact ⟨fun k h1 h2 h3 => first_some h2 h1 h3, fun h => first_none h⟩
theorem less_fact {f t : List UInt8} (h : Op.bytesLess t f = false) : (!Op.bytesLess f t && !(f == t)) = true → False := by
  intro h1
  simp only [Bool.and_eq_true, Bool.not_eq_true', beq_eq_false_iff_ne] at h1
  have := less_total f t h1.1 h1.2
  rw [h] at this
  cases this

set_option maxRecDepth 100000 in
set_option maxHeartbeats 40000000 in
theorem checkRanges_any (w : World) (a : Option Addr) (n cap : Nat) (l : List Rng) (hr : RngRow w a n l) (hcap : n ≤ cap) (apart : Int) (ha0 : 0 ≤ apart) (ha1 : apart ≤ 10) : Calls Tryz.prog 54 #[.slice a n cap, .int .i64 apart] w (ErrPost (rngsErr apart l) w) := by
  have HR := Lib.hid hr
  have hfew := hr.few
  have HLEN := Lib.hid hr.len
  have HEA := Lib.hid hr.each
  have HBIG : Hid (1000 < n → rngsErr apart l = 2) := fun h => by unfold rngsErr; rw [if_pos (by rw [← HLEN.out]; exact h)]
  have HAT : Hid (n ≤ 1000 → (∀ k, k < n → (∀ j, j < k → rngErr apart l j = 0) → rngErr apart l k ≠ 0 → rngsErr apart l = rngErr apart l k) ∧ ((∀ j, j < n → rngErr apart l j = 0) → rngsErr apart l = 0)) := fun h => by rw [HLEN.out] at h ⊢; exact rngs_at h
  generalize rngsErr apart l = R at HBIG HAT ⊢
  clear hr
  go_enter Tryz.func54, Tryz.ntmps54
  by_cases hbig : 1000 < n
  · obtain rfl : R = 2 := HBIG.out hbig
    have hbI : (1000 : Int) < n := by omega
    clear HBIG HAT
    go_wp2_with fail
    go_ret
    exact ⟨rfl, Below.refl _ _⟩
  have HAT2 := Lib.hid (HAT.out (by omega))
  have hbI : ¬ (1000 : Int) < n := by omega
  have hn1000 : n ≤ 1000 := by omega
  clear HAT HBIG hbig
  go_wp2_with fail
  clear hbI
  go_loopw [14] (fun it wr => ∃ k : Nat, k ≤ n ∧ it = .int .i64 k ∧ Hid (∀ j, j < k → rngErr apart l j = 0) ∧ Hid (Below w.heap.size w wr)) (fun it _ => n - (intOf it).toNat)
  case atStart => exact ⟨0, Nat.zero_le _, rfl, fun j hj => by omega, Below.refl _ _⟩
  case round =>
    obtain ⟨k, hk, rfl, HZ, HB⟩ := hrel
    by_cases hlt : k < n
    · obtain ⟨b, off, rfl, hb, hc⟩ := HR.out.at (by omega)
      have HC := Lib.hid hc
      obtain ⟨g0, g1⟩ := hc k hlt
      have c0 := (HB.out.cell (p := ⟨b, off + k * 2, none⟩) hb).trans g0
      have c1 := (HB.out.cell (p := ⟨b, off + k * 2 + 1, none⟩) hb).trans g1
      obtain ⟨hfl, htl⟩ := HEA.out k (by have := HLEN.out; omega)
      have HER : Hid (rngErr apart l k = if isNumB (l.getD k noRng).f = false ∨ isNumB (l.getD k noRng).t = false ∨ (l.getD k noRng).f.length ≠ (l.getD k noRng).t.length ∨ Op.bytesLess (l.getD k noRng).t (l.getD k noRng).f = true then 3
        else if k = 0 then 0
        else if ¬ ((l.getD (k - 1) noRng).f.length < (l.getD k noRng).f.length ∨ (l.getD (k - 1) noRng).f.length = (l.getD k noRng).f.length ∧ numV (l.getD (k - 1) noRng).f < numV (l.getD k noRng).f) then 7
        else if (l.getD (k - 1) noRng).f.length = (l.getD k noRng).f.length ∧ numV (l.getD k noRng).f ≤ numV (l.getD (k - 1) noRng).t + apart then 13
        else 0) := rfl
      have HSTOP := Lib.hid (HAT2.out.1 k hlt HZ.out)
      have HNEXT : Hid (rngErr apart l k = 0 → ∀ j, j < k + 1 → rngErr apart l j = 0) := fun h j hj => by
        rcases Nat.lt_succ_iff_lt_or_eq.1 hj with h9 | rfl
        · exact HZ.out j h9
        · exact h
      have HPREV : Hid (0 < k → isNumB (l.getD (k - 1) noRng).f = true ∧ isNumB (l.getD (k - 1) noRng).t = true) := fun h => by
        have := rng_right (HZ.out (k - 1) (by omega))
        exact ⟨this.1, this.2.1⟩
      have HCP : Hid (0 < k → w.cell? ⟨b, off + (k - 1) * 2, none⟩ = some (.string ⟨(l.getD (k - 1) noRng).f.toArray⟩) ∧ w.cell? ⟨b, off + (k - 1) * 2 + 1, none⟩ = some (.string ⟨(l.getD (k - 1) noRng).t.toArray⟩)) := fun h => HC.out (k - 1) (by omega)
      have HLP : Hid (0 < k → (l.getD (k - 1) noRng).f.length ≤ 100) := fun h => (HEA.out (k - 1) (by have := HLEN.out; omega)).1
      clear g0 g1 hc HZ HC
      generalize rngErr apart l k = X at HER HSTOP HNEXT
      generalize l.getD k noRng = rk at c0 c1 hfl htl HER
      generalize l.getD (k - 1) noRng = rp at HER HPREV HCP HLP
      obtain ⟨f, t⟩ := rk
      obtain ⟨fp, tp⟩ := rp
      simp only at c0 c1 hfl htl HER HPREV HCP HLP
      as_aux_lemma =>
        go_wp2_with fail
        refine (isNumber_l f _ (by omega)).mono ?_
        rintro e w2 ⟨rfl, hb2⟩
        obtain ⟨qc, qf⟩ := bcell hb2
        have hz2 : wr.heap.size < w2.heap.size := by have := hb2.size; simp at this; omega
        have e0 : w2.cell? ⟨wr.heap.size, 0, none⟩ = some (.string ⟨f.toArray⟩) := (qc _ 0 (by simp)).trans (by go_simp)
        have e1 : w2.cell? ⟨wr.heap.size, 1, none⟩ = some (.string ⟨t.toArray⟩) := (qc _ 1 (by simp)).trans (by go_simp)
        have HB2 : Hid (Below w.heap.size w w2) := ext_trans (ext_alloc HB.out) hb2
        have HTF : Hid (w.heap.size ≤ wr.heap.size) := HB.out.size
        generalize wr.heap.size = T at e0 e1 hz2 HTF ⊢
        clear qc qf hb2 c0 c1
        by_cases hnf : isNumB f = true
        case neg =>
          have hnf' : isNumB f = false := by simpa using hnf
          obtain rfl : X = 3 := by rw [HER.out, if_pos (Or.inl hnf')]
          obtain rfl : R = 3 := HSTOP.out (by decide)
          rw [hnf']
          clear HER HSTOP HNEXT hnf hnf'
          as_aux_lemma =>
            go_wp2_with fail
            go_ret
            exact ⟨rfl, HB2.out⟩
        have HNF := Lib.hid hnf
        rw [hnf]
        clear hnf
        as_aux_lemma =>
          go_wp2_with fail
          refine (isNumber_l t _ (by omega)).mono ?_
          rintro e w3 ⟨rfl, hb3⟩
          obtain ⟨qc, qf⟩ := bcell hb3
          have f0 := (qc _ 0 hz2).trans e0
          have f1 := (qc _ 1 hz2).trans e1
          have hz3 : T < w3.heap.size := Nat.lt_of_lt_of_le hz2 hb3.size
          have HB3 := Lib.hid (ext_trans HB2.out hb3)
          clear qc qf hb3 e0 e1 hz2 HB2
          by_cases hnt : isNumB t = true
          case neg =>
            have hnt' : isNumB t = false := by simpa using hnt
            obtain rfl : X = 3 := by rw [HER.out, if_pos (Or.inr (Or.inl hnt'))]
            obtain rfl : R = 3 := HSTOP.out (by decide)
            rw [hnt']
            clear HER HSTOP HNEXT hnt hnt'
            as_aux_lemma =>
              go_wp2_with fail
              go_ret
              exact ⟨rfl, HB3.out⟩
          have HNT := Lib.hid hnt
          rw [hnt]
          clear hnt
          by_cases hll : f.length = t.length
          case neg =>
            obtain rfl : X = 3 := by rw [HER.out, if_pos (Or.inr (Or.inr (Or.inl hll)))]
            obtain rfl : R = 3 := HSTOP.out (by decide)
            have hlI : ¬ (f.length : Int) = t.length := by omega
            clear HER HSTOP HNEXT hll
            as_aux_lemma =>
              go_wp2_with fail
              go_ret
              exact ⟨rfl, HB3.out⟩
          have HLL := Lib.hid hll
          have hlI : (f.length : Int) = t.length := by omega
          by_cases hlt2 : Op.bytesLess t f = true
          case pos =>
            obtain rfl : X = 3 := by rw [HER.out, if_pos (Or.inr (Or.inr (Or.inr hlt2)))]
            obtain rfl : R = 3 := HSTOP.out (by decide)
            obtain ⟨hx1, hx2⟩ := less_asym hlt2
            have hx3 : (f == t) = false := beq_eq_false_iff_ne.2 (fun e => hx2 e.symm)
            clear HER HSTOP HNEXT hll hlt2 hx2
            as_aux_lemma =>
              go_wp2_with fail
              go_ret
              exact ⟨rfl, HB3.out⟩
          have hlt3 : Op.bytesLess t f = false := by simpa using hlt2
          have HER2 : Hid (X = if k = 0 then 0
            else if ¬ (fp.length < f.length ∨ fp.length = f.length ∧ numV fp < numV f) then 7
            else if fp.length = f.length ∧ numV f ≤ numV tp + apart then 13
            else 0) := by
            show _ = _
            rw [HER.out, if_neg]
            rintro (h | h | h | h)
            · rw [HNF.out] at h; cases h
            · rw [HNT.out] at h; cases h
            · exact h hll
            · exact hlt2 h
          have HGT : Hid ((!Op.bytesLess f t && !(f == t)) = false) := by
            show _ = _
            cases h9 : (!Op.bytesLess f t && !(f == t)) with
            | false => rfl
            | true => exact absurd h9 (less_fact hlt3)
          clear HER hll hlt2 hlt3
          by_cases hk0 : k = 0
          · subst hk0
            have HX0 := Lib.hid (HNEXT.out HER2.out)
            clear HER2 HNEXT HSTOP HPREV HCP HLP
            as_aux_lemma =>
              have hgt := HGT.out
              go_wp2_with fail
              go_roundw
              case rel => exact ⟨1, by omega, by go_num, HX0.out, HB3.out⟩
              case measure => simp [intOf]; omega
          · obtain ⟨j, rfl⟩ : ∃ j, k = j + 1 := ⟨k - 1, by omega⟩
            obtain ⟨hpf, hpt⟩ := HPREV.out (by omega)
            obtain ⟨g0, g1⟩ := HCP.out (by omega)
            rw [Nat.add_sub_cancel] at g0 g1
            have p0 := (HB3.out.cell (p := ⟨b, off + j * 2, none⟩) hb).trans g0
            have p1 := (HB3.out.cell (p := ⟨b, off + j * 2 + 1, none⟩) hb).trans g1
            have hpl := HLP.out (by omega)
            have HSP := Lib.hid (fun W => spanOf_num fp tp hpf hpt W)
            have HSK := Lib.hid (fun W => spanOf_num f t HNF.out HNT.out W)
            have hbp1 := num_bound hpf
            have hbp2 := num_bound hpt
            have hbf := num_bound HNF.out
            have hjn : j < n := by omega
            have HER3 : Hid (X = if ¬ (fp.length < f.length ∨ fp.length = f.length ∧ numV fp < numV f) then 7
              else if fp.length = f.length ∧ numV f ≤ numV tp + apart then 13
              else 0) := by show _ = _; rw [HER2.out, if_neg hk0]
            clear HER2 g0 g1 HPREV HCP HLP HNF HNT hpf hpt hk0
            generalize numV f = vf at *
            generalize numV fp = vfp at *
            generalize numV tp = vtp at *
            generalize numV t = vt at *
            as_aux_lemma =>
              have hgt := HGT.out
              go_upto_region 9 with (fail)
              clear hgt
              go_cut [7, 8] (fun v7 v8 wx => ∃ B1 B2 : Nat, v7 = .pointer (some ⟨B1, 0, none⟩) ∧ v8 = .pointer (some ⟨B2, 0, none⟩) ∧ B1 < wx.heap.size ∧ B2 < wx.heap.size ∧ Hid (wx.cell? ⟨B1, 0, none⟩ = some (.int .i64 ((fp.length : Int) - 1)) ∧ wx.cell? ⟨B1, 1, none⟩ = some (.int .i64 vfp) ∧ wx.cell? ⟨B1, 2, none⟩ = some (.int .i64 vtp) ∧ wx.cell? ⟨B2, 0, none⟩ = some (.int .i64 ((f.length : Int) - 1)) ∧ wx.cell? ⟨B2, 1, none⟩ = some (.int .i64 vf)) ∧ Hid (Below w.heap.size w wx))
              case first =>
                clear HR HEA HAT2 HB HSTOP HNEXT HER3 HLL HGT hbf hbp1 hbp2 hpl hfl htl
                have HS0 : Hid (Below w3.drew.heap.size w3.drew w3.drew) := Below.refl _ _
                have HB3d : Hid (Below w.heap.size w w3.drew) := HB3.out.drew
                have p0d : w3.drew.cell? ⟨b, off + j * 2, none⟩ = some (.string ⟨fp.toArray⟩) := p0
                have p1d : w3.drew.cell? ⟨b, off + j * 2 + 1, none⟩ = some (.string ⟨tp.toArray⟩) := p1
                have f0d : w3.drew.cell? ⟨T, 0, none⟩ = some (.string ⟨f.toArray⟩) := f0
                have f1d : w3.drew.cell? ⟨T, 1, none⟩ = some (.string ⟨t.toArray⟩) := f1
                have hT2 : T < w3.drew.heap.size := hz3
                have hb9 : b < w3.drew.heap.size := Nat.lt_of_lt_of_le hb HB3.out.size
                have w1 : IntKind.i64.wrap (j : Int) = j := IntWalk.i64_in _ (by omega)
                have w2 : IntKind.i64.wrap ((j : Int) + 1 - 1) = j := by rw [Int.add_sub_cancel]; exact w1
                have w4 : (j : Int) < n := by omega
                have w5 : (0 : Int) ≤ (j : Int) := by omega
                refine wp_region_any rfl ?_
                refine tail_any 10 (by kernel_rfl) 2 10 rfl (Nat.le_refl _) _ _ ?_
                refine wpAny_of_held (S := fun W => Below w3.drew.heap.size w3.drew W) _ _ _ _ ?_
                simp only [List.extract_toArray, List.extract_eq_take_drop, List.drop_zero, Nat.sub_zero, List.take_succ_cons, List.take_zero]
                show wpAnyH _ _ _ _ _ 10 #[false, false, false, false, false, false, false, false, false, false] _ w3.drew
                clear p0 p1 f0 f1 HB3 hz3
                generalize w3.drew = wd at HS0 HB3d p0d p1d f0d f1d hT2 hb9 ⊢
                refine wpAnyH_take (i := 0) (v := .slice (some ⟨b, off, none⟩) n cap) rfl (by kernel_rfl) (by kernel_rfl) (by kernel_rfl) (fun _ _ _ h => h) (Or.inl ⟨rfl, fun W hW => by go_simp⟩) HS0.out ?_
                simp only [Act.put, List.getElem_toArray, List.getElem_cons_succ, List.getElem_cons_zero, List.setIfInBounds_toArray, List.set_cons_zero, List.set_cons_succ]
                refine wpAnyH_take (i := 1) (v := .int .i64 ((j : Int) + 1)) rfl (by kernel_rfl) (by kernel_rfl) (by kernel_rfl) (fun _ _ _ h => h) (Or.inl ⟨rfl, fun W hW => by go_simp⟩) HS0.out ?_
                simp only [Act.put, List.getElem_toArray, List.getElem_cons_succ, List.getElem_cons_zero, List.setIfInBounds_toArray, List.set_cons_zero, List.set_cons_succ]
                refine wpAnyH_take (i := 2) (v := .int .i64 (j : Int)) rfl (by kernel_rfl) (by kernel_rfl) (by kernel_rfl) (fun _ _ _ h => h) (Or.inl ⟨rfl, fun W hW => by go_simp⟩) HS0.out ?_
                simp only [Act.put, List.getElem_toArray, List.getElem_cons_succ, List.getElem_cons_zero, List.setIfInBounds_toArray, List.set_cons_zero, List.set_cons_succ]
                refine wpAnyH_take (i := 3) (v := .pointer (some ⟨b, off + j * 2, none⟩)) rfl (by kernel_rfl) (by kernel_rfl) (by kernel_rfl) (fun _ _ _ h => h) (Or.inl ⟨rfl, fun W hW => by go_simp⟩) HS0.out ?_
                simp only [Act.put, List.getElem_toArray, List.getElem_cons_succ, List.getElem_cons_zero, List.setIfInBounds_toArray, List.set_cons_zero, List.set_cons_succ]
                refine wpAnyH_take (i := 4) (v := .agg #[.string ⟨fp.toArray⟩, .string ⟨tp.toArray⟩]) rfl (by kernel_rfl) (by kernel_rfl) (by kernel_rfl) (fun _ _ _ h => h) (Or.inl ⟨rfl, fun W hW => by have m0 := (hW.cell (p := ⟨b, off + j * 2, none⟩) hb9).trans p0d; have m1 := (hW.cell (p := ⟨b, off + j * 2 + 1, none⟩) hb9).trans p1d; go_simp⟩) HS0.out ?_
                simp only [Act.put, List.getElem_toArray, List.getElem_cons_succ, List.getElem_cons_zero, List.setIfInBounds_toArray, List.set_cons_zero, List.set_cons_succ]
                refine wpAnyH_take (i := 6) (v := .agg #[.string ⟨f.toArray⟩, .string ⟨t.toArray⟩]) rfl (by kernel_rfl) (by kernel_rfl) (by kernel_rfl) (fun _ _ _ h => h) (Or.inl ⟨rfl, fun W hW => by have m0 := (hW.cell (p := ⟨T, 0, none⟩) hT2).trans f0d; have m1 := (hW.cell (p := ⟨T, 1, none⟩) hT2).trans f1d; go_simp⟩) HS0.out ?_
                simp only [Act.put, List.getElem_toArray, List.getElem_cons_succ, List.getElem_cons_zero, List.setIfInBounds_toArray, List.set_cons_zero, List.set_cons_succ]
                clear p0d p1d f0d f1d w1 w2 w4 w5 hT2 hb9
                as_aux_lemma =>
                  refine wpAnyH_all (rs := [5, 8, 9]) (by kernel_rfl) (by simp) (fun i hi => ?_)
                  simp only [List.mem_cons, List.not_mem_nil, or_false] at hi
                  rcases hi with rfl | rfl | rfl
                  · refine op_at rfl rfl (gen_call 71 #[.agg #[.string ⟨fp.toArray⟩, .string ⟨tp.toArray⟩]] (by go_simp) (HSP.out _) ?_)
                    rintro e wy1 ⟨rfl, hy2⟩
                    have HY3 := Lib.hid (ext_trans HS0.out hy2)
                    refine ⟨_, rfl, HY3.out, ?_⟩
                    simp only [Act.put, List.getElem_toArray, List.getElem_cons_succ, List.getElem_cons_zero, List.setIfInBounds_toArray, List.set_cons_zero, List.set_cons_succ]
                    as_aux_lemma =>
                      refine wpAnyH_all (rs := [7, 8, 9]) (by kernel_rfl) (by simp) (fun i hi => ?_)
                      simp only [List.mem_cons, List.not_mem_nil, or_false] at hi
                      rcases hi with rfl | rfl | rfl
                      · refine op_at rfl rfl (gen_call 71 #[.agg #[.string ⟨f.toArray⟩, .string ⟨t.toArray⟩]] (by go_simp) (HSK.out _) ?_)
                        rintro e wy4 ⟨rfl, hy5⟩
                        have HY6 := Lib.hid (ext_trans HY3.out hy5)
                        refine ⟨_, rfl, HY6.out, ?_⟩
                        simp only [Act.put, List.getElem_toArray, List.getElem_cons_succ, List.getElem_cons_zero, List.setIfInBounds_toArray, List.set_cons_zero, List.set_cons_succ]
                        as_aux_lemma =>
                          refine wpAnyH_all (rs := [8, 9]) (by kernel_rfl) (by simp) (fun i hi => ?_)
                          simp only [List.mem_cons, List.not_mem_nil, or_false] at hi
                          rcases hi with rfl | rfl
                          · refine op_at rfl rfl (wp_made (v := .pointer (some ⟨wy4.heap.size, 0, none⟩)) (w' := wy4.alloc (.cells #[.int .i64 0, .int .i64 0, .int .i64 0] 99)) (by go_simp) ⟨ext_alloc HY6.out, ?_⟩)
                            simp only [Act.put, List.getElem_toArray, List.getElem_cons_succ, List.getElem_cons_zero, List.setIfInBounds_toArray, List.set_cons_zero, List.set_cons_succ]
                            have zb11 := heap_alloc_new wy4 (.cells #[.int .i64 0, .int .i64 0, .int .i64 0] 99)
                            have lb12 : wy4.heap.size < (wy4.alloc (.cells #[.int .i64 0, .int .i64 0, .int .i64 0] 99)).heap.size := by simp
                            have HA9 := Lib.hid (ext_alloc (o := .cells #[.int .i64 0, .int .i64 0, .int .i64 0] 99) HY6.out)
                            have hbwy4 : wd.heap.size ≤ wy4.heap.size := HY6.out.size
                            generalize wy4.alloc (.cells #[.int .i64 0, .int .i64 0, .int .i64 0] 99) = wa7 at zb11 lb12 HA9 ⊢
                            as_aux_lemma =>
                              refine wpAnyH_all (rs := [9]) (by kernel_rfl) (by simp) (fun i hi => ?_)
                              obtain rfl := List.mem_singleton.1 hi
                              refine op_at rfl rfl (wp_made (v := .pointer (some ⟨wa7.heap.size, 0, none⟩)) (w' := wa7.alloc (.cells #[.int .i64 0, .int .i64 0, .int .i64 0] 99)) (by go_simp) ⟨ext_alloc HA9.out, ?_⟩)
                              simp only [Act.put, List.getElem_toArray, List.getElem_cons_succ, List.getElem_cons_zero, List.setIfInBounds_toArray, List.set_cons_zero, List.set_cons_succ]
                              have zb17 := heap_alloc_new wa7 (.cells #[.int .i64 0, .int .i64 0, .int .i64 0] 99)
                              have lb18 : wa7.heap.size < (wa7.alloc (.cells #[.int .i64 0, .int .i64 0, .int .i64 0] 99)).heap.size := by simp
                              have HA15 := Lib.hid (ext_alloc (o := .cells #[.int .i64 0, .int .i64 0, .int .i64 0] 99) HA9.out)
                              have zb19 := ((Below.heap_alloc wa7 (.cells #[.int .i64 0, .int .i64 0, .int .i64 0] 99) wy4.heap.size lb12)).trans zb11
                              have lb20 := Nat.lt_trans lb12 lb18
                              have hne : wy4.heap.size ≠ wa7.heap.size := Nat.ne_of_lt lb12
                              have hbwa7 : wd.heap.size ≤ wa7.heap.size := HA9.out.size
                              generalize wa7.alloc (.cells #[.int .i64 0, .int .i64 0, .int .i64 0] 99) = wa13 at zb17 lb18 HA15 zb19 lb20 ⊢
                              as_aux_lemma =>
                                refine ⟨by kernel_rfl, ?_⟩
                                refine toTail_of (L := []) _ (two_guards rfl rfl) _ _ ?_
                                refine wpList_store_mid rfl 99 (.tmp 7) (.tmp 52) rfl wy4.heap.size 0 #[.int .i64 ((fp.length : Int) - 1), .int .i64 vfp, .int .i64 vtp] rfl rfl (box3 zb19) Tryz.spanSize (by simp [Value.oneCell']) ?_
                                refine wpList_store_mid rfl 99 (.tmp 8) (.tmp 54) rfl wa7.heap.size 0 #[.int .i64 ((f.length : Int) - 1), .int .i64 vf, .int .i64 vt] rfl rfl (World.there_setCells (box3 zb17) _ _ _) Tryz.spanSize (by simp [Value.oneCell']) ?_
                                have HF := Lib.hid (spans_end wa13 wy4.heap.size wa7.heap.size hne (box3 zb19) (box3 zb17) [.int .i64 ((fp.length : Int) - 1), .int .i64 vfp, .int .i64 vtp] [.int .i64 ((f.length : Int) - 1), .int .i64 vf, .int .i64 vt] rfl rfl)
                                have HB9 := Lib.hid (setCells_ext (B := wa7.heap.size) hbwa7 [.int .i64 ((f.length : Int) - 1), .int .i64 vf, .int .i64 vt] _ 0 (setCells_ext (B := wy4.heap.size) hbwy4 [.int .i64 ((fp.length : Int) - 1), .int .i64 vfp, .int .i64 vtp] _ 0 HA15.out))
                                have l1 := Nat.lt_of_lt_of_le lb20 (setCells_size wa13 wy4.heap.size wa7.heap.size 0 0 [.int .i64 ((fp.length : Int) - 1), .int .i64 vfp, .int .i64 vtp] [.int .i64 ((f.length : Int) - 1), .int .i64 vf, .int .i64 vt])
                                have l2 := Nat.lt_of_lt_of_le lb18 (setCells_size wa13 wy4.heap.size wa7.heap.size 0 0 [.int .i64 ((fp.length : Int) - 1), .int .i64 vfp, .int .i64 vtp] [.int .i64 ((f.length : Int) - 1), .int .i64 vf, .int .i64 vt])
                                show wpList _ _ _ [] _ ((World.setCells wa13 wy4.heap.size 0 [.int .i64 ((fp.length : Int) - 1), .int .i64 vfp, .int .i64 vtp]).setCells wa7.heap.size 0 [.int .i64 ((f.length : Int) - 1), .int .i64 vf, .int .i64 vt])
                                generalize (World.setCells wa13 wy4.heap.size 0 [.int .i64 ((fp.length : Int) - 1), .int .i64 vfp, .int .i64 vtp]).setCells wa7.heap.size 0 [.int .i64 ((f.length : Int) - 1), .int .i64 vf, .int .i64 vt] = W9 at HF HB9 l1 l2 ⊢
                                go_wp2_with fail
                                go_meet
                                exact ⟨_, _, rfl, rfl, l1, l2, ⟨HF.out.1 0 _ rfl, HF.out.1 1 _ rfl, HF.out.1 2 _ rfl, HF.out.2 0 _ rfl, HF.out.2 1 _ rfl⟩, HB3d.out.trans (HB9.out.mono HB3d.out.size)⟩
                          · refine op_at rfl rfl (wp_made (v := .pointer (some ⟨wy4.heap.size, 0, none⟩)) (w' := wy4.alloc (.cells #[.int .i64 0, .int .i64 0, .int .i64 0] 99)) (by go_simp) ⟨ext_alloc HY6.out, ?_⟩)
                            simp only [Act.put, List.getElem_toArray, List.getElem_cons_succ, List.getElem_cons_zero, List.setIfInBounds_toArray, List.set_cons_zero, List.set_cons_succ]
                            have zb25 := heap_alloc_new wy4 (.cells #[.int .i64 0, .int .i64 0, .int .i64 0] 99)
                            have lb26 : wy4.heap.size < (wy4.alloc (.cells #[.int .i64 0, .int .i64 0, .int .i64 0] 99)).heap.size := by simp
                            have HA23 := Lib.hid (ext_alloc (o := .cells #[.int .i64 0, .int .i64 0, .int .i64 0] 99) HY6.out)
                            have hbwy4 : wd.heap.size ≤ wy4.heap.size := HY6.out.size
                            generalize wy4.alloc (.cells #[.int .i64 0, .int .i64 0, .int .i64 0] 99) = wa21 at zb25 lb26 HA23 ⊢
                            as_aux_lemma =>
                              refine wpAnyH_all (rs := [8]) (by kernel_rfl) (by simp) (fun i hi => ?_)
                              obtain rfl := List.mem_singleton.1 hi
                              refine op_at rfl rfl (wp_made (v := .pointer (some ⟨wa21.heap.size, 0, none⟩)) (w' := wa21.alloc (.cells #[.int .i64 0, .int .i64 0, .int .i64 0] 99)) (by go_simp) ⟨ext_alloc HA23.out, ?_⟩)
                              simp only [Act.put, List.getElem_toArray, List.getElem_cons_succ, List.getElem_cons_zero, List.setIfInBounds_toArray, List.set_cons_zero, List.set_cons_succ]
                              have zb31 := heap_alloc_new wa21 (.cells #[.int .i64 0, .int .i64 0, .int .i64 0] 99)
                              have lb32 : wa21.heap.size < (wa21.alloc (.cells #[.int .i64 0, .int .i64 0, .int .i64 0] 99)).heap.size := by simp
                              have HA29 := Lib.hid (ext_alloc (o := .cells #[.int .i64 0, .int .i64 0, .int .i64 0] 99) HA23.out)
                              have zb33 := ((Below.heap_alloc wa21 (.cells #[.int .i64 0, .int .i64 0, .int .i64 0] 99) wy4.heap.size lb26)).trans zb25
                              have lb34 := Nat.lt_trans lb26 lb32
                              have hne : wa21.heap.size ≠ wy4.heap.size := Nat.ne_of_gt lb26
                              have hbwa21 : wd.heap.size ≤ wa21.heap.size := HA23.out.size
                              generalize wa21.alloc (.cells #[.int .i64 0, .int .i64 0, .int .i64 0] 99) = wa27 at zb31 lb32 HA29 zb33 lb34 ⊢
                              as_aux_lemma =>
                                refine ⟨by kernel_rfl, ?_⟩
                                refine toTail_of (L := []) _ (two_guards rfl rfl) _ _ ?_
                                refine wpList_store_mid rfl 99 (.tmp 7) (.tmp 52) rfl wa21.heap.size 0 #[.int .i64 ((fp.length : Int) - 1), .int .i64 vfp, .int .i64 vtp] rfl rfl (box3 zb31) Tryz.spanSize (by simp [Value.oneCell']) ?_
                                refine wpList_store_mid rfl 99 (.tmp 8) (.tmp 54) rfl wy4.heap.size 0 #[.int .i64 ((f.length : Int) - 1), .int .i64 vf, .int .i64 vt] rfl rfl (World.there_setCells (box3 zb33) _ _ _) Tryz.spanSize (by simp [Value.oneCell']) ?_
                                have HF := Lib.hid (spans_end wa27 wa21.heap.size wy4.heap.size hne (box3 zb31) (box3 zb33) [.int .i64 ((fp.length : Int) - 1), .int .i64 vfp, .int .i64 vtp] [.int .i64 ((f.length : Int) - 1), .int .i64 vf, .int .i64 vt] rfl rfl)
                                have HB9 := Lib.hid (setCells_ext (B := wy4.heap.size) hbwy4 [.int .i64 ((f.length : Int) - 1), .int .i64 vf, .int .i64 vt] _ 0 (setCells_ext (B := wa21.heap.size) hbwa21 [.int .i64 ((fp.length : Int) - 1), .int .i64 vfp, .int .i64 vtp] _ 0 HA29.out))
                                have l1 := Nat.lt_of_lt_of_le lb32 (setCells_size wa27 wa21.heap.size wy4.heap.size 0 0 [.int .i64 ((fp.length : Int) - 1), .int .i64 vfp, .int .i64 vtp] [.int .i64 ((f.length : Int) - 1), .int .i64 vf, .int .i64 vt])
                                have l2 := Nat.lt_of_lt_of_le lb34 (setCells_size wa27 wa21.heap.size wy4.heap.size 0 0 [.int .i64 ((fp.length : Int) - 1), .int .i64 vfp, .int .i64 vtp] [.int .i64 ((f.length : Int) - 1), .int .i64 vf, .int .i64 vt])
                                show wpList _ _ _ [] _ ((World.setCells wa27 wa21.heap.size 0 [.int .i64 ((fp.length : Int) - 1), .int .i64 vfp, .int .i64 vtp]).setCells wy4.heap.size 0 [.int .i64 ((f.length : Int) - 1), .int .i64 vf, .int .i64 vt])
                                generalize (World.setCells wa27 wa21.heap.size 0 [.int .i64 ((fp.length : Int) - 1), .int .i64 vfp, .int .i64 vtp]).setCells wy4.heap.size 0 [.int .i64 ((f.length : Int) - 1), .int .i64 vf, .int .i64 vt] = W9 at HF HB9 l1 l2 ⊢
                                go_wp2_with fail
                                go_meet
                                exact ⟨_, _, rfl, rfl, l1, l2, ⟨HF.out.1 0 _ rfl, HF.out.1 1 _ rfl, HF.out.1 2 _ rfl, HF.out.2 0 _ rfl, HF.out.2 1 _ rfl⟩, HB3d.out.trans (HB9.out.mono HB3d.out.size)⟩
                      · refine op_at rfl rfl (wp_made (v := .pointer (some ⟨wy1.heap.size, 0, none⟩)) (w' := wy1.alloc (.cells #[.int .i64 0, .int .i64 0, .int .i64 0] 99)) (by go_simp) ⟨ext_alloc HY3.out, ?_⟩)
                        simp only [Act.put, List.getElem_toArray, List.getElem_cons_succ, List.getElem_cons_zero, List.setIfInBounds_toArray, List.set_cons_zero, List.set_cons_succ]
                        have zb39 := heap_alloc_new wy1 (.cells #[.int .i64 0, .int .i64 0, .int .i64 0] 99)
                        have lb40 : wy1.heap.size < (wy1.alloc (.cells #[.int .i64 0, .int .i64 0, .int .i64 0] 99)).heap.size := by simp
                        have HA37 := Lib.hid (ext_alloc (o := .cells #[.int .i64 0, .int .i64 0, .int .i64 0] 99) HY3.out)
                        have hbwy1 : wd.heap.size ≤ wy1.heap.size := HY3.out.size
                        generalize wy1.alloc (.cells #[.int .i64 0, .int .i64 0, .int .i64 0] 99) = wa35 at zb39 lb40 HA37 ⊢
                        as_aux_lemma =>
                          refine wpAnyH_all (rs := [7, 9]) (by kernel_rfl) (by simp) (fun i hi => ?_)
                          simp only [List.mem_cons, List.not_mem_nil, or_false] at hi
                          rcases hi with rfl | rfl
                          · refine op_at rfl rfl (gen_call 71 #[.agg #[.string ⟨f.toArray⟩, .string ⟨t.toArray⟩]] (by go_simp) (HSK.out _) ?_)
                            rintro e wy41 ⟨rfl, hy42⟩
                            have HY43 := Lib.hid (ext_trans HA37.out hy42)
                            have zb44 := (hy42.block wy1.heap.size lb40).trans zb39
                            have lb45 := Nat.lt_of_lt_of_le lb40 hy42.size
                            refine ⟨_, rfl, HY43.out, ?_⟩
                            simp only [Act.put, List.getElem_toArray, List.getElem_cons_succ, List.getElem_cons_zero, List.setIfInBounds_toArray, List.set_cons_zero, List.set_cons_succ]
                            as_aux_lemma =>
                              refine wpAnyH_all (rs := [9]) (by kernel_rfl) (by simp) (fun i hi => ?_)
                              obtain rfl := List.mem_singleton.1 hi
                              refine op_at rfl rfl (wp_made (v := .pointer (some ⟨wy41.heap.size, 0, none⟩)) (w' := wy41.alloc (.cells #[.int .i64 0, .int .i64 0, .int .i64 0] 99)) (by go_simp) ⟨ext_alloc HY43.out, ?_⟩)
                              simp only [Act.put, List.getElem_toArray, List.getElem_cons_succ, List.getElem_cons_zero, List.setIfInBounds_toArray, List.set_cons_zero, List.set_cons_succ]
                              have zb50 := heap_alloc_new wy41 (.cells #[.int .i64 0, .int .i64 0, .int .i64 0] 99)
                              have lb51 : wy41.heap.size < (wy41.alloc (.cells #[.int .i64 0, .int .i64 0, .int .i64 0] 99)).heap.size := by simp
                              have HA48 := Lib.hid (ext_alloc (o := .cells #[.int .i64 0, .int .i64 0, .int .i64 0] 99) HY43.out)
                              have zb52 := ((Below.heap_alloc wy41 (.cells #[.int .i64 0, .int .i64 0, .int .i64 0] 99) wy1.heap.size lb45)).trans zb44
                              have lb53 := Nat.lt_trans lb45 lb51
                              have hne : wy1.heap.size ≠ wy41.heap.size := Nat.ne_of_lt lb45
                              have hbwy41 : wd.heap.size ≤ wy41.heap.size := HY43.out.size
                              generalize wy41.alloc (.cells #[.int .i64 0, .int .i64 0, .int .i64 0] 99) = wa46 at zb50 lb51 HA48 zb52 lb53 ⊢
                              as_aux_lemma =>
                                refine ⟨by kernel_rfl, ?_⟩
                                refine toTail_of (L := []) _ (two_guards rfl rfl) _ _ ?_
                                refine wpList_store_mid rfl 99 (.tmp 7) (.tmp 52) rfl wy1.heap.size 0 #[.int .i64 ((fp.length : Int) - 1), .int .i64 vfp, .int .i64 vtp] rfl rfl (box3 zb52) Tryz.spanSize (by simp [Value.oneCell']) ?_
                                refine wpList_store_mid rfl 99 (.tmp 8) (.tmp 54) rfl wy41.heap.size 0 #[.int .i64 ((f.length : Int) - 1), .int .i64 vf, .int .i64 vt] rfl rfl (World.there_setCells (box3 zb50) _ _ _) Tryz.spanSize (by simp [Value.oneCell']) ?_
                                have HF := Lib.hid (spans_end wa46 wy1.heap.size wy41.heap.size hne (box3 zb52) (box3 zb50) [.int .i64 ((fp.length : Int) - 1), .int .i64 vfp, .int .i64 vtp] [.int .i64 ((f.length : Int) - 1), .int .i64 vf, .int .i64 vt] rfl rfl)
                                have HB9 := Lib.hid (setCells_ext (B := wy41.heap.size) hbwy41 [.int .i64 ((f.length : Int) - 1), .int .i64 vf, .int .i64 vt] _ 0 (setCells_ext (B := wy1.heap.size) hbwy1 [.int .i64 ((fp.length : Int) - 1), .int .i64 vfp, .int .i64 vtp] _ 0 HA48.out))
                                have l1 := Nat.lt_of_lt_of_le lb53 (setCells_size wa46 wy1.heap.size wy41.heap.size 0 0 [.int .i64 ((fp.length : Int) - 1), .int .i64 vfp, .int .i64 vtp] [.int .i64 ((f.length : Int) - 1), .int .i64 vf, .int .i64 vt])
                                have l2 := Nat.lt_of_lt_of_le lb51 (setCells_size wa46 wy1.heap.size wy41.heap.size 0 0 [.int .i64 ((fp.length : Int) - 1), .int .i64 vfp, .int .i64 vtp] [.int .i64 ((f.length : Int) - 1), .int .i64 vf, .int .i64 vt])
                                show wpList _ _ _ [] _ ((World.setCells wa46 wy1.heap.size 0 [.int .i64 ((fp.length : Int) - 1), .int .i64 vfp, .int .i64 vtp]).setCells wy41.heap.size 0 [.int .i64 ((f.length : Int) - 1), .int .i64 vf, .int .i64 vt])
                                generalize (World.setCells wa46 wy1.heap.size 0 [.int .i64 ((fp.length : Int) - 1), .int .i64 vfp, .int .i64 vtp]).setCells wy41.heap.size 0 [.int .i64 ((f.length : Int) - 1), .int .i64 vf, .int .i64 vt] = W9 at HF HB9 l1 l2 ⊢
                                go_wp2_with fail
                                go_meet
                                exact ⟨_, _, rfl, rfl, l1, l2, ⟨HF.out.1 0 _ rfl, HF.out.1 1 _ rfl, HF.out.1 2 _ rfl, HF.out.2 0 _ rfl, HF.out.2 1 _ rfl⟩, HB3d.out.trans (HB9.out.mono HB3d.out.size)⟩
                          · refine op_at rfl rfl (wp_made (v := .pointer (some ⟨wa35.heap.size, 0, none⟩)) (w' := wa35.alloc (.cells #[.int .i64 0, .int .i64 0, .int .i64 0] 99)) (by go_simp) ⟨ext_alloc HA37.out, ?_⟩)
                            simp only [Act.put, List.getElem_toArray, List.getElem_cons_succ, List.getElem_cons_zero, List.setIfInBounds_toArray, List.set_cons_zero, List.set_cons_succ]
                            have zb58 := heap_alloc_new wa35 (.cells #[.int .i64 0, .int .i64 0, .int .i64 0] 99)
                            have lb59 : wa35.heap.size < (wa35.alloc (.cells #[.int .i64 0, .int .i64 0, .int .i64 0] 99)).heap.size := by simp
                            have HA56 := Lib.hid (ext_alloc (o := .cells #[.int .i64 0, .int .i64 0, .int .i64 0] 99) HA37.out)
                            have zb60 := ((Below.heap_alloc wa35 (.cells #[.int .i64 0, .int .i64 0, .int .i64 0] 99) wy1.heap.size lb40)).trans zb39
                            have lb61 := Nat.lt_trans lb40 lb59
                            have hne : wy1.heap.size ≠ wa35.heap.size := Nat.ne_of_lt lb40
                            have hbwa35 : wd.heap.size ≤ wa35.heap.size := HA37.out.size
                            generalize wa35.alloc (.cells #[.int .i64 0, .int .i64 0, .int .i64 0] 99) = wa54 at zb58 lb59 HA56 zb60 lb61 ⊢
                            as_aux_lemma =>
                              refine wpAnyH_all (rs := [7]) (by kernel_rfl) (by simp) (fun i hi => ?_)
                              obtain rfl := List.mem_singleton.1 hi
                              refine op_at rfl rfl (gen_call 71 #[.agg #[.string ⟨f.toArray⟩, .string ⟨t.toArray⟩]] (by go_simp) (HSK.out _) ?_)
                              rintro e wy62 ⟨rfl, hy63⟩
                              have HY64 := Lib.hid (ext_trans HA56.out hy63)
                              have zb65 := (hy63.block wy1.heap.size lb61).trans zb60
                              have lb66 := Nat.lt_of_lt_of_le lb61 hy63.size
                              have zb67 := (hy63.block wa35.heap.size lb59).trans zb58
                              have lb68 := Nat.lt_of_lt_of_le lb59 hy63.size
                              refine ⟨_, rfl, HY64.out, ?_⟩
                              simp only [Act.put, List.getElem_toArray, List.getElem_cons_succ, List.getElem_cons_zero, List.setIfInBounds_toArray, List.set_cons_zero, List.set_cons_succ]
                              as_aux_lemma =>
                                refine ⟨by kernel_rfl, ?_⟩
                                refine toTail_of (L := []) _ (two_guards rfl rfl) _ _ ?_
                                refine wpList_store_mid rfl 99 (.tmp 7) (.tmp 52) rfl wy1.heap.size 0 #[.int .i64 ((fp.length : Int) - 1), .int .i64 vfp, .int .i64 vtp] rfl rfl (box3 zb65) Tryz.spanSize (by simp [Value.oneCell']) ?_
                                refine wpList_store_mid rfl 99 (.tmp 8) (.tmp 54) rfl wa35.heap.size 0 #[.int .i64 ((f.length : Int) - 1), .int .i64 vf, .int .i64 vt] rfl rfl (World.there_setCells (box3 zb67) _ _ _) Tryz.spanSize (by simp [Value.oneCell']) ?_
                                have HF := Lib.hid (spans_end wy62 wy1.heap.size wa35.heap.size hne (box3 zb65) (box3 zb67) [.int .i64 ((fp.length : Int) - 1), .int .i64 vfp, .int .i64 vtp] [.int .i64 ((f.length : Int) - 1), .int .i64 vf, .int .i64 vt] rfl rfl)
                                have HB9 := Lib.hid (setCells_ext (B := wa35.heap.size) hbwa35 [.int .i64 ((f.length : Int) - 1), .int .i64 vf, .int .i64 vt] _ 0 (setCells_ext (B := wy1.heap.size) hbwy1 [.int .i64 ((fp.length : Int) - 1), .int .i64 vfp, .int .i64 vtp] _ 0 HY64.out))
                                have l1 := Nat.lt_of_lt_of_le lb66 (setCells_size wy62 wy1.heap.size wa35.heap.size 0 0 [.int .i64 ((fp.length : Int) - 1), .int .i64 vfp, .int .i64 vtp] [.int .i64 ((f.length : Int) - 1), .int .i64 vf, .int .i64 vt])
                                have l2 := Nat.lt_of_lt_of_le lb68 (setCells_size wy62 wy1.heap.size wa35.heap.size 0 0 [.int .i64 ((fp.length : Int) - 1), .int .i64 vfp, .int .i64 vtp] [.int .i64 ((f.length : Int) - 1), .int .i64 vf, .int .i64 vt])
                                show wpList _ _ _ [] _ ((World.setCells wy62 wy1.heap.size 0 [.int .i64 ((fp.length : Int) - 1), .int .i64 vfp, .int .i64 vtp]).setCells wa35.heap.size 0 [.int .i64 ((f.length : Int) - 1), .int .i64 vf, .int .i64 vt])
                                generalize (World.setCells wy62 wy1.heap.size 0 [.int .i64 ((fp.length : Int) - 1), .int .i64 vfp, .int .i64 vtp]).setCells wa35.heap.size 0 [.int .i64 ((f.length : Int) - 1), .int .i64 vf, .int .i64 vt] = W9 at HF HB9 l1 l2 ⊢
                                go_wp2_with fail
                                go_meet
                                exact ⟨_, _, rfl, rfl, l1, l2, ⟨HF.out.1 0 _ rfl, HF.out.1 1 _ rfl, HF.out.1 2 _ rfl, HF.out.2 0 _ rfl, HF.out.2 1 _ rfl⟩, HB3d.out.trans (HB9.out.mono HB3d.out.size)⟩
                      · refine op_at rfl rfl (wp_made (v := .pointer (some ⟨wy1.heap.size, 0, none⟩)) (w' := wy1.alloc (.cells #[.int .i64 0, .int .i64 0, .int .i64 0] 99)) (by go_simp) ⟨ext_alloc HY3.out, ?_⟩)
                        simp only [Act.put, List.getElem_toArray, List.getElem_cons_succ, List.getElem_cons_zero, List.setIfInBounds_toArray, List.set_cons_zero, List.set_cons_succ]
                        have zb73 := heap_alloc_new wy1 (.cells #[.int .i64 0, .int .i64 0, .int .i64 0] 99)
                        have lb74 : wy1.heap.size < (wy1.alloc (.cells #[.int .i64 0, .int .i64 0, .int .i64 0] 99)).heap.size := by simp
                        have HA71 := Lib.hid (ext_alloc (o := .cells #[.int .i64 0, .int .i64 0, .int .i64 0] 99) HY3.out)
                        have hbwy1 : wd.heap.size ≤ wy1.heap.size := HY3.out.size
                        generalize wy1.alloc (.cells #[.int .i64 0, .int .i64 0, .int .i64 0] 99) = wa69 at zb73 lb74 HA71 ⊢
                        as_aux_lemma =>
                          refine wpAnyH_all (rs := [7, 8]) (by kernel_rfl) (by simp) (fun i hi => ?_)
                          simp only [List.mem_cons, List.not_mem_nil, or_false] at hi
                          rcases hi with rfl | rfl
                          · refine op_at rfl rfl (gen_call 71 #[.agg #[.string ⟨f.toArray⟩, .string ⟨t.toArray⟩]] (by go_simp) (HSK.out _) ?_)
                            rintro e wy75 ⟨rfl, hy76⟩
                            have HY77 := Lib.hid (ext_trans HA71.out hy76)
                            have zb78 := (hy76.block wy1.heap.size lb74).trans zb73
                            have lb79 := Nat.lt_of_lt_of_le lb74 hy76.size
                            refine ⟨_, rfl, HY77.out, ?_⟩
                            simp only [Act.put, List.getElem_toArray, List.getElem_cons_succ, List.getElem_cons_zero, List.setIfInBounds_toArray, List.set_cons_zero, List.set_cons_succ]
                            as_aux_lemma =>
                              refine wpAnyH_all (rs := [8]) (by kernel_rfl) (by simp) (fun i hi => ?_)
                              obtain rfl := List.mem_singleton.1 hi
                              refine op_at rfl rfl (wp_made (v := .pointer (some ⟨wy75.heap.size, 0, none⟩)) (w' := wy75.alloc (.cells #[.int .i64 0, .int .i64 0, .int .i64 0] 99)) (by go_simp) ⟨ext_alloc HY77.out, ?_⟩)
                              simp only [Act.put, List.getElem_toArray, List.getElem_cons_succ, List.getElem_cons_zero, List.setIfInBounds_toArray, List.set_cons_zero, List.set_cons_succ]
                              have zb84 := heap_alloc_new wy75 (.cells #[.int .i64 0, .int .i64 0, .int .i64 0] 99)
                              have lb85 : wy75.heap.size < (wy75.alloc (.cells #[.int .i64 0, .int .i64 0, .int .i64 0] 99)).heap.size := by simp
                              have HA82 := Lib.hid (ext_alloc (o := .cells #[.int .i64 0, .int .i64 0, .int .i64 0] 99) HY77.out)
                              have zb86 := ((Below.heap_alloc wy75 (.cells #[.int .i64 0, .int .i64 0, .int .i64 0] 99) wy1.heap.size lb79)).trans zb78
                              have lb87 := Nat.lt_trans lb79 lb85
                              have hne : wy75.heap.size ≠ wy1.heap.size := Nat.ne_of_gt lb79
                              have hbwy75 : wd.heap.size ≤ wy75.heap.size := HY77.out.size
                              generalize wy75.alloc (.cells #[.int .i64 0, .int .i64 0, .int .i64 0] 99) = wa80 at zb84 lb85 HA82 zb86 lb87 ⊢
                              as_aux_lemma =>
                                refine ⟨by kernel_rfl, ?_⟩
                                refine toTail_of (L := []) _ (two_guards rfl rfl) _ _ ?_
                                refine wpList_store_mid rfl 99 (.tmp 7) (.tmp 52) rfl wy75.heap.size 0 #[.int .i64 ((fp.length : Int) - 1), .int .i64 vfp, .int .i64 vtp] rfl rfl (box3 zb84) Tryz.spanSize (by simp [Value.oneCell']) ?_
                                refine wpList_store_mid rfl 99 (.tmp 8) (.tmp 54) rfl wy1.heap.size 0 #[.int .i64 ((f.length : Int) - 1), .int .i64 vf, .int .i64 vt] rfl rfl (World.there_setCells (box3 zb86) _ _ _) Tryz.spanSize (by simp [Value.oneCell']) ?_
                                have HF := Lib.hid (spans_end wa80 wy75.heap.size wy1.heap.size hne (box3 zb84) (box3 zb86) [.int .i64 ((fp.length : Int) - 1), .int .i64 vfp, .int .i64 vtp] [.int .i64 ((f.length : Int) - 1), .int .i64 vf, .int .i64 vt] rfl rfl)
                                have HB9 := Lib.hid (setCells_ext (B := wy1.heap.size) hbwy1 [.int .i64 ((f.length : Int) - 1), .int .i64 vf, .int .i64 vt] _ 0 (setCells_ext (B := wy75.heap.size) hbwy75 [.int .i64 ((fp.length : Int) - 1), .int .i64 vfp, .int .i64 vtp] _ 0 HA82.out))
                                have l1 := Nat.lt_of_lt_of_le lb85 (setCells_size wa80 wy75.heap.size wy1.heap.size 0 0 [.int .i64 ((fp.length : Int) - 1), .int .i64 vfp, .int .i64 vtp] [.int .i64 ((f.length : Int) - 1), .int .i64 vf, .int .i64 vt])
                                have l2 := Nat.lt_of_lt_of_le lb87 (setCells_size wa80 wy75.heap.size wy1.heap.size 0 0 [.int .i64 ((fp.length : Int) - 1), .int .i64 vfp, .int .i64 vtp] [.int .i64 ((f.length : Int) - 1), .int .i64 vf, .int .i64 vt])
                                show wpList _ _ _ [] _ ((World.setCells wa80 wy75.heap.size 0 [.int .i64 ((fp.length : Int) - 1), .int .i64 vfp, .int .i64 vtp]).setCells wy1.heap.size 0 [.int .i64 ((f.length : Int) - 1), .int .i64 vf, .int .i64 vt])
                                generalize (World.setCells wa80 wy75.heap.size 0 [.int .i64 ((fp.length : Int) - 1), .int .i64 vfp, .int .i64 vtp]).setCells wy1.heap.size 0 [.int .i64 ((f.length : Int) - 1), .int .i64 vf, .int .i64 vt] = W9 at HF HB9 l1 l2 ⊢
                                go_wp2_with fail
                                go_meet
                                exact ⟨_, _, rfl, rfl, l1, l2, ⟨HF.out.1 0 _ rfl, HF.out.1 1 _ rfl, HF.out.1 2 _ rfl, HF.out.2 0 _ rfl, HF.out.2 1 _ rfl⟩, HB3d.out.trans (HB9.out.mono HB3d.out.size)⟩
                          · refine op_at rfl rfl (wp_made (v := .pointer (some ⟨wa69.heap.size, 0, none⟩)) (w' := wa69.alloc (.cells #[.int .i64 0, .int .i64 0, .int .i64 0] 99)) (by go_simp) ⟨ext_alloc HA71.out, ?_⟩)
                            simp only [Act.put, List.getElem_toArray, List.getElem_cons_succ, List.getElem_cons_zero, List.setIfInBounds_toArray, List.set_cons_zero, List.set_cons_succ]
                            have zb92 := heap_alloc_new wa69 (.cells #[.int .i64 0, .int .i64 0, .int .i64 0] 99)
                            have lb93 : wa69.heap.size < (wa69.alloc (.cells #[.int .i64 0, .int .i64 0, .int .i64 0] 99)).heap.size := by simp
                            have HA90 := Lib.hid (ext_alloc (o := .cells #[.int .i64 0, .int .i64 0, .int .i64 0] 99) HA71.out)
                            have zb94 := ((Below.heap_alloc wa69 (.cells #[.int .i64 0, .int .i64 0, .int .i64 0] 99) wy1.heap.size lb74)).trans zb73
                            have lb95 := Nat.lt_trans lb74 lb93
                            have hne : wa69.heap.size ≠ wy1.heap.size := Nat.ne_of_gt lb74
                            have hbwa69 : wd.heap.size ≤ wa69.heap.size := HA71.out.size
                            generalize wa69.alloc (.cells #[.int .i64 0, .int .i64 0, .int .i64 0] 99) = wa88 at zb92 lb93 HA90 zb94 lb95 ⊢
                            as_aux_lemma =>
                              refine wpAnyH_all (rs := [7]) (by kernel_rfl) (by simp) (fun i hi => ?_)
                              obtain rfl := List.mem_singleton.1 hi
                              refine op_at rfl rfl (gen_call 71 #[.agg #[.string ⟨f.toArray⟩, .string ⟨t.toArray⟩]] (by go_simp) (HSK.out _) ?_)
                              rintro e wy96 ⟨rfl, hy97⟩
                              have HY98 := Lib.hid (ext_trans HA90.out hy97)
                              have zb99 := (hy97.block wa69.heap.size lb93).trans zb92
                              have lb100 := Nat.lt_of_lt_of_le lb93 hy97.size
                              have zb101 := (hy97.block wy1.heap.size lb95).trans zb94
                              have lb102 := Nat.lt_of_lt_of_le lb95 hy97.size
                              refine ⟨_, rfl, HY98.out, ?_⟩
                              simp only [Act.put, List.getElem_toArray, List.getElem_cons_succ, List.getElem_cons_zero, List.setIfInBounds_toArray, List.set_cons_zero, List.set_cons_succ]
                              as_aux_lemma =>
                                refine ⟨by kernel_rfl, ?_⟩
                                refine toTail_of (L := []) _ (two_guards rfl rfl) _ _ ?_
                                refine wpList_store_mid rfl 99 (.tmp 7) (.tmp 52) rfl wa69.heap.size 0 #[.int .i64 ((fp.length : Int) - 1), .int .i64 vfp, .int .i64 vtp] rfl rfl (box3 zb99) Tryz.spanSize (by simp [Value.oneCell']) ?_
                                refine wpList_store_mid rfl 99 (.tmp 8) (.tmp 54) rfl wy1.heap.size 0 #[.int .i64 ((f.length : Int) - 1), .int .i64 vf, .int .i64 vt] rfl rfl (World.there_setCells (box3 zb101) _ _ _) Tryz.spanSize (by simp [Value.oneCell']) ?_
                                have HF := Lib.hid (spans_end wy96 wa69.heap.size wy1.heap.size hne (box3 zb99) (box3 zb101) [.int .i64 ((fp.length : Int) - 1), .int .i64 vfp, .int .i64 vtp] [.int .i64 ((f.length : Int) - 1), .int .i64 vf, .int .i64 vt] rfl rfl)
                                have HB9 := Lib.hid (setCells_ext (B := wy1.heap.size) hbwy1 [.int .i64 ((f.length : Int) - 1), .int .i64 vf, .int .i64 vt] _ 0 (setCells_ext (B := wa69.heap.size) hbwa69 [.int .i64 ((fp.length : Int) - 1), .int .i64 vfp, .int .i64 vtp] _ 0 HY98.out))
                                have l1 := Nat.lt_of_lt_of_le lb100 (setCells_size wy96 wa69.heap.size wy1.heap.size 0 0 [.int .i64 ((fp.length : Int) - 1), .int .i64 vfp, .int .i64 vtp] [.int .i64 ((f.length : Int) - 1), .int .i64 vf, .int .i64 vt])
                                have l2 := Nat.lt_of_lt_of_le lb102 (setCells_size wy96 wa69.heap.size wy1.heap.size 0 0 [.int .i64 ((fp.length : Int) - 1), .int .i64 vfp, .int .i64 vtp] [.int .i64 ((f.length : Int) - 1), .int .i64 vf, .int .i64 vt])
                                show wpList _ _ _ [] _ ((World.setCells wy96 wa69.heap.size 0 [.int .i64 ((fp.length : Int) - 1), .int .i64 vfp, .int .i64 vtp]).setCells wy1.heap.size 0 [.int .i64 ((f.length : Int) - 1), .int .i64 vf, .int .i64 vt])
                                generalize (World.setCells wy96 wa69.heap.size 0 [.int .i64 ((fp.length : Int) - 1), .int .i64 vfp, .int .i64 vtp]).setCells wy1.heap.size 0 [.int .i64 ((f.length : Int) - 1), .int .i64 vf, .int .i64 vt] = W9 at HF HB9 l1 l2 ⊢
                                go_wp2_with fail
                                go_meet
                                exact ⟨_, _, rfl, rfl, l1, l2, ⟨HF.out.1 0 _ rfl, HF.out.1 1 _ rfl, HF.out.1 2 _ rfl, HF.out.2 0 _ rfl, HF.out.2 1 _ rfl⟩, HB3d.out.trans (HB9.out.mono HB3d.out.size)⟩
                  · refine op_at rfl rfl (wp_made (v := .pointer (some ⟨wd.heap.size, 0, none⟩)) (w' := wd.alloc (.cells #[.int .i64 0, .int .i64 0, .int .i64 0] 99)) (by go_simp) ⟨ext_alloc HS0.out, ?_⟩)
                    simp only [Act.put, List.getElem_toArray, List.getElem_cons_succ, List.getElem_cons_zero, List.setIfInBounds_toArray, List.set_cons_zero, List.set_cons_succ]
                    have zb107 := heap_alloc_new wd (.cells #[.int .i64 0, .int .i64 0, .int .i64 0] 99)
                    have lb108 : wd.heap.size < (wd.alloc (.cells #[.int .i64 0, .int .i64 0, .int .i64 0] 99)).heap.size := by simp
                    have HA105 := Lib.hid (ext_alloc (o := .cells #[.int .i64 0, .int .i64 0, .int .i64 0] 99) HS0.out)
                    have hbwd : wd.heap.size ≤ wd.heap.size := HS0.out.size
                    generalize wd.alloc (.cells #[.int .i64 0, .int .i64 0, .int .i64 0] 99) = wa103 at zb107 lb108 HA105 ⊢
                    as_aux_lemma =>
                      refine wpAnyH_all (rs := [5, 9]) (by kernel_rfl) (by simp) (fun i hi => ?_)
                      simp only [List.mem_cons, List.not_mem_nil, or_false] at hi
                      rcases hi with rfl | rfl
                      · refine op_at rfl rfl (gen_call 71 #[.agg #[.string ⟨fp.toArray⟩, .string ⟨tp.toArray⟩]] (by go_simp) (HSP.out _) ?_)
                        rintro e wy109 ⟨rfl, hy110⟩
                        have HY111 := Lib.hid (ext_trans HA105.out hy110)
                        have zb112 := (hy110.block wd.heap.size lb108).trans zb107
                        have lb113 := Nat.lt_of_lt_of_le lb108 hy110.size
                        refine ⟨_, rfl, HY111.out, ?_⟩
                        simp only [Act.put, List.getElem_toArray, List.getElem_cons_succ, List.getElem_cons_zero, List.setIfInBounds_toArray, List.set_cons_zero, List.set_cons_succ]
                        as_aux_lemma =>
                          refine wpAnyH_all (rs := [7, 9]) (by kernel_rfl) (by simp) (fun i hi => ?_)
                          simp only [List.mem_cons, List.not_mem_nil, or_false] at hi
                          rcases hi with rfl | rfl
                          · refine op_at rfl rfl (gen_call 71 #[.agg #[.string ⟨f.toArray⟩, .string ⟨t.toArray⟩]] (by go_simp) (HSK.out _) ?_)
                            rintro e wy114 ⟨rfl, hy115⟩
                            have HY116 := Lib.hid (ext_trans HY111.out hy115)
                            have zb117 := (hy115.block wd.heap.size lb113).trans zb112
                            have lb118 := Nat.lt_of_lt_of_le lb113 hy115.size
                            refine ⟨_, rfl, HY116.out, ?_⟩
                            simp only [Act.put, List.getElem_toArray, List.getElem_cons_succ, List.getElem_cons_zero, List.setIfInBounds_toArray, List.set_cons_zero, List.set_cons_succ]
                            as_aux_lemma =>
                              refine wpAnyH_all (rs := [9]) (by kernel_rfl) (by simp) (fun i hi => ?_)
                              obtain rfl := List.mem_singleton.1 hi
                              refine op_at rfl rfl (wp_made (v := .pointer (some ⟨wy114.heap.size, 0, none⟩)) (w' := wy114.alloc (.cells #[.int .i64 0, .int .i64 0, .int .i64 0] 99)) (by go_simp) ⟨ext_alloc HY116.out, ?_⟩)
                              simp only [Act.put, List.getElem_toArray, List.getElem_cons_succ, List.getElem_cons_zero, List.setIfInBounds_toArray, List.set_cons_zero, List.set_cons_succ]
                              have zb123 := heap_alloc_new wy114 (.cells #[.int .i64 0, .int .i64 0, .int .i64 0] 99)
                              have lb124 : wy114.heap.size < (wy114.alloc (.cells #[.int .i64 0, .int .i64 0, .int .i64 0] 99)).heap.size := by simp
                              have HA121 := Lib.hid (ext_alloc (o := .cells #[.int .i64 0, .int .i64 0, .int .i64 0] 99) HY116.out)
                              have zb125 := ((Below.heap_alloc wy114 (.cells #[.int .i64 0, .int .i64 0, .int .i64 0] 99) wd.heap.size lb118)).trans zb117
                              have lb126 := Nat.lt_trans lb118 lb124
                              have hne : wd.heap.size ≠ wy114.heap.size := Nat.ne_of_lt lb118
                              have hbwy114 : wd.heap.size ≤ wy114.heap.size := HY116.out.size
                              generalize wy114.alloc (.cells #[.int .i64 0, .int .i64 0, .int .i64 0] 99) = wa119 at zb123 lb124 HA121 zb125 lb126 ⊢
                              as_aux_lemma =>
                                refine ⟨by kernel_rfl, ?_⟩
                                refine toTail_of (L := []) _ (two_guards rfl rfl) _ _ ?_
                                refine wpList_store_mid rfl 99 (.tmp 7) (.tmp 52) rfl wd.heap.size 0 #[.int .i64 ((fp.length : Int) - 1), .int .i64 vfp, .int .i64 vtp] rfl rfl (box3 zb125) Tryz.spanSize (by simp [Value.oneCell']) ?_
                                refine wpList_store_mid rfl 99 (.tmp 8) (.tmp 54) rfl wy114.heap.size 0 #[.int .i64 ((f.length : Int) - 1), .int .i64 vf, .int .i64 vt] rfl rfl (World.there_setCells (box3 zb123) _ _ _) Tryz.spanSize (by simp [Value.oneCell']) ?_
                                have HF := Lib.hid (spans_end wa119 wd.heap.size wy114.heap.size hne (box3 zb125) (box3 zb123) [.int .i64 ((fp.length : Int) - 1), .int .i64 vfp, .int .i64 vtp] [.int .i64 ((f.length : Int) - 1), .int .i64 vf, .int .i64 vt] rfl rfl)
                                have HB9 := Lib.hid (setCells_ext (B := wy114.heap.size) hbwy114 [.int .i64 ((f.length : Int) - 1), .int .i64 vf, .int .i64 vt] _ 0 (setCells_ext (B := wd.heap.size) hbwd [.int .i64 ((fp.length : Int) - 1), .int .i64 vfp, .int .i64 vtp] _ 0 HA121.out))
                                have l1 := Nat.lt_of_lt_of_le lb126 (setCells_size wa119 wd.heap.size wy114.heap.size 0 0 [.int .i64 ((fp.length : Int) - 1), .int .i64 vfp, .int .i64 vtp] [.int .i64 ((f.length : Int) - 1), .int .i64 vf, .int .i64 vt])
                                have l2 := Nat.lt_of_lt_of_le lb124 (setCells_size wa119 wd.heap.size wy114.heap.size 0 0 [.int .i64 ((fp.length : Int) - 1), .int .i64 vfp, .int .i64 vtp] [.int .i64 ((f.length : Int) - 1), .int .i64 vf, .int .i64 vt])
                                show wpList _ _ _ [] _ ((World.setCells wa119 wd.heap.size 0 [.int .i64 ((fp.length : Int) - 1), .int .i64 vfp, .int .i64 vtp]).setCells wy114.heap.size 0 [.int .i64 ((f.length : Int) - 1), .int .i64 vf, .int .i64 vt])
                                generalize (World.setCells wa119 wd.heap.size 0 [.int .i64 ((fp.length : Int) - 1), .int .i64 vfp, .int .i64 vtp]).setCells wy114.heap.size 0 [.int .i64 ((f.length : Int) - 1), .int .i64 vf, .int .i64 vt] = W9 at HF HB9 l1 l2 ⊢
                                go_wp2_with fail
                                go_meet
                                exact ⟨_, _, rfl, rfl, l1, l2, ⟨HF.out.1 0 _ rfl, HF.out.1 1 _ rfl, HF.out.1 2 _ rfl, HF.out.2 0 _ rfl, HF.out.2 1 _ rfl⟩, HB3d.out.trans (HB9.out.mono HB3d.out.size)⟩
                          · refine op_at rfl rfl (wp_made (v := .pointer (some ⟨wy109.heap.size, 0, none⟩)) (w' := wy109.alloc (.cells #[.int .i64 0, .int .i64 0, .int .i64 0] 99)) (by go_simp) ⟨ext_alloc HY111.out, ?_⟩)
                            simp only [Act.put, List.getElem_toArray, List.getElem_cons_succ, List.getElem_cons_zero, List.setIfInBounds_toArray, List.set_cons_zero, List.set_cons_succ]
                            have zb131 := heap_alloc_new wy109 (.cells #[.int .i64 0, .int .i64 0, .int .i64 0] 99)
                            have lb132 : wy109.heap.size < (wy109.alloc (.cells #[.int .i64 0, .int .i64 0, .int .i64 0] 99)).heap.size := by simp
                            have HA129 := Lib.hid (ext_alloc (o := .cells #[.int .i64 0, .int .i64 0, .int .i64 0] 99) HY111.out)
                            have zb133 := ((Below.heap_alloc wy109 (.cells #[.int .i64 0, .int .i64 0, .int .i64 0] 99) wd.heap.size lb113)).trans zb112
                            have lb134 := Nat.lt_trans lb113 lb132
                            have hne : wd.heap.size ≠ wy109.heap.size := Nat.ne_of_lt lb113
                            have hbwy109 : wd.heap.size ≤ wy109.heap.size := HY111.out.size
                            generalize wy109.alloc (.cells #[.int .i64 0, .int .i64 0, .int .i64 0] 99) = wa127 at zb131 lb132 HA129 zb133 lb134 ⊢
                            as_aux_lemma =>
                              refine wpAnyH_all (rs := [7]) (by kernel_rfl) (by simp) (fun i hi => ?_)
                              obtain rfl := List.mem_singleton.1 hi
                              refine op_at rfl rfl (gen_call 71 #[.agg #[.string ⟨f.toArray⟩, .string ⟨t.toArray⟩]] (by go_simp) (HSK.out _) ?_)
                              rintro e wy135 ⟨rfl, hy136⟩
                              have HY137 := Lib.hid (ext_trans HA129.out hy136)
                              have zb138 := (hy136.block wd.heap.size lb134).trans zb133
                              have lb139 := Nat.lt_of_lt_of_le lb134 hy136.size
                              have zb140 := (hy136.block wy109.heap.size lb132).trans zb131
                              have lb141 := Nat.lt_of_lt_of_le lb132 hy136.size
                              refine ⟨_, rfl, HY137.out, ?_⟩
                              simp only [Act.put, List.getElem_toArray, List.getElem_cons_succ, List.getElem_cons_zero, List.setIfInBounds_toArray, List.set_cons_zero, List.set_cons_succ]
                              as_aux_lemma =>
                                refine ⟨by kernel_rfl, ?_⟩
                                refine toTail_of (L := []) _ (two_guards rfl rfl) _ _ ?_
                                refine wpList_store_mid rfl 99 (.tmp 7) (.tmp 52) rfl wd.heap.size 0 #[.int .i64 ((fp.length : Int) - 1), .int .i64 vfp, .int .i64 vtp] rfl rfl (box3 zb138) Tryz.spanSize (by simp [Value.oneCell']) ?_
                                refine wpList_store_mid rfl 99 (.tmp 8) (.tmp 54) rfl wy109.heap.size 0 #[.int .i64 ((f.length : Int) - 1), .int .i64 vf, .int .i64 vt] rfl rfl (World.there_setCells (box3 zb140) _ _ _) Tryz.spanSize (by simp [Value.oneCell']) ?_
                                have HF := Lib.hid (spans_end wy135 wd.heap.size wy109.heap.size hne (box3 zb138) (box3 zb140) [.int .i64 ((fp.length : Int) - 1), .int .i64 vfp, .int .i64 vtp] [.int .i64 ((f.length : Int) - 1), .int .i64 vf, .int .i64 vt] rfl rfl)
                                have HB9 := Lib.hid (setCells_ext (B := wy109.heap.size) hbwy109 [.int .i64 ((f.length : Int) - 1), .int .i64 vf, .int .i64 vt] _ 0 (setCells_ext (B := wd.heap.size) hbwd [.int .i64 ((fp.length : Int) - 1), .int .i64 vfp, .int .i64 vtp] _ 0 HY137.out))
                                have l1 := Nat.lt_of_lt_of_le lb139 (setCells_size wy135 wd.heap.size wy109.heap.size 0 0 [.int .i64 ((fp.length : Int) - 1), .int .i64 vfp, .int .i64 vtp] [.int .i64 ((f.length : Int) - 1), .int .i64 vf, .int .i64 vt])
                                have l2 := Nat.lt_of_lt_of_le lb141 (setCells_size wy135 wd.heap.size wy109.heap.size 0 0 [.int .i64 ((fp.length : Int) - 1), .int .i64 vfp, .int .i64 vtp] [.int .i64 ((f.length : Int) - 1), .int .i64 vf, .int .i64 vt])
                                show wpList _ _ _ [] _ ((World.setCells wy135 wd.heap.size 0 [.int .i64 ((fp.length : Int) - 1), .int .i64 vfp, .int .i64 vtp]).setCells wy109.heap.size 0 [.int .i64 ((f.length : Int) - 1), .int .i64 vf, .int .i64 vt])
                                generalize (World.setCells wy135 wd.heap.size 0 [.int .i64 ((fp.length : Int) - 1), .int .i64 vfp, .int .i64 vtp]).setCells wy109.heap.size 0 [.int .i64 ((f.length : Int) - 1), .int .i64 vf, .int .i64 vt] = W9 at HF HB9 l1 l2 ⊢
                                go_wp2_with fail
                                go_meet
                                exact ⟨_, _, rfl, rfl, l1, l2, ⟨HF.out.1 0 _ rfl, HF.out.1 1 _ rfl, HF.out.1 2 _ rfl, HF.out.2 0 _ rfl, HF.out.2 1 _ rfl⟩, HB3d.out.trans (HB9.out.mono HB3d.out.size)⟩
                      · refine op_at rfl rfl (wp_made (v := .pointer (some ⟨wa103.heap.size, 0, none⟩)) (w' := wa103.alloc (.cells #[.int .i64 0, .int .i64 0, .int .i64 0] 99)) (by go_simp) ⟨ext_alloc HA105.out, ?_⟩)
                        simp only [Act.put, List.getElem_toArray, List.getElem_cons_succ, List.getElem_cons_zero, List.setIfInBounds_toArray, List.set_cons_zero, List.set_cons_succ]
                        have zb146 := heap_alloc_new wa103 (.cells #[.int .i64 0, .int .i64 0, .int .i64 0] 99)
                        have lb147 : wa103.heap.size < (wa103.alloc (.cells #[.int .i64 0, .int .i64 0, .int .i64 0] 99)).heap.size := by simp
                        have HA144 := Lib.hid (ext_alloc (o := .cells #[.int .i64 0, .int .i64 0, .int .i64 0] 99) HA105.out)
                        have zb148 := ((Below.heap_alloc wa103 (.cells #[.int .i64 0, .int .i64 0, .int .i64 0] 99) wd.heap.size lb108)).trans zb107
                        have lb149 := Nat.lt_trans lb108 lb147
                        have hne : wd.heap.size ≠ wa103.heap.size := Nat.ne_of_lt lb108
                        have hbwa103 : wd.heap.size ≤ wa103.heap.size := HA105.out.size
                        generalize wa103.alloc (.cells #[.int .i64 0, .int .i64 0, .int .i64 0] 99) = wa142 at zb146 lb147 HA144 zb148 lb149 ⊢
                        as_aux_lemma =>
                          refine wpAnyH_all (rs := [5]) (by kernel_rfl) (by simp) (fun i hi => ?_)
                          obtain rfl := List.mem_singleton.1 hi
                          refine op_at rfl rfl (gen_call 71 #[.agg #[.string ⟨fp.toArray⟩, .string ⟨tp.toArray⟩]] (by go_simp) (HSP.out _) ?_)
                          rintro e wy150 ⟨rfl, hy151⟩
                          have HY152 := Lib.hid (ext_trans HA144.out hy151)
                          have zb153 := (hy151.block wd.heap.size lb149).trans zb148
                          have lb154 := Nat.lt_of_lt_of_le lb149 hy151.size
                          have zb155 := (hy151.block wa103.heap.size lb147).trans zb146
                          have lb156 := Nat.lt_of_lt_of_le lb147 hy151.size
                          refine ⟨_, rfl, HY152.out, ?_⟩
                          simp only [Act.put, List.getElem_toArray, List.getElem_cons_succ, List.getElem_cons_zero, List.setIfInBounds_toArray, List.set_cons_zero, List.set_cons_succ]
                          as_aux_lemma =>
                            refine wpAnyH_all (rs := [7]) (by kernel_rfl) (by simp) (fun i hi => ?_)
                            obtain rfl := List.mem_singleton.1 hi
                            refine op_at rfl rfl (gen_call 71 #[.agg #[.string ⟨f.toArray⟩, .string ⟨t.toArray⟩]] (by go_simp) (HSK.out _) ?_)
                            rintro e wy157 ⟨rfl, hy158⟩
                            have HY159 := Lib.hid (ext_trans HY152.out hy158)
                            have zb160 := (hy158.block wd.heap.size lb154).trans zb153
                            have lb161 := Nat.lt_of_lt_of_le lb154 hy158.size
                            have zb162 := (hy158.block wa103.heap.size lb156).trans zb155
                            have lb163 := Nat.lt_of_lt_of_le lb156 hy158.size
                            refine ⟨_, rfl, HY159.out, ?_⟩
                            simp only [Act.put, List.getElem_toArray, List.getElem_cons_succ, List.getElem_cons_zero, List.setIfInBounds_toArray, List.set_cons_zero, List.set_cons_succ]
                            as_aux_lemma =>
                              refine ⟨by kernel_rfl, ?_⟩
                              refine toTail_of (L := []) _ (two_guards rfl rfl) _ _ ?_
                              refine wpList_store_mid rfl 99 (.tmp 7) (.tmp 52) rfl wd.heap.size 0 #[.int .i64 ((fp.length : Int) - 1), .int .i64 vfp, .int .i64 vtp] rfl rfl (box3 zb160) Tryz.spanSize (by simp [Value.oneCell']) ?_
                              refine wpList_store_mid rfl 99 (.tmp 8) (.tmp 54) rfl wa103.heap.size 0 #[.int .i64 ((f.length : Int) - 1), .int .i64 vf, .int .i64 vt] rfl rfl (World.there_setCells (box3 zb162) _ _ _) Tryz.spanSize (by simp [Value.oneCell']) ?_
                              have HF := Lib.hid (spans_end wy157 wd.heap.size wa103.heap.size hne (box3 zb160) (box3 zb162) [.int .i64 ((fp.length : Int) - 1), .int .i64 vfp, .int .i64 vtp] [.int .i64 ((f.length : Int) - 1), .int .i64 vf, .int .i64 vt] rfl rfl)
                              have HB9 := Lib.hid (setCells_ext (B := wa103.heap.size) hbwa103 [.int .i64 ((f.length : Int) - 1), .int .i64 vf, .int .i64 vt] _ 0 (setCells_ext (B := wd.heap.size) hbwd [.int .i64 ((fp.length : Int) - 1), .int .i64 vfp, .int .i64 vtp] _ 0 HY159.out))
                              have l1 := Nat.lt_of_lt_of_le lb161 (setCells_size wy157 wd.heap.size wa103.heap.size 0 0 [.int .i64 ((fp.length : Int) - 1), .int .i64 vfp, .int .i64 vtp] [.int .i64 ((f.length : Int) - 1), .int .i64 vf, .int .i64 vt])
                              have l2 := Nat.lt_of_lt_of_le lb163 (setCells_size wy157 wd.heap.size wa103.heap.size 0 0 [.int .i64 ((fp.length : Int) - 1), .int .i64 vfp, .int .i64 vtp] [.int .i64 ((f.length : Int) - 1), .int .i64 vf, .int .i64 vt])
                              show wpList _ _ _ [] _ ((World.setCells wy157 wd.heap.size 0 [.int .i64 ((fp.length : Int) - 1), .int .i64 vfp, .int .i64 vtp]).setCells wa103.heap.size 0 [.int .i64 ((f.length : Int) - 1), .int .i64 vf, .int .i64 vt])
                              generalize (World.setCells wy157 wd.heap.size 0 [.int .i64 ((fp.length : Int) - 1), .int .i64 vfp, .int .i64 vtp]).setCells wa103.heap.size 0 [.int .i64 ((f.length : Int) - 1), .int .i64 vf, .int .i64 vt] = W9 at HF HB9 l1 l2 ⊢
                              go_wp2_with fail
                              go_meet
                              exact ⟨_, _, rfl, rfl, l1, l2, ⟨HF.out.1 0 _ rfl, HF.out.1 1 _ rfl, HF.out.1 2 _ rfl, HF.out.2 0 _ rfl, HF.out.2 1 _ rfl⟩, HB3d.out.trans (HB9.out.mono HB3d.out.size)⟩
                  · refine op_at rfl rfl (wp_made (v := .pointer (some ⟨wd.heap.size, 0, none⟩)) (w' := wd.alloc (.cells #[.int .i64 0, .int .i64 0, .int .i64 0] 99)) (by go_simp) ⟨ext_alloc HS0.out, ?_⟩)
                    simp only [Act.put, List.getElem_toArray, List.getElem_cons_succ, List.getElem_cons_zero, List.setIfInBounds_toArray, List.set_cons_zero, List.set_cons_succ]
                    have zb168 := heap_alloc_new wd (.cells #[.int .i64 0, .int .i64 0, .int .i64 0] 99)
                    have lb169 : wd.heap.size < (wd.alloc (.cells #[.int .i64 0, .int .i64 0, .int .i64 0] 99)).heap.size := by simp
                    have HA166 := Lib.hid (ext_alloc (o := .cells #[.int .i64 0, .int .i64 0, .int .i64 0] 99) HS0.out)
                    have hbwd : wd.heap.size ≤ wd.heap.size := HS0.out.size
                    generalize wd.alloc (.cells #[.int .i64 0, .int .i64 0, .int .i64 0] 99) = wa164 at zb168 lb169 HA166 ⊢
                    as_aux_lemma =>
                      refine wpAnyH_all (rs := [5, 8]) (by kernel_rfl) (by simp) (fun i hi => ?_)
                      simp only [List.mem_cons, List.not_mem_nil, or_false] at hi
                      rcases hi with rfl | rfl
                      · refine op_at rfl rfl (gen_call 71 #[.agg #[.string ⟨fp.toArray⟩, .string ⟨tp.toArray⟩]] (by go_simp) (HSP.out _) ?_)
                        rintro e wy170 ⟨rfl, hy171⟩
                        have HY172 := Lib.hid (ext_trans HA166.out hy171)
                        have zb173 := (hy171.block wd.heap.size lb169).trans zb168
                        have lb174 := Nat.lt_of_lt_of_le lb169 hy171.size
                        refine ⟨_, rfl, HY172.out, ?_⟩
                        simp only [Act.put, List.getElem_toArray, List.getElem_cons_succ, List.getElem_cons_zero, List.setIfInBounds_toArray, List.set_cons_zero, List.set_cons_succ]
                        as_aux_lemma =>
                          refine wpAnyH_all (rs := [7, 8]) (by kernel_rfl) (by simp) (fun i hi => ?_)
                          simp only [List.mem_cons, List.not_mem_nil, or_false] at hi
                          rcases hi with rfl | rfl
                          · refine op_at rfl rfl (gen_call 71 #[.agg #[.string ⟨f.toArray⟩, .string ⟨t.toArray⟩]] (by go_simp) (HSK.out _) ?_)
                            rintro e wy175 ⟨rfl, hy176⟩
                            have HY177 := Lib.hid (ext_trans HY172.out hy176)
                            have zb178 := (hy176.block wd.heap.size lb174).trans zb173
                            have lb179 := Nat.lt_of_lt_of_le lb174 hy176.size
                            refine ⟨_, rfl, HY177.out, ?_⟩
                            simp only [Act.put, List.getElem_toArray, List.getElem_cons_succ, List.getElem_cons_zero, List.setIfInBounds_toArray, List.set_cons_zero, List.set_cons_succ]
                            as_aux_lemma =>
                              refine wpAnyH_all (rs := [8]) (by kernel_rfl) (by simp) (fun i hi => ?_)
                              obtain rfl := List.mem_singleton.1 hi
                              refine op_at rfl rfl (wp_made (v := .pointer (some ⟨wy175.heap.size, 0, none⟩)) (w' := wy175.alloc (.cells #[.int .i64 0, .int .i64 0, .int .i64 0] 99)) (by go_simp) ⟨ext_alloc HY177.out, ?_⟩)
                              simp only [Act.put, List.getElem_toArray, List.getElem_cons_succ, List.getElem_cons_zero, List.setIfInBounds_toArray, List.set_cons_zero, List.set_cons_succ]
                              have zb184 := heap_alloc_new wy175 (.cells #[.int .i64 0, .int .i64 0, .int .i64 0] 99)
                              have lb185 : wy175.heap.size < (wy175.alloc (.cells #[.int .i64 0, .int .i64 0, .int .i64 0] 99)).heap.size := by simp
                              have HA182 := Lib.hid (ext_alloc (o := .cells #[.int .i64 0, .int .i64 0, .int .i64 0] 99) HY177.out)
                              have zb186 := ((Below.heap_alloc wy175 (.cells #[.int .i64 0, .int .i64 0, .int .i64 0] 99) wd.heap.size lb179)).trans zb178
                              have lb187 := Nat.lt_trans lb179 lb185
                              have hne : wy175.heap.size ≠ wd.heap.size := Nat.ne_of_gt lb179
                              have hbwy175 : wd.heap.size ≤ wy175.heap.size := HY177.out.size
                              generalize wy175.alloc (.cells #[.int .i64 0, .int .i64 0, .int .i64 0] 99) = wa180 at zb184 lb185 HA182 zb186 lb187 ⊢
                              as_aux_lemma =>
                                refine ⟨by kernel_rfl, ?_⟩
                                refine toTail_of (L := []) _ (two_guards rfl rfl) _ _ ?_
                                refine wpList_store_mid rfl 99 (.tmp 7) (.tmp 52) rfl wy175.heap.size 0 #[.int .i64 ((fp.length : Int) - 1), .int .i64 vfp, .int .i64 vtp] rfl rfl (box3 zb184) Tryz.spanSize (by simp [Value.oneCell']) ?_
                                refine wpList_store_mid rfl 99 (.tmp 8) (.tmp 54) rfl wd.heap.size 0 #[.int .i64 ((f.length : Int) - 1), .int .i64 vf, .int .i64 vt] rfl rfl (World.there_setCells (box3 zb186) _ _ _) Tryz.spanSize (by simp [Value.oneCell']) ?_
                                have HF := Lib.hid (spans_end wa180 wy175.heap.size wd.heap.size hne (box3 zb184) (box3 zb186) [.int .i64 ((fp.length : Int) - 1), .int .i64 vfp, .int .i64 vtp] [.int .i64 ((f.length : Int) - 1), .int .i64 vf, .int .i64 vt] rfl rfl)
                                have HB9 := Lib.hid (setCells_ext (B := wd.heap.size) hbwd [.int .i64 ((f.length : Int) - 1), .int .i64 vf, .int .i64 vt] _ 0 (setCells_ext (B := wy175.heap.size) hbwy175 [.int .i64 ((fp.length : Int) - 1), .int .i64 vfp, .int .i64 vtp] _ 0 HA182.out))
                                have l1 := Nat.lt_of_lt_of_le lb185 (setCells_size wa180 wy175.heap.size wd.heap.size 0 0 [.int .i64 ((fp.length : Int) - 1), .int .i64 vfp, .int .i64 vtp] [.int .i64 ((f.length : Int) - 1), .int .i64 vf, .int .i64 vt])
                                have l2 := Nat.lt_of_lt_of_le lb187 (setCells_size wa180 wy175.heap.size wd.heap.size 0 0 [.int .i64 ((fp.length : Int) - 1), .int .i64 vfp, .int .i64 vtp] [.int .i64 ((f.length : Int) - 1), .int .i64 vf, .int .i64 vt])
                                show wpList _ _ _ [] _ ((World.setCells wa180 wy175.heap.size 0 [.int .i64 ((fp.length : Int) - 1), .int .i64 vfp, .int .i64 vtp]).setCells wd.heap.size 0 [.int .i64 ((f.length : Int) - 1), .int .i64 vf, .int .i64 vt])
                                generalize (World.setCells wa180 wy175.heap.size 0 [.int .i64 ((fp.length : Int) - 1), .int .i64 vfp, .int .i64 vtp]).setCells wd.heap.size 0 [.int .i64 ((f.length : Int) - 1), .int .i64 vf, .int .i64 vt] = W9 at HF HB9 l1 l2 ⊢
                                go_wp2_with fail
                                go_meet
                                exact ⟨_, _, rfl, rfl, l1, l2, ⟨HF.out.1 0 _ rfl, HF.out.1 1 _ rfl, HF.out.1 2 _ rfl, HF.out.2 0 _ rfl, HF.out.2 1 _ rfl⟩, HB3d.out.trans (HB9.out.mono HB3d.out.size)⟩
                          · refine op_at rfl rfl (wp_made (v := .pointer (some ⟨wy170.heap.size, 0, none⟩)) (w' := wy170.alloc (.cells #[.int .i64 0, .int .i64 0, .int .i64 0] 99)) (by go_simp) ⟨ext_alloc HY172.out, ?_⟩)
                            simp only [Act.put, List.getElem_toArray, List.getElem_cons_succ, List.getElem_cons_zero, List.setIfInBounds_toArray, List.set_cons_zero, List.set_cons_succ]
                            have zb192 := heap_alloc_new wy170 (.cells #[.int .i64 0, .int .i64 0, .int .i64 0] 99)
                            have lb193 : wy170.heap.size < (wy170.alloc (.cells #[.int .i64 0, .int .i64 0, .int .i64 0] 99)).heap.size := by simp
                            have HA190 := Lib.hid (ext_alloc (o := .cells #[.int .i64 0, .int .i64 0, .int .i64 0] 99) HY172.out)
                            have zb194 := ((Below.heap_alloc wy170 (.cells #[.int .i64 0, .int .i64 0, .int .i64 0] 99) wd.heap.size lb174)).trans zb173
                            have lb195 := Nat.lt_trans lb174 lb193
                            have hne : wy170.heap.size ≠ wd.heap.size := Nat.ne_of_gt lb174
                            have hbwy170 : wd.heap.size ≤ wy170.heap.size := HY172.out.size
                            generalize wy170.alloc (.cells #[.int .i64 0, .int .i64 0, .int .i64 0] 99) = wa188 at zb192 lb193 HA190 zb194 lb195 ⊢
                            as_aux_lemma =>
                              refine wpAnyH_all (rs := [7]) (by kernel_rfl) (by simp) (fun i hi => ?_)
                              obtain rfl := List.mem_singleton.1 hi
                              refine op_at rfl rfl (gen_call 71 #[.agg #[.string ⟨f.toArray⟩, .string ⟨t.toArray⟩]] (by go_simp) (HSK.out _) ?_)
                              rintro e wy196 ⟨rfl, hy197⟩
                              have HY198 := Lib.hid (ext_trans HA190.out hy197)
                              have zb199 := (hy197.block wy170.heap.size lb193).trans zb192
                              have lb200 := Nat.lt_of_lt_of_le lb193 hy197.size
                              have zb201 := (hy197.block wd.heap.size lb195).trans zb194
                              have lb202 := Nat.lt_of_lt_of_le lb195 hy197.size
                              refine ⟨_, rfl, HY198.out, ?_⟩
                              simp only [Act.put, List.getElem_toArray, List.getElem_cons_succ, List.getElem_cons_zero, List.setIfInBounds_toArray, List.set_cons_zero, List.set_cons_succ]
                              as_aux_lemma =>
                                refine ⟨by kernel_rfl, ?_⟩
                                refine toTail_of (L := []) _ (two_guards rfl rfl) _ _ ?_
                                refine wpList_store_mid rfl 99 (.tmp 7) (.tmp 52) rfl wy170.heap.size 0 #[.int .i64 ((fp.length : Int) - 1), .int .i64 vfp, .int .i64 vtp] rfl rfl (box3 zb199) Tryz.spanSize (by simp [Value.oneCell']) ?_
                                refine wpList_store_mid rfl 99 (.tmp 8) (.tmp 54) rfl wd.heap.size 0 #[.int .i64 ((f.length : Int) - 1), .int .i64 vf, .int .i64 vt] rfl rfl (World.there_setCells (box3 zb201) _ _ _) Tryz.spanSize (by simp [Value.oneCell']) ?_
                                have HF := Lib.hid (spans_end wy196 wy170.heap.size wd.heap.size hne (box3 zb199) (box3 zb201) [.int .i64 ((fp.length : Int) - 1), .int .i64 vfp, .int .i64 vtp] [.int .i64 ((f.length : Int) - 1), .int .i64 vf, .int .i64 vt] rfl rfl)
                                have HB9 := Lib.hid (setCells_ext (B := wd.heap.size) hbwd [.int .i64 ((f.length : Int) - 1), .int .i64 vf, .int .i64 vt] _ 0 (setCells_ext (B := wy170.heap.size) hbwy170 [.int .i64 ((fp.length : Int) - 1), .int .i64 vfp, .int .i64 vtp] _ 0 HY198.out))
                                have l1 := Nat.lt_of_lt_of_le lb200 (setCells_size wy196 wy170.heap.size wd.heap.size 0 0 [.int .i64 ((fp.length : Int) - 1), .int .i64 vfp, .int .i64 vtp] [.int .i64 ((f.length : Int) - 1), .int .i64 vf, .int .i64 vt])
                                have l2 := Nat.lt_of_lt_of_le lb202 (setCells_size wy196 wy170.heap.size wd.heap.size 0 0 [.int .i64 ((fp.length : Int) - 1), .int .i64 vfp, .int .i64 vtp] [.int .i64 ((f.length : Int) - 1), .int .i64 vf, .int .i64 vt])
                                show wpList _ _ _ [] _ ((World.setCells wy196 wy170.heap.size 0 [.int .i64 ((fp.length : Int) - 1), .int .i64 vfp, .int .i64 vtp]).setCells wd.heap.size 0 [.int .i64 ((f.length : Int) - 1), .int .i64 vf, .int .i64 vt])
                                generalize (World.setCells wy196 wy170.heap.size 0 [.int .i64 ((fp.length : Int) - 1), .int .i64 vfp, .int .i64 vtp]).setCells wd.heap.size 0 [.int .i64 ((f.length : Int) - 1), .int .i64 vf, .int .i64 vt] = W9 at HF HB9 l1 l2 ⊢
                                go_wp2_with fail
                                go_meet
                                exact ⟨_, _, rfl, rfl, l1, l2, ⟨HF.out.1 0 _ rfl, HF.out.1 1 _ rfl, HF.out.1 2 _ rfl, HF.out.2 0 _ rfl, HF.out.2 1 _ rfl⟩, HB3d.out.trans (HB9.out.mono HB3d.out.size)⟩
                      · refine op_at rfl rfl (wp_made (v := .pointer (some ⟨wa164.heap.size, 0, none⟩)) (w' := wa164.alloc (.cells #[.int .i64 0, .int .i64 0, .int .i64 0] 99)) (by go_simp) ⟨ext_alloc HA166.out, ?_⟩)
                        simp only [Act.put, List.getElem_toArray, List.getElem_cons_succ, List.getElem_cons_zero, List.setIfInBounds_toArray, List.set_cons_zero, List.set_cons_succ]
                        have zb207 := heap_alloc_new wa164 (.cells #[.int .i64 0, .int .i64 0, .int .i64 0] 99)
                        have lb208 : wa164.heap.size < (wa164.alloc (.cells #[.int .i64 0, .int .i64 0, .int .i64 0] 99)).heap.size := by simp
                        have HA205 := Lib.hid (ext_alloc (o := .cells #[.int .i64 0, .int .i64 0, .int .i64 0] 99) HA166.out)
                        have zb209 := ((Below.heap_alloc wa164 (.cells #[.int .i64 0, .int .i64 0, .int .i64 0] 99) wd.heap.size lb169)).trans zb168
                        have lb210 := Nat.lt_trans lb169 lb208
                        have hne : wa164.heap.size ≠ wd.heap.size := Nat.ne_of_gt lb169
                        have hbwa164 : wd.heap.size ≤ wa164.heap.size := HA166.out.size
                        generalize wa164.alloc (.cells #[.int .i64 0, .int .i64 0, .int .i64 0] 99) = wa203 at zb207 lb208 HA205 zb209 lb210 ⊢
                        as_aux_lemma =>
                          refine wpAnyH_all (rs := [5]) (by kernel_rfl) (by simp) (fun i hi => ?_)
                          obtain rfl := List.mem_singleton.1 hi
                          refine op_at rfl rfl (gen_call 71 #[.agg #[.string ⟨fp.toArray⟩, .string ⟨tp.toArray⟩]] (by go_simp) (HSP.out _) ?_)
                          rintro e wy211 ⟨rfl, hy212⟩
                          have HY213 := Lib.hid (ext_trans HA205.out hy212)
                          have zb214 := (hy212.block wa164.heap.size lb208).trans zb207
                          have lb215 := Nat.lt_of_lt_of_le lb208 hy212.size
                          have zb216 := (hy212.block wd.heap.size lb210).trans zb209
                          have lb217 := Nat.lt_of_lt_of_le lb210 hy212.size
                          refine ⟨_, rfl, HY213.out, ?_⟩
                          simp only [Act.put, List.getElem_toArray, List.getElem_cons_succ, List.getElem_cons_zero, List.setIfInBounds_toArray, List.set_cons_zero, List.set_cons_succ]
                          as_aux_lemma =>
                            refine wpAnyH_all (rs := [7]) (by kernel_rfl) (by simp) (fun i hi => ?_)
                            obtain rfl := List.mem_singleton.1 hi
                            refine op_at rfl rfl (gen_call 71 #[.agg #[.string ⟨f.toArray⟩, .string ⟨t.toArray⟩]] (by go_simp) (HSK.out _) ?_)
                            rintro e wy218 ⟨rfl, hy219⟩
                            have HY220 := Lib.hid (ext_trans HY213.out hy219)
                            have zb221 := (hy219.block wa164.heap.size lb215).trans zb214
                            have lb222 := Nat.lt_of_lt_of_le lb215 hy219.size
                            have zb223 := (hy219.block wd.heap.size lb217).trans zb216
                            have lb224 := Nat.lt_of_lt_of_le lb217 hy219.size
                            refine ⟨_, rfl, HY220.out, ?_⟩
                            simp only [Act.put, List.getElem_toArray, List.getElem_cons_succ, List.getElem_cons_zero, List.setIfInBounds_toArray, List.set_cons_zero, List.set_cons_succ]
                            as_aux_lemma =>
                              refine ⟨by kernel_rfl, ?_⟩
                              refine toTail_of (L := []) _ (two_guards rfl rfl) _ _ ?_
                              refine wpList_store_mid rfl 99 (.tmp 7) (.tmp 52) rfl wa164.heap.size 0 #[.int .i64 ((fp.length : Int) - 1), .int .i64 vfp, .int .i64 vtp] rfl rfl (box3 zb221) Tryz.spanSize (by simp [Value.oneCell']) ?_
                              refine wpList_store_mid rfl 99 (.tmp 8) (.tmp 54) rfl wd.heap.size 0 #[.int .i64 ((f.length : Int) - 1), .int .i64 vf, .int .i64 vt] rfl rfl (World.there_setCells (box3 zb223) _ _ _) Tryz.spanSize (by simp [Value.oneCell']) ?_
                              have HF := Lib.hid (spans_end wy218 wa164.heap.size wd.heap.size hne (box3 zb221) (box3 zb223) [.int .i64 ((fp.length : Int) - 1), .int .i64 vfp, .int .i64 vtp] [.int .i64 ((f.length : Int) - 1), .int .i64 vf, .int .i64 vt] rfl rfl)
                              have HB9 := Lib.hid (setCells_ext (B := wd.heap.size) hbwd [.int .i64 ((f.length : Int) - 1), .int .i64 vf, .int .i64 vt] _ 0 (setCells_ext (B := wa164.heap.size) hbwa164 [.int .i64 ((fp.length : Int) - 1), .int .i64 vfp, .int .i64 vtp] _ 0 HY220.out))
                              have l1 := Nat.lt_of_lt_of_le lb222 (setCells_size wy218 wa164.heap.size wd.heap.size 0 0 [.int .i64 ((fp.length : Int) - 1), .int .i64 vfp, .int .i64 vtp] [.int .i64 ((f.length : Int) - 1), .int .i64 vf, .int .i64 vt])
                              have l2 := Nat.lt_of_lt_of_le lb224 (setCells_size wy218 wa164.heap.size wd.heap.size 0 0 [.int .i64 ((fp.length : Int) - 1), .int .i64 vfp, .int .i64 vtp] [.int .i64 ((f.length : Int) - 1), .int .i64 vf, .int .i64 vt])
                              show wpList _ _ _ [] _ ((World.setCells wy218 wa164.heap.size 0 [.int .i64 ((fp.length : Int) - 1), .int .i64 vfp, .int .i64 vtp]).setCells wd.heap.size 0 [.int .i64 ((f.length : Int) - 1), .int .i64 vf, .int .i64 vt])
                              generalize (World.setCells wy218 wa164.heap.size 0 [.int .i64 ((fp.length : Int) - 1), .int .i64 vfp, .int .i64 vtp]).setCells wd.heap.size 0 [.int .i64 ((f.length : Int) - 1), .int .i64 vf, .int .i64 vt] = W9 at HF HB9 l1 l2 ⊢
                              go_wp2_with fail
                              go_meet
                              exact ⟨_, _, rfl, rfl, l1, l2, ⟨HF.out.1 0 _ rfl, HF.out.1 1 _ rfl, HF.out.1 2 _ rfl, HF.out.2 0 _ rfl, HF.out.2 1 _ rfl⟩, HB3d.out.trans (HB9.out.mono HB3d.out.size)⟩
              case rest =>
                obtain ⟨B1, B2, rfl, rfl, hB1, hB2, HQ, HBC⟩ := hcut
                clear p0 p1 f0 f1 HB3 hz3 HSP HSK hjn hpl hbp1
                have hwA : IntKind.i64.wrap (vtp + apart) = vtp + apart := IntWalk.i64_in _ (by omega)
                have hL1 : (0 : Int) ≤ (fp.length : Int) := by omega
                generalize hx0 : ((fp.length : Int) - 1) = x0 at HQ
                generalize hy0 : ((f.length : Int) - 1) = y0 at HQ
                have HX0 := Lib.hid hx0
                have HY0 := Lib.hid hy0
                clear hx0 hy0
                have HQ0 : Hid (wc.drew.cell? ⟨B1, 0, none⟩ = some (.int .i64 x0) ∧ wc.drew.cell? ⟨B1, 1, none⟩ = some (.int .i64 vfp) ∧ wc.drew.cell? ⟨B2, 0, none⟩ = some (.int .i64 y0) ∧ wc.drew.cell? ⟨B2, 1, none⟩ = some (.int .i64 vf)) := ⟨HQ.out.1, HQ.out.2.1, HQ.out.2.2.2.1, HQ.out.2.2.2.2⟩
                have HQ1 : Hid (∀ o, ((wc.drew).alloc o).cell? ⟨B1, 0, none⟩ = some (.int .i64 x0) ∧ ((wc.drew).alloc o).cell? ⟨B1, 1, none⟩ = some (.int .i64 vfp) ∧ ((wc.drew).alloc o).cell? ⟨B2, 0, none⟩ = some (.int .i64 y0) ∧ ((wc.drew).alloc o).cell? ⟨B2, 1, none⟩ = some (.int .i64 vf)) := fun o => ⟨(World.cell?_alloc_lt _ _ _ (by show B1 < _; exact hB1)).trans HQ.out.1, (World.cell?_alloc_lt _ _ _ (by show B1 < _; exact hB1)).trans HQ.out.2.1, (World.cell?_alloc_lt _ _ _ (by show B2 < _; exact hB2)).trans HQ.out.2.2.2.1, (World.cell?_alloc_lt _ _ _ (by show B2 < _; exact hB2)).trans HQ.out.2.2.2.2⟩
                as_aux_lemma =>
                  go_upto_region 10 with (fail)
                  refine region_seqI (S := (fun W => W.cell? ⟨B1, 0, none⟩ = some (.int .i64 x0) ∧ W.cell? ⟨B1, 1, none⟩ = some (.int .i64 vfp) ∧ W.cell? ⟨B2, 0, none⟩ = some (.int .i64 y0) ∧ W.cell? ⟨B2, 1, none⟩ = some (.int .i64 vf))) [(true, 0), (true, 1), (true, 2), (true, 3), (true, 5), (true, 6), (true, 7), (true, 8), (false, 4), (false, 9), (false, 10), (false, 11), (true, 12)] (by kernel_rfl) (by kernel_rfl) rfl (by kernel_rfl) HQ0.out ?_
                  simp only [seqOps, List.getD_cons_zero, List.getD_cons_succ]
                  refine seqI_take (v := .pointer (some ⟨B1, 0, none⟩)) rfl (fun W hW => by obtain ⟨m0, m1, m2, m3⟩ := hW; go_simp) (fun _ _ _ h => h) ?_
                  simp only [Act.put, List.setIfInBounds_toArray, List.set_cons_zero, List.set_cons_succ]
                  refine seqI_take (v := .int .i64 x0) rfl (fun W hW => by obtain ⟨m0, m1, m2, m3⟩ := hW; go_simp) (fun _ _ _ h => h) ?_
                  simp only [Act.put, List.setIfInBounds_toArray, List.set_cons_zero, List.set_cons_succ]
                  refine seqI_take (v := .pointer (some ⟨B2, 0, none⟩)) rfl (fun W hW => by obtain ⟨m0, m1, m2, m3⟩ := hW; go_simp) (fun _ _ _ h => h) ?_
                  simp only [Act.put, List.setIfInBounds_toArray, List.set_cons_zero, List.set_cons_succ]
                  refine seqI_take (v := .int .i64 y0) rfl (fun W hW => by obtain ⟨m0, m1, m2, m3⟩ := hW; go_simp) (fun _ _ _ h => h) ?_
                  simp only [Act.put, List.setIfInBounds_toArray, List.set_cons_zero, List.set_cons_succ]
                  refine seqI_take (v := .pointer (some ⟨B1, 1, none⟩)) rfl (fun W hW => by obtain ⟨m0, m1, m2, m3⟩ := hW; go_simp) (fun _ _ _ h => h) ?_
                  simp only [Act.put, List.setIfInBounds_toArray, List.set_cons_zero, List.set_cons_succ]
                  refine seqI_take (v := .int .i64 vfp) rfl (fun W hW => by obtain ⟨m0, m1, m2, m3⟩ := hW; go_simp) (fun _ _ _ h => h) ?_
                  simp only [Act.put, List.setIfInBounds_toArray, List.set_cons_zero, List.set_cons_succ]
                  refine seqI_take (v := .pointer (some ⟨B2, 1, none⟩)) rfl (fun W hW => by obtain ⟨m0, m1, m2, m3⟩ := hW; go_simp) (fun _ _ _ h => h) ?_
                  simp only [Act.put, List.setIfInBounds_toArray, List.set_cons_zero, List.set_cons_succ]
                  refine seqI_take (v := .int .i64 vf) rfl (fun W hW => by obtain ⟨m0, m1, m2, m3⟩ := hW; go_simp) (fun _ _ _ h => h) ?_
                  simp only [Act.put, List.setIfInBounds_toArray, List.set_cons_zero, List.set_cons_succ]
                  refine seqI_call 53 #[.int .i64 x0, .int .i64 y0] rfl (by go_simp) (cmpI_any x0 y0 _) ?_
                  rintro e w5 ⟨r1, rfl, hr1, hr2, rfl⟩
                  refine ⟨_, rfl, HQ0.out, ?_⟩
                  simp only [Act.put, List.setIfInBounds_toArray, List.set_cons_zero, List.set_cons_succ]
                  refine seqI_call 53 #[.int .i64 vfp, .int .i64 vf] rfl (by go_simp) (cmpI_any vfp vf _) ?_
                  rintro e w6 ⟨r2, rfl, hr3, hr4, rfl⟩
                  refine ⟨_, rfl, HQ0.out, ?_⟩
                  simp only [Act.put, List.setIfInBounds_toArray, List.set_cons_zero, List.set_cons_succ]
                  have HSG := Lib.hid (first_sign hr1 hr2 hr3)
                  clear hr1 hr2 hr3 hr4
                  refine seqI_do rfl (wp_made (v := .slice (some ⟨wc.heap.size, 0, none⟩) 2 2) (w' := (wc.drew).alloc (.cells #[.int .i64 r1, .int .i64 r2] 3)) (by go_simp) ⟨HQ1.out _, ?_⟩)
                  simp only [Act.put, List.setIfInBounds_toArray, List.set_cons_zero, List.set_cons_succ]
                  refine seqI_call 51 #[.slice (some ⟨wc.heap.size, 0, none⟩) 2 2] rfl (by go_simp) (orI_any r1 r2 wc.heap.size _ (by simp) (by go_simp) (by go_simp)) ?_
                  rintro e w7 ⟨rfl, rfl⟩
                  refine ⟨_, rfl, HQ1.out _, ?_⟩
                  simp only [Act.put, List.setIfInBounds_toArray, List.set_cons_zero, List.set_cons_succ]
                  generalize firstE r1 r2 = z at HSG ⊢
                  have HCMP : Hid (z < 0 ↔ (fp.length < f.length ∨ fp.length = f.length ∧ vfp < vf)) := by
                    show _ ↔ _
                    rw [HSG.out, ← HX0.out, ← HY0.out]
                    constructor
                    · rintro (h | h)
                      · exact Or.inl (by omega)
                      · exact Or.inr ⟨by omega, h.2⟩
                    · rintro (h | h)
                      · exact Or.inl (by omega)
                      · exact Or.inr ⟨by omega, h.2⟩
                  clear HSG
                  by_cases hz : 0 ≤ z
                  · obtain rfl : X = 7 := by rw [HER3.out, if_pos (by rw [← HCMP.out]; omega)]
                    obtain rfl : R = 7 := HSTOP.out (by decide)
                    refine seqI_take (v := .bool true) rfl (fun W hW => by go_simp) (fun _ _ _ h => h) ?_
                    simp only [Act.put, List.setIfInBounds_toArray, List.set_cons_zero, List.set_cons_succ]
                    refine seqI_nil ?_
                    clear HER3 HNEXT HCMP HSTOP
                    go_wp2_with fail
                    go_ret
                    exact ⟨rfl, (by (try show Below _ _ _); repeat (with_reducible first | exact Below.refl _ _ | assumption | exact Hid.out (by assumption) | refine ext_alloc ?_ | refine ext_drewN ?_ | refine ext_drew ?_ | refine ext_setCell ?_ (Nat.le_refl _) | refine ext_setCell ?_ (Nat.le_succ _) | refine ext_trans ?_ (by assumption) | (refine ext_setCell ?_ (by simp)) | (refine ext_setCell ?_ (by simp at *; omega))))⟩
                  · have hz' : z < 0 := by omega
                    have HLT := Lib.hid (HCMP.out.1 hz')
                    have HER4 : Hid (X = if fp.length = f.length ∧ vf ≤ vtp + apart then 13 else 0) := by show _ = _; rw [HER3.out, if_neg (by rw [← HCMP.out]; omega)]
                    refine seqI_take (v := .bool false) rfl (fun W hW => by go_simp) (fun _ _ _ h => h) ?_
                    simp only [Act.put, List.setIfInBounds_toArray, List.set_cons_zero, List.set_cons_succ]
                    refine seqI_nil ?_
                    clear HER3 HCMP hz hz'
                    have b10 := (HQ1.out (.cells #[.int .i64 r1, .int .i64 r2] 3)).1
                    have b20 := (HQ1.out (.cells #[.int .i64 r1, .int .i64 r2] 3)).2.2.1
                    have b21 := (HQ1.out (.cells #[.int .i64 r1, .int .i64 r2] 3)).2.2.2
                    have b12 : ((wc.drew).alloc (.cells #[.int .i64 r1, .int .i64 r2] 3)).cell? ⟨B1, 2, none⟩ = some (.int .i64 vtp) := (World.cell?_alloc_lt _ _ _ (by show B1 < _; exact hB1)).trans HQ.out.2.2.1
                    have HB7 : Hid (Below w.heap.size w ((wc.drew).alloc (.cells #[.int .i64 r1, .int .i64 r2] 3))) := (by (try show Below _ _ _); repeat (with_reducible first | exact Below.refl _ _ | assumption | exact Hid.out (by assumption) | refine ext_alloc ?_ | refine ext_drewN ?_ | refine ext_drew ?_ | refine ext_setCell ?_ (Nat.le_refl _) | refine ext_setCell ?_ (Nat.le_succ _) | refine ext_trans ?_ (by assumption) | (refine ext_setCell ?_ (by simp)) | (refine ext_setCell ?_ (by simp at *; omega))))
                    generalize (wc.drew).alloc (.cells #[.int .i64 r1, .int .i64 r2] 3) = W7 at b10 b20 b21 b12 HB7 ⊢
                    clear HQ1 HQ0 HQ HBC hB1 hB2
                    by_cases heq : fp.length = f.length
                    · have hxy : x0 = y0 := by rw [← HX0.out, ← HY0.out, heq]
                      subst hxy
                      by_cases hle : vf ≤ vtp + apart
                      · obtain rfl : X = 13 := by rw [HER4.out, if_pos ⟨heq, hle⟩]
                        obtain rfl : R = 13 := HSTOP.out (by decide)
                        clear HER4 HNEXT HSTOP heq
                        as_aux_lemma =>
                          go_wp2_with fail
                          go_ret
                          exact ⟨rfl, HB7.out⟩
                      · have HXZ := Lib.hid (HNEXT.out (by rw [HER4.out, if_neg (fun h => hle h.2)]))
                        clear HER4 HNEXT HSTOP heq
                        as_aux_lemma =>
                          go_wp2_with fail
                          go_roundw
                          case rel => exact ⟨j + 1 + 1, by omega, by go_num, HXZ.out, HB7.out⟩
                          case measure => simp [intOf]; omega
                    · have HXZ := Lib.hid (HNEXT.out (by rw [HER4.out, if_neg (fun h => heq h.1)]))
                      have hxy : (x0 == y0) = false := by have h1 := HX0.out; have h2 := HY0.out; simp; omega
                      clear HER4 HNEXT HSTOP heq
                      as_aux_lemma =>
                        go_wp2_with fail
                        go_roundw
                        case rel => exact ⟨j + 1 + 1, by omega, by go_num, HXZ.out, HB7.out⟩
                        case measure => simp [intOf]; omega
    · obtain rfl : k = n := by omega
      obtain rfl : R = 0 := HAT2.out.2 HZ.out
      go_wp2_with fail
      go_ret
      exact ⟨rfl, HB.out⟩
end Go.Proofs.YtmbimfmalijjpaaGreatDoor

set_option linter.unusedVariables false
set_option linter.unusedSimpArgs false
namespace Go.Proofs.YtmbimfmalijjpaaGreatDoor
open Go.RowKit

theorem less_lt : ∀ (a b : List UInt8), Op.bytesLess a b = true ↔ a < b
  | [], [] => by simp [Op.bytesLess]
  | [], _ :: _ => by simp [Op.bytesLess]
  | _ :: _, [] => by simp [Op.bytesLess]
  | c :: a, d :: b => by
    rw [less_cons, List.cons_lt_cons_iff, Bool.or_eq_true, Bool.and_eq_true, decide_eq_true_eq, beq_iff_eq, less_lt a b]

/-- The last of the first k ports of a number till a moment. -/
def lastTo (ps : List Prt) (n : List UInt8) (t : Int) : Nat → Option Prt
  | 0 => none
  | k + 1 => if (ps.getD k noPrt).n = n ∧ (ps.getD k noPrt).at_ ≤ t then some (ps.getD k noPrt) else lastTo ps n t k
theorem last_found (ps : List Prt) (n : List UInt8) (t : Int) : ∀ k, (lastTo ps n t k = none ∧ ∀ i, i < k → ¬ ((ps.getD i noPrt).n = n ∧ (ps.getD i noPrt).at_ ≤ t)) ∨
    ∃ i, i < k ∧ lastTo ps n t k = some (ps.getD i noPrt) ∧ (ps.getD i noPrt).n = n ∧ (ps.getD i noPrt).at_ ≤ t ∧ ∀ j, i < j → j < k → ¬ ((ps.getD j noPrt).n = n ∧ (ps.getD j noPrt).at_ ≤ t)
  | 0 => Or.inl ⟨rfl, fun i hi => by omega⟩
  | k + 1 => by
    unfold lastTo
    by_cases h : (ps.getD k noPrt).n = n ∧ (ps.getD k noPrt).at_ ≤ t
    · rw [if_pos h]
      exact Or.inr ⟨k, by omega, rfl, h.1, h.2, fun j h1 h2 => by omega⟩
    · rw [if_neg h]
      rcases last_found ps n t k with ⟨h1, h2⟩ | ⟨i, h1, h2, h3, h4, h5⟩
      · refine Or.inl ⟨h1, fun i hi => ?_⟩
        rcases Nat.lt_succ_iff_lt_or_eq.1 hi with h9 | rfl
        · exact h2 i h9
        · exact h
      · refine Or.inr ⟨i, by omega, h2, h3, h4, fun j k1 k2 => ?_⟩
        rcases Nat.lt_succ_iff_lt_or_eq.1 k2 with h9 | rfl
        · exact h5 j k1 h9
        · exact h
/-- The owner of a number among the first k. -/
def ownC (os : List Own) (n : List UInt8) : Option (List UInt8) := (os.find? fun o => inRng o.r n).map (·.c)
def carTo (os : List Own) (ps : List Prt) (n : List UInt8) (t : Int) (k : Nat) : Option (List UInt8) := match lastTo ps n t k with | some p => some p.c | none => ownC os n
def carV (os : List Own) (ps : List Prt) (n : List UInt8) (t : Int) : Option (List UInt8) := carTo os ps n t ps.length
theorem carTo_succ (os : List Own) (ps : List Prt) (n : List UInt8) (t : Int) (k : Nat) : carTo os ps n t (k + 1) = if (ps.getD k noPrt).n = n ∧ (ps.getD k noPrt).at_ ≤ t then some (ps.getD k noPrt).c else carTo os ps n t k := by
  unfold carTo
  rw [lastTo]
  split
  · rename_i p h1
    split at h1
    · injection h1 with h1
      rename_i h2
      rw [if_pos h2, h1]
    · rename_i h2
      rw [if_neg h2, h1]
  · rename_i h1
    split at h1
    · cases h1
    · rename_i h2
      rw [if_neg h2, h1]

/-- The error of port i. -/
def portErr (ps : List Prt) (i : Nat) : Int :=
  if isNumB (ps.getD i noPrt).n = false then 3
  else if isMomB (ps.getD i noPrt).at_ = false then 1
  else if isKeyB (ps.getD i noPrt).c = false then 5
  else if 0 < i ∧ ¬ (Op.bytesLess (ps.getD (i - 1) noPrt).n (ps.getD i noPrt).n = true ∨ (ps.getD (i - 1) noPrt).n = (ps.getD i noPrt).n ∧ (ps.getD (i - 1) noPrt).at_ < (ps.getD i noPrt).at_) then 7
  else 0
def ownErr (os : List Own) (i : Nat) : Int := if isKeyB (os.getD i noOwn).c = false then 5 else 0
def portsErr (os : List Own) (ps : List Prt) : Int :=
  if rngsErr 0 (os.map (·.r)) ≠ 0 then rngsErr 0 (os.map (·.r))
  else if firstErr (ownErr os) os.length ≠ 0 then firstErr (ownErr os) os.length
  else if 1000 < ps.length then 2
  else firstErr (portErr ps) ps.length
theorem ports_parts {os : List Own} {ps : List Prt} (h : portsErr os ps = 0) : rngsErr 0 (os.map (·.r)) = 0 ∧ (∀ i, i < os.length → ownErr os i = 0) ∧ ps.length ≤ 1000 ∧ ∀ i, i < ps.length → portErr ps i = 0 := by
  unfold portsErr at h
  split at h
  · rename_i h1; exact absurd h h1
  · rename_i h1
    split at h
    · rename_i h2; exact absurd h h2
    · rename_i h2
      split at h
      · cases h
      · rename_i h3
        exact ⟨by simpa using h1, first_zero (by simpa using h2), by omega, first_zero h⟩
theorem port_parts {ps : List Prt} {i : Nat} (h : portErr ps i = 0) : isNumB (ps.getD i noPrt).n = true ∧ isMomB (ps.getD i noPrt).at_ = true ∧ isKeyB (ps.getD i noPrt).c = true ∧ (0 < i → ((ps.getD (i - 1) noPrt).n < (ps.getD i noPrt).n ∨ (ps.getD (i - 1) noPrt).n = (ps.getD i noPrt).n ∧ (ps.getD (i - 1) noPrt).at_ < (ps.getD i noPrt).at_)) := by
  unfold portErr at h
  split at h
  · cases h
  · rename_i h1
    split at h
    · cases h
    · rename_i h2
      split at h
      · cases h
      · rename_i h3
        split at h
        · cases h
        · rename_i h4
          refine ⟨by simpa using h1, by simpa using h2, by simpa using h3, fun h0 => ?_⟩
          rw [less_lt] at h4
          exact Decidable.byContradiction fun hn => h4 ⟨h0, hn⟩
theorem ports_order {ps : List Prt} (h : ∀ i, i < ps.length → portErr ps i = 0) : ∀ j i, i < j → j < ps.length → ((ps.getD i noPrt).n < (ps.getD j noPrt).n ∨ (ps.getD i noPrt).n = (ps.getD j noPrt).n ∧ (ps.getD i noPrt).at_ < (ps.getD j noPrt).at_)
  | 0, i, hi, _ => by omega
  | j + 1, i, hi, hj => by
    have h1 := (port_parts (h (j + 1) hj)).2.2.2 (by omega)
    rw [Nat.add_sub_cancel] at h1
    rcases Nat.lt_succ_iff_lt_or_eq.1 hi with h9 | rfl
    · have h2 := ports_order h j i h9 (by omega)
      rcases h2 with h2 | ⟨h2, h3⟩
      · rcases h1 with h1 | ⟨h1, h4⟩
        · exact Or.inl (List.lt_trans h2 h1)
        · exact Or.inl (by rw [← h1]; exact h2)
      · rcases h1 with h1 | ⟨h1, h4⟩
        · exact Or.inl (by rw [h2]; exact h1)
        · exact Or.inr ⟨h2.trans h1, by omega⟩
    · exact h1
/-- Is port i the last of its number till t? -/
def lastB (ps : List Prt) (t : Int) (i : Nat) : Prop := i + 1 = ps.length ∨ (ps.getD (i + 1) noPrt).n ≠ (ps.getD i noPrt).n ∨ t < (ps.getD (i + 1) noPrt).at_
instance (ps : List Prt) (t : Int) (i : Nat) : Decidable (lastB ps t i) := by unfold lastB; infer_instance
def movP1 (os : List Own) (ps : List Prt) (c : List UInt8) (t : Int) (i : Nat) : Option (List UInt8) :=
  if (ps.getD i noPrt).at_ ≤ t ∧ lastB ps t i ∧ (ps.getD i noPrt).c = c ∧ ownC os (ps.getD i noPrt).n ≠ some c then some (ps.getD i noPrt).n else none
def movP (os : List Own) (ps : List Prt) (c : List UInt8) (t : Int) (k : Nat) : List (List UInt8) := (List.range k).filterMap (movP1 os ps c t)
def movR1 (os : List Own) (ps : List Prt) (c : List UInt8) (t : Int) (i : Nat) : Option (List UInt8) :=
  if (ps.getD i noPrt).at_ ≤ t ∧ (carV os ps (ps.getD i noPrt).n t).getD [] = c ∧ (ownC os (ps.getD i noPrt).n).getD [] ≠ c then some (ps.getD i noPrt).n else none
def movR (os : List Own) (ps : List Prt) (c : List UInt8) (t : Int) (k : Nat) : List (List UInt8) := (List.range k).filterMap (movR1 os ps c t)
theorem movP_succ (os : List Own) (ps : List Prt) (c : List UInt8) (t : Int) (k : Nat) : movP os ps c t (k + 1) = movP os ps c t k ++ (movP1 os ps c t k).toList := by
  unfold movP
  rw [List.range_succ, List.filterMap_append]
  congr 1
theorem movR_succ (os : List Own) (ps : List Prt) (c : List UInt8) (t : Int) (k : Nat) : movR os ps c t (k + 1) = movR os ps c t k ++ (movR1 os ps c t k).toList := by
  unfold movR
  rw [List.range_succ, List.filterMap_append]
  congr 1
theorem fm_len {α : Type} (f : Nat → Option α) (k : Nat) : ((List.range k).filterMap f).length ≤ k := by
  have := List.length_filterMap_le f (List.range k)
  simpa using this
/-- A port that is the last of its number till t. -/
theorem last_of {os : List Own} {ps : List Prt} {t : Int} (h : ∀ i, i < ps.length → portErr ps i = 0) {i : Nat} (hi : i < ps.length) (ht : (ps.getD i noPrt).at_ ≤ t) : lastB ps t i ↔ lastTo ps (ps.getD i noPrt).n t ps.length = some (ps.getD i noPrt) := by
  have hno : lastB ps t i → ∀ j, i < j → j < ps.length → ¬ ((ps.getD j noPrt).n = (ps.getD i noPrt).n ∧ (ps.getD j noPrt).at_ ≤ t) := by
    intro hl j h1 h2 ⟨h3, h4⟩
    have h5 := ports_order h (i + 1) i (by omega) (by omega)
    have h6 : (ps.getD (i + 1) noPrt).n = (ps.getD i noPrt).n ∧ (ps.getD (i + 1) noPrt).at_ ≤ (ps.getD j noPrt).at_ := by
      rcases Nat.lt_or_eq_of_le (show i + 1 ≤ j by omega) with h7 | rfl
      · have h8 := ports_order h j (i + 1) h7 h2
        rcases h8 with h8 | ⟨h8, h9⟩
        · rw [h3] at h8
          rcases h5 with h5 | ⟨h5, -⟩
          · exact absurd (List.lt_trans h5 h8) (List.lt_irrefl _)
          · rw [h5] at h8; exact absurd h8 (List.lt_irrefl _)
        · exact ⟨h8.trans h3, by omega⟩
      · exact ⟨h3, Int.le_refl _⟩
    rcases hl with hl | hl | hl
    · omega
    · exact hl h6.1
    · omega
  refine ⟨fun hl => ?_, fun hl => ?_⟩
  · rcases last_found ps (ps.getD i noPrt).n t ps.length with ⟨h1, h2⟩ | ⟨k, h1, h2, h3, h4, h5⟩
    · exact absurd ⟨rfl, ht⟩ (h2 i hi)
    · rcases Nat.lt_trichotomy k i with h6 | rfl | h6
      · exact absurd ⟨rfl, ht⟩ (h5 i h6 hi)
      · exact h2
      · exact absurd ⟨h3, h4⟩ (hno hl k h6 h1)
  · rcases last_found ps (ps.getD i noPrt).n t ps.length with ⟨h1, -⟩ | ⟨k, h1, h2, h3, h4, h5⟩
    · rw [h1] at hl; cases hl
    · rw [h2] at hl
      injection hl with hl
      have hk : k = i := by
        rcases Nat.lt_trichotomy k i with h6 | h6 | h6
        · have := ports_order h i k h6 hi
          rw [hl] at this
          rcases this with h7 | ⟨-, h7⟩
          · exact absurd h7 (List.lt_irrefl _)
          · omega
        · exact h6
        · have := ports_order h k i h6 h1
          rw [hl] at this
          rcases this with h7 | ⟨-, h7⟩
          · exact absurd h7 (List.lt_irrefl _)
          · omega
      subst hk
      by_cases he : k + 1 = ps.length
      · exact Or.inl he
      · by_cases hn : (ps.getD (k + 1) noPrt).n = (ps.getD k noPrt).n
        · refine Or.inr (Or.inr ?_)
          have := h5 (k + 1) (by omega) (by omega)
          rw [hn] at this
          by_cases h9 : (ps.getD (k + 1) noPrt).at_ ≤ t
          · exact absurd ⟨rfl, h9⟩ this
          · omega
        · exact Or.inr (Or.inl hn)
theorem moved_same {os : List Own} {ps : List Prt} {c : List UInt8} {t : Int} (hk : c ≠ []) (h : ∀ i, i < ps.length → portErr ps i = 0) : movP os ps c t ps.length = onceL (movR os ps c t ps.length) := by
  have tr : ∀ a b c : List UInt8, leB a b = true → leB b c = true → leB a c = true := fun a b c h1 h2 => by simp only [leB, decide_eq_true_eq] at *; exact List.le_trans h1 h2
  have tot : ∀ a b : List UInt8, (leB a b || leB b a) = true := fun a b => by simp only [leB, Bool.or_eq_true, decide_eq_true_eq]; exact List.le_total a b
  have hown : ∀ z, ownC os z ≠ some c ↔ (ownC os z).getD [] ≠ c := fun z => by
    cases ho : ownC os z with
    | none => exact ⟨fun _ e => hk e.symm, fun _ e => by cases e⟩
    | some x => exact ⟨fun h1 e => h1 (by rw [← e]; rfl), fun h1 e => h1 (by injection e)⟩
  refine strict_unique ?_ (compact_strict _ (List.pairwise_mergeSort tr tot _)) fun z => ?_
  · unfold movP
    rw [List.pairwise_filterMap]
    refine List.Pairwise.imp_of_mem (R := (· < ·)) ?_ List.pairwise_lt_range
    intro i j hi hj hij x hx y hy
    have hj' : j < ps.length := by simpa using hj
    unfold movP1 at hx hy
    split at hx
    · rename_i hx1
      split at hy
      · rename_i hy1
        injection hx with hx
        injection hy with hy
        subst hx hy
        rcases ports_order h j i hij hj' with h1 | ⟨h1, h2⟩
        · exact h1
        · have hl := (last_of (os := os) h (by omega) hx1.1).1 hx1.2.1
          have hl2 := (last_of (os := os) h hj' hy1.1).1 hy1.2.1
          rw [← h1, hl] at hl2
          injection hl2 with hl2
          rw [hl2] at h2
          omega
      · cases hy
    · cases hx
  · unfold onceL
    rw [mem_compact, List.mem_mergeSort]
    unfold movP movR
    rw [List.mem_filterMap, List.mem_filterMap]
    refine ⟨fun ⟨i, h1, h2⟩ => ?_, fun ⟨i, h1, h2⟩ => ?_⟩
    · have hi : i < ps.length := by simpa using h1
      unfold movP1 at h2
      split at h2
      · rename_i h3
        injection h2 with h2
        refine ⟨i, h1, ?_⟩
        have hl := (last_of (os := os) h hi h3.1).1 h3.2.1
        unfold movR1 carV carTo
        rw [hl]
        rw [if_pos ⟨h3.1, h3.2.2.1, (hown _).1 h3.2.2.2⟩, h2]
      · cases h2
    · have hi : i < ps.length := by simpa using h1
      unfold movR1 at h2
      split at h2
      · rename_i h3
        injection h2 with h2
        rcases last_found ps (ps.getD i noPrt).n t ps.length with ⟨-, k2⟩ | ⟨k, k1, k2, k3, k4, k5⟩
        · exact absurd ⟨rfl, h3.1⟩ (k2 i hi)
        · refine ⟨k, by simpa using k1, ?_⟩
          have hl : lastB ps t k := (last_of (os := os) h k1 k4).2 (by rw [k3]; exact k2)
          have hc := h3.2.1
          unfold carV carTo at hc
          rw [k2] at hc
          unfold movP1
          rw [if_pos ⟨k4, hl, hc, by rw [k3]; exact (hown _).2 h3.2.2⟩, k3, h2]
      · cases h2
end Go.Proofs.YtmbimfmalijjpaaGreatDoor
