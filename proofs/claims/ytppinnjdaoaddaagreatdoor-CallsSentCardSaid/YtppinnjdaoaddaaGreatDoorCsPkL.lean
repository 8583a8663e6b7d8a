/- What is proved here: lemmas and contracts for the statement, put together out of smaller texts (CarrFcr, CarrSndR, CarrSnb, CarrTwo, CarrFree, CarrDel). No condition beyond those stated. -/
import Derived.Test.YtppinnjdaoaddaaGreatDoorCsPkK
import Derived.Test.YtppinnjdaoaddaaGreatDoorCsPkI
import Derived.Test.YtppinnjdaoaddaaGreatDoorCsPkA
import Derived.Test.YtppinnjdaoaddaaGreatDoorCsPkC
import Derived.Test.YtppinnjdaoaddaaGreatDoorCsPkD
import Derived.Test.YtppinnjdaoaddaaGreatDoorCsPkB
import Derived.Maps.AppendAt
import Derived.Test.YtppinnjdaoaddaaGreatDoorShelfSent
set_option linter.unusedVariables false
set_option linter.unusedSimpArgs false
namespace Go.Proofs.YtppinnjdaoaddaaGreatDoor
open Go.RowKit

set_option maxRecDepth 100000 in
set_option maxHeartbeats 4000000 in
theorem fltFault_any (w : World) (a : Option Addr) (n cap : Nat) (l : List Carr) (hl : CarrRow w a n l) (hcap : n ≤ cap) (a2 : Option Addr) (m cap2 : Nat) (s : List Flt) (hs : FltRow w a2 m s) (hcap2 : m ≤ cap2) : Calls Tryz.prog 42 #[.slice a n cap, .slice a2 m cap2] w (ErrPost (fltsErr l s) w) := by
  have hlen := hs.len
  have hfew := hs.few
  have HCR := Lib.hid hl
  have HSR := Lib.hid hs
  have HSC := Lib.hid (flts_cases l s (by omega))
  clear hl hs
  generalize fltsErr l s = R at HSC ⊢
  rw [← hlen] at HSC
  have HLEN := Lib.hid hlen
  clear hlen
  have hbig : ¬ (1000 : Int) < m := by omega
  go_enter Tryz.func42, Tryz.ntmps42
  go_wp2_with fail
  clear hbig
  go_loopw [12] (fun it wr => ∃ k : Nat, k ≤ m ∧ it = .int .i64 k ∧ Hid (∀ j, j < k → fltErr l s j = 0) ∧ Hid (Below w.heap.size w wr)) (fun it _ => m - (intOf it).toNat)
  case atStart => exact ⟨0, Nat.zero_le _, rfl, fun j hj => by omega, Below.refl _ _⟩
  case round =>
    obtain ⟨k, hk, rfl, HZ, HB⟩ := hrel
    by_cases hlt : k < m
    case neg =>
      obtain rfl : k = m := by omega
      obtain rfl : R = 0 := HSC.out.2 HZ.out
      clear HSC HZ
      as_aux_lemma =>
        go_wp2_with fail
        go_ret
        exact ⟨rfl, HB.out⟩
    obtain ⟨b, off, rfl, hb, hc⟩ := HSR.out.at (by omega)
    have HCC := Lib.hid hc
    obtain ⟨q0, q1, q2⟩ := hc k hlt
    have c0 := (HB.out.cell (p := ⟨b, off + k * 3, none⟩) hb).trans q0
    have c1 := (HB.out.cell (p := ⟨b, off + k * 3 + 1, none⟩) hb).trans q1
    have c2 := (HB.out.cell (p := ⟨b, off + k * 3 + 2, none⟩) hb).trans q2
    obtain ⟨hcl, hfb, htb⟩ := HSR.out.each k (by rw [← HLEN.out]; exact hlt)
    have HER : Hid (fltErr l s k = if hasC l (s.getD k noFlt).c = false then 8
      else if (s.getD k noFlt).f < 0 ∨ (s.getD k noFlt).t ≤ (s.getD k noFlt).f ∨ 345686400000 < (s.getD k noFlt).t then 1
      else if 0 < k ∧ 0 ≤ fltCmp (s.getD (k - 1) noFlt) (s.getD k noFlt) then 7
      else 0) := rfl
    have HSTOP := Lib.hid (HSC.out.1 k hlt HZ.out)
    have HNX : Hid (fltErr l s k = 0 → ∀ j, j < k + 1 → fltErr l s j = 0) := fun h j hj => by
      rcases Nat.lt_succ_iff_lt_or_eq.1 hj with h9 | rfl
      · exact HZ.out j h9
      · exact h
    have HPV : Hid (0 < k → w.cell? ⟨b, off + (k - 1) * 3, none⟩ = some (.string ⟨(s.getD (k - 1) noFlt).c.toArray⟩) ∧ w.cell? ⟨b, off + (k - 1) * 3 + 1, none⟩ = some (.int .i64 (s.getD (k - 1) noFlt).f) ∧ w.cell? ⟨b, off + (k - 1) * 3 + 2, none⟩ = some (.int .i64 (s.getD (k - 1) noFlt).t)) := fun h => HCC.out (k - 1) (by omega)
    clear q0 q1 q2 hc HZ HCC HSC
    generalize fltErr l s k = X at HER HSTOP HNX
    generalize s.getD k noFlt = c at c0 c1 c2 hcl hfb htb HER
    generalize s.getD (k - 1) noFlt = q at HER HPV
    obtain ⟨cc, cf, ct⟩ := c
    obtain ⟨qc, qf, qt⟩ := q
    simp only at c0 c1 c2 hcl hfb htb HER HPV
    have HID : Hid (idxC l cc < 0 ↔ hasC l cc = false) := idxC_neg
    have HFD : Hid (∀ W a n cap, CarrRow W a n l → Calls Tryz.prog 30 #[.slice a n cap, .string ⟨cc.toArray⟩] W fun e w' => e = .returned (.int .i64 (idxC l cc)) ∧ Below W.heap.size W w') := fun W a n cap h => carrAt_any W a n cap l h cc
    generalize idxC l cc = D at HID HFD
    generalize hasC l cc = g1 at HID HER
    have HX : Hid (Blk (wr.alloc (.cells #[.string ⟨cc.toArray⟩, .int .i64 cf, .int .i64 ct] 132)) wr.heap.size [.string ⟨cc.toArray⟩, .int .i64 cf, .int .i64 ct] 132) := Blk.new wr [.string ⟨cc.toArray⟩, .int .i64 cf, .int .i64 ct] 132
    have HBA : Hid (Below w.heap.size w (wr.alloc (.cells #[.string ⟨cc.toArray⟩, .int .i64 cf, .int .i64 ct] 132))) := ext_alloc HB.out
    clear HB
    as_aux_lemma =>
      go_upto_region 6 with (fail)
      generalize wr.alloc (.cells #[.string ⟨cc.toArray⟩, .int .i64 cf, .int .i64 ct] 132) = W1 at HX HBA ⊢
      generalize wr.heap.size = T at HX ⊢
      have x0 := HX.out.cell 0 rfl
      clear c0 c1 c2
      as_aux_lemma =>
        go_wp2_with fail
        refine (HFD.out _ a n cap (HCR.out.below HBA.out)).mono ?_
        rintro e w3 ⟨rfl, hb3⟩
        have HX3 := Lib.hid (HX.out.below hb3)
        have HB3 := Lib.hid (ext_trans HBA.out hb3)
        clear hb3 HX HBA HFD x0
        by_cases hD : D < 0
        · obtain rfl : X = 8 := by rw [HER.out, if_pos (HID.out.1 hD)]
          obtain rfl : R = 8 := HSTOP.out (by decide)
          clear HER HSTOP HNX HPV HID HX3
          skip
          as_aux_lemma =>
            go_wp2_with fail
            go_ret
            exact ⟨rfl, HB3.out⟩
        have HER1 : Hid (X = if cf < 0 ∨ ct ≤ cf ∨ 345686400000 < ct then 1
          else if 0 < k ∧ 0 ≤ fltCmp ⟨qc, qf, qt⟩ ⟨cc, cf, ct⟩ then 7
          else 0) := by show _ = _; rw [HER.out, if_neg (fun h => hD (HID.out.2 h))]
        clear HER HID
        have x0 := HX3.out.cell 0 rfl
        have x1 := HX3.out.cell 1 rfl
        have x2 := HX3.out.cell 2 rfl
        by_cases hf0 : cf < 0
        · obtain rfl : X = 1 := by rw [HER1.out, if_pos (Or.inl hf0)]
          obtain rfl : R = 1 := HSTOP.out (by decide)
          clear HER1 HSTOP HNX HPV HX3
          by_cases hft : ct ≤ cf
          · skip
            as_aux_lemma =>
              go_wp2_with fail
              go_ret
              exact ⟨rfl, HB3.out⟩
          · skip
            as_aux_lemma =>
              go_wp2_with fail
              go_ret
              exact ⟨rfl, HB3.out⟩
        by_cases hft : ct ≤ cf
        · obtain rfl : X = 1 := by rw [HER1.out, if_pos (Or.inr (Or.inl hft))]
          obtain rfl : R = 1 := HSTOP.out (by decide)
          clear HER1 HSTOP HNX HPV HX3
          skip
          as_aux_lemma =>
            go_wp2_with fail
            go_ret
            exact ⟨rfl, HB3.out⟩
        by_cases hte : 345686400000 < ct
        · obtain rfl : X = 1 := by rw [HER1.out, if_pos (Or.inr (Or.inr hte))]
          obtain rfl : R = 1 := HSTOP.out (by decide)
          clear HER1 HSTOP HNX HPV HX3
          skip
          as_aux_lemma =>
            go_wp2_with fail
            go_ret
            exact ⟨rfl, HB3.out⟩
        have HER2 : Hid (X = if 0 < k ∧ 0 ≤ fltCmp ⟨qc, qf, qt⟩ ⟨cc, cf, ct⟩ then 7
          else 0) := by show _ = _; rw [HER1.out, if_neg (fun h => by omega)]
        clear HER1
        obtain ⟨w5, rfl⟩ : ∃ x : World, x = w3 := ⟨_, rfl⟩
        by_cases hk0 : k = 0
        · subst hk0
          have HZ2 := Lib.hid (HNX.out (by rw [HER2.out, if_neg (fun h => by omega)]))
          clear HER2 HSTOP HNX HPV HX3
          skip
          as_aux_lemma =>
            go_upto_region 10 with (fail)
            have HS0 : Hid (Below w5.drew.heap.size w5.drew w5.drew) := Below.refl _ _
            refine region_seqI (S := fun W => Below w5.drew.heap.size w5.drew W) [(true, 0), (true, 1), (true, 2), (true, 3), (true, 4), (true, 5), (true, 6), (true, 7), (true, 8), (true, 9), (true, 10), (true, 11), (true, 12)] (by kernel_rfl) (by kernel_rfl) rfl (by kernel_rfl) HS0.out ?_
            simp only [seqOps, List.getD_cons_zero, List.getD_cons_succ]
            refine seqI_take (v := .int .i64 0) rfl (fun W hW => by go_simp) (fun _ _ _ h => h) ?_
            simp only [Act.put, List.setIfInBounds_toArray, List.set_cons_zero, List.set_cons_succ]
            refine seqI_take (v := .bool false) rfl (fun W hW => by go_simp) (fun _ _ _ h => h) ?_
            simp only [Act.put, List.setIfInBounds_toArray, List.set_cons_zero, List.set_cons_succ]
            refine seqI_take (v := .bool false) rfl (fun W hW => by go_simp) (fun _ _ _ h => h) ?_
            simp only [Act.put, List.setIfInBounds_toArray, List.set_cons_zero, List.set_cons_succ]
            refine seqI_skip rfl (fun _ _ _ h => h) ?_
            simp only [Act.put, List.setIfInBounds_toArray, List.set_cons_zero, List.set_cons_succ]
            refine seqI_skip rfl (fun _ _ _ h => h) ?_
            simp only [Act.put, List.setIfInBounds_toArray, List.set_cons_zero, List.set_cons_succ]
            refine seqI_skip rfl (fun _ _ _ h => h) ?_
            simp only [Act.put, List.setIfInBounds_toArray, List.set_cons_zero, List.set_cons_succ]
            refine seqI_skip rfl (fun _ _ _ h => h) ?_
            simp only [Act.put, List.setIfInBounds_toArray, List.set_cons_zero, List.set_cons_succ]
            refine seqI_skip rfl (fun _ _ _ h => h) ?_
            simp only [Act.put, List.setIfInBounds_toArray, List.set_cons_zero, List.set_cons_succ]
            refine seqI_skip rfl (fun _ _ _ h => h) ?_
            simp only [Act.put, List.setIfInBounds_toArray, List.set_cons_zero, List.set_cons_succ]
            refine seqI_skip rfl (fun _ _ _ h => h) ?_
            simp only [Act.put, List.setIfInBounds_toArray, List.set_cons_zero, List.set_cons_succ]
            refine seqI_skip rfl (fun _ _ _ h => h) ?_
            simp only [Act.put, List.setIfInBounds_toArray, List.set_cons_zero, List.set_cons_succ]
            refine seqI_take (v := .bool false) rfl (fun W hW => by go_simp) (fun _ _ _ h => h) ?_
            simp only [Act.put, List.setIfInBounds_toArray, List.set_cons_zero, List.set_cons_succ]
            refine seqI_take (v := .bool false) rfl (fun W hW => by go_simp) (fun _ _ _ h => h) ?_
            simp only [Act.put, List.setIfInBounds_toArray, List.set_cons_zero, List.set_cons_succ]
            refine seqI_nil ?_
            as_aux_lemma =>
              go_wp2_with fail
              go_roundw
              case rel => exact ⟨0 + 1, by omega, by go_num, HZ2.out, HB3.out.drew⟩
              case measure => simp [intOf]; omega
        obtain ⟨j, rfl⟩ : ∃ j, k = j + 1 := ⟨k - 1, by omega⟩
        obtain ⟨k0, k1, k2⟩ := HPV.out (by omega)
        rw [Nat.add_sub_cancel] at k0 k1 k2
        have w1 : IntKind.i64.wrap (j : Int) = j := IntWalk.i64_in _ (by omega)
        have w2 : IntKind.i64.wrap ((j : Int) + 1 - 1) = j := by rw [Int.add_sub_cancel]; exact w1
        have w3' : (j : Int) < m := by omega
        have w4 : (0 : Int) ≤ (j : Int) := by omega
        have hk1 : (0 : Int) < (j : Int) + 1 := by omega
        have HER3 : Hid (X = if 0 ≤ fltCmp ⟨qc, qf, qt⟩ ⟨cc, cf, ct⟩ then 7 else 0) := by
          show _ = _
          rw [HER2.out]
          congr 1
          exact propext ⟨fun h => h.2, fun h => ⟨by omega, h⟩⟩
        have HC1 : Hid (∀ W, Calls Tryz.prog 85 #[.agg #[.string ⟨qc.toArray⟩, .int .i64 qf, .int .i64 qt], .agg #[.string ⟨cc.toArray⟩, .int .i64 cf, .int .i64 ct]] W fun e w' => e = .returned (.int .i64 (fltCmp ⟨qc, qf, qt⟩ ⟨cc, cf, ct⟩)) ∧ Below W.heap.size W w') := fun W => faultOrder_any ⟨qc, qf, qt⟩ ⟨cc, cf, ct⟩ W
        have HER4 := HER3
        generalize fltCmp ⟨qc, qf, qt⟩ ⟨cc, cf, ct⟩ = z at HC1 HER4
        clear HER2 HER3 HPV hk0
        as_aux_lemma =>
          go_upto_region 10 with (fail)
          clear x0 x1 x2
          have g0 : w5.drew.cell? ⟨b, off + j * 3, none⟩ = some (.string ⟨qc.toArray⟩) := (HB3.out.cell (p := ⟨b, off + j * 3, none⟩) hb).trans k0
          have g1 : w5.drew.cell? ⟨b, off + j * 3 + 1, none⟩ = some (.int .i64 qf) := (HB3.out.cell (p := ⟨b, off + j * 3 + 1, none⟩) hb).trans k1
          have g2 : w5.drew.cell? ⟨b, off + j * 3 + 2, none⟩ = some (.int .i64 qt) := (HB3.out.cell (p := ⟨b, off + j * 3 + 2, none⟩) hb).trans k2
          have d0 : w5.drew.cell? ⟨T, 0, none⟩ = some (.string ⟨cc.toArray⟩) := HX3.out.cell 0 rfl
          have d1 : w5.drew.cell? ⟨T, 1, none⟩ = some (.int .i64 cf) := HX3.out.cell 1 rfl
          have d2 : w5.drew.cell? ⟨T, 2, none⟩ = some (.int .i64 ct) := HX3.out.cell 2 rfl
          have hT : T < w5.drew.heap.size := HX3.out.lt
          have hbw : b < w5.drew.heap.size := Nat.lt_of_lt_of_le hb HB3.out.size
          have HX5 : Hid (Below w.heap.size w w5.drew) := HB3.out.drew
          have HS0 : Hid (Below w5.drew.heap.size w5.drew w5.drew) := Below.refl _ _
          clear k0 k1 k2 HB3 HX3
          refine region_seqI (S := fun W => Below w5.drew.heap.size w5.drew W) [(true, 0), (true, 1), (true, 2), (true, 3), (true, 4), (true, 5), (true, 6), (true, 7), (true, 8), (false, 9), (true, 10), (true, 11), (true, 12)] (by kernel_rfl) (by kernel_rfl) rfl (by kernel_rfl) HS0.out ?_
          generalize w5.drew = wd at HS0 HX5 g0 g1 g2 d0 d1 d2 hT hbw ⊢
          simp only [seqOps, List.getD_cons_zero, List.getD_cons_succ]
          refine seqI_take (v := .int .i64 ((j : Int) + 1)) rfl (fun W hW => by go_simp) (fun _ _ _ h => h) ?_
          simp only [Act.put, List.setIfInBounds_toArray, List.set_cons_zero, List.set_cons_succ]
          refine seqI_take (v := .bool true) rfl (fun W hW => by go_simp) (fun _ _ _ h => h) ?_
          simp only [Act.put, List.setIfInBounds_toArray, List.set_cons_zero, List.set_cons_succ]
          refine seqI_take (v := .bool true) rfl (fun W hW => by go_simp) (fun _ _ _ h => h) ?_
          simp only [Act.put, List.setIfInBounds_toArray, List.set_cons_zero, List.set_cons_succ]
          refine seqI_take (v := .slice (some ⟨b, off, none⟩) m cap2) rfl (fun W hW => by go_simp) (fun _ _ _ h => h) ?_
          simp only [Act.put, List.setIfInBounds_toArray, List.set_cons_zero, List.set_cons_succ]
          refine seqI_take (v := .int .i64 ((j : Int) + 1)) rfl (fun W hW => by go_simp) (fun _ _ _ h => h) ?_
          simp only [Act.put, List.setIfInBounds_toArray, List.set_cons_zero, List.set_cons_succ]
          refine seqI_take (v := .int .i64 (j : Int)) rfl (fun W hW => by go_simp) (fun _ _ _ h => h) ?_
          simp only [Act.put, List.setIfInBounds_toArray, List.set_cons_zero, List.set_cons_succ]
          refine seqI_take (v := .pointer (some ⟨b, off + j * 3, none⟩)) rfl (fun W hW => by go_simp) (fun _ _ _ h => h) ?_
          simp only [Act.put, List.setIfInBounds_toArray, List.set_cons_zero, List.set_cons_succ]
          refine seqI_take (v := .agg #[.string ⟨qc.toArray⟩, .int .i64 qf, .int .i64 qt]) rfl (fun W hW => by have m0 := (hW.cell (p := ⟨b, off + j * 3, none⟩) hbw).trans g0; have m1 := (hW.cell (p := ⟨b, off + j * 3 + 1, none⟩) hbw).trans g1; have m2 := (hW.cell (p := ⟨b, off + j * 3 + 2, none⟩) hbw).trans g2; go_simp) (fun _ _ _ h => h) ?_
          simp only [Act.put, List.setIfInBounds_toArray, List.set_cons_zero, List.set_cons_succ]
          refine seqI_take (v := .agg #[.string ⟨cc.toArray⟩, .int .i64 cf, .int .i64 ct]) rfl (fun W hW => by have n0 := (hW.cell (p := ⟨T, 0, none⟩) hT).trans d0; have n1 := (hW.cell (p := ⟨T, 1, none⟩) hT).trans d1; have n2 := (hW.cell (p := ⟨T, 2, none⟩) hT).trans d2; go_simp) (fun _ _ _ h => h) ?_
          simp only [Act.put, List.setIfInBounds_toArray, List.set_cons_zero, List.set_cons_succ]
          refine seqI_call 85 #[.agg #[.string ⟨qc.toArray⟩, .int .i64 qf, .int .i64 qt], .agg #[.string ⟨cc.toArray⟩, .int .i64 cf, .int .i64 ct]] rfl (by go_simp) (HC1.out _) ?_
          rintro e we ⟨rfl, hbe⟩
          refine ⟨_, rfl, hbe, ?_⟩
          simp only [Act.put, List.setIfInBounds_toArray, List.set_cons_zero, List.set_cons_succ]
          have HXE : Hid (Below w.heap.size w we) := HX5.out.trans (hbe.mono HX5.out.size)
          clear hbe
          by_cases hz : 0 ≤ z
          · obtain rfl : X = 7 := by rw [HER4.out, if_pos hz]
            obtain rfl : R = 7 := HSTOP.out (by decide)
            refine seqI_take (v := .bool true) rfl (fun W hW => by go_simp) (fun _ _ _ h => h) ?_
            simp only [Act.put, List.setIfInBounds_toArray, List.set_cons_zero, List.set_cons_succ]
            refine seqI_take (v := .bool true) rfl (fun W hW => by go_simp) (fun _ _ _ h => h) ?_
            simp only [Act.put, List.setIfInBounds_toArray, List.set_cons_zero, List.set_cons_succ]
            refine seqI_take (v := .bool true) rfl (fun W hW => by go_simp) (fun _ _ _ h => h) ?_
            simp only [Act.put, List.setIfInBounds_toArray, List.set_cons_zero, List.set_cons_succ]
            refine seqI_nil ?_
            clear HER4 HNX HSTOP w1 w2 w3' w4
            as_aux_lemma =>
              go_wp2_with fail
              go_ret
              exact ⟨rfl, HXE.out⟩
          have HZ2 := Lib.hid (HNX.out (by rw [HER4.out, if_neg hz]))
          refine seqI_take (v := .bool false) rfl (fun W hW => by go_simp) (fun _ _ _ h => h) ?_
          simp only [Act.put, List.setIfInBounds_toArray, List.set_cons_zero, List.set_cons_succ]
          refine seqI_take (v := .bool false) rfl (fun W hW => by go_simp) (fun _ _ _ h => h) ?_
          simp only [Act.put, List.setIfInBounds_toArray, List.set_cons_zero, List.set_cons_succ]
          refine seqI_take (v := .bool false) rfl (fun W hW => by go_simp) (fun _ _ _ h => h) ?_
          simp only [Act.put, List.setIfInBounds_toArray, List.set_cons_zero, List.set_cons_succ]
          refine seqI_nil ?_
          clear HER4 HNX HSTOP w1 w2 w3' w4
          as_aux_lemma =>
            go_wp2_with fail
            go_roundw
            case rel => exact ⟨j + 1 + 1, by omega, by go_num, HZ2.out, HXE.out⟩
            case measure => simp [intOf]; omega
end Go.Proofs.YtppinnjdaoaddaaGreatDoor

set_option linter.unusedVariables false
set_option linter.unusedSimpArgs false
namespace Go.Proofs.YtppinnjdaoaddaaGreatDoor
open Go.RowKit

set_option maxRecDepth 100000 in
set_option maxHeartbeats 4000000 in
theorem sndFault_any (w : World) (a2 : Option Addr) (m cap2 : Nat) (rs : List Rcd) (hs : RcdRow w a2 m rs) (hcap2 : m ≤ cap2) : Calls Tryz.prog 46 #[.slice a2 m cap2] w (ErrPost (sndsErr rs) w) := by
  have hlen := hs.len
  have hfew := hs.few
  have HC := Lib.hid (snds_cases rs (by omega))
  have HSR := Lib.hid hs
  clear hs
  generalize sndsErr rs = R at HC ⊢
  rw [← hlen] at HC
  have HLEN := Lib.hid hlen
  clear hlen
  have hbig : ¬ (3000 : Int) < m := by omega
  go_enter Tryz.func46, Tryz.ntmps46
  go_wp2_with fail
  clear hbig
  go_loopw [10] (fun it wr => ∃ k : Nat, k ≤ m ∧ it = .int .i64 k ∧ Hid (∀ j, j < k → sndErr rs j = 0) ∧ Hid (Below w.heap.size w wr)) (fun it _ => m - (intOf it).toNat)
  case atStart => exact ⟨0, Nat.zero_le _, rfl, fun j hj => by omega, Below.refl _ _⟩
  case round =>
    obtain ⟨k, hk, rfl, HZ, HB⟩ := hrel
    by_cases hlt : k < m
    case neg =>
      obtain rfl : k = m := by omega
      obtain rfl : R = 0 := HC.out.2 HZ.out
      clear HC HZ
      as_aux_lemma =>
        go_wp2_with fail
        go_ret
        exact ⟨rfl, HB.out⟩
    obtain ⟨b, off, rfl, hb, hc⟩ := HSR.out.at (by omega)
    have HCC := Lib.hid hc
    obtain ⟨q0, q1, q2, q3, q4, q5, q6, q7⟩ := hc k hlt
    have c0 := (HB.out.cell (p := ⟨b, off + k * 8, none⟩) hb).trans q0
    have c1 := (HB.out.cell (p := ⟨b, off + k * 8 + 1, none⟩) hb).trans q1
    have c2 := (HB.out.cell (p := ⟨b, off + k * 8 + 2, none⟩) hb).trans q2
    have c3 := (HB.out.cell (p := ⟨b, off + k * 8 + 3, none⟩) hb).trans q3
    have c4 := (HB.out.cell (p := ⟨b, off + k * 8 + 4, none⟩) hb).trans q4
    have c5 := (HB.out.cell (p := ⟨b, off + k * 8 + 5, none⟩) hb).trans q5
    have c6 := (HB.out.cell (p := ⟨b, off + k * 8 + 6, none⟩) hb).trans q6
    have c7 := (HB.out.cell (p := ⟨b, off + k * 8 + 7, none⟩) hb).trans q7
    obtain ⟨h0, h1, h2, h3, h4, h5, h6, h7⟩ := HSR.out.each k (by rw [← HLEN.out]; exact hlt)
    have HER : Hid (sndErr rs k = if isKeyB (rs.getD k noRcd).id = false then 5
      else if isNumB (rs.getD k noRcd).to_ = false then 3
      else if isMomB (rs.getD k noRcd).at_ = false ∨ inB (rs.getD k noRcd).ring 0 86400000 = false ∨ inB (rs.getD k noRcd).talk 0 86400000 = false then 1
      else if 0 < k ∧ (rs.getD k noRcd).at_ < (rs.getD (k - 1) noRcd).at_ then 7
      else 0) := rfl
    have HSTOP := Lib.hid (HC.out.1 k hlt HZ.out)
    have HNX : Hid (sndErr rs k = 0 → ∀ j, j < k + 1 → sndErr rs j = 0) := fun h j hj => by
      rcases Nat.lt_succ_iff_lt_or_eq.1 hj with h9 | rfl
      · exact HZ.out j h9
      · exact h
    have HPV : Hid (0 < k → w.cell? ⟨b, off + (k - 1) * 8 + 3, none⟩ = some (.int .i64 (rs.getD (k - 1) noRcd).at_)) := fun h => (HCC.out (k - 1) (by omega)).2.2.2.1
    clear q0 q1 q2 q3 q4 q5 q6 q7 hc HZ HC HCC
    generalize sndErr rs k = X at HER HSTOP HNX
    generalize rs.getD k noRcd = c at c0 c1 c2 c3 c4 c5 c6 c7 h0 h1 h2 h3 h4 h5 h6 h7 HER
    generalize (rs.getD (k - 1) noRcd).at_ = pa at HER HPV
    obtain ⟨ri, rf, rt, ra, rr, rk, rh, rc⟩ := c
    simp only at c0 c1 c2 c3 c4 c5 c6 c7 h0 h1 h2 h3 h4 h5 h6 h7 HER
    have HX : Hid (Blk (wr.alloc (.cells #[.string ⟨ri.toArray⟩, .string ⟨rf.toArray⟩, .string ⟨rt.toArray⟩, .int .i64 ra, .int .i64 rr, .int .i64 rk, .int .i64 rh, .string ⟨rc.toArray⟩] 83)) wr.heap.size [.string ⟨ri.toArray⟩, .string ⟨rf.toArray⟩, .string ⟨rt.toArray⟩, .int .i64 ra, .int .i64 rr, .int .i64 rk, .int .i64 rh, .string ⟨rc.toArray⟩] 83) := Blk.new wr [.string ⟨ri.toArray⟩, .string ⟨rf.toArray⟩, .string ⟨rt.toArray⟩, .int .i64 ra, .int .i64 rr, .int .i64 rk, .int .i64 rh, .string ⟨rc.toArray⟩] 83
    have HBA : Hid (Below w.heap.size w (wr.alloc (.cells #[.string ⟨ri.toArray⟩, .string ⟨rf.toArray⟩, .string ⟨rt.toArray⟩, .int .i64 ra, .int .i64 rr, .int .i64 rk, .int .i64 rh, .string ⟨rc.toArray⟩] 83))) := ext_alloc HB.out
    clear HB
    as_aux_lemma =>
      go_upto_region 6 with (fail)
      generalize wr.alloc (.cells #[.string ⟨ri.toArray⟩, .string ⟨rf.toArray⟩, .string ⟨rt.toArray⟩, .int .i64 ra, .int .i64 rr, .int .i64 rk, .int .i64 rh, .string ⟨rc.toArray⟩] 83) = W1 at HX HBA ⊢
      generalize wr.heap.size = T at HX ⊢
      have x0 := HX.out.cell 0 rfl
      as_aux_lemma =>
        go_wp2_with fail
        refine (keyR_any ri _ (by omega)).mono ?_
        rintro e w3 ⟨rfl, hb3⟩
        have HX3 := Lib.hid (HX.out.below hb3)
        have HB3 := Lib.hid (ext_trans HBA.out hb3)
        clear hb3 HX HBA x0
        generalize isKeyB ri = g1 at HER ⊢
        cases g1
        · obtain rfl : X = 5 := by rw [HER.out, if_pos rfl]
          obtain rfl : R = 5 := HSTOP.out (by decide)
          clear HER HSTOP HNX HPV HX3
          skip
          as_aux_lemma =>
            go_wp2_with fail
            go_ret
            exact ⟨rfl, HB3.out⟩
        have HER1 : Hid (X = if isNumB rt = false then 3
          else if isMomB ra = false ∨ inB rr 0 86400000 = false ∨ inB rk 0 86400000 = false then 1
          else if 0 < k ∧ ra < pa then 7
          else 0) := by show _ = _; rw [HER.out, if_neg (by decide)]
        clear HER
        have x2 := HX3.out.cell 2 rfl
        skip
        as_aux_lemma =>
          go_wp2_with fail
          refine (form_l rt _ (by omega)).mono ?_
          rintro e w4 ⟨rfl, hb4⟩
          have HX4 := Lib.hid (HX3.out.below hb4)
          have HB4 := Lib.hid (ext_trans HB3.out hb4)
          clear hb4 HX3 HB3 x2
          generalize isNumB rt = g2 at HER1 ⊢
          cases g2
          · obtain rfl : X = 3 := by rw [HER1.out, if_pos rfl]
            obtain rfl : R = 3 := HSTOP.out (by decide)
            clear HER1 HSTOP HNX HPV HX4
            skip
            as_aux_lemma =>
              go_wp2_with fail
              go_ret
              exact ⟨rfl, HB4.out⟩
          have HER2 : Hid (X = if isMomB ra = false ∨ inB rr 0 86400000 = false ∨ inB rk 0 86400000 = false then 1
            else if 0 < k ∧ ra < pa then 7
            else 0) := by show _ = _; rw [HER1.out, if_neg (by decide)]
          clear HER1
          have x3 := HX4.out.cell 3 rfl
          have x4 := HX4.out.cell 4 rfl
          have x5 := HX4.out.cell 5 rfl
          clear HX4
          skip
          as_aux_lemma =>
            go_wp2_with fail
            refine (momF_same ra _).mono ?_
            rintro e w9 ⟨rfl, rfl⟩
            generalize isMomB ra = g3 at HER2 ⊢
            cases g3
            · obtain rfl : X = 1 := by rw [HER2.out, if_pos (Or.inl rfl)]
              obtain rfl : R = 1 := HSTOP.out (by decide)
              clear HER2 HSTOP HNX HPV
              skip
              as_aux_lemma =>
                go_wp2_with fail
                go_ret
                exact ⟨rfl, HB4.out⟩
            skip
            as_aux_lemma =>
              go_wp2_with fail
              refine (in_same rr 0 86400000 _).mono ?_
              rintro e w9 ⟨rfl, rfl⟩
              generalize inB rr 0 86400000 = g4 at HER2 ⊢
              cases g4
              · obtain rfl : X = 1 := by rw [HER2.out, if_pos (Or.inr (Or.inl rfl))]
                obtain rfl : R = 1 := HSTOP.out (by decide)
                clear HER2 HSTOP HNX HPV
                skip
                as_aux_lemma =>
                  go_wp2_with fail
                  go_ret
                  exact ⟨rfl, HB4.out⟩
              skip
              as_aux_lemma =>
                go_wp2_with fail
                refine (in_same rk 0 86400000 _).mono ?_
                rintro e w9 ⟨rfl, rfl⟩
                generalize inB rk 0 86400000 = g5 at HER2 ⊢
                cases g5
                · obtain rfl : X = 1 := by rw [HER2.out, if_pos (Or.inr (Or.inr rfl))]
                  obtain rfl : R = 1 := HSTOP.out (by decide)
                  clear HER2 HSTOP HNX HPV
                  skip
                  as_aux_lemma =>
                    go_wp2_with fail
                    go_ret
                    exact ⟨rfl, HB4.out⟩
                have HER3 : Hid (X = if 0 < k ∧ ra < pa then 7
                  else 0) := by show _ = _; rw [HER2.out, if_neg (by decide)]
                clear HER2
                by_cases hk0 : k = 0
                · subst hk0
                  have HZ2 := Lib.hid (HNX.out (by rw [HER3.out, if_neg (fun h => by omega)]))
                  clear HER3 HSTOP HNX HPV
                  skip
                  as_aux_lemma =>
                    go_wp2_with fail
                    go_quiet (fail)
                    go_wp2_with fail
                    go_roundw
                    case rel => exact ⟨0 + 1, by omega, by go_num, HZ2.out, ext_drewN HB4.out⟩
                    case measure => simp [intOf]; omega
                obtain ⟨j, rfl⟩ : ∃ j, k = j + 1 := ⟨k - 1, by omega⟩
                have p0 := HPV.out (by omega)
                rw [Nat.add_sub_cancel] at p0
                have w1 : IntKind.i64.wrap (j : Int) = j := IntWalk.i64_in _ (by omega)
                have w2 : IntKind.i64.wrap ((j : Int) + 1 - 1) = j := by rw [Int.add_sub_cancel]; exact w1
                have w3' : (j : Int) < m := by omega
                have w4' : (0 : Int) ≤ (j : Int) := by omega
                have g0 := (HB4.out.cell (p := ⟨b, off + j * 8 + 3, none⟩) hb).trans p0
                clear HPV p0 hk0
                by_cases hls : ra < pa
                · obtain rfl : X = 7 := by rw [HER3.out, if_pos ⟨by omega, hls⟩]
                  obtain rfl : R = 7 := HSTOP.out (by decide)
                  clear HER3 HSTOP HNX
                  skip
                  as_aux_lemma =>
                    go_wp2_with fail
                    go_quiet (fail)
                    go_wp2_with fail
                    go_ret
                    exact ⟨rfl, ext_drewN HB4.out⟩
                have HZ2 := Lib.hid (HNX.out (by rw [HER3.out, if_neg (fun h => hls h.2)]))
                clear HER3 HSTOP HNX
                skip
                as_aux_lemma =>
                  go_wp2_with fail
                  go_quiet (fail)
                  go_wp2_with fail
                  go_roundw
                  case rel => exact ⟨j + 1 + 1, by omega, by go_num, HZ2.out, ext_drewN HB4.out⟩
                  case measure => simp [intOf]; omega
end Go.Proofs.YtppinnjdaoaddaaGreatDoor

set_option linter.unusedVariables false
set_option linter.unusedSimpArgs false
namespace Go.Proofs.YtppinnjdaoaddaaGreatDoor
open Go.RowKit Go.Sort Go.Lib

theorem getD_memO {os : List Off} {k : Nat} (hk : k < os.length) : os.getD k noOff ∈ os := by
  rw [List.getD_eq_getElem?_getD, List.getElem?_eq_getElem hk]
  exact List.getElem_mem _
theorem sendO_bound {l : List Carr} {f L : List Flt} {r : Rcd} {os : List Off} {P : Int} (hP : 0 ≤ P) (hp : ∀ o ∈ os, 0 ≤ priceBy l r o.c ∧ priceBy l r o.c ≤ P) : ∀ k, k ≤ os.length →
    (0 ≤ (sendO l f L r os k).1.tried ∧ (sendO l f L r os k).1.tried ≤ k) ∧ (0 ≤ (sendO l f L r os k).1.price ∧ (sendO l f L r os k).1.price ≤ P) ∧ (0 ≤ (sendO l f L r os k).2 ∧ (sendO l f L r os k).2 ≤ P)
  | 0, _ => ⟨⟨Int.le_refl _, Int.le_refl _⟩, ⟨Int.le_refl _, hP⟩, ⟨Int.le_refl _, hP⟩⟩
  | k + 1, hk => by
    obtain ⟨⟨h1, h2⟩, ⟨h3, h4⟩, h5, h6⟩ := sendO_bound (f := f) (L := L) hP hp k (by omega)
    obtain ⟨p1, p2⟩ := hp _ (getD_memO (show k < os.length by omega))
    show (0 ≤ (stepO l f L r (sendO l f L r os k) (os.getD k noOff)).1.tried ∧ (stepO l f L r (sendO l f L r os k) (os.getD k noOff)).1.tried ≤ ((k + 1 : Nat) : Int)) ∧ (0 ≤ (stepO l f L r (sendO l f L r os k) (os.getD k noOff)).1.price ∧ (stepO l f L r (sendO l f L r os k) (os.getD k noOff)).1.price ≤ P) ∧ (0 ≤ (stepO l f L r (sendO l f L r os k) (os.getD k noOff)).2 ∧ (stepO l f L r (sendO l f L r os k) (os.getD k noOff)).2 ≤ P)
    unfold stepO
    generalize sendO l f L r os k = q at h1 h2 h3 h4 h5 h6 ⊢
    generalize priceBy l r (os.getD k noOff).c = p at p1 p2 ⊢
    obtain ⟨⟨q0, q1, q2, q3⟩, qm⟩ := q
    simp only at h1 h2 h3 h4 h5 h6 ⊢
    split
    · split
      · simp only
        refine ⟨⟨by omega, by omega⟩, ⟨h3, h4⟩, h5, h6⟩
      · simp only
        refine ⟨⟨by omega, by omega⟩, ⟨h3, h4⟩, h5, h6⟩
    · split
      · simp only
        refine ⟨⟨by omega, by omega⟩, ⟨p1, p2⟩, by omega, by omega⟩
      · simp only
        refine ⟨⟨by omega, by omega⟩, ⟨h3, h4⟩, by omega, by omega⟩
theorem sendR_bound {l : List Carr} {f : List Flt} {r : Rcd} {st : SSt} {P : Int} (hP : 0 ≤ P) (hp : ∀ o ∈ offL l r, 0 ≤ priceBy l r o.c ∧ priceBy l r o.c ≤ P) :
    (sendR l f r st).out.length = st.out.length + 1 ∧ (sendR l f r st).calls.length ≤ st.calls.length + 1 ∧ st.saved - P ≤ (sendR l f r st).saved ∧ (sendR l f r st).saved ≤ st.saved + P := by
  have hb := sendO_bound (f := f) (L := lastAt st.calls r.at_) hP hp _ (Nat.le_refl _)
  have hl : (lastAt st.calls r.at_).length ≤ st.calls.length := List.length_filter_le _ _
  unfold sendR
  simp only
  generalize sendO l f (lastAt st.calls r.at_) r (offL l r) (offL l r).length = q at hb ⊢
  split
  · exact ⟨by simp, by simp only; omega, by simp only; omega, by simp only; omega⟩
  · exact ⟨by simp, by simp only [List.length_append, List.length_singleton]; omega, by simp only; omega, by simp only; omega⟩
/-- Records that are right. -/
theorem offL_price {l : List Carr} (hl : l.length ≤ 3) {r : Rcd} (hg : GoodAt l r.at_) (h5 : 0 ≤ r.talk ∧ r.talk ≤ 86400000) : ∀ o ∈ offL l r, 0 ≤ priceBy l r o.c ∧ priceBy l r o.c ≤ 1000000000000 := fun o ho => priceBy_bound hg (offL_mem hl r o ho) h5
theorem sendTo_bound {l : List Carr} {f : List Flt} {rs : List Rcd} (hp : ∀ i, i < rs.length → ∀ o ∈ offL l (rs.getD i noRcd), 0 ≤ priceBy l (rs.getD i noRcd) o.c ∧ priceBy l (rs.getD i noRcd) o.c ≤ 1000000000000) : ∀ k, k ≤ rs.length →
    (sendTo l f rs k).out.length = k ∧ (sendTo l f rs k).calls.length ≤ k ∧ -(1000000000000 * (k : Int)) ≤ (sendTo l f rs k).saved ∧ (sendTo l f rs k).saved ≤ 1000000000000 * (k : Int)
  | 0, _ => ⟨rfl, Nat.le_refl _, by simp [sendTo], by simp [sendTo]⟩
  | k + 1, hk => by
    obtain ⟨h1, h2, h3, h4⟩ := sendTo_bound (f := f) hp k (by omega)
    obtain ⟨p1, p2, p3, p4⟩ := sendR_bound (f := f) (st := sendTo l f rs k) (show (0 : Int) ≤ 1000000000000 by decide) (hp k (by omega))
    exact ⟨by show (sendR l f (rs.getD k noRcd) (sendTo l f rs k)).out.length = _; omega, by show (sendR l f (rs.getD k noRcd) (sendTo l f rs k)).calls.length ≤ _; omega, by show _ ≤ (sendR l f (rs.getD k noRcd) (sendTo l f rs k)).saved; omega, by show (sendR l f (rs.getD k noRcd) (sendTo l f rs k)).saved ≤ _; omega⟩
/-- The reference's sums. -/
theorem dear_bound {l : List Carr} {r : Rcd} {fr : List (Off × Int)} {P : Int} (hP : 0 ≤ P) (hp : ∀ x ∈ fr, 0 ≤ priceBy l r x.1.c ∧ priceBy l r x.1.c ≤ P) : ∀ k, k ≤ fr.length → 0 ≤ dearTo l r fr k ∧ dearTo l r fr k ≤ P
  | 0, _ => ⟨Int.le_refl _, hP⟩
  | k + 1, hk => by
    obtain ⟨h1, h2⟩ := dear_bound hP hp k (by omega)
    have hm : fr.getD k (noOff, 0) ∈ fr := by
      rw [List.getD_eq_getElem?_getD, List.getElem?_eq_getElem (show k < fr.length by omega)]
      exact List.getElem_mem _
    obtain ⟨p1, p2⟩ := hp _ hm
    unfold dearTo
    generalize priceBy l r (fr.getD k (noOff, 0)).1.c = p at p1 p2 ⊢
    omega
theorem freeTo_mem {l : List Carr} {f L : List Flt} {t : Int} {os : List Off} : ∀ k, k ≤ os.length → ∀ x ∈ freeTo l f L t os k, x.1 ∈ os ∧ 0 ≤ x.2 ∧ x.2 ≤ k
  | 0, _, x, h => by cases h
  | k + 1, hk, x, h => by
    unfold freeTo at h
    rcases List.mem_append.1 h with h | h
    · obtain ⟨h1, h2, h3⟩ := freeTo_mem k (by omega) x h
      exact ⟨h1, h2, by omega⟩
    · split at h
      · rw [List.mem_singleton.1 h]
        exact ⟨getD_memO (by omega), by simp, by simp only; omega⟩
      · cases h
end Go.Proofs.YtppinnjdaoaddaaGreatDoor

set_option linter.unusedVariables false
set_option linter.unusedSimpArgs false
namespace Go.Proofs.YtppinnjdaoaddaaGreatDoor
open Go.RowKit

theorem gb_of_below {w w' : World} {row : Option Nat} (h : Below w.heap.size w w') : w.grownBy w' row := ⟨h.os, h.tape, h.output, h.size, fun k hk _ => h.block k hk⟩
theorem gb_below {w w1 w2 : World} {row : Option Nat} (h : w.grownBy w1 row) (hb : Below w1.heap.size w1 w2) : w.grownBy w2 row :=
  ⟨hb.os.trans h.os, hb.tape.trans h.tape, hb.output.trans h.output, Nat.le_trans h.size hb.size, fun k hk hn => (hb.block k (Nat.lt_of_lt_of_le hk h.size)).trans (h.block k hk hn)⟩
theorem gb_trans {w w1 w2 : World} {row : Option Nat} (h : w.grownBy w1 row) (hb : w1.grownBy w2 row) : w.grownBy w2 row :=
  ⟨hb.os.trans h.os, hb.tape.trans h.tape, hb.output.trans h.output, Nat.le_trans h.size hb.size, fun k hk hn => (hb.block k (Nat.lt_of_lt_of_le hk h.size) hn).trans (h.block k hk hn)⟩
theorem gb_to_below {w w' : World} {row : Option Nat} {base : Nat} (h : w.grownBy w' row) (hb : base ≤ w.heap.size) (hr : ∀ b, row = some b → base ≤ b) : Below base w w' :=
  ⟨h.os, h.tape, h.output, h.size, fun k hk => h.block k (by omega) fun e => by have := hr k e.symm; omega⟩
theorem gb_alloc {w w' : World} {o : Obj} {row : Option Nat} (h : (w.alloc o).grownBy w' row) : w.grownBy w' row := gb_trans (gb_of_below (ext_alloc (Below.refl _ _))) h
theorem own_gb {w w' : World} {row : Option Nat} {base e size : Nat} {v : Value} {n : Nat} {xs : List Value} (h : w.ownsRow base e size v n xs) (hg : w.grownBy w' row) (hd : ∀ b, v.ownBlock = some b → row ≠ some b) : w'.ownsRow base e size v n xs := by
  refine ⟨h.1, h.2.imp id ?_⟩
  rintro ⟨g, cap, cur, rfl, h1, h2, h3⟩
  exact ⟨g, cap, cur, rfl, h1, (hg.block g (Array.getElem?_eq_some_iff.1 h2).1 (fun e => hd g rfl e.symm)).trans h2, h3⟩
/-- Rows of different elements lie in different blocks; a row is no box of another kind. -/
theorem own_types {w : World} {base base' e e' size size' : Nat} {v v' : Value} {n n' : Nat} {xs xs' : List Value} (h : w.ownsRow base e size v n xs) (h2 : w.ownsRow base' e' size' v' n' xs') (hne : e ≠ e') : ∀ b, v.ownBlock = some b → v'.ownBlock ≠ some b := by
  intro b hb hb'
  rcases h.2 with ⟨rfl, _⟩ | ⟨g, cap, cur, rfl, _, hg, _⟩
  · cases hb
  rcases h2.2 with ⟨rfl, _⟩ | ⟨g', cap', cur', rfl, _, hg', _⟩
  · cases hb'
  injection hb with hb
  injection hb' with hb'
  simp only at hb hb'
  subst hb; subst hb'
  rw [hg] at hg'
  injection hg' with hg'
  injection hg' with _ h9
  exact hne h9
theorem own_blk {w : World} {base e size : Nat} {v : Value} {n : Nat} {xs : List Value} (h : w.ownsRow base e size v n xs) {X : Nat} {cs : List Value} {ty : TypeId} (hX : Blk w X cs ty) (hne : e ≠ ty) : v.ownBlock ≠ some X := by
  intro hb
  rcases h.2 with ⟨rfl, _⟩ | ⟨g, cap, cur, rfl, _, hg, _⟩
  · cases hb
  injection hb with hb
  simp only at hb
  subst hb
  rw [hX.at_] at hg
  injection hg with hg
  injection hg with _ h9
  exact hne h9.symm
theorem own_before {w : World} {base e size : Nat} {v : Value} {n : Nat} {xs : List Value} (h : w.ownsRow base e size v n xs) {X : Nat} (hX : w.heap.size ≤ X) : v.ownBlock ≠ some X := fun hb => by
  have := (h.lt X hb).2
  omega
/-- Cells written above a beginning of a row. -/
theorem setCells_gb {w : World} (g : Nat) : ∀ (L : List Value) (o : Nat), w.grownBy (w.setCells g o L) (some g) := by
  intro L
  induction L generalizing w with
  | nil => intro o; exact gb_of_below (Below.refl _ _)
  | cons v L ih =>
    intro o
    refine gb_trans ?_ (ih (w := w.setCell ⟨g, o, none⟩ v) (o + 1))
    refine ⟨rfl, rfl, rfl, by simp [World.setCell], fun k hk hn => Below.heap_setCell _ _ _ _ (fun e => hn (by rw [e]))⟩
theorem own_above {base e size g n cap : Nat} : ∀ (L : List Value) (w : World) (xs : List Value) (o m : Nat), w.ownsRow base e size (.slice (some ⟨g, 0, none⟩) n cap) n xs → m ≤ o → ∃ ys, (w.setCells g o L).ownsRow base e size (.slice (some ⟨g, 0, none⟩) n cap) n ys ∧ ys.take m = xs.take m
  | [], w, xs, o, m, h, _ => ⟨xs, h, rfl⟩
  | v :: L, w, xs, o, m, h, hm => by
    obtain ⟨ys, h1, h2⟩ := own_above L (w.setCell ⟨g, o, none⟩ v) (xs.set o v) (o + 1) m (h.stored o v).1 (by omega)
    exact ⟨ys, h1, by rw [h2, List.take_set_of_le hm]⟩
theorem own_cutK {w : World} {base B cap n m k : Nat} {e : TypeId} {xs : List Value} (h : w.ownsRow base e k (.slice (some ⟨B, 0, none⟩) n cap) n xs) (hm : m ≤ n) : w.ownsRow base e k (.slice (some ⟨B, 0, none⟩) m cap) m (xs.take (m * k)) := by
  have h1 := h.1
  have hk : m * k ≤ n * k := Nat.mul_le_mul_right k hm
  rcases h.2 with ⟨h0, _⟩ | ⟨g, cap', cur, h0, hb, hg, hn, hc, hs, ht⟩
  · cases h0
  · injection h0 with e1 _ e3
    injection e1 with e1
    injection e1 with e1
    subst e1 e3
    refine ⟨by rw [List.length_take]; omega, .inr ⟨B, cap, cur, rfl, hb, hg, by omega, hc, hs, ?_⟩⟩
    rw [← ht, List.take_take, Nat.min_eq_left hk]
theorem flat_take {α : Type} (f : α → List Value) (k : Nat) (hk : ∀ x, (f x).length = k) : ∀ (l : List α) (m : Nat), m ≤ l.length → ((l.map f).flatten).take (m * k) = ((l.take m).map f).flatten
  | l, 0, _ => by simp
  | [], m + 1, h => by simp at h
  | x :: l, m + 1, h => by
    rw [List.map_cons, List.flatten_cons, List.take_succ_cons, List.map_cons, List.flatten_cons]
    rw [show (m + 1) * k = (f x).length + m * k by rw [hk, Nat.add_mul]; omega, List.take_append]
    rw [List.take_of_length_le (by omega), Nat.add_sub_cancel_left, flat_take f k hk l m (by simpa using h)]
theorem run_clear_any (w : World) (t e : TypeId) (z : Value) (ht : Tryz.prog.underlying t = some (.slice e)) (hv : ∀ w, (zeroValue e).run Tryz.prog w = .ok z w) (hz : 0 < z.cells.size) (h1 : ∀ i : Nat, Value.oneCell' (z.cells[i]!) = true) (b o n c : Nat) (hn : 0 < n)
    (hc : ∀ j, j < n * z.cells.size → (w.cell? ⟨b, o + j, none⟩).isSome = true) (hf : ∀ j, j < n * z.cells.size → w.frozen? ⟨b, o + j, none⟩ = false) :
    ∃ L, ∀ ty : TypeId, (Builtin.clear_ #[t] ty #[.slice (some ⟨b, o, none⟩) n c]).run Tryz.prog w = .ok (.tuple #[]) (w.setCells b o L) := by
  refine ⟨(Builtin.zeroCells z.cells n).toList, fun ty => ?_⟩
  have hl : (Builtin.zeroCells z.cells n).size = n * z.cells.size := by simp [Builtin.zeroCells]
  have hst := run_storeCells_cells (P := Tryz.prog) b o (Builtin.zeroCells z.cells n).toList 0 w (by rw [Array.length_toList, hl]; simpa using hc) (by rw [Array.length_toList, hl]; simpa using hf) (by
    intro v hv'
    obtain ⟨i, hi, rfl⟩ := List.getElem_of_mem hv'
    simp only [Builtin.zeroCells, Array.getElem_toList, Array.getElem_map]
    exact h1 _)
  simp only [Nat.add_zero] at hst
  obtain ⟨m, rfl⟩ : ∃ m, n = m + 1 := ⟨n - 1, by omega⟩
  simp [Builtin.clear_, run_underlying ht, hv, hst]
theorem wpList_doneT {P : Program} {ops : Array Oper} {rest : List Oper} {o : Oper} {a : Act} {w w' : World} {Q : Exit → Act → World → Prop} (hg : o.guard = none) (h : (execOp a.eval o).run P w = .ok .skip w') (hK : wpList P ops Q rest (a.put o.dst undef) w') : wpList P ops Q (o :: rest) a w :=
  wpList_plain hg fun K hK' => wp_skip h (hK' _ _ hK)
end Go.Proofs.YtppinnjdaoaddaaGreatDoor

set_option linter.unusedVariables false
set_option linter.unusedSimpArgs false
namespace Go.Proofs.YtppinnjdaoaddaaGreatDoor
open Go.RowKit Go.Lib

instance : Inhabited Flt := ⟨noFlt⟩
theorem idxF_nil (a : Option Addr) (c : Nat) (fv : Value) (w : World) : Calls Tryz.prog 152 #[.slice a 0 c, fv] w fun e w' => e = .returned (.int .i64 (-1)) ∧ w = w' := by
  go_enter Tryz.func152, Tryz.ntmps152
  go_wp2_with fail
  go_loopw [8] (fun i wr => i = .int .i64 0 ∧ wr = w) (fun i _ => 0)
  case atStart => exact ⟨rfl, rfl⟩
  case round =>
    obtain ⟨rfl, rfl⟩ := hrel
    go_wp2_with fail
    go_ret
    exact ⟨rfl, rfl⟩
/-- Whether a fault meets a predicate: at a closure of number g. -/
theorem hasF_any (g : Nat) (lb : Array Value) (eg : ∀ args w, (callFunc g args).run Tryz.prog w = .ok (.enter g args) w) (w : World) (a : Option Addr) (n cap : Nat) (f : List Flt) (hf : FltRow w a n f) (p : Flt → Bool)
    (hp : PredBelow Tryz.prog g lb (fun x : Flt => .agg (Flt.cells x).toArray) p w) :
    Calls Tryz.prog 114 #[.slice a n cap, .func (.func g) #[] lb] w fun e w' => e = .returned (.bool (f.any p)) ∧ Below w.heap.size w w' := by
  have hlen := hf.len
  have hfew := hf.few
  by_cases h0 : n = 0
  · subst h0
    obtain rfl : f = [] := List.length_eq_zero_iff.1 hlen.symm
    have HI := Lib.hid (idxF_nil a cap (.func (.func g) #[] lb) w)
    clear hf hp hlen hfew
    go_enter Tryz.func114, Tryz.ntmps114
    go_wp2_with fail
    refine HI.out.mono ?_
    rintro e w' ⟨rfl, rfl⟩
    go_wp2_with fail
    go_ret
    exact ⟨rfl, Below.refl _ _⟩
  · obtain ⟨b, off, rfl, hb, hc⟩ := hf.at (by omega)
    have HA : Hid (f.any p = decide (0 ≤ Lib.idxBy (fun _ y => p y) (f.take n) noFlt)) := by
      rw [List.take_of_length_le (by omega)]
      exact (Lib.idxBy_nonneg_iff (fun _ y => p y) f noFlt).symm
    have hI : Calls Tryz.prog 152 #[.slice (some ⟨b, off, none⟩) n cap, .func (.func g) #[] lb] w fun e w' => e = .returned (.int .i64 (Lib.idxBy (fun _ y => p y) (f.take n) noFlt)) ∧ Below w.heap.size w w' := by
      refine Tryz.slices_idxF Flt.cells (fun _ => rfl) p g lb eg b off n cap f w hp (by omega) (by omega) hb fun j hj i v hv => ?_
      have e1 : f[j]! = f.getD j noFlt := by
        rw [List.getD_eq_getElem?_getD, List.getElem?_eq_getElem hj, getElem!_pos f j hj]; rfl
      rw [e1] at hv
      obtain ⟨k0, k1, k2⟩ := hc j (by omega)
      match i, hv with
      | 0, hv => injection hv with hv; rw [← hv]; exact k0
      | 1, hv => injection hv with hv; rw [← hv]; exact k1
      | 2, hv => injection hv with hv; rw [← hv]; exact k2
      | i + 3, hv => cases hv
    have HI := Lib.hid hI
    clear hI hf hp hlen hfew hc
    generalize Lib.idxBy (fun _ y => p y) (f.take n) noFlt = D at HA HI
    generalize f.any p = B at HA ⊢
    by_cases hD : 0 ≤ D
    · obtain rfl : B = true := by rw [HA.out]; simpa using hD
      clear HA
      go_enter Tryz.func114, Tryz.ntmps114
      go_wp2_with fail
      refine HI.out.mono ?_
      rintro e w' ⟨rfl, hb'⟩
      have HB := Lib.hid hb'
      clear hb'
      go_wp2_with fail
      go_ret
      exact ⟨rfl, HB.out⟩
    · obtain rfl : B = false := by rw [HA.out]; simpa using hD
      clear HA
      go_enter Tryz.func114, Tryz.ntmps114
      go_wp2_with fail
      refine HI.out.mono ?_
      rintro e w' ⟨rfl, hb'⟩
      have HB := Lib.hid hb'
      clear hb'
      go_wp2_with fail
      go_ret
      exact ⟨by show Ending.returned (Value.bool (decide (0 ≤ D))) = _; simp [hD], HB.out⟩

theorem inW_any (f t u : Int) (B : Nat) (W : World) (hB : B < W.heap.size) (c0 : W.cell? ⟨B, 0, none⟩ = some (.int .i64 u)) : Calls Tryz.prog 150 #[.agg #[.int .i64 f, .int .i64 t], .pointer (some ⟨B, 0, none⟩)] W fun e w' => e = .returned (.bool (decide (f ≤ u) && decide (u < t))) ∧ Below W.heap.size W w' := by
  have hne : B ≠ W.heap.size := by omega
  by_cases h1 : f ≤ u
  · by_cases h2 : u < t
    · go_enter Tryz.func150, Tryz.ntmps150
      go_wp2_with fail
      go_ret
      exact ⟨by simp [h1, h2], by first | exact ext_alloc (Below.refl _ _) | exact ext_drew (ext_alloc (Below.refl _ _))⟩
    · go_enter Tryz.func150, Tryz.ntmps150
      go_wp2_with fail
      go_ret
      exact ⟨by simp [h1, h2], by first | exact ext_alloc (Below.refl _ _) | exact ext_drew (ext_alloc (Below.refl _ _))⟩
  · go_enter Tryz.func150, Tryz.ntmps150
    go_wp2_with fail
    go_ret
    exact ⟨by rw [show decide (f ≤ u) = false from decide_eq_false (by omega)]; rfl, by first | exact ext_alloc (Below.refl _ _) | exact ext_drew (ext_alloc (Below.refl _ _))⟩
theorem free_pred (c : List UInt8) (u : Int) (A B C : Nat) (w : World) (hA : A < w.heap.size) (hB : B < w.heap.size) (hC : C < w.heap.size) (c0 : w.cell? ⟨A, 0, none⟩ = some (.string ⟨c.toArray⟩)) (c1 : w.cell? ⟨B, 0, none⟩ = some (.int .i64 u)) (c2 : w.cell? ⟨C, 0, none⟩ = some (.func (.func 150) #[] #[.pointer (some ⟨B, 0, none⟩)])) :
    PredBelow Tryz.prog 151 #[.pointer (some ⟨A, 0, none⟩), .pointer (some ⟨C, 0, none⟩)] (fun x : Flt => .agg (Flt.cells x).toArray) (fun x => decide (x.c = c) && inW u x) w := fun W x hb => by
  have k0 := (hb.cell (p := ⟨A, 0, none⟩) hA).trans c0
  have k1 := (hb.cell (p := ⟨B, 0, none⟩) hB).trans c1
  have k2 := (hb.cell (p := ⟨C, 0, none⟩) hC).trans c2
  have hAW : A < W.heap.size := Nat.lt_of_lt_of_le hA hb.size
  have hBW : B < W.heap.size := Nat.lt_of_lt_of_le hB hb.size
  have hCW : C < W.heap.size := Nat.lt_of_lt_of_le hC hb.size
  have hne1 : A ≠ W.heap.size := by omega
  have hne2 : C ≠ W.heap.size := by omega
  have HB := Lib.hid hb
  clear hb c0 c1 c2 hA hB hC
  obtain ⟨xc, xf, xt⟩ := x
  show Calls Tryz.prog 151 #[.agg #[.string ⟨xc.toArray⟩, .int .i64 xf, .int .i64 xt], .pointer (some ⟨A, 0, none⟩), .pointer (some ⟨C, 0, none⟩)] W _
  simp only
  have HBA : Hid (Below w.heap.size w (W.alloc (.cells #[.string ⟨xc.toArray⟩, .int .i64 xf, .int .i64 xt] 132))) := ext_alloc HB.out
  have k1' : (W.alloc (.cells #[.string ⟨xc.toArray⟩, .int .i64 xf, .int .i64 xt] 132)).cell? ⟨B, 0, none⟩ = some (.int .i64 u) := ((ext_alloc (Below.refl W.heap.size W) : Below W.heap.size W (W.alloc (.cells #[.string ⟨xc.toArray⟩, .int .i64 xf, .int .i64 xt] 132))).cell (p := ⟨B, 0, none⟩) hBW).trans k1
  have HIN := Lib.hid (inW_any xf xt u B _ (by simp; omega) k1')
  by_cases h : xc = c
  · subst h
    have HE : Hid ((decide (xc = xc) && inW u ⟨xc, xf, xt⟩) = (decide (xf ≤ u) && decide (u < xt))) := by show _ = _; simp [inW]
    rw [HE.out]
    generalize (decide (xf ≤ u) && decide (u < xt)) = b at HIN
    clear HE
    go_enter Tryz.func151, Tryz.ntmps151
    go_wp2_with fail
    refine HIN.out.mono ?_
    rintro e w' ⟨rfl, hb'⟩
    have HB2 := Lib.hid (ext_trans HBA.out hb')
    clear hb'
    go_wp2_with fail
    go_ret
    exact ⟨rfl, by first | exact HB2.out | exact ext_drew HB2.out⟩
  · clear HIN
    go_enter Tryz.func151, Tryz.ntmps151
    go_wp2_with fail
    go_ret
    exact ⟨by simp [h], by first | exact HBA.out | exact ext_drew HBA.out⟩
theorem store_func (e : Operand → Value) (o : Oper) (w : World) (x y : Operand) (ho : o.op = .store 198 x y) (B : Nat) (g : Nat) (cs : Array Value) (u : Value) (hx : e x = .pointer (some ⟨B, 0, none⟩)) (hy : e y = .func (.func g) #[] cs) (c : w.cell? ⟨B, 0, none⟩ = some u) (f : w.frozen? ⟨B, 0, none⟩ = false) :
   (execOp e o).run Tryz.prog w = .ok .skip (w.setCell ⟨B, 0, none⟩ (.func (.func g) #[] cs)) := by
  have h := fun m => run_store Tryz.prog w ⟨B, 0, none⟩ (.func (.func g) #[] cs) m rfl
  rw [c, f] at h
  unfold execOp
  rw [ho]
  simp only [hx, hy]
  go_simp
set_option maxRecDepth 100000 in
set_option maxHeartbeats 4000000 in
theorem free_any (w : World) (a : Option Addr) (n cap : Nat) (l : List Carr) (hl : CarrRow w a n l) (a1 : Option Addr) (n1 cap1 : Nat) (f : List Flt) (hf : FltRow w a1 n1 f) (base : Nat) (v : Value) (L : List Flt) (hL : w.ownsRow base 156 3 v L.length ((L.map Flt.cells).flatten)) (hL1 : L.length ≤ 100) (c : List UInt8) (t : Int) (hc : 0 ≤ idxC l c) :
    Calls Tryz.prog 113 #[.slice a n cap, .slice a1 n1 cap1, v, .string ⟨c.toArray⟩, .int .i64 t] w fun e w' => e = .returned (.bool (freeB l f L c t)) ∧ Below w.heap.size w w' := by
  obtain ⟨va, vc, rfl⟩ := own_shape hL
  have hFD := fun W (h : Below w.heap.size w W) => find_any W a n cap l (hl.below h) c
  have hLN : linesOf l c = (l.getD (idxC l c).toNat noCarr).lines := rfl
  have hlt := idxC_lt hc
  obtain ⟨q, hq⟩ : ∃ q : Nat, idxC l c = (q : Int) := ⟨(idxC l c).toNat, by omega⟩
  rw [hq] at hFD hLN hlt
  simp only [Int.toNat_natCast] at hLN hlt
  have hnl := hl.len
  obtain ⟨b, off, rfl, hb, hcc⟩ := hl.at (by omega)
  have hln := (hcc q (by omega)).2.1
  rw [← hLN] at hln
  have hqn : (q : Int) < (n : Int) := by omega
  have HFD := Lib.hid hFD
  have HFB : Hid (freeB l f L c t = (!brk f c t && decide (manyTo L c t L.length < linesOf l c))) := rfl
  generalize linesOf l c = LN at hln HFB
  generalize freeB l f L c t = F at HFB ⊢
  have HA := Lib.hid (And.intro hln hb)
  have HR := Lib.hid hL
  have HFR := Lib.hid hf
  clear hl hcc hL hf hLN hFD hc hq hln hnl
  have hAS : w.heap.size < ((w.alloc (.cells #[.string ⟨c.toArray⟩] 9)).alloc (.cells #[.int .i64 t] 3)).heap.size := by simp; omega
  go_enter Tryz.func113, Tryz.ntmps113
  go_upto_region 2 with (refine wpList_doneT rfl (store_func _ _ _ _ _ rfl (w.heap.size + 1 + 1) 150 #[.pointer (some ⟨w.heap.size + 1, 0, none⟩)] .nilFunc rfl rfl (by go_simp) (by go_simp)) ?_)
  have HB3 : Hid (Below w.heap.size w ((((w.alloc (.cells #[.string ⟨c.toArray⟩] 9)).alloc (.cells #[.int .i64 t] 3)).alloc (.cells #[.nilFunc] 198)).setCell ⟨w.heap.size + 1 + 1, 0, none⟩ (.func (.func 150) #[] #[.pointer (some ⟨w.heap.size + 1, 0, none⟩)]))) := (ext_alloc (ext_alloc (ext_alloc (Below.refl _ _)))).setCell (p := ⟨w.heap.size + 1 + 1, 0, none⟩) (by show w.heap.size ≤ w.heap.size + 1 + 1; omega) _
  have e0 : ((((w.alloc (.cells #[.string ⟨c.toArray⟩] 9)).alloc (.cells #[.int .i64 t] 3)).alloc (.cells #[.nilFunc] 198)).setCell ⟨w.heap.size + 1 + 1, 0, none⟩ (.func (.func 150) #[] #[.pointer (some ⟨w.heap.size + 1, 0, none⟩)])).cell? ⟨w.heap.size, 0, none⟩ = some (.string ⟨c.toArray⟩) := by go_simp
  have e1 : ((((w.alloc (.cells #[.string ⟨c.toArray⟩] 9)).alloc (.cells #[.int .i64 t] 3)).alloc (.cells #[.nilFunc] 198)).setCell ⟨w.heap.size + 1 + 1, 0, none⟩ (.func (.func 150) #[] #[.pointer (some ⟨w.heap.size + 1, 0, none⟩)])).cell? ⟨w.heap.size + 1, 0, none⟩ = some (.int .i64 t) := by go_simp
  have e2 : ((((w.alloc (.cells #[.string ⟨c.toArray⟩] 9)).alloc (.cells #[.int .i64 t] 3)).alloc (.cells #[.nilFunc] 198)).setCell ⟨w.heap.size + 1 + 1, 0, none⟩ (.func (.func 150) #[] #[.pointer (some ⟨w.heap.size + 1, 0, none⟩)])).cell? ⟨w.heap.size + 1 + 1, 0, none⟩ = some (.func (.func 150) #[] #[.pointer (some ⟨w.heap.size + 1, 0, none⟩)]) := by go_simp
  have hlS : w.heap.size + 1 + 1 < ((((w.alloc (.cells #[.string ⟨c.toArray⟩] 9)).alloc (.cells #[.int .i64 t] 3)).alloc (.cells #[.nilFunc] 198)).setCell ⟨w.heap.size + 1 + 1, 0, none⟩ (.func (.func 150) #[] #[.pointer (some ⟨w.heap.size + 1, 0, none⟩)])).heap.size := by simp
  generalize World.setCell (World.alloc (World.alloc (World.alloc w _) _) _) _ _ = W at HB3 e0 e1 e2 hlS ⊢
  have HRW := Lib.hid (own_keep HR.out HB3.out)
  have hcon : Calls Tryz.prog 114 #[.slice a1 n1 cap1, .func (.func 151) #[] #[.pointer (some ⟨w.heap.size, 0, none⟩), .pointer (some ⟨w.heap.size + 1 + 1, 0, none⟩)]] W fun e w' => e = .returned (.bool (brk f c t)) ∧ Below W.heap.size W w' := hasF_any 151 _ (by intro args w; rfl) W a1 n1 cap1 f (HFR.out.below HB3.out) _ (free_pred c t w.heap.size (w.heap.size + 1) (w.heap.size + 1 + 1) W (by omega) (by omega) hlS e0 e1 e2)
  have HCON := Lib.hid hcon
  clear hcon hAS HR HFR
  generalize hSS : w.heap.size = S at HB3 e0 e1 e2 hlS HFD HA HCON ⊢
  have HSS := Lib.hid hSS
  clear hSS
  generalize brk f c t = bk at HFB HCON
  skip
  as_aux_lemma =>
    go_wp2_with fail
    refine HCON.out.mono ?_
    rintro e w4 ⟨rfl, hb4⟩
    have HB4 := Lib.hid hb4
    clear hb4 HCON
    cases bk
    case true =>
      obtain rfl : F = false := HFB.out
      have HBE := Lib.hid (HB3.out.trans (HB4.out.mono (by omega)))
      clear HFB
      as_aux_lemma =>
        go_wp2_with fail
        go_ret
        exact ⟨rfl, by rw [HSS.out]; exact HBE.out⟩
    have HF2 : Hid (F = decide (manyTo L c t L.length < LN)) := HFB.out
    clear HFB
    as_aux_lemma =>
      go_wp2_with fail
      go_loopw [12, 21] (fun mm it wr => ∃ k : Nat, k ≤ L.length ∧ mm = .int .i64 (manyTo L c t k) ∧ it = .int .i64 k ∧ Hid (Below W.heap.size W wr)) (fun _ it _ => L.length - (intOf it).toNat)
      case atStart => exact ⟨0, Nat.zero_le _, rfl, rfl, HB4.out⟩
      case round =>
        clear HB4
        obtain ⟨k, hk, rfl, rfl, HB⟩ := hrel
        obtain ⟨hm0, hm1⟩ := manyTo_bound L c t k
        by_cases hlk : k < L.length
        case neg =>
          obtain rfl : k = L.length := by omega
          have HE := HF2
          clear HF2
          generalize manyTo L c t L.length = M at HE hm0 hm1 ⊢
          have HBW := Lib.hid (HB3.out.trans (HB.out.mono (by omega)))
          have hSr : S ≤ wr.heap.size := by have := HB.out.size; omega
          have x0 := (HB.out.cell (p := ⟨S, 0, none⟩) (by show S < _; omega)).trans e0
          have hlk2 : ¬ (L.length : Int) < L.length := by omega
          as_aux_lemma =>
            go_wp2_with fail
            refine (HFD.out _ HBW.out).mono ?_
            rintro e w5 ⟨rfl, hb5⟩
            have HB5 := Lib.hid (HBW.out.trans (hb5.mono hSr))
            clear hb5
            have hln := (HB5.out.cell (p := ⟨b, off + q * 3 + 1, none⟩) HA.out.2).trans HA.out.1
            by_cases hML : M < LN
            · obtain rfl : F = true := by rw [HE.out]; simpa using hML
              clear HE HA HFD x0
              as_aux_lemma =>
                go_wp2_with fail
                go_ret
                exact ⟨by simp [hML], by rw [HSS.out]; exact HB5.out⟩
            · obtain rfl : F = false := by rw [HE.out]; simpa using hML
              clear HE HA HFD x0
              as_aux_lemma =>
                go_wp2_with fail
                go_ret
                exact ⟨by simp [hML], by rw [HSS.out]; exact HB5.out⟩
        obtain ⟨g, rfl, hg0, hg1⟩ := own_pos HRW.out (by omega)
        have c0 := (HB.out.cell (p := ⟨g, k * 3 + 0, none⟩) hg1).trans (own_field Flt.cells (fun _ => rfl) HRW.out k 0 noFlt hlk (by omega) rfl)
        have c1 := (HB.out.cell (p := ⟨g, k * 3 + 1, none⟩) hg1).trans (own_field Flt.cells (fun _ => rfl) HRW.out k 1 noFlt hlk (by omega) rfl)
        have c2 := (HB.out.cell (p := ⟨g, k * 3 + 2, none⟩) hg1).trans (own_field Flt.cells (fun _ => rfl) HRW.out k 2 noFlt hlk (by omega) rfl)
        rw [Nat.add_zero] at c0
        have HMT : Hid (manyTo L c t (k + 1) = if (decide ((L.getD k noFlt).c = c) && inW t (L.getD k noFlt)) = true then manyTo L c t k + 1 else manyTo L c t k) := rfl
        have hlki : (k : Int) < (L.length : Int) := by omega
        generalize L.getD k noFlt = x at c0 c1 c2 HMT
        obtain ⟨xc, xf, xt⟩ := x
        simp only at c0 c1 c2 HMT
        generalize manyTo L c t k = M at HMT hm0 hm1 ⊢
        have HBA : Hid (Below W.heap.size W (wr.alloc (.cells #[.string ⟨xc.toArray⟩, .int .i64 xf, .int .i64 xt] 156))) := ext_alloc HB.out
        have HX : Hid (Blk (wr.alloc (.cells #[.string ⟨xc.toArray⟩, .int .i64 xf, .int .i64 xt] 156)) wr.heap.size [.string ⟨xc.toArray⟩, .int .i64 xf, .int .i64 xt] 156) := Blk.new wr [.string ⟨xc.toArray⟩, .int .i64 xf, .int .i64 xt] 156
        as_aux_lemma =>
          go_upto_region 8 with (fail)
          generalize wr.alloc (.cells #[.string ⟨xc.toArray⟩, .int .i64 xf, .int .i64 xt] 156) = w6 at HBA HX ⊢
          generalize wr.heap.size = T at HX ⊢
          clear c0 c1 c2 HB
          have x0 := HX.out.cell 0 rfl
          have x1 := HX.out.cell 1 rfl
          have x2 := HX.out.cell 2 rfl
          have f0 := (HBA.out.cell (p := ⟨S, 0, none⟩) (by show S < _; omega)).trans e0
          have f1 := (HBA.out.cell (p := ⟨S + 1, 0, none⟩) (by show S + 1 < _; omega)).trans e1
          have f2 := (HBA.out.cell (p := ⟨S + 1 + 1, 0, none⟩) (by show S + 1 + 1 < _; omega)).trans e2
          have hS6 : S + 1 < w6.heap.size := Nat.lt_of_lt_of_le (show S + 1 < W.heap.size by omega) HBA.out.size
          have wm : IntKind.i64.wrap (M + 1) = M + 1 := IntWalk.i64_in _ (by omega)
          by_cases h : xc = c
          case neg =>
            have HM2 : Hid (manyTo L c t (k + 1) = M) := by show _ = _; rw [HMT.out, if_neg (by simp [h])]
            clear HMT
            as_aux_lemma =>
              go_wp2_with fail
              go_roundw
              case rel => exact ⟨k + 1, by omega, by rw [HM2.out], by go_num, HBA.out⟩
              case measure => simp [intOf]; omega
          have HIN := Lib.hid (inW_any xf xt t (S + 1) w6 hS6 f1)
          have HM1 : Hid (manyTo L c t (k + 1) = if (decide (xf ≤ t) && decide (t < xt)) = true then M + 1 else M) := by show _ = _; rw [HMT.out, h, decide_eq_true rfl]; rfl
          clear HMT
          generalize (decide (xf ≤ t) && decide (t < xt)) = bb at HIN HM1
          subst h
          as_aux_lemma =>
            go_wp2_with fail
            refine HIN.out.mono ?_
            rintro e w7 ⟨rfl, hb7⟩
            have HB7 := Lib.hid (ext_trans HBA.out hb7)
            clear hb7 HIN
            cases bb
            · have HM2 : Hid (manyTo L xc t (k + 1) = M) := by show _ = _; rw [HM1.out, if_neg (by decide)]
              clear HM1
              as_aux_lemma =>
                go_wp2_with fail
                go_roundw
                case rel => exact ⟨k + 1, by omega, by rw [HM2.out], by go_num, HB7.out⟩
                case measure => simp [intOf]; omega
            · have HM2 : Hid (manyTo L xc t (k + 1) = M + 1) := by show _ = _; rw [HM1.out, if_pos rfl]
              clear HM1
              as_aux_lemma =>
                go_wp2_with fail
                go_roundw
                case rel => exact ⟨k + 1, by omega, by rw [HM2.out], by go_num, HB7.out⟩
                case measure => simp [intOf]; omega
end Go.Proofs.YtppinnjdaoaddaaGreatDoor

set_option linter.unusedVariables false
set_option linter.unusedSimpArgs false
namespace Go.Proofs.YtppinnjdaoaddaaGreatDoor
open Go.RowKit Go.Lib

theorem idxL_nil (a : Option Addr) (c : Nat) (fv : Value) (w : World) : Calls Tryz.prog 149 #[.slice a 0 c, fv] w fun e w' => e = .returned (.int .i64 (-1)) ∧ w = w' := by
  go_enter Tryz.func149, Tryz.ntmps149
  go_wp2_with fail
  go_loopw [8] (fun i wr => i = .int .i64 0 ∧ wr = w) (fun i _ => 0)
  case atStart => exact ⟨rfl, rfl⟩
  case round =>
    obtain ⟨rfl, rfl⟩ := hrel
    go_wp2_with fail
    go_ret
    exact ⟨rfl, rfl⟩
theorem ended_any (x : Flt) (X : Nat) (cs : List Value) (t : Int) (W : World) (hX : Blk W X cs 83) (h3 : cs[3]? = some (.int .i64 t)) : Calls Tryz.prog 112 #[.agg (Flt.cells x).toArray, .pointer (some ⟨X, 0, none⟩)] W fun e w' => e = .returned (.bool (decide (x.t ≤ t))) ∧ Below W.heap.size W w' := by
  have c3 := hX.cell 3 h3
  have hlt := hX.lt
  have hne : X ≠ W.heap.size := by omega
  clear hX h3
  obtain ⟨xc, xf, xt⟩ := x
  show Calls Tryz.prog 112 #[.agg #[.string ⟨xc.toArray⟩, .int .i64 xf, .int .i64 xt], .pointer (some ⟨X, 0, none⟩)] W _
  simp only
  go_enter Tryz.func112, Tryz.ntmps112
  go_wp2_with fail
  go_ret
  exact ⟨rfl, by first | exact ext_alloc (Below.refl _ _) | exact ext_drew (ext_alloc (Below.refl _ _))⟩
/-- The first call that has ended. -/
theorem first_ended (L : List Flt) (t : Int) : (∃ k, k < L.length ∧ (L.getD k noFlt).t ≤ t ∧ ∀ j, j < k → ¬ (L.getD j noFlt).t ≤ t) ∨ ∀ j, j < L.length → ¬ (L.getD j noFlt).t ≤ t := by
  induction L using snoc_ind with
  | h0 => exact Or.inr fun j hj => absurd hj (Nat.not_lt_zero j)
  | hs l x ih =>
    have hg : ∀ j, j < l.length → (l ++ [x]).getD j noFlt = l.getD j noFlt := fun j hj => by simp [List.getD_eq_getElem?_getD, List.getElem?_append_left hj]
    have hx : (l ++ [x]).getD l.length noFlt = x := by simp
    rcases ih with ⟨k, h1, h2, h3⟩ | h
    · exact Or.inl ⟨k, by rw [List.length_append]; omega, by rw [hg k h1]; exact h2, fun j hj => by rw [hg j (by omega)]; exact h3 j hj⟩
    · by_cases hp : x.t ≤ t
      · exact Or.inl ⟨l.length, by simp, by rw [hx]; exact hp, fun j hj => by rw [hg j hj]; exact h j hj⟩
      · refine Or.inr fun j hj => ?_
        rw [List.length_append, List.length_singleton] at hj
        rcases Nat.lt_succ_iff_lt_or_eq.1 hj with h9 | rfl
        · rw [hg j h9]; exact h j h9
        · rw [hx]; exact hp
theorem lastAt_step (L : List Flt) (t : Int) (j : Nat) (hj : j < L.length) : lastAt (L.take (j + 1)) t = lastAt (L.take j) t ++ (if (L.getD j noFlt).t ≤ t then [] else [L.getD j noFlt]) := by
  have e : L.take (j + 1) = L.take j ++ [L.getD j noFlt] := by
    rw [List.take_add_one, List.getElem?_eq_getElem hj]
    simp [List.getD_eq_getElem?_getD, hj]
  rw [e]
  unfold lastAt
  rw [List.filter_append]
  by_cases h : (L.getD j noFlt).t ≤ t
  · simp only [List.filter_cons, h, decide_true, Bool.not_true, List.filter_nil, if_true]; simp
  · simp only [List.filter_cons, h, decide_false, Bool.not_false, List.filter_nil, if_true, if_false]
theorem lastAt_none (L : List Flt) (t : Int) : ∀ k, k ≤ L.length → (∀ j, j < k → ¬ (L.getD j noFlt).t ≤ t) → lastAt (L.take k) t = L.take k := by
  intro k hk h
  unfold lastAt
  rw [List.filter_eq_self]
  intro y hy
  obtain ⟨i, hi, rfl⟩ := List.getElem_of_mem hy
  have hi' : i < k := by rw [List.length_take] at hi; omega
  have := h i hi'
  rw [List.getD_eq_getElem?_getD, List.getElem?_eq_getElem (show i < L.length by omega)] at this
  simpa [List.getElem_take] using this
theorem own_set3 {w : World} {base g n cap : Nat} {e : TypeId} {R : List Flt} (h : w.ownsRow base e 3 (.slice (some ⟨g, 0, none⟩) n cap) n ((R.map Flt.cells).flatten)) (i : Nat) (hi : i < R.length) (xc : List UInt8) (xf xt : Int) :
    (((w.setCell ⟨g, i * 3, none⟩ (.string ⟨xc.toArray⟩)).setCell ⟨g, i * 3 + 1, none⟩ (.int .i64 xf)).setCell ⟨g, i * 3 + 2, none⟩ (.int .i64 xt)).ownsRow base e 3 (.slice (some ⟨g, 0, none⟩) n cap) n (((R.set i ⟨xc, xf, xt⟩).map Flt.cells).flatten) := by
  have h1 := own_put1 Flt.cells (fun _ => rfl) h i 0 noFlt ⟨xc, (R.getD i noFlt).f, (R.getD i noFlt).t⟩ (.string ⟨xc.toArray⟩) hi (by omega) rfl
  rw [Nat.add_zero] at h1
  have h2 := own_put1 Flt.cells (fun _ => rfl) h1 i 1 noFlt ⟨xc, xf, (R.getD i noFlt).t⟩ (.int .i64 xf) (by simpa using hi) (by omega) (by simp [hi, Flt.cells])
  rw [List.set_set] at h2
  have h3 := own_put1 Flt.cells (fun _ => rfl) h2 i 2 noFlt ⟨xc, xf, xt⟩ (.int .i64 xt) (by simpa using hi) (by omega) (by simp [hi, Flt.cells])
  rw [List.set_set] at h3
  exact h3
theorem set3_gb (w : World) (g i : Nat) (v0 v1 v2 : Value) : w.grownBy (((w.setCell ⟨g, i * 3, none⟩ v0).setCell ⟨g, i * 3 + 1, none⟩ v1).setCell ⟨g, i * 3 + 2, none⟩ v2) (some g) := setCells_gb g [v0, v1, v2] (i * 3)
theorem take_set_len (R : List Flt) (i : Nat) (x : Flt) (hi : i < R.length) : (R.set i x).take (i + 1) = R.take i ++ [x] := by
  rw [List.take_add_one, List.getElem?_set_self hi, List.take_set_of_le (Nat.le_refl i)]
  rfl
def DelPost (base : Nat) (v : Value) (L : List Flt) (w : World) (e : Ending) (w' : World) : Prop := ∃ v', e = .returned v' ∧ w'.ownsRow base 156 3 v' L.length ((L.map Flt.cells).flatten) ∧ w.grownBy w' v.ownBlock ∧ v'.ownBlock = v.ownBlock

set_option maxRecDepth 100000 in
set_option maxHeartbeats 4000000 in
theorem delL_any (w : World) (base : Nat) (v : Value) (L : List Flt) (h : w.ownsRow base 156 3 v L.length ((L.map Flt.cells).flatten)) (hn : L.length ≤ 100) (X : Nat) (cs : List Value) (t : Int) (hX : Blk w X cs 83) (h3 : cs[3]? = some (.int .i64 t)) :
    Calls Tryz.prog 111 #[v, .func (.func 112) #[] #[.pointer (some ⟨X, 0, none⟩)]] w (DelPost base v (lastAt L t) w) := by
  obtain ⟨a, cp, rfl⟩ := own_shape h
  have hne := own_blk h hX (by decide)
  by_cases h0 : L.length = 0
  · obtain rfl := List.length_eq_zero_iff.1 h0
    have HI := Lib.hid (idxL_nil a cp (.func (.func 112) #[] #[.pointer (some ⟨X, 0, none⟩)]) w)
    have HE : Hid (DelPost base (.slice a 0 cp) (lastAt [] t) w (.returned (.slice a 0 cp)) w) := ⟨_, rfl, h, gb_of_below (Below.refl _ _), rfl⟩
    clear h hX h3 hne
    go_enter Tryz.func111, Tryz.ntmps111
    go_wp2_with fail
    refine HI.out.mono ?_
    rintro e w' ⟨rfl, rfl⟩
    go_wp2_with fail
    go_ret
    exact HE.out
  obtain ⟨g, rfl, hg0, hg1⟩ := own_pos h (by omega)
  have hXg : g ≠ X := fun e => hne (by rw [← e]; rfl)
  have hIX := Tryz.slices_idxL Flt.cells (fun _ => rfl) (fun x => decide (x.t ≤ t)) 112 #[.pointer (some ⟨X, 0, none⟩)] (by intro args w; rfl) g 0 L.length cp L w (fun W x hb => (ended_any x X cs t W (hX.below hb) h3).mono fun e w' h9 => ⟨h9.1, ext_trans hb h9.2⟩) (Nat.le_refl _) (by omega) hg1 (fun j hj i v hv => by
      have e1 : L[j]! = L.getD j noFlt := by
        rw [List.getD_eq_getElem?_getD, List.getElem?_eq_getElem hj, getElem!_pos L j hj]; rfl
      rw [e1] at hv
      have hi : i < 3 := by
        have := (List.getElem?_eq_some_iff.1 hv).1
        exact this
      rw [Nat.zero_add]
      exact own_field Flt.cells (fun _ => rfl) h j i noFlt hj hi hv)
  have HX := Lib.hid hX
  have HO := Lib.hid h
  have hpos : 0 < L.length := by omega
  have hgl : ∀ j, j < L.length → L[j]! = L.getD j noFlt := fun j hj => by
    rw [List.getD_eq_getElem?_getD, List.getElem?_eq_getElem hj, getElem!_pos L j hj]; rfl
  rcases first_ended L t with ⟨k, hk, hkt, hkj⟩ | hall
  case inr =>
    have hm : Lib.idxBy (fun _ (y : Flt) => decide (y.t ≤ t)) (L.take L.length) default = -1 := Lib.idxBy_miss _ L L.length default fun j hj => by
      rw [hgl j hj]; exact decide_eq_false (hall j hj)
    rw [hm] at hIX
    have HI := Lib.hid hIX
    have HL : Hid (lastAt L t = L) := by
      have := lastAt_none L t L.length (Nat.le_refl _) hall
      rw [List.take_length] at this
      exact this
    clear hIX hm h hX h3 hne hall hgl
    rw [HL.out]
    go_enter Tryz.func111, Tryz.ntmps111
    go_wp2_with fail
    refine HI.out.mono ?_
    rintro e w1 ⟨rfl, hb1⟩
    have HE : Hid (DelPost base (.slice (some ⟨g, 0, none⟩) L.length cp) L w (.returned (.slice (some ⟨g, 0, none⟩) L.length cp)) w1) := ⟨_, rfl, own_keep HO.out hb1, gb_of_below hb1, rfl⟩
    clear hb1
    go_wp2_with fail
    go_ret
    exact HE.out
  have hm : Lib.idxBy (fun _ (y : Flt) => decide (y.t ≤ t)) (L.take L.length) default = k := Lib.idxBy_hit _ L L.length k default hk (Nat.le_refl _) (by rw [hgl k hk]; exact decide_eq_true hkt) fun j hj => by
      rw [hgl j (by omega)]; exact decide_eq_false (hkj j hj)
  rw [hm] at hIX
  have HI := Lib.hid hIX
  have HL0 : Hid (L.take k = lastAt (L.take (k + 1)) t) := by
    have := lastAt_none L t k (by omega) hkj
    show _ = _
    rw [lastAt_step L t k hk, if_pos hkt, this, List.append_nil]
  have hne1 : ((k : Int) == -1) = false := beq_eq_false_iff_ne.2 (by omega)
  have hcp : L.length ≤ cp := (own_caps h).2
  have H3 := Lib.hid h3
  clear hIX hm h hX h3 hne hgl hkt hkj
  go_enter Tryz.func111, Tryz.ntmps111
  go_wp2_with fail
  refine HI.out.mono ?_
  rintro e w1 ⟨rfl, hb1⟩
  have HB1 := Lib.hid hb1
  clear hb1 HI
  go_wp2_with fail
  go_loopw [5, 6] (fun si sj wr => ∃ (i j : Nat) (R : List Flt), si = .int .i64 i ∧ sj = .int .i64 j ∧ i < j ∧ j ≤ L.length ∧ Hid (R.length = L.length ∧ R.take i = lastAt (L.take j) t ∧ ∀ q, j ≤ q → q < L.length → R.getD q noFlt = L.getD q noFlt) ∧ Hid (wr.ownsRow base 156 3 (.slice (some ⟨g, 0, none⟩) L.length cp) L.length ((R.map Flt.cells).flatten)) ∧ Hid (w.grownBy wr (some g))) (fun _ sj _ => L.length - (intOf sj).toNat)
  case atStart => exact ⟨k, k + 1, L, rfl, by go_num, by omega, by omega, ⟨rfl, HL0.out, fun _ _ _ => rfl⟩, own_keep HO.out HB1.out, gb_of_below HB1.out⟩
  case round =>
    clear HB1 HO HL0 hne1
    obtain ⟨i, j, R, rfl, rfl, hij, hjn, HR, HOW, HG⟩ := hrel
    have hRl := HR.out.1
    by_cases hlt : j < L.length
    case neg =>
      obtain rfl : j = L.length := by omega
      have hin : i ≤ L.length := by omega
      have hci : ¬ cp = i := by omega
      have hil : (i : Int) ≤ (L.length : Int) := by omega
      have hic : (i : Int) ≤ (cp : Int) := by omega
      have hcell : ∀ q, q < (L.length - i) * 3 → (wr.cell? ⟨g, i * 3 + q, none⟩).isSome = true := fun q hq => by
        rw [HOW.out.cellAt (i * 3 + q) (by omega)]
        have hf := flat_length Flt.cells 3 (fun _ => rfl) R
        rw [List.getElem?_eq_getElem (by rw [hf, hRl]; omega)]
        rfl
      obtain ⟨LZ, hcl⟩ := run_clear_any wr 153 156 (.agg #[.string ⟨#[]⟩, .int .i64 0, .int .i64 0]) Tryz.underlying153 Tryz.zeroValue156 (by decide) (fun i => by
        match i with
        | 0 => rfl
        | 1 => rfl
        | 2 => rfl
        | i + 3 => rfl) g (i * 3) (L.length - i) (cp - i) (by omega) hcell (fun q _ => HOW.out.frozenAt _)
      have HE : Hid (DelPost base (.slice (some ⟨g, 0, none⟩) L.length cp) (lastAt L t) w (.returned (.slice (some ⟨g, 0, none⟩) i cp)) (wr.setCells g (i * 3) LZ)) := by
        obtain ⟨ys, hy1, hy2⟩ := own_above LZ wr _ (i * 3) (i * 3) HOW.out (Nat.le_refl _)
        have hy3 := own_cutK hy1 hin
        rw [hy2, flat_take Flt.cells 3 (fun _ => rfl) R i (by omega), HR.out.2.1, List.take_length] at hy3
        have hlen : (lastAt L t).length = i := by
          have := congrArg List.length HR.out.2.1
          rw [List.length_take, List.take_length] at this
          omega
        refine ⟨_, rfl, ?_, gb_trans HG.out (setCells_gb g LZ (i * 3)), rfl⟩
        rw [hlen]
        exact hy3
      clear HOW HG HR hcell hRl
      as_aux_lemma =>
        go_wp2_with fail
        go_ret
        exact HE.out
    have hlti : (j : Int) < (L.length : Int) := by omega
    have hii : (i : Int) < (L.length : Int) := by omega
    have hi0 : (0 : Int) ≤ (i : Int) := by omega
    have wi : IntKind.i64.wrap ((i : Int) + 1) = (i : Int) + 1 := IntWalk.i64_in _ (by omega)
    have wj : IntKind.i64.wrap ((j : Int) + 1) = (j : Int) + 1 := IntWalk.i64_in _ (by omega)
    have c0 := own_field Flt.cells (fun _ => rfl) HOW.out j 0 noFlt (by omega) (by omega) rfl
    have c1 := own_field Flt.cells (fun _ => rfl) HOW.out j 1 noFlt (by omega) (by omega) rfl
    have c2 := own_field Flt.cells (fun _ => rfl) HOW.out j 2 noFlt (by omega) (by omega) rfl
    rw [Nat.add_zero] at c0
    have HST := Lib.hid (lastAt_step L t j hlt)
    have HGJ := Lib.hid (HR.out.2.2 j (Nat.le_refl _) hlt)
    rw [← HGJ.out] at HST
    clear HGJ
    have hgw : g < wr.heap.size := Nat.lt_of_lt_of_le hg1 HG.out.size
    have hXw := Lib.hid (HX.out.grown HG.out (fun e => hXg (by injection e)))
    have HRX : Hid (R.getD j noFlt = R.getD j noFlt) := rfl
    generalize hx : R.getD j noFlt = x at c0 c1 c2 HST
    have HXX := Lib.hid hx
    clear hx HRX
    obtain ⟨xc, xf, xt⟩ := x
    simp only at c0 c1 c2 HST
    have hA : Below wr.heap.size wr (wr.alloc (.cells #[.string ⟨xc.toArray⟩, .int .i64 xf, .int .i64 xt] 156)) := ext_alloc (Below.refl _ _)
    have HOA := Lib.hid (own_keep HOW.out hA)
    have HGA := Lib.hid (gb_below HG.out hA)
    have HXA := Lib.hid (hXw.out.below hA)
    have HVA : Hid (Blk (wr.alloc (.cells #[.string ⟨xc.toArray⟩, .int .i64 xf, .int .i64 xt] 156)) wr.heap.size [.string ⟨xc.toArray⟩, .int .i64 xf, .int .i64 xt] 156) := Blk.new wr [.string ⟨xc.toArray⟩, .int .i64 xf, .int .i64 xt] 156
    have hgV : g ≠ wr.heap.size := by omega
    clear hA HOW HG hXw
    as_aux_lemma =>
      go_upto_region 8 with (fail)
      generalize wr.alloc (.cells #[.string ⟨xc.toArray⟩, .int .i64 xf, .int .i64 xt] 156) = w6 at HOA HGA HXA HVA ⊢
      generalize wr.heap.size = V at HVA hgV ⊢
      clear c0 c1 c2 hgw
      have v0 := HVA.out.cell 0 rfl
      have v1 := HVA.out.cell 1 rfl
      have v2 := HVA.out.cell 2 rfl
      have HEN := Lib.hid (ended_any ⟨xc, xf, xt⟩ X cs t w6 HXA.out H3.out)
      by_cases hxt : xt ≤ t
      · have HEN2 : Hid (Calls Tryz.prog 112 #[.agg #[.string ⟨xc.toArray⟩, .int .i64 xf, .int .i64 xt], .pointer (some ⟨X, 0, none⟩)] w6 fun e w' => e = .returned (.bool true) ∧ Below w6.heap.size w6 w') := by
          have := HEN.out
          simp only [hxt, decide_true] at this
          exact this
        have HS2 : Hid (lastAt (L.take (j + 1)) t = lastAt (L.take j) t) := by show _ = _; rw [HST.out, if_pos hxt, List.append_nil]
        clear HEN HST
        as_aux_lemma =>
          go_wp2_with fail
          refine HEN2.out.mono ?_
          rintro e w7 ⟨rfl, hb7⟩
          have HO7 := Lib.hid (own_keep HOA.out hb7)
          have HG7 := Lib.hid (gb_below HGA.out hb7)
          clear hb7 HEN2 v0 v1 v2
          go_wp2_with fail
          go_roundw
          case rel => exact ⟨i, j + 1, R, rfl, by go_num, by omega, by omega, ⟨hRl, by rw [HS2.out]; exact HR.out.2.1, fun q h1 h2 => HR.out.2.2 q (by omega) h2⟩, HO7.out, HG7.out⟩
          case measure => simp [intOf]; omega
      · have HEN2 : Hid (Calls Tryz.prog 112 #[.agg #[.string ⟨xc.toArray⟩, .int .i64 xf, .int .i64 xt], .pointer (some ⟨X, 0, none⟩)] w6 fun e w' => e = .returned (.bool false) ∧ Below w6.heap.size w6 w') := by
          have := HEN.out
          simp only [hxt, decide_false] at this
          exact this
        have HS2 : Hid (lastAt (L.take (j + 1)) t = lastAt (L.take j) t ++ [⟨xc, xf, xt⟩]) := by show _ = _; rw [HST.out, if_neg hxt]
        clear HEN HST
        as_aux_lemma =>
          go_wp2_with fail
          refine HEN2.out.mono ?_
          rintro e w7 ⟨rfl, hb7⟩
          have HO7 := Lib.hid (own_keep HOA.out hb7)
          have HG7 := Lib.hid (gb_below HGA.out hb7)
          have HV7 := Lib.hid (HVA.out.below hb7)
          have v0 := HV7.out.cell 0 rfl
          have v1 := HV7.out.cell 1 rfl
          have v2 := HV7.out.cell 2 rfl
          have d0 := own_field Flt.cells (fun _ => rfl) HO7.out i 0 noFlt (by omega) (by omega) rfl
          have d1 := own_field Flt.cells (fun _ => rfl) HO7.out i 1 noFlt (by omega) (by omega) rfl
          have d2 := own_field Flt.cells (fun _ => rfl) HO7.out i 2 noFlt (by omega) (by omega) rfl
          rw [Nat.add_zero] at d0
          have q0 := HO7.out.frozenAt (i * 3)
          have q1 := HO7.out.frozenAt (i * 3 + 1)
          have q2 := HO7.out.frozenAt (i * 3 + 2)
          have HO8 := Lib.hid (own_set3 HO7.out i (by omega) xc xf xt)
          have HG8 := Lib.hid (gb_trans HG7.out (set3_gb w7 g i (.string ⟨xc.toArray⟩) (.int .i64 xf) (.int .i64 xt)))
          clear hb7 HEN2 HO7 HG7 HV7 HOA HGA HVA HXA
          as_aux_lemma =>
            go_wp2_with fail
            go_roundw
            case rel =>
              refine ⟨i + 1, j + 1, R.set i ⟨xc, xf, xt⟩, by go_num, by go_num, by omega, by omega, ⟨by simpa using hRl, ?_, fun q h1 h2 => ?_⟩, HO8.out, HG8.out⟩
              · rw [HS2.out, take_set_len R i _ (by omega), HR.out.2.1]
              · rw [← HR.out.2.2 q (by omega) h2]
                simp [List.getD_eq_getElem?_getD, List.getElem?_set_ne (show i ≠ q by omega)]
            case measure => simp [intOf]; omega
end Go.Proofs.YtppinnjdaoaddaaGreatDoor
