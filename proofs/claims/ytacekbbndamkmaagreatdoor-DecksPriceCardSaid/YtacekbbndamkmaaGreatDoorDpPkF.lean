/- What is proved here: lemmas and contracts for the statement, put together out of smaller texts (CarrDk, DkpTak, DkpRd, CarrRfr). No condition beyond those stated. -/
import Derived.Test.YtacekbbndamkmaaGreatDoorDpPkE
import Derived.Test.YtacekbbndamkmaaGreatDoorShelfRep
import Derived.Test.YtacekbbndamkmaaGreatDoorDpPkD
import Derived.Test.YtacekbbndamkmaaGreatDoorDpPkA
import Derived.Deep.MidRow
import Derived.Deep.DeepCutAuto
import Derived.Test.YtacekbbndamkmaaGreatDoorDpPkC
import Derived.Test.YtacekbbndamkmaaGreatDoorShelfNum
set_option linter.unusedVariables false
set_option linter.unusedSimpArgs false
namespace Go.Proofs.YtacekbbndamkmaaGreatDoor
open Go.RowKit

set_option maxRecDepth 100000 in
set_option maxHeartbeats 8000000 in
theorem deck_any (S k : Nat) (w : World) (h : StreamOk w S k) (hk : k ≤ 900000) : Calls Tryz.prog 5 #[.pointer (some ⟨S, 0, none⟩)] w (DeckPost S (k + 50) w) := by
  obtain ⟨i1, hi1, hy0, hy1, hy2⟩ := info_parts Tryz.infoRate
  have HS := Lib.hid h
  have hSl := h.lt
  clear h
  go_enter Tryz.func5, Tryz.ntmps5
  go_upto_region 1 with (fail)
  have HF0 : Hid (Room (w.alloc (.cells #[.int .i64 0, .int .i64 0, .int .i64 0, .int .i64 0, .slice none 0 0] 28)) w.heap.size 5) := ⟨by simp, box_th (heap_new _ _)⟩
  have HS0 : Hid (StreamOk (w.alloc (.cells #[.int .i64 0, .int .i64 0, .int .i64 0, .int .i64 0, .slice none 0 0] 28)) S k) := HS.out.below (ext_alloc (Below.refl _ _))
  have HK0 : Hid (Keeps S w (w.alloc (.cells #[.int .i64 0, .int .i64 0, .int .i64 0, .int .i64 0, .slice none 0 0] 28))) := (Keeps.refl _ _).alloc _
  generalize w.alloc (.cells #[.int .i64 0, .int .i64 0, .int .i64 0, .int .i64 0, .slice none 0 0] 28) = w0 at HF0 HS0 HK0 ⊢
  obtain ⟨F, hF⟩ : ∃ F, F = w.heap.size := ⟨_, rfl⟩
  rw [← hF] at HF0 ⊢
  have hFS : F ≠ S := by omega
  have hSF : S + 1 ≤ F := by omega
  have HFW := Lib.hid hF
  clear hF HS
  as_aux_lemma =>
    go_wp2_with (first | (refine wpList_val rfl (bs_i3 _ (fun _ => rfl) _ _ _ _ _ rfl) ?_))
    refine (pick_lit S k [0, 10, 50] (fun x => 0 ≤ x ∧ x ≤ 50) _ _ _ HS0.out (by omega) rfl rfl (by decide) (by decide) (by decide)).mono ?_
    rintro e w1 ⟨ps, rfl, ⟨ps0, ps1⟩, hst1, hk1⟩
    have HS1 := Lib.hid hst1
    have HK1 := Lib.hid (HK0.out.trans hk1)
    have HF1 := Lib.hid (HF0.out.keeps hk1 hFS)
    clear hst1 hk1 HS0 HK0 HF0
    as_aux_lemma =>
      go_wp2_with fail
      refine (rightDeck_any S (k + 1) w1 HS1.out (by omega) ps ⟨by omega, by omega⟩).mono ?_
      rintro e w2 ⟨d, rfl, hown, hlen, hst2, hk2⟩
      obtain ⟨df, ds, dl, dt, ra, rn, rc, rates⟩ := d
      obtain ⟨hown, hok, hbd⟩ := hown
      obtain ⟨hc1, -⟩ := own_caps hown
      obtain ⟨⟨f0, f1⟩, ⟨s0, s1⟩, ⟨l0, l1⟩, ⟨t0, t1⟩⟩ := hbd
      have HRI : Hid (RatesIn rates) := hok.2
      dsimp only [Deck.cells] at hown hlen hc1 f0 f1 s0 s1 l0 l1 t0 t1 ⊢
      subst hc1
      have HS2 := Lib.hid hst2
      have HK2 := Lib.hid (HK1.out.trans hk2)
      have HF2 := Lib.hid (HF1.out.keeps hk2 hFS)
      have HO2 := Lib.hid hown
      obtain ⟨WB, hWB⟩ : ∃ x, x = w1.heap.size := ⟨_, rfl⟩
      rw [← hWB] at HO2
      have hwW : w.heap.size ≤ WB := by rw [hWB]; exact HK1.out.size
      have hFW : F < WB := by rw [hWB]; exact HF1.out.lt
      have hSW : S < WB := by omega
      have hW2 : WB ≤ w2.heap.size := by rw [hWB]; exact hk2.size
      clear hst2 hk2 HS1 HK1 HF1 hown hWB hok
      as_aux_lemma =>
        go_upto_region 2 with (fail)
        have HD3 : Hid (DBox (w2.alloc (.cells #[.int .i64 df, .int .i64 ds, .int .i64 dl, .int .i64 dt, .slice ra rates.length rc] 28)) w2.heap.size df ds dl dt (.slice ra rates.length rc)) := ⟨by simp, by go_simp, by go_simp, by go_simp, by go_simp, by go_simp, fun j => by go_simp⟩
        have hk3 : Keeps S w2 (w2.alloc (.cells #[.int .i64 df, .int .i64 ds, .int .i64 dl, .int .i64 dt, .slice ra rates.length rc] 28)) := (Keeps.refl _ _).alloc _
        have HS3 : Hid (StreamOk (w2.alloc (.cells #[.int .i64 df, .int .i64 ds, .int .i64 dl, .int .i64 dt, .slice ra rates.length rc] 28)) S (k + 44)) := HS2.out.below (ext_alloc (Below.refl _ _))
        have HK3 := Lib.hid (HK2.out.trans hk3)
        have HF3 := Lib.hid (HF2.out.keeps hk3 hFS)
        have HO3 := Lib.hid (own_keeps HO2.out hk3 hSW)
        have hvD : (Value.slice ra rates.length rc).ownBlock ≠ some w2.heap.size := fun e => by have := (HO2.out.lt _ e).2; omega
        have hvF : (Value.slice ra rates.length rc).ownBlock ≠ some F := fun e => by have := (HO2.out.lt _ e).1; omega
        generalize w2.alloc (.cells #[.int .i64 df, .int .i64 ds, .int .i64 dl, .int .i64 dt, .slice ra rates.length rc] 28) = w3 at HD3 HS3 HK3 HF3 HO3 hk3 ⊢
        generalize w2.heap.size = D at HD3 hvD hW2 ⊢
        have hDS : D ≠ S := by omega
        have hDw : w.heap.size ≤ D := by omega
        clear hk3 HS2 HK2 HF2 HO2
        as_aux_lemma =>
          go_wp2_with fail
          refine (flip_any S (k + 44) 12 _ HS3.out (by omega) (by decide) (by decide)).mono ?_
          rintro e w4 ⟨fl, rfl, hst, hk'⟩
          have HS4 := Lib.hid hst
          have HK4 := Lib.hid (HK3.out.trans hk')
          have HF4 := Lib.hid (HF3.out.keeps hk' hFS)
          have HD4 := Lib.hid (HD3.out.keeps hk' hDS)
          have HO4 := Lib.hid (own_keeps HO3.out hk' hSW)
          clear hst hk' HS3 HK3 HF3 HD3 HO3
          cases fl
          · obtain ⟨wE, rfl⟩ : ∃ x : World, x = w4 := ⟨_, rfl⟩
            have HDE := HD4
            have HFE := HF4
            have HSE := HS4
            have HKE := HK4
            have HOE := HO4
            clear HD4 HF4 HS4 HK4 HO4
            skip
            obtain ⟨hDl, z0, z1, z2, z3, z4, zf⟩ := HDE.out
            have HTH := Lib.hid HFE.out.th
            have HC9 := Lib.hid (World.rangeAt_setCells_same wE F 0 [.int .i64 df, .int .i64 ds, .int .i64 dl, .int .i64 dt, .slice ra rates.length rc] HTH.out)
            have HS9 : Hid (StreamOk (wE.setCells F 0 [.int .i64 df, .int .i64 ds, .int .i64 dl, .int .i64 dt, .slice ra rates.length rc]) S (k + 50)) := (HSE.out.mono (by omega)).upto (below_setCells hSF _ _ _)
            have HK9 : Hid (Keeps S w (wE.setCells F 0 [.int .i64 df, .int .i64 ds, .int .i64 dl, .int .i64 dt, .slice ra rates.length rc])) := keeps_setCells (Nat.le_of_eq HFW.out.symm) _ _ _ HKE.out
            have HO9 : Hid ((wE.setCells F 0 [.int .i64 df, .int .i64 ds, .int .i64 dl, .int .i64 dt, .slice ra rates.length rc]).ownsRow WB 51 3 (.slice ra rates.length rc) rates.length (((rates).map Rate.cells).flatten)) := own_set (own_set (own_set (own_set (own_set HOE.out hvF) hvF) hvF) hvF) hvF
            clear HOE HSE HKE HDE
            skip
            as_aux_lemma =>
              go_wp2_with (refine wpList_store_mid rfl 28 (.tmp 2) (.tmp 52) rfl F 0 #[.int .i64 df, .int .i64 ds, .int .i64 dl, .int .i64 dt, .slice ra rates.length rc] rfl rfl HTH.out Tryz.deckSize (by simp [Value.oneCell']) ?_; generalize World.setCells wE F 0 _ = W9 at HC9 HS9 HK9 HO9 ⊢)
              refine bodyPost_ret (?_ : _ = Result.ok (.agg #[.int .i64 df, .int .i64 ds, .int .i64 dl, .int .i64 dt, .slice ra rates.length rc]) _) rfl ?_
              · exact results_cell1 (t := 2) (by rfl) _ _ _ Tryz.isAgg28 Tryz.sizeOf28 (by rfl) [.int .i64 df, .int .i64 ds, .int .i64 dl, .int .i64 dt, .slice ra rates.length rc] rfl (fun j v hj => by have := HC9.out j v hj; rw [Nat.zero_add] at this; exact this)
              exact ⟨⟨df, ds, dl, dt, ra, rates.length, rc, rates⟩, rfl, ⟨own_le HO9.out hwW, ⟨by show (rates).length ≤ 50; omega, HRI.out⟩, ⟨⟨by show -2000000000000 ≤ (df : Int); omega, by show (df : Int) ≤ 2000000000000; omega⟩, ⟨by show -2000000000000 ≤ (ds : Int); omega, by show (ds : Int) ≤ 2000000000000; omega⟩, ⟨by show -2000000000000 ≤ (dl : Int); omega, by show (dl : Int) ≤ 2000000000000; omega⟩, ⟨by show -2000000000000 ≤ (dt : Int); omega, by show (dt : Int) ≤ 2000000000000; omega⟩⟩⟩, HS9.out, HK9.out⟩
          · skip
            as_aux_lemma =>
              go_wp2_with fail
              refine (next_any S (k + 45) 4 _ HS4.out (by omega) (by omega) (by omega)).mono ?_
              rintro e w5 ⟨m, rfl, x0, x1, hst, hk'⟩
              have HS5 := Lib.hid hst
              have HK5 := Lib.hid (HK4.out.trans hk')
              have HF5 := Lib.hid (HF4.out.keeps hk' hFS)
              have HD5 := Lib.hid (HD4.out.keeps hk' hDS)
              have HO5 := Lib.hid (own_keeps HO4.out hk' hSW)
              clear hst hk' HS4 HK4 HF4 HD4 HO4
              obtain ⟨m, rfl⟩ := Int.eq_ofNat_of_zero_le x0
              obtain hm | hm | hm | hm : m = 0 ∨ m = 1 ∨ m = 2 ∨ m = 3 := by omega
              · subst hm
                as_aux_lemma =>
                  go_wp2_with fail
                  refine (odd_any S (k + 46) 0 345686399999 _ HS5.out (by omega) (by omega) (by omega) (by omega)).mono ?_
                  rintro e w6 ⟨y, rfl, ⟨y0, y1⟩, hst, hk'⟩
                  have HS6 := Lib.hid hst
                  have HK6 := Lib.hid (HK5.out.trans hk')
                  have HF6 := Lib.hid (HF5.out.keeps hk' hFS)
                  have HD6 := Lib.hid (HD5.out.keeps hk' hDS)
                  have HO6 := Lib.hid (own_keeps HO5.out hk' hSW)
                  clear hst hk' HS5 HK5 HF5 HD5 HO5
                  as_aux_lemma =>
                    go_wp2_with fail
                    refine (odd_any S (k + 46 + 2) 0 100000000 _ HS6.out (by omega) (by omega) (by omega) (by omega)).mono ?_
                    rintro e w7 ⟨y2, rfl, ⟨y20, y21⟩, hst, hk'⟩
                    have HS7 := Lib.hid hst
                    have HK7 := Lib.hid (HK6.out.trans hk')
                    have HF7 := Lib.hid (HF6.out.keeps hk' hFS)
                    have HD7 := Lib.hid (HD6.out.keeps hk' hDS)
                    have HO7 := Lib.hid (own_keeps HO6.out hk' hSW)
                    clear hst hk' HS6 HK6 HF6 HD6 HO6
                    have HD8 := Lib.hid ((HD7.out.s0 y).s1 y2)
                    have HF8 := Lib.hid ((HF7.out.set D 0 (.int .i64 y)).set D 1 (.int .i64 y2))
                    have HO8 : Hid (((w7.setCell ⟨D, 0, none⟩ (.int .i64 y)).setCell ⟨D, 1, none⟩ (.int .i64 y2)).ownsRow WB 51 3 (.slice ra rates.length rc) rates.length ((rates.map Rate.cells).flatten)) := own_set (own_set HO7.out hvD) hvD
                    have HK8 : Hid (Keeps S w ((w7.setCell ⟨D, 0, none⟩ (.int .i64 y)).setCell ⟨D, 1, none⟩ (.int .i64 y2))) := (HK7.out.setCell_new (p := ⟨D, 0, none⟩) hDw _).setCell_new (p := ⟨D, 1, none⟩) hDw _
                    have HS8 : Hid (StreamOk ((w7.setCell ⟨D, 0, none⟩ (.int .i64 y)).setCell ⟨D, 1, none⟩ (.int .i64 y2)) S (k + 50)) := (HS7.out.mono (by omega)).upto (((Below.refl (S + 1) w7).setCell (p := ⟨D, 0, none⟩) (by show S + 1 ≤ D; omega) _).setCell (p := ⟨D, 1, none⟩) (by show S + 1 ≤ D; omega) _)
                    obtain ⟨hDl, z0, z1, z2, z3, z4, zf⟩ := HD7.out
                    clear HS7 HK7 HF7 HD7 HO7
                    as_aux_lemma =>
                      go_upto_region 11 with (fail)
                      clear hDl z0 z1 z2 z3 z4 zf
                      generalize (w7.setCell ⟨D, 0, none⟩ (.int .i64 y)).setCell ⟨D, 1, none⟩ (.int .i64 y2) = wE at HD8 HF8 HO8 HK8 HS8 ⊢
                      have HDE := HD8
                      have HFE := HF8
                      have HSE := HS8
                      have HKE := HK8
                      have HOE := HO8
                      clear HD8 HF8 HS8 HK8 HO8
                      obtain ⟨hDl, z0, z1, z2, z3, z4, zf⟩ := HDE.out
                      have HTH := Lib.hid HFE.out.th
                      have HC9 := Lib.hid (World.rangeAt_setCells_same wE F 0 [.int .i64 y, .int .i64 y2, .int .i64 dl, .int .i64 dt, .slice ra rates.length rc] HTH.out)
                      have HS9 : Hid (StreamOk (wE.setCells F 0 [.int .i64 y, .int .i64 y2, .int .i64 dl, .int .i64 dt, .slice ra rates.length rc]) S (k + 50)) := (HSE.out.mono (by omega)).upto (below_setCells hSF _ _ _)
                      have HK9 : Hid (Keeps S w (wE.setCells F 0 [.int .i64 y, .int .i64 y2, .int .i64 dl, .int .i64 dt, .slice ra rates.length rc])) := keeps_setCells (Nat.le_of_eq HFW.out.symm) _ _ _ HKE.out
                      have HO9 : Hid ((wE.setCells F 0 [.int .i64 y, .int .i64 y2, .int .i64 dl, .int .i64 dt, .slice ra rates.length rc]).ownsRow WB 51 3 (.slice ra rates.length rc) rates.length (((rates).map Rate.cells).flatten)) := own_set (own_set (own_set (own_set (own_set HOE.out hvF) hvF) hvF) hvF) hvF
                      clear HOE HSE HKE HDE
                      as_aux_lemma =>
                        go_wp2_with (refine wpList_store_mid rfl 28 (.tmp 2) (.tmp 52) rfl F 0 #[.int .i64 y, .int .i64 y2, .int .i64 dl, .int .i64 dt, .slice ra rates.length rc] rfl rfl HTH.out Tryz.deckSize (by simp [Value.oneCell']) ?_; generalize World.setCells wE F 0 _ = W9 at HC9 HS9 HK9 HO9 ⊢)
                        refine bodyPost_ret (?_ : _ = Result.ok (.agg #[.int .i64 y, .int .i64 y2, .int .i64 dl, .int .i64 dt, .slice ra rates.length rc]) _) rfl ?_
                        · exact results_cell1 (t := 2) (by rfl) _ _ _ Tryz.isAgg28 Tryz.sizeOf28 (by rfl) [.int .i64 y, .int .i64 y2, .int .i64 dl, .int .i64 dt, .slice ra rates.length rc] rfl (fun j v hj => by have := HC9.out j v hj; rw [Nat.zero_add] at this; exact this)
                        exact ⟨⟨y, y2, dl, dt, ra, rates.length, rc, rates⟩, rfl, ⟨own_le HO9.out hwW, ⟨by show (rates).length ≤ 50; omega, HRI.out⟩, ⟨⟨by show -2000000000000 ≤ (y : Int); omega, by show (y : Int) ≤ 2000000000000; omega⟩, ⟨by show -2000000000000 ≤ (y2 : Int); omega, by show (y2 : Int) ≤ 2000000000000; omega⟩, ⟨by show -2000000000000 ≤ (dl : Int); omega, by show (dl : Int) ≤ 2000000000000; omega⟩, ⟨by show -2000000000000 ≤ (dt : Int); omega, by show (dt : Int) ≤ 2000000000000; omega⟩⟩⟩, HS9.out, HK9.out⟩
              · subst hm
                as_aux_lemma =>
                  go_wp2_with fail
                  refine (odd_any S (k + 46) 0 86400000 _ HS5.out (by omega) (by omega) (by omega) (by omega)).mono ?_
                  rintro e w6 ⟨y, rfl, ⟨y0, y1⟩, hst, hk'⟩
                  have HS6 := Lib.hid hst
                  have HK6 := Lib.hid (HK5.out.trans hk')
                  have HF6 := Lib.hid (HF5.out.keeps hk' hFS)
                  have HD6 := Lib.hid (HD5.out.keeps hk' hDS)
                  have HO6 := Lib.hid (own_keeps HO5.out hk' hSW)
                  clear hst hk' HS5 HK5 HF5 HD5 HO5
                  as_aux_lemma =>
                    go_wp2_with fail
                    refine (odd_any S (k + 46 + 2) 1 86400000 _ HS6.out (by omega) (by omega) (by omega) (by omega)).mono ?_
                    rintro e w7 ⟨y2, rfl, ⟨y20, y21⟩, hst, hk'⟩
                    have HS7 := Lib.hid hst
                    have HK7 := Lib.hid (HK6.out.trans hk')
                    have HF7 := Lib.hid (HF6.out.keeps hk' hFS)
                    have HD7 := Lib.hid (HD6.out.keeps hk' hDS)
                    have HO7 := Lib.hid (own_keeps HO6.out hk' hSW)
                    clear hst hk' HS6 HK6 HF6 HD6 HO6
                    have HD8 := Lib.hid ((HD7.out.s2 y).s3 y2)
                    have HF8 := Lib.hid ((HF7.out.set D 2 (.int .i64 y)).set D 3 (.int .i64 y2))
                    have HO8 : Hid (((w7.setCell ⟨D, 2, none⟩ (.int .i64 y)).setCell ⟨D, 3, none⟩ (.int .i64 y2)).ownsRow WB 51 3 (.slice ra rates.length rc) rates.length ((rates.map Rate.cells).flatten)) := own_set (own_set HO7.out hvD) hvD
                    have HK8 : Hid (Keeps S w ((w7.setCell ⟨D, 2, none⟩ (.int .i64 y)).setCell ⟨D, 3, none⟩ (.int .i64 y2))) := (HK7.out.setCell_new (p := ⟨D, 2, none⟩) hDw _).setCell_new (p := ⟨D, 3, none⟩) hDw _
                    have HS8 : Hid (StreamOk ((w7.setCell ⟨D, 2, none⟩ (.int .i64 y)).setCell ⟨D, 3, none⟩ (.int .i64 y2)) S (k + 50)) := (HS7.out.mono (by omega)).upto (((Below.refl (S + 1) w7).setCell (p := ⟨D, 2, none⟩) (by show S + 1 ≤ D; omega) _).setCell (p := ⟨D, 3, none⟩) (by show S + 1 ≤ D; omega) _)
                    obtain ⟨hDl, z0, z1, z2, z3, z4, zf⟩ := HD7.out
                    clear HS7 HK7 HF7 HD7 HO7
                    as_aux_lemma =>
                      go_upto_region 11 with (fail)
                      clear hDl z0 z1 z2 z3 z4 zf
                      generalize (w7.setCell ⟨D, 2, none⟩ (.int .i64 y)).setCell ⟨D, 3, none⟩ (.int .i64 y2) = wE at HD8 HF8 HO8 HK8 HS8 ⊢
                      have HDE := HD8
                      have HFE := HF8
                      have HSE := HS8
                      have HKE := HK8
                      have HOE := HO8
                      clear HD8 HF8 HS8 HK8 HO8
                      obtain ⟨hDl, z0, z1, z2, z3, z4, zf⟩ := HDE.out
                      have HTH := Lib.hid HFE.out.th
                      have HC9 := Lib.hid (World.rangeAt_setCells_same wE F 0 [.int .i64 df, .int .i64 ds, .int .i64 y, .int .i64 y2, .slice ra rates.length rc] HTH.out)
                      have HS9 : Hid (StreamOk (wE.setCells F 0 [.int .i64 df, .int .i64 ds, .int .i64 y, .int .i64 y2, .slice ra rates.length rc]) S (k + 50)) := (HSE.out.mono (by omega)).upto (below_setCells hSF _ _ _)
                      have HK9 : Hid (Keeps S w (wE.setCells F 0 [.int .i64 df, .int .i64 ds, .int .i64 y, .int .i64 y2, .slice ra rates.length rc])) := keeps_setCells (Nat.le_of_eq HFW.out.symm) _ _ _ HKE.out
                      have HO9 : Hid ((wE.setCells F 0 [.int .i64 df, .int .i64 ds, .int .i64 y, .int .i64 y2, .slice ra rates.length rc]).ownsRow WB 51 3 (.slice ra rates.length rc) rates.length (((rates).map Rate.cells).flatten)) := own_set (own_set (own_set (own_set (own_set HOE.out hvF) hvF) hvF) hvF) hvF
                      clear HOE HSE HKE HDE
                      as_aux_lemma =>
                        go_wp2_with (refine wpList_store_mid rfl 28 (.tmp 2) (.tmp 52) rfl F 0 #[.int .i64 df, .int .i64 ds, .int .i64 y, .int .i64 y2, .slice ra rates.length rc] rfl rfl HTH.out Tryz.deckSize (by simp [Value.oneCell']) ?_; generalize World.setCells wE F 0 _ = W9 at HC9 HS9 HK9 HO9 ⊢)
                        refine bodyPost_ret (?_ : _ = Result.ok (.agg #[.int .i64 df, .int .i64 ds, .int .i64 y, .int .i64 y2, .slice ra rates.length rc]) _) rfl ?_
                        · exact results_cell1 (t := 2) (by rfl) _ _ _ Tryz.isAgg28 Tryz.sizeOf28 (by rfl) [.int .i64 df, .int .i64 ds, .int .i64 y, .int .i64 y2, .slice ra rates.length rc] rfl (fun j v hj => by have := HC9.out j v hj; rw [Nat.zero_add] at this; exact this)
                        exact ⟨⟨df, ds, y, y2, ra, rates.length, rc, rates⟩, rfl, ⟨own_le HO9.out hwW, ⟨by show (rates).length ≤ 50; omega, HRI.out⟩, ⟨⟨by show -2000000000000 ≤ (df : Int); omega, by show (df : Int) ≤ 2000000000000; omega⟩, ⟨by show -2000000000000 ≤ (ds : Int); omega, by show (ds : Int) ≤ 2000000000000; omega⟩, ⟨by show -2000000000000 ≤ (y : Int); omega, by show (y : Int) ≤ 2000000000000; omega⟩, ⟨by show -2000000000000 ≤ (y2 : Int); omega, by show (y2 : Int) ≤ 2000000000000; omega⟩⟩⟩, HS9.out, HK9.out⟩
              · subst hm
                as_aux_lemma =>
                  go_upto_region 10 with (fail)
                  have hD5 := HD5.out.lt
                  have hS5 : (fun W : World => W.cell? ⟨D, 4, none⟩ = some (.slice ra rates.length rc)) w5.drew := HD5.out.c4
                  refine region_lastI (S := fun W : World => W.cell? ⟨D, 4, none⟩ = some (.slice ra rates.length rc)) [(true, 0), (true, 1), (true, 2), (true, 6), (false, 3), (false, 4), (false, 5), (false, 7), (true, 8), (false, 9), (false, 10), (true, 11)] (by kernel_rfl) rfl rfl (by kernel_rfl) (by kernel_rfl) rfl (by kernel_rfl) hS5 ?_
                  simp only [seqOps, List.dropLast, List.getD_cons_zero, List.getD_cons_succ]
                  refine seqI_take (v := .pointer (some ⟨D, 4, none⟩)) rfl (fun W hW => by clear hW; go_simp) (fun _ _ _ h => h) ?_
                  simp only [Act.put, List.setIfInBounds_toArray, List.set_cons_zero, List.set_cons_succ]
                  refine seqI_take (v := .slice ra rates.length rc) rfl (fun W hW => by go_simp) (fun _ _ _ h => h) ?_
                  simp only [Act.put, List.setIfInBounds_toArray, List.set_cons_zero, List.set_cons_succ]
                  refine seqI_take (v := .pointer (some ⟨S, 0, none⟩)) rfl (fun W hW => by clear hW; go_simp) (fun _ _ _ h => h) ?_
                  simp only [Act.put, List.setIfInBounds_toArray, List.set_cons_zero, List.set_cons_succ]
                  refine seqI_take (v := .pointer (some ⟨S, 0, none⟩)) rfl (fun W hW => by clear hW; go_simp) (fun _ _ _ h => h) ?_
                  simp only [Act.put, List.setIfInBounds_toArray, List.set_cons_zero, List.set_cons_succ]
                  refine seqI_call 40 #[.string ⟨#[57]⟩, .int .i64 16] rfl (by go_simp) (Tryz.strings_Repeat ⟨#[57]⟩ 16 _ (by decide) (by decide)) ?_
                  rintro e w6 ⟨rfl, hb6⟩
                  have hra : (Lib.repeatL (⟨#[57]⟩ : ByteArray).data.toList 16).length ≤ 100 := by rw [Lib.repeatL_length]; decide
                  generalize Lib.repeatL (⟨#[57]⟩ : ByteArray).data.toList 16 = rp at hra
                  have hS6 : (fun W : World => W.cell? ⟨D, 4, none⟩ = some (.slice ra rates.length rc)) w6 := (hb6.cell (p := ⟨D, 4, none⟩) hD5).trans hS5
                  refine ⟨_, rfl, hS6, ?_⟩
                  simp only [Act.put, List.setIfInBounds_toArray, List.set_cons_zero, List.set_cons_succ]
                  have hk6 : Keeps S w5 w6 := Keeps.trans (by exact Keeps.of_below (ext_drew (Below.refl _ _))) (Keeps.of_below hb6)
                  have HS6 : Hid (StreamOk w6 S (k + 46)) := HS5.out.below (Below.trans (by exact ext_drew (Below.refl _ _)) hb6)
                  have HK6 := Lib.hid (HK5.out.trans hk6)
                  have HF6 := Lib.hid (HF5.out.keeps hk6 hFS)
                  have HD6 := Lib.hid (HD5.out.keeps hk6 hDS)
                  have HO6 := Lib.hid (own_keeps HO5.out hk6 hSW)
                  clear hb6 hk6 HS5 HK5 HF5 HD5 HO5 hS5 hD5
                  refine seqI_do rfl (wp_val (bs_s5r _ (fun _ => rfl) _ _ 43 ⟨#[57, 57]⟩ ⟨#[48]⟩ ⟨#[120]⟩ ⟨#[49]⟩ ⟨rp.toArray⟩ rfl rfl) ⟨by show (World.alloc _ _).cell? _ = _; have q4 := HD6.out.c4; have ql := HD6.out.lt; go_simp, ?_⟩)
                  simp only [Act.put, List.setIfInBounds_toArray, List.set_cons_zero, List.set_cons_succ]
                  refine seqI_call 24 #[.pointer (some ⟨S, 0, none⟩), .slice (some ⟨w6.heap.size, 0, none⟩) 5 5] rfl (by go_simp) (some_lit S (k + 46) [[57, 57], [48], [120], [49], rp] (fun s => s.length ≤ 100) _ _ _ HS6.out (by omega) rfl rfl (by simp) (by simp) (by intro x hx; simp only [List.mem_cons, List.not_mem_nil, or_false] at hx; rcases hx with rfl | rfl | rfl | rfl | rfl <;> first | exact hra | decide)) ?_
                  rintro e w7 ⟨nm, rfl, hnm, hst, hk'⟩
                  have hnm : nm.length ≤ 100 := hnm
                  have HS7 := Lib.hid hst
                  have HK7 := Lib.hid (HK6.out.trans hk')
                  have HF7 := Lib.hid (HF6.out.keeps hk' hFS)
                  have HD7 := Lib.hid (HD6.out.keeps hk' hDS)
                  have HO7 := Lib.hid (own_keeps HO6.out hk' hSW)
                  refine ⟨_, rfl, HD7.out.c4, ?_⟩
                  simp only [Act.put, List.setIfInBounds_toArray, List.set_cons_zero, List.set_cons_succ]
                  clear hst hk' HS6 HK6 HF6 HD6 HO6
                  refine seqI_call 39 #[.pointer (some ⟨S, 0, none⟩), .int .i64 0, .int .i64 100000000] rfl (by go_simp) (odd_any S (k + 46 + 1) 0 100000000 _ HS7.out (by omega) (by omega) (by omega) (by omega)) ?_
                  rintro e w8 ⟨pr, rfl, ⟨pr0, pr1⟩, hst, hk'⟩
                  have HS8 := Lib.hid hst
                  have HK8 := Lib.hid (HK7.out.trans hk')
                  have HF8 := Lib.hid (HF7.out.keeps hk' hFS)
                  have HD8 := Lib.hid (HD7.out.keeps hk' hDS)
                  have HO8 := Lib.hid (own_keeps HO7.out hk' hSW)
                  refine ⟨_, rfl, HD8.out.c4, ?_⟩
                  simp only [Act.put, List.setIfInBounds_toArray, List.set_cons_zero, List.set_cons_succ]
                  clear hst hk' HS7 HK7 HF7 HD7 HO7
                  refine seqI_take (v := .agg #[.string ⟨nm.toArray⟩, .int .i64 pr, .bool false]) rfl (fun W hW => by clear hW; go_simp) (fun _ _ _ h => h) ?_
                  simp only [Act.put, List.setIfInBounds_toArray, List.set_cons_zero, List.set_cons_succ]
                  have hk9 : Keeps S w8 (w8.alloc (.cells #[.string ⟨nm.toArray⟩, .int .i64 pr, .bool false] 51)) := (Keeps.refl _ _).alloc _
                  have HF9 := Lib.hid (HF8.out.keeps hk9 hFS)
                  have HD9 := Lib.hid (HD8.out.keeps hk9 hDS)
                  have HO9 := Lib.hid (own_keeps HO8.out hk9 hSW)
                  have hW8 : WB ≤ w8.heap.size := Nat.le_trans hW2 (Nat.le_of_lt HD8.out.lt)
                  have hDlt := HD8.out.lt
                  refine seqI_do rfl (wp_val (bs_r1 _ _ _ 48 ⟨nm.toArray⟩ pr false rfl rfl) ⟨HD9.out.c4, ?_⟩)
                  simp only [Act.put, List.setIfInBounds_toArray, List.set_cons_zero, List.set_cons_succ]
                  refine seqI_do rfl (wp_append_own_at (.tmp 41) (.tmp 49) 26 rfl WB 51 i1 _ 3 32 Tryz.underlying26 hi1 hy0 hy1 hy2 rfl (by omega) (.slice ra rates.length rc) rates.length _ rfl HO9.out ⟨w8.heap.size, 0, none⟩ 1 1 [.string ⟨nm.toArray⟩, .int .i64 pr, .bool false] rfl rfl (fun j u hj => by rw [add0]; match j, hj with | 0, hj => simp at hj; subst hj; go_simp | 1, hj => simp at hj; subst hj; go_simp | 2, hj => simp at hj; subst hj; go_simp) (by simp [Value.oneCell']) (by simp only [maxLen]; omega) (by omega) (by simp; omega) ?_)
                  intro v10 w10 hown10 hgr10 hat10
                  obtain ⟨a12, c12, rfl⟩ := own_shape hown10
                  have HD10 := Lib.hid (HD9.out.grown hgr10 hvD)
                  have HF10 := Lib.hid (HF9.out.grown hgr10 hvF)
                  have HK10 : Hid (Keeps S w w10) := HK8.out.grown hgr10 (fun b e => by have := (HO9.out.lt b e).1; omega)
                  have HS10 : Hid (StreamOk w10 S (k + 49)) := (HS8.out.mono (by omega)).upto (upto_grown hgr10 (by omega) (fun b e => by have := (HO9.out.lt b e).1; omega))
                  have HO10 : Hid (w10.ownsRow WB 51 3 (.slice a12 (rates.length + 1) c12) (rates ++ [Rate.mk nm pr false]).length (((rates ++ [Rate.mk nm pr false]).map Rate.cells).flatten)) := by
                    show World.ownsRow _ _ _ _ _ _ _
                    rw [rcells_snoc, List.length_append]
                    exact hown10
                  have hvD2 : (Value.slice a12 (rates.length + 1) c12).ownBlock ≠ some D := fun e => by
                    rcases hat10 with h | h
                    · exact hvD (h ▸ e)
                    · rw [h] at e; injection e with e; simp at e; omega
                  have hvF2 : (Value.slice a12 (rates.length + 1) c12).ownBlock ≠ some F := fun e => by have := (HO10.out.lt _ e).1; omega
                  refine ⟨HD10.out.c4, ?_⟩
                  simp only [Act.put, List.setIfInBounds_toArray, List.set_cons_zero, List.set_cons_succ]
                  clear hown10 hgr10 hat10 HO9 HF9 HD9 HS8 HK8 HF8 HD8 HO8 hk9 hvD hvF
                  have hvF := hvF2
                  refine seqI_take (v := .pointer (some ⟨D, 4, none⟩)) rfl (fun W hW => by clear hW; go_simp) (fun _ _ _ h => h) ?_
                  simp only [Act.put, List.setIfInBounds_toArray, List.set_cons_zero, List.set_cons_succ]
                  have HD11 := Lib.hid (HD10.out.s4 (.slice a12 (rates.length + 1) c12))
                  have HF11 := Lib.hid (HF10.out.set D 4 (.slice a12 (rates.length + 1) c12))
                  have HO11 : Hid ((w10.setCell ⟨D, 4, none⟩ (.slice a12 (rates.length + 1) c12)).ownsRow WB 51 3 (.slice a12 (rates.length + 1) c12) (rates ++ [Rate.mk nm pr false]).length (((rates ++ [Rate.mk nm pr false]).map Rate.cells).flatten)) := own_set HO10.out hvD2
                  have HK11 : Hid (Keeps S w (w10.setCell ⟨D, 4, none⟩ (.slice a12 (rates.length + 1) c12))) := HK10.out.setCell_new (p := ⟨D, 4, none⟩) hDw _
                  have HS11 : Hid (StreamOk (w10.setCell ⟨D, 4, none⟩ (.slice a12 (rates.length + 1) c12)) S (k + 50)) := (HS10.out.mono (by omega)).upto ((Below.refl (S + 1) w10).setCell (p := ⟨D, 4, none⟩) (by show S + 1 ≤ D; omega) _)
                  obtain ⟨hDl, z0, z1, z2, z3, z4, zf⟩ := HD10.out
                  refine seqI_nil (Or.inl ?_)
                  show Oper.wp _ (⟨none, .store 26 (.tmp 51) (.tmp 50), _, _, _, none⟩ : Oper) _ _ _ _
                  refine wp_skip (w' := w10.setCell ⟨D, 4, none⟩ (.slice a12 (rates.length + 1) c12)) (by go_simp) ?_
                  simp only [Act.put]
                  clear hDl z0 z1 z2 z3 z4 zf HD10 HF10 HO10 HK10 HS10
                  generalize w10.setCell ⟨D, 4, none⟩ (.slice a12 (rates.length + 1) c12) = wE at HD11 HF11 HO11 HK11 HS11 ⊢
                  have HDE := HD11
                  have HFE := HF11
                  have HSE := HS11
                  have HKE := HK11
                  have HOE := HO11
                  clear HD11 HF11 HS11 HK11 HO11
                  obtain ⟨hDl, z0, z1, z2, z3, z4, zf⟩ := HDE.out
                  have HTH := Lib.hid HFE.out.th
                  have HC9 := Lib.hid (World.rangeAt_setCells_same wE F 0 [.int .i64 df, .int .i64 ds, .int .i64 dl, .int .i64 dt, .slice a12 (rates.length + 1) c12] HTH.out)
                  have HS9 : Hid (StreamOk (wE.setCells F 0 [.int .i64 df, .int .i64 ds, .int .i64 dl, .int .i64 dt, .slice a12 (rates.length + 1) c12]) S (k + 50)) := (HSE.out.mono (by omega)).upto (below_setCells hSF _ _ _)
                  have HK9 : Hid (Keeps S w (wE.setCells F 0 [.int .i64 df, .int .i64 ds, .int .i64 dl, .int .i64 dt, .slice a12 (rates.length + 1) c12])) := keeps_setCells (Nat.le_of_eq HFW.out.symm) _ _ _ HKE.out
                  have HO9 : Hid ((wE.setCells F 0 [.int .i64 df, .int .i64 ds, .int .i64 dl, .int .i64 dt, .slice a12 (rates.length + 1) c12]).ownsRow WB 51 3 (.slice a12 (rates.length + 1) c12) (rates ++ [Rate.mk nm pr false]).length (((rates ++ [Rate.mk nm pr false]).map Rate.cells).flatten)) := own_set (own_set (own_set (own_set (own_set HOE.out hvF) hvF) hvF) hvF) hvF
                  clear HOE HSE HKE HDE
                  as_aux_lemma =>
                    go_wp2_with (refine wpList_store_mid rfl 28 (.tmp 2) (.tmp 52) rfl F 0 #[.int .i64 df, .int .i64 ds, .int .i64 dl, .int .i64 dt, .slice a12 (rates.length + 1) c12] rfl rfl HTH.out Tryz.deckSize (by simp [Value.oneCell']) ?_; generalize World.setCells wE F 0 _ = W9 at HC9 HS9 HK9 HO9 ⊢)
                    refine bodyPost_ret (?_ : _ = Result.ok (.agg #[.int .i64 df, .int .i64 ds, .int .i64 dl, .int .i64 dt, .slice a12 (rates.length + 1) c12]) _) rfl ?_
                    · exact results_cell1 (t := 2) (by rfl) _ _ _ Tryz.isAgg28 Tryz.sizeOf28 (by rfl) [.int .i64 df, .int .i64 ds, .int .i64 dl, .int .i64 dt, .slice a12 (rates.length + 1) c12] rfl (fun j v hj => by have := HC9.out j v hj; rw [Nat.zero_add] at this; exact this)
                    exact ⟨⟨df, ds, dl, dt, a12, rates.length + 1, c12, rates ++ [Rate.mk nm pr false]⟩, rfl, ⟨own_le HO9.out hwW, ⟨by show (rates ++ [Rate.mk nm pr false]).length ≤ 50; rw [List.length_append, List.length_singleton]; omega, rates_snoc HRI.out (by show List.length _ ≤ 100; first | omega | simp) (by show -2000000000000 ≤ pr; omega) (by show pr ≤ 2000000000000; omega)⟩, ⟨⟨by show -2000000000000 ≤ (df : Int); omega, by show (df : Int) ≤ 2000000000000; omega⟩, ⟨by show -2000000000000 ≤ (ds : Int); omega, by show (ds : Int) ≤ 2000000000000; omega⟩, ⟨by show -2000000000000 ≤ (dl : Int); omega, by show (dl : Int) ≤ 2000000000000; omega⟩, ⟨by show -2000000000000 ≤ (dt : Int); omega, by show (dt : Int) ≤ 2000000000000; omega⟩⟩⟩, HS9.out, HK9.out⟩
              · subst hm
                as_aux_lemma =>
                  go_upto_region 4 with (fail)
                  have hD5 := HD5.out.lt
                  have hS5 : (fun W : World => W.cell? ⟨D, 4, none⟩ = some (.slice ra rates.length rc)) w5.drew := HD5.out.c4
                  have HSd : Hid (StreamOk w5.drew S (k + 46)) := HS5.out.below (by exact ext_drew (Below.refl _ _))
                  have hkd : Keeps S w5 w5.drew := Keeps.of_below (by exact ext_drew (Below.refl _ _))
                  refine region_lastI (S := fun W : World => W.cell? ⟨D, 4, none⟩ = some (.slice ra rates.length rc)) [(true, 0), (true, 1), (true, 2), (false, 3), (false, 4), (true, 5), (false, 6), (false, 7), (true, 8)] (by kernel_rfl) rfl rfl (by kernel_rfl) (by kernel_rfl) rfl (by kernel_rfl) hS5 ?_
                  simp only [seqOps, List.dropLast, List.getD_cons_zero, List.getD_cons_succ]
                  refine seqI_take (v := .pointer (some ⟨D, 4, none⟩)) rfl (fun W hW => by clear hW; go_simp) (fun _ _ _ h => h) ?_
                  simp only [Act.put, List.setIfInBounds_toArray, List.set_cons_zero, List.set_cons_succ]
                  refine seqI_take (v := .slice ra rates.length rc) rfl (fun W hW => by go_simp) (fun _ _ _ h => h) ?_
                  simp only [Act.put, List.setIfInBounds_toArray, List.set_cons_zero, List.set_cons_succ]
                  refine seqI_take (v := .pointer (some ⟨S, 0, none⟩)) rfl (fun W hW => by clear hW; go_simp) (fun _ _ _ h => h) ?_
                  simp only [Act.put, List.setIfInBounds_toArray, List.set_cons_zero, List.set_cons_succ]
                  refine seqI_do rfl (wp_val (bs_i2 _ (fun _ => rfl) _ _ 0 1 rfl) ⟨by show (World.alloc _ _).cell? _ = _; have q4 := HD5.out.c4; have ql := HD5.out.lt; go_simp, ?_⟩)
                  simp only [Act.put, List.setIfInBounds_toArray, List.set_cons_zero, List.set_cons_succ]
                  refine seqI_call 6 #[.pointer (some ⟨S, 0, none⟩), .slice (some ⟨w5.drew.heap.size, 0, none⟩) 2 2] rfl (by go_simp) (pick_lit S (k + 46) [0, 1] (fun x => 0 ≤ x ∧ x ≤ 1) _ _ _ HSd.out (by omega) rfl rfl (by decide) (by decide) (by decide)) ?_
                  rintro e w8 ⟨pr, rfl, ⟨pr0, pr1⟩, hst, hk'⟩
                  have hk' : Keeps S w5 w8 := hkd.trans hk'
                  have HS8 := Lib.hid hst
                  have HK8 := Lib.hid (HK5.out.trans hk')
                  have HF8 := Lib.hid (HF5.out.keeps hk' hFS)
                  have HD8 := Lib.hid (HD5.out.keeps hk' hDS)
                  have HO8 := Lib.hid (own_keeps HO5.out hk' hSW)
                  refine ⟨_, rfl, HD8.out.c4, ?_⟩
                  simp only [Act.put, List.setIfInBounds_toArray, List.set_cons_zero, List.set_cons_succ]
                  clear hst hk' HSd hkd HS5 HK5 HF5 HD5 HO5
                  refine seqI_take (v := .agg #[.string ⟨#[57, 57]⟩, .int .i64 pr, .bool true]) rfl (fun W hW => by clear hW; go_simp) (fun _ _ _ h => h) ?_
                  simp only [Act.put, List.setIfInBounds_toArray, List.set_cons_zero, List.set_cons_succ]
                  have hk9 : Keeps S w8 (w8.alloc (.cells #[.string ⟨#[57, 57]⟩, .int .i64 pr, .bool true] 51)) := (Keeps.refl _ _).alloc _
                  have HF9 := Lib.hid (HF8.out.keeps hk9 hFS)
                  have HD9 := Lib.hid (HD8.out.keeps hk9 hDS)
                  have HO9 := Lib.hid (own_keeps HO8.out hk9 hSW)
                  have hW8 : WB ≤ w8.heap.size := Nat.le_trans hW2 (Nat.le_of_lt HD8.out.lt)
                  have hDlt := HD8.out.lt
                  refine seqI_do rfl (wp_val (bs_r1 _ _ _ 18 ⟨#[57, 57]⟩ pr true rfl rfl) ⟨HD9.out.c4, ?_⟩)
                  simp only [Act.put, List.setIfInBounds_toArray, List.set_cons_zero, List.set_cons_succ]
                  refine seqI_do rfl (wp_append_own_at (.tmp 14) (.tmp 19) 26 rfl WB 51 i1 _ 3 32 Tryz.underlying26 hi1 hy0 hy1 hy2 rfl (by omega) (.slice ra rates.length rc) rates.length _ rfl HO9.out ⟨w8.heap.size, 0, none⟩ 1 1 [.string ⟨#[57, 57]⟩, .int .i64 pr, .bool true] rfl rfl (fun j u hj => by rw [add0]; match j, hj with | 0, hj => simp at hj; subst hj; go_simp | 1, hj => simp at hj; subst hj; go_simp | 2, hj => simp at hj; subst hj; go_simp) (by simp [Value.oneCell']) (by simp only [maxLen]; omega) (by omega) (by simp; omega) ?_)
                  intro v10 w10 hown10 hgr10 hat10
                  obtain ⟨a12, c12, rfl⟩ := own_shape hown10
                  have HD10 := Lib.hid (HD9.out.grown hgr10 hvD)
                  have HF10 := Lib.hid (HF9.out.grown hgr10 hvF)
                  have HK10 : Hid (Keeps S w w10) := HK8.out.grown hgr10 (fun b e => by have := (HO9.out.lt b e).1; omega)
                  have HS10 : Hid (StreamOk w10 S (k + 49)) := (HS8.out.mono (by omega)).upto (upto_grown hgr10 (by omega) (fun b e => by have := (HO9.out.lt b e).1; omega))
                  have HO10 : Hid (w10.ownsRow WB 51 3 (.slice a12 (rates.length + 1) c12) (rates ++ [Rate.mk [57, 57] pr true]).length (((rates ++ [Rate.mk [57, 57] pr true]).map Rate.cells).flatten)) := by
                    show World.ownsRow _ _ _ _ _ _ _
                    rw [rcells_snoc, List.length_append]
                    exact hown10
                  have hvD2 : (Value.slice a12 (rates.length + 1) c12).ownBlock ≠ some D := fun e => by
                    rcases hat10 with h | h
                    · exact hvD (h ▸ e)
                    · rw [h] at e; injection e with e; simp at e; omega
                  have hvF2 : (Value.slice a12 (rates.length + 1) c12).ownBlock ≠ some F := fun e => by have := (HO10.out.lt _ e).1; omega
                  refine ⟨HD10.out.c4, ?_⟩
                  simp only [Act.put, List.setIfInBounds_toArray, List.set_cons_zero, List.set_cons_succ]
                  clear hown10 hgr10 hat10 HO9 HF9 HD9 HS8 HK8 HF8 HD8 HO8 hk9 hvD hvF
                  have hvF := hvF2
                  refine seqI_take (v := .pointer (some ⟨D, 4, none⟩)) rfl (fun W hW => by clear hW; go_simp) (fun _ _ _ h => h) ?_
                  simp only [Act.put, List.setIfInBounds_toArray, List.set_cons_zero, List.set_cons_succ]
                  have HD11 := Lib.hid (HD10.out.s4 (.slice a12 (rates.length + 1) c12))
                  have HF11 := Lib.hid (HF10.out.set D 4 (.slice a12 (rates.length + 1) c12))
                  have HO11 : Hid ((w10.setCell ⟨D, 4, none⟩ (.slice a12 (rates.length + 1) c12)).ownsRow WB 51 3 (.slice a12 (rates.length + 1) c12) (rates ++ [Rate.mk [57, 57] pr true]).length (((rates ++ [Rate.mk [57, 57] pr true]).map Rate.cells).flatten)) := own_set HO10.out hvD2
                  have HK11 : Hid (Keeps S w (w10.setCell ⟨D, 4, none⟩ (.slice a12 (rates.length + 1) c12))) := HK10.out.setCell_new (p := ⟨D, 4, none⟩) hDw _
                  have HS11 : Hid (StreamOk (w10.setCell ⟨D, 4, none⟩ (.slice a12 (rates.length + 1) c12)) S (k + 50)) := (HS10.out.mono (by omega)).upto ((Below.refl (S + 1) w10).setCell (p := ⟨D, 4, none⟩) (by show S + 1 ≤ D; omega) _)
                  obtain ⟨hDl, z0, z1, z2, z3, z4, zf⟩ := HD10.out
                  refine seqI_nil (Or.inl ?_)
                  show Oper.wp _ (⟨none, .store 26 (.tmp 21) (.tmp 20), _, _, _, none⟩ : Oper) _ _ _ _
                  refine wp_skip (w' := w10.setCell ⟨D, 4, none⟩ (.slice a12 (rates.length + 1) c12)) (by go_simp) ?_
                  simp only [Act.put]
                  clear hDl z0 z1 z2 z3 z4 zf HD10 HF10 HO10 HK10 HS10
                  generalize w10.setCell ⟨D, 4, none⟩ (.slice a12 (rates.length + 1) c12) = wE at HD11 HF11 HO11 HK11 HS11 ⊢
                  have HDE := HD11
                  have HFE := HF11
                  have HSE := HS11
                  have HKE := HK11
                  have HOE := HO11
                  clear HD11 HF11 HS11 HK11 HO11
                  obtain ⟨hDl, z0, z1, z2, z3, z4, zf⟩ := HDE.out
                  have HTH := Lib.hid HFE.out.th
                  have HC9 := Lib.hid (World.rangeAt_setCells_same wE F 0 [.int .i64 df, .int .i64 ds, .int .i64 dl, .int .i64 dt, .slice a12 (rates.length + 1) c12] HTH.out)
                  have HS9 : Hid (StreamOk (wE.setCells F 0 [.int .i64 df, .int .i64 ds, .int .i64 dl, .int .i64 dt, .slice a12 (rates.length + 1) c12]) S (k + 50)) := (HSE.out.mono (by omega)).upto (below_setCells hSF _ _ _)
                  have HK9 : Hid (Keeps S w (wE.setCells F 0 [.int .i64 df, .int .i64 ds, .int .i64 dl, .int .i64 dt, .slice a12 (rates.length + 1) c12])) := keeps_setCells (Nat.le_of_eq HFW.out.symm) _ _ _ HKE.out
                  have HO9 : Hid ((wE.setCells F 0 [.int .i64 df, .int .i64 ds, .int .i64 dl, .int .i64 dt, .slice a12 (rates.length + 1) c12]).ownsRow WB 51 3 (.slice a12 (rates.length + 1) c12) (rates ++ [Rate.mk [57, 57] pr true]).length (((rates ++ [Rate.mk [57, 57] pr true]).map Rate.cells).flatten)) := own_set (own_set (own_set (own_set (own_set HOE.out hvF) hvF) hvF) hvF) hvF
                  clear HOE HSE HKE HDE
                  as_aux_lemma =>
                    go_wp2_with (refine wpList_store_mid rfl 28 (.tmp 2) (.tmp 52) rfl F 0 #[.int .i64 df, .int .i64 ds, .int .i64 dl, .int .i64 dt, .slice a12 (rates.length + 1) c12] rfl rfl HTH.out Tryz.deckSize (by simp [Value.oneCell']) ?_; generalize World.setCells wE F 0 _ = W9 at HC9 HS9 HK9 HO9 ⊢)
                    refine bodyPost_ret (?_ : _ = Result.ok (.agg #[.int .i64 df, .int .i64 ds, .int .i64 dl, .int .i64 dt, .slice a12 (rates.length + 1) c12]) _) rfl ?_
                    · exact results_cell1 (t := 2) (by rfl) _ _ _ Tryz.isAgg28 Tryz.sizeOf28 (by rfl) [.int .i64 df, .int .i64 ds, .int .i64 dl, .int .i64 dt, .slice a12 (rates.length + 1) c12] rfl (fun j v hj => by have := HC9.out j v hj; rw [Nat.zero_add] at this; exact this)
                    exact ⟨⟨df, ds, dl, dt, a12, rates.length + 1, c12, rates ++ [Rate.mk [57, 57] pr true]⟩, rfl, ⟨own_le HO9.out hwW, ⟨by show (rates ++ [Rate.mk [57, 57] pr true]).length ≤ 50; rw [List.length_append, List.length_singleton]; omega, rates_snoc HRI.out (by show List.length _ ≤ 100; first | omega | simp) (by show -2000000000000 ≤ pr; omega) (by show pr ≤ 2000000000000; omega)⟩, ⟨⟨by show -2000000000000 ≤ (df : Int); omega, by show (df : Int) ≤ 2000000000000; omega⟩, ⟨by show -2000000000000 ≤ (ds : Int); omega, by show (ds : Int) ≤ 2000000000000; omega⟩, ⟨by show -2000000000000 ≤ (dl : Int); omega, by show (dl : Int) ≤ 2000000000000; omega⟩, ⟨by show -2000000000000 ≤ (dt : Int); omega, by show (dt : Int) ≤ 2000000000000; omega⟩⟩⟩, HS9.out, HK9.out⟩
end Go.Proofs.YtacekbbndamkmaaGreatDoor

set_option linter.unusedVariables false
set_option linter.unusedSimpArgs false
namespace Go.Proofs.YtacekbbndamkmaaGreatDoor
open Go.RowKit

/-- What is read so far, in memory. -/
structure TkC (T : Nat) (st : TkS) (W : World) : Prop where
  ok : st.bad = false
  at_ : ∃ a n c, Blk W T [.int .i64 st.f, .int .i64 st.s, .int .i64 st.l, .int .i64 st.p, .slice a n c, .bool st.begun] 110 ∧ W.ownsRow T 51 3 (.slice a n c) st.rs.length ((st.rs.map Rate.cells).flatten)
theorem TkC.below {T : Nat} {st : TkS} {W W' : World} (h : TkC T st W) (hb : Below W.heap.size W W') : TkC T st W' := by
  obtain ⟨h1, a, n, c, h2, h3⟩ := h
  exact ⟨h1, a, n, c, h2.below hb, own_keep h3 hb⟩
theorem Blk.set5of6 {w : World} {B : Nat} {c0 c1 c2 c3 c4 c5 : Value} {ty : TypeId} (h : Blk w B [c0, c1, c2, c3, c4, c5] ty) (v0 v1 v2 v3 v4 : Value) : Blk (w.setCells B 0 [v0, v1, v2, v3, v4]) B [v0, v1, v2, v3, v4, c5] ty := ((((h.put 0 v0).put 1 v1).put 2 v2).put 3 v3).put 4 v4
theorem cell_of_block {w w' : World} {b k : Nat} (h : w'.heap[b]? = w.heap[b]?) : w'.cell? ⟨b, k, none⟩ = w.cell? ⟨b, k, none⟩ := by
  unfold World.cell?
  simp only [h]
theorem wp_store_tf {op : Oper} {a : Act} {w : World} {K : Act → World → Prop} {Q : Exit → Act → World → Prop} {x y : Operand} (ho : op.op = .store 4 x y) (b o : Nat) (v : Bool) (u : Value) (hx : a.eval x = .pointer (some ⟨b, o, none⟩)) (hy : a.eval y = .bool v) (c : w.cell? ⟨b, o, none⟩ = some u) (f : w.frozen? ⟨b, o, none⟩ = false)
    (h : K (a.put op.dst undef) (w.setCell ⟨b, o, none⟩ (.bool v))) : op.wp Tryz.prog a w K Q := by
  have hr : (execOp a.eval op).run Tryz.prog w = .ok .skip (w.setCell ⟨b, o, none⟩ (.bool v)) := by
    unfold execOp
    rw [ho]
    simp only [hx, hy]
    go_simp
  unfold Oper.wp
  rw [hr]
  exact h
theorem words_head (s : List UInt8) : 1 ≤ (wordsL s).length := by rw [wordsL_len]; omega
theorem Below.weak {b c : Nat} {w w' : World} (h : Below c w w') (hb : b ≤ c) : Below b w w' := h.mono hb
theorem bd_dkt (e : Operand → Value) (o : Oper) (w : World) (z0 : Int) (z1 : Int) (z2 : Int) (z3 : Int) (ho : o.op = .build 28 #[(0, .tmp 48), (1, .tmp 51), (2, .tmp 54), (3, .tmp 57)]) (h0 : e (.tmp 48) = .int .i64 z0) (h1 : e (.tmp 51) = .int .i64 z1) (h2 : e (.tmp 54) = .int .i64 z2) (h3 : e (.tmp 57) = .int .i64 z3) :
   (execOp e o).run Tryz.prog w = .ok (.value (.agg #[.int .i64 z0, .int .i64 z1, .int .i64 z2, .int .i64 z3, .slice none 0 0])) w := by
  unfold execOp
  rw [ho]
  simp only [List.map_toArray, List.map_cons, List.map_nil, h0, h1, h2, h3]
  kernel_rfl
theorem bd_rtk (e : Operand → Value) (o : Oper) (w : World) (p0 : ByteArray) (ho : o.op = .build 51 #[(0, .tmp 81)]) (h0 : e (.tmp 81) = .string p0) :
   (execOp e o).run Tryz.prog w = .ok (.value (.agg #[.string p0, .int .i64 0, .bool false])) w := by
  unfold execOp
  rw [ho]
  simp only [List.map_toArray, List.map_cons, List.map_nil, h0]
  kernel_rfl
set_option maxRecDepth 100000 in
set_option maxHeartbeats 8000000 in
theorem take_any (S T : Nat) (st : TkS) (m : Nat) (line : List UInt8) (W : World) (hR : TkC T st W) (hQ : TkQ st m) (hm : m + line.length ≤ 100000) (hL : LibsW S W) : Calls Tryz.prog 75 #[.pointer (some ⟨T, 0, none⟩), .string ⟨line.toArray⟩] W fun e W' => e = .returned (.bool (takeS st line).2) ∧ ((takeS st line).2 = true → TkC T (takeS st line).1 W') ∧ Below T W W' := by
  obtain ⟨i1, hi1, hy0, hy1, hy2⟩ := info_parts Tryz.infoRate
  obtain ⟨hbad, ra, rn, rc, hX, hO⟩ := hR
  have HX := Lib.hid hX
  have HO := Lib.hid hO
  have hT := hX.lt
  have HWD := Lib.hid (wordsBl_any line (by omega) S W hL)
  have h1w := words_head line
  have hxl : ∀ i, ((wordsL line).getD i []).length ≤ 100000 := fun i => Nat.le_trans (wordsL_le line i) (by omega)
  have HXL := Lib.hid hxl
  have hfew := wordsL_few line
  have hrs := hQ.few
  have hTS : takeS st line = takeX st (wordsL line) := by unfold takeS; rw [if_neg (by rw [hbad]; decide)]
  rw [hTS]
  have HBAD : Hid (∀ W', (takeX st (wordsL line)).2 = false → Below T W W' → (fun e W' => e = Ending.returned (.bool (takeX st (wordsL line)).2) ∧ ((takeX st (wordsL line)).2 = true → TkC T (takeX st (wordsL line)).1 W') ∧ Below T W W') (.returned (.bool false)) W') := fun W' h1 h2 => ⟨by rw [h1], (fun h => by rw [h1] at h; cases h), h2⟩
  have HGOOD : Hid (∀ st2 W', takeX st (wordsL line) = (st2, true) → TkC T st2 W' → Below T W W' → (fun e W' => e = Ending.returned (.bool (takeX st (wordsL line)).2) ∧ ((takeX st (wordsL line)).2 = true → TkC T (takeX st (wordsL line)).1 W') ∧ Below T W W') (.returned (.bool true)) W') := fun st2 W' h1 h2 h3 => ⟨by rw [h1], (fun _ => by rw [h1]; exact h2), h3⟩
  generalize (fun e W' => e = Ending.returned (.bool (takeX st (wordsL line)).2) ∧ ((takeX st (wordsL line)).2 = true → TkC T (takeX st (wordsL line)).1 W') ∧ Below T W W') = PP at HBAD HGOOD ⊢
  have HTX : Hid (takeX st (wordsL line) = if fullW (wordsL line) = false then (badT, false)
    else if st.begun = false then (if headB (wordsL line) = true then (⟨numZ ((wordsL line).getD 1 []), numZ ((wordsL line).getD 2 []), numZ ((wordsL line).getD 3 []), numZ ((wordsL line).getD 4 []), [], true, false⟩, true) else (badT, false))
    else if lineB (wordsL line) = true then (⟨st.f, st.s, st.l, st.p, st.rs ++ [rateX (wordsL line)], true, false⟩, true) else (badT, false)) := rfl
  generalize takeX st (wordsL line) = X at HTX HBAD HGOOD
  clear hX hO hxl hQ hL hTS hbad
  generalize wordsL line = xs at HWD h1w HXL hfew HTX
  obtain ⟨sf, ss, sl, sp, rs, bg, bd⟩ := st
  simp only at HX HO HTX hrs
  clear bd
  go_enter Tryz.func75, Tryz.ntmps75
  as_aux_lemma =>
    go_wp2_with fail
    refine HWD.out.mono ?_
    rintro e w1 ⟨hw1, hw2, hb1⟩
    have HB1 : Hid (Below T W w1) := hb1.mono (Nat.le_of_lt hT)
    have HX1 := Lib.hid (HX.out.below hb1)
    have HO1 := Lib.hid (own_keep HO.out hb1)
    have hTw : T < w1.heap.size := Nat.lt_of_lt_of_le hT hb1.size
    clear HWD HX HO hb1
    cases hf : fullW xs with
    | false =>
      obtain rfl := hw2 hf
      have HX := HX1
      have HO := HO1
      clear hw1 hw2 HX1 HO1
      have HE := Lib.hid (HBAD.out w1 (by rw [HTX.out]; exact congrArg Prod.snd (if_pos hf)) HB1.out)
      clear HBAD HGOOD HTX HX HO
      as_aux_lemma =>
        go_wp2_with fail
        first | exact HE.out | (go_ret; exact HE.out)
    | true =>
      obtain ⟨g, rfl, hov⟩ := hw1 hf
      have HV := Lib.hid hov
      have HTX2 : Hid (X = if bg = false then (if headB xs = true then (⟨numZ (xs.getD 1 []), numZ (xs.getD 2 []), numZ (xs.getD 3 []), numZ (xs.getD 4 []), [], true, false⟩, true) else (badT, false)) else if lineB xs = true then (⟨sf, ss, sl, sp, rs ++ [rateX xs], true, false⟩, true) else (badT, false)) := by
        show _ = _
        rw [HTX.out, if_neg (by rw [hf]; decide)]
      have HGL : Hid (g < w1.heap.size) := (hov.lt g rfl).2
      have HCV : Hid (∀ i, i < xs.length → w1.cell? ⟨g, i, none⟩ = some (.string ⟨(xs.getD i []).toArray⟩)) := fun i hi => by
        rw [HV.out.cellAt i (by omega)]
        simp [encS, List.getD_eq_getElem?_getD, hi]
      clear hw1 hw2 hov HTX hf
      have HTX := HTX2
      clear HTX2
      have c0 := HCV.out 0 (by omega)
      have x5 := HX1.out.cell 5 rfl
      cases bg with
      | false =>
        have HTX2 : Hid (X = if headB xs = true then (⟨numZ (xs.getD 1 []), numZ (xs.getD 2 []), numZ (xs.getD 3 []), numZ (xs.getD 4 []), [], true, false⟩, true) else (badT, false)) := HTX.out
        clear HTX
        have HTX := HTX2
        clear HTX2
        by_cases h0 : xs.getD 0 [] = wDeck
        case neg =>
          have HH : Hid (headB xs = false) := by show _ = _; unfold headB; rw [decide_eq_false h0]; rfl
          have h0b : (xs.getD 0 [] == [100, 101, 99, 107]) = false := beq_eq_false_iff_ne.2 h0
          have HX := HX1
          have HO := HO1
          clear HX1 HO1 HCV
          generalize xs.getD 0 [] = x at c0 h0b h0
          obtain ⟨rb, hrb⟩ : ∃ rb, (x == [114, 97, 116, 101]) = rb := ⟨_, rfl⟩
          cases rb
          · skip
            have HE := Lib.hid (HBAD.out w1 (by rw [HTX.out]; rw [if_neg (by rw [HH.out]; decide)]) HB1.out)
            clear HBAD HGOOD HTX HX HO
            as_aux_lemma =>
              go_wp2_with fail
              first | exact HE.out | (go_ret; exact HE.out)
          · skip
            have HE := Lib.hid (HBAD.out w1 (by rw [HTX.out]; rw [if_neg (by rw [HH.out]; decide)]) HB1.out)
            clear HBAD HGOOD HTX HX HO
            as_aux_lemma =>
              go_wp2_with fail
              first | exact HE.out | (go_ret; exact HE.out)
        have d0 : w1.cell? ⟨g, 0, none⟩ = some (.string ⟨#[100, 101, 99, 107]⟩) := by rw [c0, h0]; rfl
        have hxm : xs.length ≤ 1000000 := by omega
        clear c0
        by_cases hx1 : xs.length = 1
        case pos =>
          have HH : Hid (headB xs = false) := by
            show _ = _
            unfold headB
            rw [decide_eq_false (show ¬ xs.length = 5 by omega), Bool.false_and, Bool.and_false]
          have HNB := Lib.hid (numbers12_any [] w1 g 0 0 (by decide) (fun h => by cases h) (fun i => by simp))
          rw [hx1]
          have HX := HX1
          have HO := HO1
          clear HX1 HO1 HCV HV
          as_aux_lemma =>
            go_wp2_with fail
            refine HNB.out.mono ?_
            rintro e w2 ⟨hn1, hn2, hb2⟩
            obtain ⟨v2, rfl, ho2⟩ := hn1 rfl
            obtain ⟨qa, qc, rfl⟩ := own_shape ho2
            have HB2 : Hid (Below T W w2) := HB1.out.trans (hb2.mono (Nat.le_of_lt hTw))
            clear hn1 hn2 hb2 ho2 HNB
            have HE := Lib.hid (HBAD.out w2 (by rw [HTX.out]; rw [if_neg (by rw [HH.out]; decide)]) HB2.out)
            clear HBAD HGOOD HTX HX HO
            as_aux_lemma =>
              go_wp2_with fail
              first | exact HE.out | (go_ret; exact HE.out)
        case neg =>
          have HNB := Lib.hid (numbers12_any (xs.drop 1) w1 g 1 (xs.length - 1) (by rw [List.length_drop]; omega) (fun h => (StrAt.of_own HV.out 1).resolve_right (fun e => by rw [e] at h; cases h)) (fun i => by rw [drop_getD]; have := HXL.out (i + 1); omega))
          have hdl : (xs.drop 1).length = xs.length - 1 := List.length_drop
          rw [hdl] at HNB
          have hxn : ¬ xs.length - 1 = 0 := by omega
          have hx2 : 1 < xs.length := by omega
          clear HCV HV
          as_aux_lemma =>
            go_wp2_with fail
            refine HNB.out.mono ?_
            rintro e w2 ⟨hn1, hn2, hb2⟩
            have HB2 : Hid (Below T W w2) := HB1.out.trans (hb2.mono (Nat.le_of_lt hTw))
            have HX := Lib.hid (HX1.out.below hb2)
            have HO := Lib.hid (own_keep HO1.out hb2)
            clear HNB HX1 HO1 x5 d0
            cases ha : allNum (xs.drop 1) with
            | false =>
              obtain rfl := hn2 ha
              have HH : Hid (headB xs = false) := by show _ = _; unfold headB; rw [ha, Bool.and_false, Bool.and_false]
              clear hn1 hn2 hb2
              have HE := Lib.hid (HBAD.out w2 (by rw [HTX.out]; rw [if_neg (by rw [HH.out]; decide)]) HB2.out)
              clear HBAD HGOOD HTX HX HO
              as_aux_lemma =>
                go_wp2_with fail
                first | exact HE.out | (go_ret; exact HE.out)
            | true =>
              obtain ⟨v2, rfl, ho2⟩ := hn1 ha
              rw [hdl] at ho2
              obtain ⟨qa, qc, rfl⟩ := own_shape ho2
              by_cases h5 : xs.length = 5
              case neg =>
                have HH : Hid (headB xs = false) := by show _ = _; unfold headB; rw [decide_eq_false h5, Bool.false_and, Bool.and_false]
                have h4 : ¬ ((xs.length - 1 : Nat) : Int) = 4 := by omega
                clear hn1 hn2 hb2 ho2
                have HE := Lib.hid (HBAD.out w2 (by rw [HTX.out]; rw [if_neg (by rw [HH.out]; decide)]) HB2.out)
                clear HBAD HGOOD HTX HX HO
                as_aux_lemma =>
                  go_wp2_with fail
                  first | exact HE.out | (go_ret; exact HE.out)
              case pos =>
                have h51 : xs.length - 1 = 4 := by omega
                rw [h51] at ho2 ⊢
                obtain ⟨q, rfl, hq0, hq1⟩ := own_pos ho2 (by omega)
                have hnc : ∀ i, i < 4 → w2.cell? ⟨q, i, none⟩ = some (.int .i64 (numZ (xs.getD (i + 1) []))) := fun i hi => by
                  rw [ho2.cellAt i (by omega)]
                  unfold numsV
                  rw [List.getElem?_map, ← drop_getD, List.getD_eq_getElem?_getD]
                  have : i < (xs.drop 1).length := by omega
                  rw [List.getElem?_eq_getElem this]
                  rfl
                have n0 := hnc 0 (by omega)
                have n1 := hnc 1 (by omega)
                have n2 := hnc 2 (by omega)
                have n3 := hnc 3 (by omega)
                have HH : Hid (headB xs = true) := by show _ = _; unfold headB; rw [decide_eq_true h0, decide_eq_true h5, ha]; rfl
                simp only [Nat.zero_add] at n0
                have HX9 : Hid (X = (⟨numZ (xs.getD 1 []), numZ (xs.getD 2 []), numZ (xs.getD 3 []), numZ (xs.getD 4 []), [], true, false⟩, true)) := by show _ = _; rw [HTX.out, if_pos HH.out]
                clear hnc ho2 hn1 hn2 hb2 HH HTX h0 ha
                generalize numZ (xs.getD 1 []) = z1 at n0 HX9
                generalize numZ (xs.getD (1 + 1) []) = z2 at n1 HX9
                generalize numZ (xs.getD (2 + 1) []) = z3 at n2 HX9
                generalize numZ (xs.getD (3 + 1) []) = z4 at n3 HX9
                as_aux_lemma =>
                  go_upto_region 8 with (fail)
                  have hqT : q ≠ T := by omega
                  have HS0 : Hid (w2.drew.cell? ⟨q, 0, none⟩ = some (.int .i64 z1) ∧ w2.drew.cell? ⟨q, 1, none⟩ = some (.int .i64 z2) ∧ w2.drew.cell? ⟨q, 2, none⟩ = some (.int .i64 z3) ∧ w2.drew.cell? ⟨q, 3, none⟩ = some (.int .i64 z4)) := ⟨n0, n1, n2, n3⟩
                  have HXD := Lib.hid (HX.out.below (ext_drew (Below.refl _ _)))
                  have HBD : Hid (Below T W w2.drew) := HB2.out.drew
                  have hqd : q < w2.drew.heap.size := hq1
                  clear n0 n1 n2 n3 HX HO HB2
                  refine region_seqI (S := fun W => W.cell? ⟨q, 0, none⟩ = some (.int .i64 z1) ∧ W.cell? ⟨q, 1, none⟩ = some (.int .i64 z2) ∧ W.cell? ⟨q, 2, none⟩ = some (.int .i64 z3) ∧ W.cell? ⟨q, 3, none⟩ = some (.int .i64 z4)) [(true, 0), (true, 1), (true, 2), (true, 3), (true, 4), (true, 5), (true, 6), (true, 7), (true, 8), (true, 9), (true, 10), (true, 11), (true, 12), (true, 13), (true, 14), (true, 15), (true, 16), (false, 17), (true, 18), (true, 19), (false, 20)] (by kernel_rfl) (by kernel_rfl) rfl (by kernel_rfl) HS0.out ?_
                  generalize w2.drew = wd at HS0 HXD HBD hqd ⊢
                  simp only [seqOps, List.getD_cons_zero, List.getD_cons_succ]
                  refine seqI_take (v := .pointer (some ⟨T, 0, none⟩)) rfl (fun W hW => by go_simp) (fun _ _ _ h => h) ?_
                  simp only [Act.put, List.setIfInBounds_toArray, List.set_cons_zero, List.set_cons_succ]
                  refine seqI_take (v := .pointer (some ⟨T, 0, none⟩)) rfl (fun W hW => by go_simp) (fun _ _ _ h => h) ?_
                  simp only [Act.put, List.setIfInBounds_toArray, List.set_cons_zero, List.set_cons_succ]
                  refine seqI_take (v := .slice (some ⟨q, 0, none⟩) 4 qc) rfl (fun W hW => by go_simp) (fun _ _ _ h => h) ?_
                  simp only [Act.put, List.setIfInBounds_toArray, List.set_cons_zero, List.set_cons_succ]
                  refine seqI_take (v := .pointer (some ⟨q, 0, none⟩)) rfl (fun W hW => by go_simp) (fun _ _ _ h => h) ?_
                  simp only [Act.put, List.setIfInBounds_toArray, List.set_cons_zero, List.set_cons_succ]
                  refine seqI_take (v := .int .i64 z1) rfl (fun W hW => by obtain ⟨m0, m1, m2, m3⟩ := hW; go_simp) (fun _ _ _ h => h) ?_
                  simp only [Act.put, List.setIfInBounds_toArray, List.set_cons_zero, List.set_cons_succ]
                  refine seqI_take (v := .slice (some ⟨q, 0, none⟩) 4 qc) rfl (fun W hW => by go_simp) (fun _ _ _ h => h) ?_
                  simp only [Act.put, List.setIfInBounds_toArray, List.set_cons_zero, List.set_cons_succ]
                  refine seqI_take (v := .pointer (some ⟨q, 1, none⟩)) rfl (fun W hW => by go_simp) (fun _ _ _ h => h) ?_
                  simp only [Act.put, List.setIfInBounds_toArray, List.set_cons_zero, List.set_cons_succ]
                  refine seqI_take (v := .int .i64 z2) rfl (fun W hW => by obtain ⟨m0, m1, m2, m3⟩ := hW; go_simp) (fun _ _ _ h => h) ?_
                  simp only [Act.put, List.setIfInBounds_toArray, List.set_cons_zero, List.set_cons_succ]
                  refine seqI_take (v := .slice (some ⟨q, 0, none⟩) 4 qc) rfl (fun W hW => by go_simp) (fun _ _ _ h => h) ?_
                  simp only [Act.put, List.setIfInBounds_toArray, List.set_cons_zero, List.set_cons_succ]
                  refine seqI_take (v := .pointer (some ⟨q, 2, none⟩)) rfl (fun W hW => by go_simp) (fun _ _ _ h => h) ?_
                  simp only [Act.put, List.setIfInBounds_toArray, List.set_cons_zero, List.set_cons_succ]
                  refine seqI_take (v := .int .i64 z3) rfl (fun W hW => by obtain ⟨m0, m1, m2, m3⟩ := hW; go_simp) (fun _ _ _ h => h) ?_
                  simp only [Act.put, List.setIfInBounds_toArray, List.set_cons_zero, List.set_cons_succ]
                  refine seqI_take (v := .slice (some ⟨q, 0, none⟩) 4 qc) rfl (fun W hW => by go_simp) (fun _ _ _ h => h) ?_
                  simp only [Act.put, List.setIfInBounds_toArray, List.set_cons_zero, List.set_cons_succ]
                  refine seqI_take (v := .pointer (some ⟨q, 3, none⟩)) rfl (fun W hW => by go_simp) (fun _ _ _ h => h) ?_
                  simp only [Act.put, List.setIfInBounds_toArray, List.set_cons_zero, List.set_cons_succ]
                  refine seqI_take (v := .int .i64 z4) rfl (fun W hW => by obtain ⟨m0, m1, m2, m3⟩ := hW; go_simp) (fun _ _ _ h => h) ?_
                  simp only [Act.put, List.setIfInBounds_toArray, List.set_cons_zero, List.set_cons_succ]
                  refine seqI_take (v := .agg #[.int .i64 z1, .int .i64 z2, .int .i64 z3, .int .i64 z4, .slice none 0 0]) rfl (fun W hW => by exact bd_dkt _ _ _ z1 z2 z3 z4 rfl rfl rfl rfl rfl) (fun _ _ _ h => h) ?_
                  simp only [Act.put, List.setIfInBounds_toArray, List.set_cons_zero, List.set_cons_succ]
                  refine seqI_take (v := .pointer (some ⟨T, 0, none⟩)) rfl (fun W hW => by go_simp) (fun _ _ _ h => h) ?_
                  simp only [Act.put, List.setIfInBounds_toArray, List.set_cons_zero, List.set_cons_succ]
                  refine seqI_take (v := .pointer (some ⟨T, 0, none⟩)) rfl (fun W hW => by go_simp) (fun _ _ _ h => h) ?_
                  simp only [Act.put, List.setIfInBounds_toArray, List.set_cons_zero, List.set_cons_succ]
                  have HTH : Hid (wd.there T 0 5) := HXD.out.th 5 (by simp)
                  have hbq : (wd.setCells T 0 [.int .i64 z1, .int .i64 z2, .int .i64 z3, .int .i64 z4, .slice none 0 0]).heap[q]? = wd.heap[q]? := (setCells_gb T [.int .i64 z1, .int .i64 z2, .int .i64 z3, .int .i64 z4, .slice none 0 0] 0).block q hqd (fun e => hqT (by injection e))
                  have HSA : Hid ((wd.setCells T 0 [.int .i64 z1, .int .i64 z2, .int .i64 z3, .int .i64 z4, .slice none 0 0]).cell? ⟨q, 0, none⟩ = some (.int .i64 z1) ∧ (wd.setCells T 0 [.int .i64 z1, .int .i64 z2, .int .i64 z3, .int .i64 z4, .slice none 0 0]).cell? ⟨q, 1, none⟩ = some (.int .i64 z2) ∧ (wd.setCells T 0 [.int .i64 z1, .int .i64 z2, .int .i64 z3, .int .i64 z4, .slice none 0 0]).cell? ⟨q, 2, none⟩ = some (.int .i64 z3) ∧ (wd.setCells T 0 [.int .i64 z1, .int .i64 z2, .int .i64 z3, .int .i64 z4, .slice none 0 0]).cell? ⟨q, 3, none⟩ = some (.int .i64 z4)) := ⟨(cell_of_block hbq).trans HS0.out.1, (cell_of_block hbq).trans HS0.out.2.1, (cell_of_block hbq).trans HS0.out.2.2.1, (cell_of_block hbq).trans HS0.out.2.2.2⟩
                  have HXA : Hid (Blk (wd.setCells T 0 [.int .i64 z1, .int .i64 z2, .int .i64 z3, .int .i64 z4, .slice none 0 0]) T [.int .i64 z1, .int .i64 z2, .int .i64 z3, .int .i64 z4, .slice none 0 0, .bool false] 110) := HXD.out.set5of6 _ _ _ _ _
                  have HBA : Hid (Below T W (wd.setCells T 0 [.int .i64 z1, .int .i64 z2, .int .i64 z3, .int .i64 z4, .slice none 0 0])) := HBD.out.trans (below_setCells (Nat.le_refl T) _ _ _)
                  have hqA : q < (wd.setCells T 0 [.int .i64 z1, .int .i64 z2, .int .i64 z3, .int .i64 z4, .slice none 0 0]).heap.size := Nat.lt_of_lt_of_le hqd (setCells_gb T [.int .i64 z1, .int .i64 z2, .int .i64 z3, .int .i64 z4, .slice none 0 0] 0).size
                  refine seqI_do rfl (wp_store_mid 28 (.tmp 60) (.tmp 58) rfl T 0 #[.int .i64 z1, .int .i64 z2, .int .i64 z3, .int .i64 z4, .slice none 0 0] rfl rfl HTH.out Tryz.deckSz (by simp [Value.oneCell']) ⟨HSA.out, ?_⟩)
                  show wpSeqI _ _ _ _ _ _ (wd.setCells T 0 [.int .i64 z1, .int .i64 z2, .int .i64 z3, .int .i64 z4, .slice none 0 0])
                  generalize wd.setCells T 0 [.int .i64 z1, .int .i64 z2, .int .i64 z3, .int .i64 z4, .slice none 0 0] = wA at HSA HXA HBA hqA ⊢
                  clear hbq HTH HXD HBD HS0 hqd
                  simp only [Act.put, List.setIfInBounds_toArray, List.set_cons_zero, List.set_cons_succ]
                  refine seqI_take (v := .pointer (some ⟨T, 0, none⟩)) rfl (fun W hW => by go_simp) (fun _ _ _ h => h) ?_
                  simp only [Act.put, List.setIfInBounds_toArray, List.set_cons_zero, List.set_cons_succ]
                  refine seqI_take (v := .pointer (some ⟨T, 5, none⟩)) rfl (fun W hW => by go_simp) (fun _ _ _ h => h) ?_
                  simp only [Act.put, List.setIfInBounds_toArray, List.set_cons_zero, List.set_cons_succ]
                  have y5 := HXA.out.cell 5 rfl
                  have g5 := HXA.out.fr 5
                  have hbB : (wA.setCell ⟨T, 5, none⟩ (.bool true)).heap[q]? = wA.heap[q]? := Below.heap_setCell _ _ _ _ hqT
                  have HSB : Hid ((wA.setCell ⟨T, 5, none⟩ (.bool true)).cell? ⟨q, 0, none⟩ = some (.int .i64 z1) ∧ (wA.setCell ⟨T, 5, none⟩ (.bool true)).cell? ⟨q, 1, none⟩ = some (.int .i64 z2) ∧ (wA.setCell ⟨T, 5, none⟩ (.bool true)).cell? ⟨q, 2, none⟩ = some (.int .i64 z3) ∧ (wA.setCell ⟨T, 5, none⟩ (.bool true)).cell? ⟨q, 3, none⟩ = some (.int .i64 z4)) := ⟨(cell_of_block hbB).trans HSA.out.1, (cell_of_block hbB).trans HSA.out.2.1, (cell_of_block hbB).trans HSA.out.2.2.1, (cell_of_block hbB).trans HSA.out.2.2.2⟩
                  refine seqI_do rfl (wp_store_tf (by rfl) T 5 true (.bool false) rfl rfl y5 g5 ⟨HSB.out, ?_⟩)
                  simp only [Act.put, List.setIfInBounds_toArray, List.set_cons_zero, List.set_cons_succ]
                  have HXB : Hid (Blk (wA.setCell ⟨T, 5, none⟩ (.bool true)) T [.int .i64 z1, .int .i64 z2, .int .i64 z3, .int .i64 z4, .slice none 0 0, .bool true] 110) := HXA.out.put 5 _
                  have HBB : Hid (Below T W (wA.setCell ⟨T, 5, none⟩ (.bool true))) := HBA.out.setCell (Nat.le_refl T) _
                  generalize wA.setCell ⟨T, 5, none⟩ (.bool true) = wB at HXB HBB ⊢
                  clear HSB HSA HXA HBA y5 g5 hbB hqA
                  refine seqI_nil ?_
                  have HE := Lib.hid (HGOOD.out _ wB HX9.out ⟨rfl, none, 0, 0, HXB.out, World.ownsRow_nil _ _ _ _⟩ HBB.out)
                  clear HGOOD HBAD HX9 HXB HBB
                  as_aux_lemma =>
                    go_wp2_with fail
                    first | exact HE.out | (go_ret; exact HE.out)
      | true =>
        have HTX2 : Hid (X = if lineB xs = true then (⟨sf, ss, sl, sp, rs ++ [rateX xs], true, false⟩, true) else (badT, false)) := by show _ = _; rw [HTX.out]; exact if_neg (by decide)
        clear HTX
        have HTX := HTX2
        clear HTX2
        have HX := HX1
        have HO := HO1
        clear HX1 HO1
        by_cases hr : xs.getD 0 [] = wRate
        case neg =>
          have HH : Hid (lineB xs = false) := by show _ = _; unfold lineB; rw [decide_eq_false hr]; rfl
          have h0b : (xs.getD 0 [] == [114, 97, 116, 101]) = false := beq_eq_false_iff_ne.2 hr
          clear HCV
          generalize xs.getD 0 [] = x at c0 h0b hr
          obtain ⟨rb, hrb⟩ : ∃ rb, (x == [100, 101, 99, 107]) = rb := ⟨_, rfl⟩
          cases rb
          · skip
            have HE := Lib.hid (HBAD.out w1 (by rw [HTX.out]; rw [if_neg (by rw [HH.out]; decide)]) HB1.out)
            clear HBAD HGOOD HTX HX HO
            as_aux_lemma =>
              go_wp2_with fail
              first | exact HE.out | (go_ret; exact HE.out)
          · skip
            have HE := Lib.hid (HBAD.out w1 (by rw [HTX.out]; rw [if_neg (by rw [HH.out]; decide)]) HB1.out)
            clear HBAD HGOOD HTX HX HO
            as_aux_lemma =>
              go_wp2_with fail
              first | exact HE.out | (go_ret; exact HE.out)
        have d0 : w1.cell? ⟨g, 0, none⟩ = some (.string ⟨#[114, 97, 116, 101]⟩) := by rw [c0, hr]; rfl
        clear c0
        by_cases h3 : xs.length = 3
        case neg =>
          have HH : Hid (lineB xs = false) := by show _ = _; unfold lineB; rw [decide_eq_false h3, Bool.false_and, Bool.and_false]
          have h3i : ¬ (xs.length : Int) = 3 := by omega
          clear HCV
          have HE := Lib.hid (HBAD.out w1 (by rw [HTX.out]; rw [if_neg (by rw [HH.out]; decide)]) HB1.out)
          clear HBAD HGOOD HTX HX HO
          as_aux_lemma =>
            go_wp2_with fail
            first | exact HE.out | (go_ret; exact HE.out)
        have c1 := HCV.out 1 (by omega)
        have c2 := HCV.out 2 (by omega)
        have HLB : Hid (lineB xs = (decide (xs.getD 2 [] = wClosed) || numOk (xs.getD 2 []))) := by show _ = _; unfold lineB; rw [decide_eq_true hr, decide_eq_true h3]; rfl
        have HRX : Hid (lineB xs = true → rateX xs = ⟨undashL (xs.getD 1 []), if xs.getD 2 [] = wClosed then 0 else if numOk (xs.getD 2 []) = true then numZ (xs.getD 2 []) else 0, decide (xs.getD 2 [] = wClosed)⟩) := fun h => by
          rw [HLB.out] at h
          unfold rateX
          by_cases h9 : xs.getD 2 [] = wClosed
          · rw [if_pos h9, if_pos h9, decide_eq_true h9]
          · rw [decide_eq_false h9, Bool.false_or] at h
            rw [if_neg h9, if_neg h9, decide_eq_false h9, if_pos h]
        have hx1l := HXL.out 1
        have hx2l := HXL.out 2
        have HNB := Lib.hid (fun W : World => number12_any (xs.getD 2 []) W (by have := HXL.out 2; omega))
        rw [h3]
        clear HCV HXL HV hfew h1w h3 hr
        generalize xs.getD 1 [] = x1 at c1 HRX hx1l
        generalize xs.getD 2 [] = x2 at c2 HLB HRX hx2l HNB
        generalize rateX xs = rx at HTX HRX
        generalize lineB xs = LB at HTX HLB HRX
        have hA : Below w1.heap.size w1 (w1.alloc (.cells #[.string ⟨x1.toArray⟩, .int .i64 0, .bool false] 51)) := ext_alloc (Below.refl _ _)
        have HP2 : Hid (Blk (w1.alloc (.cells #[.string ⟨x1.toArray⟩, .int .i64 0, .bool false] 51)) w1.heap.size [.string ⟨x1.toArray⟩, .int .i64 0, .bool false] 51) := Blk.new w1 _ _
        have HB2 := Lib.hid hA
        have HC2 := Lib.hid (fun W (hW : Below w1.heap.size w1 W) => (hW.cell (p := ⟨g, 2, none⟩) (HGL.out)).trans c2)
        clear hA
        as_aux_lemma =>
          go_upto_if 85 with (refine wpList_val rfl (bd_rtk _ _ _ ⟨x1.toArray⟩ rfl rfl) ?_)
          generalize w1.alloc (.cells #[.string ⟨x1.toArray⟩, .int .i64 0, .bool false] 51) = w2 at HP2 HB2 ⊢
          obtain ⟨P, hP⟩ : ∃ P, P = w1.heap.size := ⟨_, rfl⟩
          rw [← hP] at HP2
          simp only [← hP]
          have HPW := Lib.hid hP
          clear hP c1 c2 d0 x5
          go_cut [5, 9] (fun v5 v9 wx => v5 = .slice (some ⟨g, 0, none⟩) 3 3 ∧ v9 = .pointer (some ⟨P, 0, none⟩) ∧ Hid (Blk wx P [.string ⟨(undashL x1).toArray⟩, .int .i64 0, .bool false] 51) ∧ Hid (Below w1.heap.size w1 wx))
          case first =>
            by_cases hd : x1 = [45]
            · have HPN : Hid (Blk (w2.setCell ⟨P, 0, none⟩ (.string ⟨#[]⟩)) P [.string ⟨(undashL x1).toArray⟩, .int .i64 0, .bool false] 51) := by
                have := HP2.out.put 0 (.string ⟨#[]⟩)
                show Blk _ _ _ _
                unfold undashL
                rw [if_pos hd]
                exact this
              have HBN : Hid (Below w1.heap.size w1 (w2.setCell ⟨P, 0, none⟩ (.string ⟨#[]⟩))) := HB2.out.setCell (p := ⟨P, 0, none⟩) (by show _ ≤ P; rw [HPW.out]; exact Nat.le_refl _) _
              subst hd
              have p0 := HP2.out.cell 0 rfl
              have pf := HP2.out.fr 0
              as_aux_lemma =>
                go_wp2_with fail
                go_meet
                exact ⟨rfl, rfl, HPN.out, HBN.out⟩
            · have HPN : Hid (Blk w2 P [.string ⟨(undashL x1).toArray⟩, .int .i64 0, .bool false] 51) := by
                show Blk _ _ _ _
                unfold undashL
                rw [if_neg hd]
                exact HP2.out
              have hdb : (x1 == [45]) = false := beq_eq_false_iff_ne.2 hd
              rw [hdb]
              have p0 := HP2.out.cell 0 rfl
              as_aux_lemma =>
                go_wp2_with fail
                go_meet
                exact ⟨rfl, rfl, HPN.out, HB2.out⟩
          case rest =>
            obtain ⟨rfl, rfl, HP3, HB3⟩ := hcut
            obtain ⟨w3, rfl⟩ : ∃ x : World, x = wc := ⟨_, rfl⟩
            clear HP2 HB2
            have c2 := HC2.out w3 HB3.out
            clear HC2
            generalize undashL x1 = u at HP3 HRX
            have hTP : T < P := by rw [HPW.out]; exact hTw
            have hwP : w1.heap.size ≤ P := by rw [HPW.out]; exact Nat.le_refl _
            as_aux_lemma =>
              go_upto_if 90 with (fail)
              generalize hZF : (if x2 = wClosed then 0 else if numOk x2 = true then numZ x2 else 0) = ZF at HRX
              have HZF := Lib.hid hZF
              clear hZF
              generalize hCL : decide (x2 = wClosed) = CL at HLB HRX
              have HCL := Lib.hid hCL
              clear hCL
              go_cut [9, 10] (fun v9 v10 wx => v9 = .pointer (some ⟨P, 0, none⟩) ∧ v10 = .bool LB ∧ Hid (Blk wx P [.string ⟨u.toArray⟩, .int .i64 ZF, .bool CL] 51) ∧ Hid (Below w1.heap.size w1 wx))
              case first =>
                by_cases hc : x2 = wClosed
                · have hcl : CL = true := by rw [← HCL.out]; exact decide_eq_true hc
                  have hzf : ZF = 0 := by rw [← HZF.out, if_pos hc]
                  have hlb : LB = true := by rw [HLB.out, hcl]; rfl
                  subst hcl
                  subst hzf
                  subst hlb
                  have HPN := Lib.hid (HP3.out.put 2 (.bool true))
                  have HBN : Hid (Below w1.heap.size w1 (w3.setCell ⟨P, 2, none⟩ (.bool true))) := HB3.out.setCell (p := ⟨P, 2, none⟩) hwP _
                  have hcb : (x2 == [99, 108, 111, 115, 101, 100]) = true := beq_iff_eq.2 hc
                  rw [hcb]
                  have p2 := HP3.out.cell 2 rfl
                  have pf := HP3.out.fr 2
                  as_aux_lemma =>
                    go_wp2_with fail
                    go_meet
                    exact ⟨rfl, rfl, HPN.out, HBN.out⟩
                · have hcl : CL = false := by rw [← HCL.out]; exact decide_eq_false hc
                  have hzf : (if numOk x2 = true then numZ x2 else 0) = ZF := by rw [← HZF.out, if_neg hc]
                  have hlb : LB = numOk x2 := by rw [HLB.out, hcl]; rfl
                  have hcb : (x2 == [99, 108, 111, 115, 101, 100]) = false := beq_eq_false_iff_ne.2 hc
                  rw [hcb]
                  have HNC : Hid (Calls Tryz.prog 105 #[.string ⟨x2.toArray⟩, .int .i64 12] w3 fun e w' => e = .returned (.tuple #[.int .i64 ZF, .bool LB]) ∧ Below w3.heap.size w3 w') := by
                    rw [← hzf, hlb]
                    exact HNB.out w3
                  subst hcl
                  clear hzf hlb hcb
                  as_aux_lemma =>
                    go_wp2_with fail
                    refine HNC.out.mono ?_
                    rintro e w4 ⟨rfl, hb4⟩
                    have HP4 := Lib.hid (HP3.out.below hb4)
                    have HPN := Lib.hid (HP4.out.put 1 (.int .i64 ZF))
                    have HBN : Hid (Below w1.heap.size w1 (w4.setCell ⟨P, 1, none⟩ (.int .i64 ZF))) := (ext_trans HB3.out hb4).setCell (p := ⟨P, 1, none⟩) hwP _
                    have p1 := HP4.out.cell 1 rfl
                    have pf := HP4.out.fr 1
                    clear hb4
                    as_aux_lemma =>
                      go_wp2_with fail
                      go_meet
                      exact ⟨rfl, rfl, HPN.out, HBN.out⟩
              case rest =>
                obtain ⟨rfl, rfl, HP5, HB5⟩ := hcut
                obtain ⟨w5, rfl⟩ : ∃ x : World, x = wc := ⟨_, rfl⟩
                have hrn : rn = rs.length := (own_caps HO.out).1
                have hvP : (Value.slice ra rn rc).ownBlock ≠ some P := own_before HO.out hwP
                have HX5 := Lib.hid (HX.out.below HB5.out)
                have HO5 := Lib.hid (own_keep HO.out HB5.out)
                have HB6 : Hid (Below T W w5) := HB1.out.trans (HB5.out.mono (Nat.le_of_lt hTw))
                clear HP3 HB3 c2 HZF HCL HNB HX HO HB1 HB5 HLB
                subst hrn
                have hvT : (Value.slice ra rs.length rc).ownBlock ≠ some T := own_blk (e := 51) HO5.out HX5.out (by decide)
                have HXD := Lib.hid (HX5.out.below (ext_drew (Below.refl _ _)))
                have HPD := Lib.hid (HP5.out.below (ext_drew (Below.refl _ _)))
                have HOD := Lib.hid (own_keep HO5.out (ext_drew (Below.refl _ _)))
                have HBD : Hid (Below T W w5.drew) := HB6.out.drew
                have HSD : Hid (w5.drew.cell? ⟨T, 4, none⟩ = some (.slice ra rs.length rc) ∧ w5.drew.cell? ⟨P, 0, none⟩ = some (.string ⟨u.toArray⟩) ∧ w5.drew.cell? ⟨P, 1, none⟩ = some (.int .i64 ZF) ∧ w5.drew.cell? ⟨P, 2, none⟩ = some (.bool CL)) := ⟨HXD.out.cell 4 rfl, HPD.out.cell 0 rfl, HPD.out.cell 1 rfl, HPD.out.cell 2 rfl⟩
                clear HX5 HP5 HO5 HB6
                as_aux_lemma =>
                  go_upto_region 18 with (fail)
                  refine region_lastI (S := fun W => W.cell? ⟨T, 4, none⟩ = some (.slice ra rs.length rc) ∧ W.cell? ⟨P, 0, none⟩ = some (.string ⟨u.toArray⟩) ∧ W.cell? ⟨P, 1, none⟩ = some (.int .i64 ZF) ∧ W.cell? ⟨P, 2, none⟩ = some (.bool CL)) [(true, 0), (true, 1), (true, 2), (true, 3), (true, 4), (true, 5), (true, 6), (false, 7), (false, 8), (true, 9), (true, 10), (true, 11)] (by kernel_rfl) rfl rfl (by kernel_rfl) (by kernel_rfl) rfl (by kernel_rfl) HSD.out ?_
                  generalize w5.drew = wd at HXD HPD HOD HBD HSD ⊢
                  simp only [seqOps, List.dropLast, List.getD_cons_zero, List.getD_cons_succ]
                  refine seqI_take (v := .pointer (some ⟨T, 0, none⟩)) rfl (fun W hW => by go_simp) (fun _ _ _ h => h) ?_
                  simp only [Act.put, List.setIfInBounds_toArray, List.set_cons_zero, List.set_cons_succ]
                  refine seqI_take (v := .pointer (some ⟨T, 0, none⟩)) rfl (fun W hW => by go_simp) (fun _ _ _ h => h) ?_
                  simp only [Act.put, List.setIfInBounds_toArray, List.set_cons_zero, List.set_cons_succ]
                  refine seqI_take (v := .pointer (some ⟨T, 0, none⟩)) rfl (fun W hW => by go_simp) (fun _ _ _ h => h) ?_
                  simp only [Act.put, List.setIfInBounds_toArray, List.set_cons_zero, List.set_cons_succ]
                  refine seqI_take (v := .pointer (some ⟨T, 0, none⟩)) rfl (fun W hW => by go_simp) (fun _ _ _ h => h) ?_
                  simp only [Act.put, List.setIfInBounds_toArray, List.set_cons_zero, List.set_cons_succ]
                  refine seqI_take (v := .pointer (some ⟨T, 4, none⟩)) rfl (fun W hW => by go_simp) (fun _ _ _ h => h) ?_
                  simp only [Act.put, List.setIfInBounds_toArray, List.set_cons_zero, List.set_cons_succ]
                  refine seqI_take (v := .slice ra rs.length rc) rfl (fun W hW => by obtain ⟨m0, m1, m2, m3⟩ := hW; go_simp) (fun _ _ _ h => h) ?_
                  simp only [Act.put, List.setIfInBounds_toArray, List.set_cons_zero, List.set_cons_succ]
                  refine seqI_take (v := .agg #[.string ⟨u.toArray⟩, .int .i64 ZF, .bool CL]) rfl (fun W hW => by obtain ⟨m0, m1, m2, m3⟩ := hW; go_simp) (fun _ _ _ h => h) ?_
                  simp only [Act.put, List.setIfInBounds_toArray, List.set_cons_zero, List.set_cons_succ]
                  have hA : Below wd.heap.size wd (wd.alloc (.cells #[.string ⟨u.toArray⟩, .int .i64 ZF, .bool CL] 51)) := ext_alloc (Below.refl _ _)
                  have HXA := Lib.hid (HXD.out.below hA)
                  have HPA := Lib.hid (HPD.out.below hA)
                  have HOA := Lib.hid (own_keep HOD.out hA)
                  have HNA : Hid (Blk (wd.alloc (.cells #[.string ⟨u.toArray⟩, .int .i64 ZF, .bool CL] 51)) wd.heap.size [.string ⟨u.toArray⟩, .int .i64 ZF, .bool CL] 51) := Blk.new wd _ _
                  have hTd := HXD.out.lt
                  refine seqI_do rfl (wp_val (bs_r1 _ _ _ 106 ⟨u.toArray⟩ ZF CL rfl rfl) ⟨⟨HXA.out.cell 4 rfl, HPA.out.cell 0 rfl, HPA.out.cell 1 rfl, HPA.out.cell 2 rfl⟩, ?_⟩)
                  simp only [Act.put, List.setIfInBounds_toArray, List.set_cons_zero, List.set_cons_succ]
                  refine seqI_do rfl (wp_append_own_at (.tmp 105) (.tmp 107) 26 rfl T 51 i1 _ 3 32 Tryz.underlying26 hi1 hy0 hy1 hy2 rfl (by omega) (.slice ra rs.length rc) rs.length _ rfl HOA.out ⟨wd.heap.size, 0, none⟩ 1 1 [.string ⟨u.toArray⟩, .int .i64 ZF, .bool CL] rfl rfl (fun j u hj => by rw [add0]; exact HNA.out.cell j hj) (by simp [Value.oneCell']) (by simp only [maxLen]; omega) (by omega) (by simp; omega) ?_)
                  intro v10 w10 hown10 hgr10 hat10
                  obtain ⟨a12, c12, rfl⟩ := own_shape hown10
                  have HX10 := Lib.hid (HXA.out.grown hgr10 hvT)
                  have HP10 := Lib.hid (HPA.out.grown hgr10 hvP)
                  have HB10 : Hid (Below T W w10) := HBD.out.trans (upto_grown hgr10 (Nat.le_of_lt hTd) (fun b e => (HOA.out.lt b e).1))
                  have HO10 : Hid (w10.ownsRow T 51 3 (.slice a12 (rs.length + 1) c12) (rs ++ [Rate.mk u ZF CL]).length (((rs ++ [Rate.mk u ZF CL]).map Rate.cells).flatten)) := by
                    show World.ownsRow _ _ _ _ _ _ _
                    rw [rcells_snoc, List.length_append]
                    exact hown10
                  refine ⟨⟨HX10.out.cell 4 rfl, HP10.out.cell 0 rfl, HP10.out.cell 1 rfl, HP10.out.cell 2 rfl⟩, ?_⟩
                  simp only [Act.put, List.setIfInBounds_toArray, List.set_cons_zero, List.set_cons_succ]
                  clear hown10 hgr10 hat10 HOA HXA HPA HNA hA HXD HPD HOD HBD HSD
                  refine seqI_take (v := .pointer (some ⟨T, 0, none⟩)) rfl (fun W hW => by go_simp) (fun _ _ _ h => h) ?_
                  simp only [Act.put, List.setIfInBounds_toArray, List.set_cons_zero, List.set_cons_succ]
                  refine seqI_take (v := .pointer (some ⟨T, 0, none⟩)) rfl (fun W hW => by go_simp) (fun _ _ _ h => h) ?_
                  simp only [Act.put, List.setIfInBounds_toArray, List.set_cons_zero, List.set_cons_succ]
                  refine seqI_take (v := .pointer (some ⟨T, 4, none⟩)) rfl (fun W hW => by go_simp) (fun _ _ _ h => h) ?_
                  simp only [Act.put, List.setIfInBounds_toArray, List.set_cons_zero, List.set_cons_succ]
                  have hvT2 : (Value.slice a12 (rs.length + 1) c12).ownBlock ≠ some T := own_blk (e := 51) HO10.out HX10.out (by decide)
                  have HX11 : Hid (Blk (w10.setCell ⟨T, 4, none⟩ (.slice a12 (rs.length + 1) c12)) T [.int .i64 sf, .int .i64 ss, .int .i64 sl, .int .i64 sp, .slice a12 (rs.length + 1) c12, .bool true] 110) := HX10.out.put 4 _
                  have HO11 : Hid ((w10.setCell ⟨T, 4, none⟩ (.slice a12 (rs.length + 1) c12)).ownsRow T 51 3 (.slice a12 (rs.length + 1) c12) (rs ++ [Rate.mk u ZF CL]).length (((rs ++ [Rate.mk u ZF CL]).map Rate.cells).flatten)) := own_set HO10.out hvT2
                  have HB11 : Hid (Below T W (w10.setCell ⟨T, 4, none⟩ (.slice a12 (rs.length + 1) c12))) := HB10.out.setCell (p := ⟨T, 4, none⟩) (Nat.le_refl T) _
                  have z4 := HX10.out.cell 4 rfl
                  have zf := HX10.out.fr 4
                  refine seqI_nil (Or.inl ?_)
                  show Oper.wp _ (⟨none, .store 26 (.tmp 111) (.tmp 108), _, _, _, none⟩ : Oper) _ _ _ _
                  refine wp_skip (w' := w10.setCell ⟨T, 4, none⟩ (.slice a12 (rs.length + 1) c12)) (by go_simp) ?_
                  simp only [Act.put]
                  clear z4 zf HX10 HP10 HO10 HB10
                  generalize w10.setCell ⟨T, 4, none⟩ (.slice a12 (rs.length + 1) c12) = wE at HX11 HO11 HB11 ⊢
                  cases LB with
                  | false =>
                    have HE := Lib.hid (HBAD.out wE (by rw [HTX.out, if_neg (by decide)]) HB11.out)
                    clear HBAD HGOOD HTX HX11 HO11
                    as_aux_lemma =>
                      go_wp2_with fail
                      first | exact HE.out | (go_ret; exact HE.out)
                  | true =>
                    have hrx := HRX.out rfl
                    have HE := Lib.hid (HGOOD.out ⟨sf, ss, sl, sp, rs ++ [Rate.mk u ZF CL], true, false⟩ wE (by rw [HTX.out, if_pos rfl, hrx]) ⟨rfl, a12, rs.length + 1, c12, HX11.out, HO11.out⟩ HB11.out)
                    clear HBAD HGOOD HTX HX11 HO11 hrx
                    as_aux_lemma =>
                      go_wp2_with fail
                      first | exact HE.out | (go_ret; exact HE.out)
end Go.Proofs.YtacekbbndamkmaaGreatDoor

set_option linter.unusedVariables false
set_option linter.unusedSimpArgs false
namespace Go.Proofs.YtacekbbndamkmaaGreatDoor
open Go.RowKit

theorem results_cellTT {fn : Func} {t u v : Tmp} {T : TypeId} (h : fn.results = #[.cell t T, .tmp u, .tmp v]) (P : Program) (w : World) (tmps : Array Value) {B k : Nat} (hA : ∀ w, (isAgg T).run P w = .ok true w) (hZ : ∀ w, (Go.sizeOf T).run P w = .ok k w) (ht : tmps.getD t undef = .pointer (some ⟨B, 0, none⟩)) (cs : List Value) (hk : cs.length = k) (hc : ∀ j v, cs[j]? = some v → w.cell? ⟨B, j, none⟩ = some v) :
    (results fn tmps).run P w = .ok (.tuple #[.agg cs.toArray, tmps.getD u undef, tmps.getD v undef]) w := by
  have h9 := load_struct (P := P) cs hk hc
  have ht' : tmps[t]?.getD undef = .pointer (some ⟨B, 0, none⟩) := by simpa using ht
  simp [results, h, ht', h9, hA, hZ, asAddr, go_sem]
/-- What a text comes to: a deck, the number of a wrong line, an error. -/
def zeroT : TkS := ⟨0, 0, 0, 0, [], false, false⟩
def deckTk (st : TkS) : Deck := ⟨st.f, st.s, st.l, st.p, none, 0, 0, st.rs⟩
def readX (st : TkS) (k : Nat) (b : Bool) : TkS × Int × Int :=
  if b = false then (zeroT, k, 9) else if st.begun = false then (zeroT, 0, 9) else if deckErr (deckTk st) ≠ 0 then (zeroT, 0, deckErr (deckTk st)) else (st, 0, 0)
def RsOk (rs : List Rate) : Prop := rs.length ≤ 5000 ∧ ∀ r ∈ rs, r.p.length ≤ 100000 ∧ Int2 r.price
def ReadPost (t0 : List UInt8) (w : World) (e : Ending) (w' : World) : Prop := ∃ st k b, LinesTo takeS startT t0 0 (st, k, b) ∧ ∃ a n c, e = .returned (.tuple #[.agg #[.int .i64 (readX st k b).1.f, .int .i64 (readX st k b).1.s, .int .i64 (readX st k b).1.l, .int .i64 (readX st k b).1.p, .slice a n c], .int .i64 (readX st k b).2.1, .int .i64 (readX st k b).2.2]) ∧ w'.ownsRow w.heap.size 51 3 (.slice a n c) (readX st k b).1.rs.length (((readX st k b).1.rs.map Rate.cells).flatten) ∧ RsOk (readX st k b).1.rs ∧ Below w.heap.size w w'
theorem row_of_own {w : World} {base : Nat} {a : Option Addr} {n c : Nat} {l : List Rate} (h : w.ownsRow base 51 3 (.slice a n c) l.length ((l.map Rate.cells).flatten)) (hr : RsOk l) : RateRow w a n l ∧ n ≤ c ∧ n = l.length := by
  obtain ⟨a9, c9, e, hc⟩ := Cells.of_own h (fun x hx => by obtain ⟨y, _, rfl⟩ := List.mem_map.1 hx; rfl) (by decide)
  obtain ⟨h1, h2⟩ := own_caps h
  injection e with e1 e2 e3
  subst e1
  subst h1
  exact ⟨⟨hc, hr.1, fun i hi => hr.2 _ (mem_getD _ hi)⟩, h2, rfl⟩
theorem below_put {w W : World} {G : Nat} (hG : w.heap.size ≤ G) (h : Below w.heap.size w W) (vs : List Value) : Below w.heap.size w (W.setCells G 0 vs) := h.trans (below_setCells hG vs W 0)
theorem Blk.set5 {w : World} {B : Nat} {c0 c1 c2 c3 c4 : Value} {ty : TypeId} (h : Blk w B [c0, c1, c2, c3, c4] ty) (v0 v1 v2 v3 v4 : Value) : Blk (w.setCells B 0 [v0, v1, v2, v3, v4]) B [v0, v1, v2, v3, v4] ty := ((((h.put 0 v0).put 1 v1).put 2 v2).put 3 v3).put 4 v4
set_option maxRecDepth 100000 in
set_option maxHeartbeats 8000000 in
theorem carRead_any (t0 : List UInt8) (ht0 : t0.length ≤ 25000) (S : Nat) (w : World) (hL : LibsW S w) (hS : S ≤ w.heap.size) : Calls Tryz.prog 34 #[.string ⟨t0.toArray⟩] w (ReadPost t0 w) := by
  have HL := Lib.hid hL
  clear hL
  have HR : Hid (Blk ((w.alloc (.cells #[.int .i64 0, .int .i64 0, .int .i64 0, .int .i64 0, .slice none 0 0] 28)).alloc (.cells #[.int .i64 0, .int .i64 0, .int .i64 0, .int .i64 0, .slice none 0 0, .bool false] 110)) w.heap.size [.int .i64 0, .int .i64 0, .int .i64 0, .int .i64 0, .slice none 0 0] 28) := (Blk.new w _ _).alloc _
  have HT : Hid (Blk ((w.alloc (.cells #[.int .i64 0, .int .i64 0, .int .i64 0, .int .i64 0, .slice none 0 0] 28)).alloc (.cells #[.int .i64 0, .int .i64 0, .int .i64 0, .int .i64 0, .slice none 0 0, .bool false] 110)) (w.heap.size + 1) [.int .i64 0, .int .i64 0, .int .i64 0, .int .i64 0, .slice none 0 0, .bool false] 110) := by
    have := Blk.new (w.alloc (.cells #[.int .i64 0, .int .i64 0, .int .i64 0, .int .i64 0, .slice none 0 0] 28)) [.int .i64 0, .int .i64 0, .int .i64 0, .int .i64 0, .slice none 0 0, .bool false] 110
    rw [show (w.alloc (.cells #[.int .i64 0, .int .i64 0, .int .i64 0, .int .i64 0, .slice none 0 0] 28)).heap.size = w.heap.size + 1 by simp] at this
    exact this
  have HA : Hid (Below w.heap.size w ((w.alloc (.cells #[.int .i64 0, .int .i64 0, .int .i64 0, .int .i64 0, .slice none 0 0] 28)).alloc (.cells #[.int .i64 0, .int .i64 0, .int .i64 0, .int .i64 0, .slice none 0 0, .bool false] 110))) := ext_alloc (ext_alloc (Below.refl _ _))
  have hlt : ¬ (200000 : Int) < (t0.length : Int) := by omega
  go_enter Tryz.func34, Tryz.ntmps34
  as_aux_lemma =>
    go_upto_region 4 with (fail)
    generalize World.alloc (World.alloc w _) _ = w1 at HR HT HA ⊢
    obtain ⟨T, hT⟩ : ∃ T, T = w.heap.size + 1 := ⟨_, rfl⟩
    obtain ⟨R, hR⟩ : ∃ R, R = w.heap.size := ⟨_, rfl⟩
    rw [← hT] at HT
    rw [← hR] at HR
    simp only [← hT]
    simp only [← hR]
    have hwR : w.heap.size ≤ R := by omega
    have hwT : w.heap.size ≤ T := by omega
    have hRT : R < T := by omega
    clear hT hR
    have HLN := Lib.hid (linesC_any takeS (TkC T) TkQ S T T (fun st m line W hr hq hm hl hb => take_any S T st m line W hr hq hm hl) (fun st W W' h hb => h.below hb) (fun st m line hq hm ho => takeQ_step st m line hq hm ho) t0 (by omega) startT w1 ⟨rfl, none, 0, 0, HT.out, World.ownsRow_nil _ _ _ _⟩ takeQ_start (HL.out.below HA.out hS) (by omega) (Nat.le_of_lt HT.out.lt))
    have hRl := HR.out.lt
    as_aux_lemma =>
      go_wp2_with fail
      refine HLN.out.mono ?_
      rintro e w2 ⟨st, k, b, hto, rfl, hr, hq, hb2⟩
      have HTO := Lib.hid hto
      have HR2 := Lib.hid (HR.out.same (hb2.block R hRT))
      have HB2 : Hid (Below w.heap.size w w2) := HA.out.trans (hb2.mono hwT)
      clear hto HR HT HA HLN hb2
      cases b with
      | false =>
        clear hr hq
        have HTH : Hid (w2.there R 0 5) := HR2.out.th 5 (by decide)
        have HR9 := Lib.hid (HR2.out.set5 (.int .i64 0) (.int .i64 0) (.int .i64 0) (.int .i64 0) (.slice none 0 0))
        have hrx : readX st k false = (zeroT, (k : Int), 9) := by rfl
        have HE : Hid (ReadPost t0 w (.returned (.tuple #[.agg #[.int .i64 0, .int .i64 0, .int .i64 0, .int .i64 0, .slice none 0 0], .int .i64 (k : Int), .int .i64 9])) (w2.setCells R 0 [.int .i64 0, .int .i64 0, .int .i64 0, .int .i64 0, .slice none 0 0])) := ⟨st, k, false, HTO.out, none, 0, 0, by rw [hrx]; rfl, by rw [hrx]; exact World.ownsRow_nil _ _ _ _, by rw [hrx]; exact ⟨Nat.zero_le _, fun r h => by cases h⟩, below_put hwR HB2.out _⟩
        clear HR2 HB2 HTO hrx 
        as_aux_lemma =>
          go_wp2_with (first | (refine wpList_store_mid rfl 28 (.tmp 2) (.tmp 21) rfl R 0 #[.int .i64 0, .int .i64 0, .int .i64 0, .int .i64 0, .slice none 0 0] rfl rfl HTH.out Tryz.deckSz (by simp [Value.oneCell']) ?_; generalize World.setCells w2 R 0 _ = W9 at HR9 HE ⊢))
          refine bodyPost_ret (v := .tuple #[.agg #[.int .i64 0, .int .i64 0, .int .i64 0, .int .i64 0, .slice none 0 0], .int .i64 (k : Int), .int .i64 9]) ?_ rfl HE.out
          exact results_cellTT (t := 2) (u := 3) (v := 4) (by rfl) _ _ _ Tryz.isAgg28 Tryz.sizeOf28 (by rfl) [.int .i64 0, .int .i64 0, .int .i64 0, .int .i64 0, .slice none 0 0] rfl (fun j v hj => HR9.out.cell j hj)
      | true =>
        obtain ⟨m, hm1, hq⟩ := hq rfl
        obtain ⟨-, a, n, c, hX, hO⟩ := hr rfl
        have HX := Lib.hid hX
        have HO := Lib.hid hO
        have HRS : Hid (RsOk st.rs) := ⟨by have := hq.few; omega, hq.each⟩
        have HNM := Lib.hid hq.nums
        clear hX hO hq hr hm1
        obtain ⟨sf, ss, sl, sp, rs, bg, bd⟩ := st
        simp only at HX HO HRS HNM
        have x5 := HX.out.cell 5 rfl
        cases bg with
        | false =>
          have HTH : Hid (w2.there R 0 5) := HR2.out.th 5 (by decide)
          have HR9 := Lib.hid (HR2.out.set5 (.int .i64 0) (.int .i64 0) (.int .i64 0) (.int .i64 0) (.slice none 0 0))
          have hrx : readX ⟨sf, ss, sl, sp, rs, false, bd⟩ k true = (zeroT, 0, 9) := by rfl
          have HE : Hid (ReadPost t0 w (.returned (.tuple #[.agg #[.int .i64 0, .int .i64 0, .int .i64 0, .int .i64 0, .slice none 0 0], .int .i64 0, .int .i64 9])) (w2.setCells R 0 [.int .i64 0, .int .i64 0, .int .i64 0, .int .i64 0, .slice none 0 0])) := ⟨⟨sf, ss, sl, sp, rs, false, bd⟩, k, true, HTO.out, none, 0, 0, by rw [hrx]; rfl, by rw [hrx]; exact World.ownsRow_nil _ _ _ _, by rw [hrx]; exact ⟨Nat.zero_le _, fun r h => by cases h⟩, below_put hwR HB2.out _⟩
          clear HR2 HB2 HTO hrx HX HO HRS HNM
          as_aux_lemma =>
            go_wp2_with (first | (refine wpList_store_mid rfl 28 (.tmp 2) (.tmp 26) rfl R 0 #[.int .i64 0, .int .i64 0, .int .i64 0, .int .i64 0, .slice none 0 0] rfl rfl HTH.out Tryz.deckSz (by simp [Value.oneCell']) ?_; generalize World.setCells w2 R 0 _ = W9 at HR9 HE ⊢))
            refine bodyPost_ret (v := .tuple #[.agg #[.int .i64 0, .int .i64 0, .int .i64 0, .int .i64 0, .slice none 0 0], .int .i64 0, .int .i64 9]) ?_ rfl HE.out
            exact results_cellTT (t := 2) (u := 3) (v := 4) (by rfl) _ _ _ Tryz.isAgg28 Tryz.sizeOf28 (by rfl) [.int .i64 0, .int .i64 0, .int .i64 0, .int .i64 0, .slice none 0 0] rfl (fun j v hj => HR9.out.cell j hj)
        | true =>
          obtain ⟨hrow, hcap, hn⟩ := row_of_own HO.out HRS.out
          subst hn
          have hnm := HNM.out
          have HCK : Hid (Calls Tryz.prog 25 #[.agg #[.int .i64 sf, .int .i64 ss, .int .i64 sl, .int .i64 sp, .slice a rs.length c]] w2 (ErrPost (deckErr (deckTk ⟨sf, ss, sl, sp, rs, true, bd⟩)) w2)) := checkDeck_any w2 ⟨sf, ss, sl, sp, a, rs.length, c, rs⟩ ⟨hrow, hcap, hnm.1, hnm.2.1, hnm.2.2.1, hnm.2.2.2⟩
          have HRX : Hid (∀ E, deckErr (deckTk ⟨sf, ss, sl, sp, rs, true, bd⟩) = E → readX ⟨sf, ss, sl, sp, rs, true, bd⟩ k true = if E ≠ 0 then (zeroT, 0, E) else (⟨sf, ss, sl, sp, rs, true, bd⟩, 0, 0)) := fun E h => by rw [← h]; rfl
          clear hrow hcap hnm x5 HNM
          generalize hE : deckErr (deckTk ⟨sf, ss, sl, sp, rs, true, bd⟩) = E at HCK HRX
          have HRX2 := Lib.hid (HRX.out E rfl)
          clear HRX hE
          have x0 := HX.out.cell 0 rfl
          have x1 := HX.out.cell 1 rfl
          have x2 := HX.out.cell 2 rfl
          have x3 := HX.out.cell 3 rfl
          have x4 := HX.out.cell 4 rfl
          have x5 := HX.out.cell 5 rfl
          as_aux_lemma =>
            go_wp2_with fail
            refine HCK.out.mono ?_
            rintro e w3 ⟨rfl, hb3⟩
            have HX3 := Lib.hid (HX.out.below hb3)
            have HO3 := Lib.hid (own_keep HO.out hb3)
            have HR3 := Lib.hid (HR2.out.below hb3)
            have HB3 := Lib.hid (ext_trans HB2.out hb3)
            clear HX HO HR2 HB2 HCK hb3 x0 x1 x2 x3 x4 x5
            by_cases hE : E = 0
            case neg =>
              have hEb : (E == 0) = false := beq_eq_false_iff_ne.2 hE
              have HR2 := HR3
              have HB2 := HB3
              clear HR3 HB3
              obtain ⟨w2', rfl⟩ : ∃ x : World, x = w3 := ⟨_, rfl⟩
              have HTH : Hid (w2'.there R 0 5) := HR2.out.th 5 (by decide)
              have HR9 := Lib.hid (HR2.out.set5 (.int .i64 0) (.int .i64 0) (.int .i64 0) (.int .i64 0) (.slice none 0 0))
              have hrx : readX ⟨sf, ss, sl, sp, rs, true, bd⟩ k true = (zeroT, 0, E) := by rw [HRX2.out, if_pos hE]
              have HE : Hid (ReadPost t0 w (.returned (.tuple #[.agg #[.int .i64 0, .int .i64 0, .int .i64 0, .int .i64 0, .slice none 0 0], .int .i64 0, .int .i64 E])) (w2'.setCells R 0 [.int .i64 0, .int .i64 0, .int .i64 0, .int .i64 0, .slice none 0 0])) := ⟨⟨sf, ss, sl, sp, rs, true, bd⟩, k, true, HTO.out, none, 0, 0, by rw [hrx]; rfl, by rw [hrx]; exact World.ownsRow_nil _ _ _ _, by rw [hrx]; exact ⟨Nat.zero_le _, fun r h => by cases h⟩, below_put hwR HB2.out _⟩
              clear HR2 HB2 HTO hrx HX3 HO3 HRS HRX2
              as_aux_lemma =>
                go_wp2_with (first | (refine wpList_store_mid rfl 28 (.tmp 2) (.tmp 32) rfl R 0 #[.int .i64 0, .int .i64 0, .int .i64 0, .int .i64 0, .slice none 0 0] rfl rfl HTH.out Tryz.deckSz (by simp [Value.oneCell']) ?_; generalize World.setCells w2' R 0 _ = W9 at HR9 HE ⊢))
                refine bodyPost_ret (v := .tuple #[.agg #[.int .i64 0, .int .i64 0, .int .i64 0, .int .i64 0, .slice none 0 0], .int .i64 0, .int .i64 E]) ?_ rfl HE.out
                exact results_cellTT (t := 2) (u := 3) (v := 4) (by rfl) _ _ _ Tryz.isAgg28 Tryz.sizeOf28 (by rfl) [.int .i64 0, .int .i64 0, .int .i64 0, .int .i64 0, .slice none 0 0] rfl (fun j v hj => HR9.out.cell j hj)
            case pos =>
              subst hE
              have hrx : readX ⟨sf, ss, sl, sp, rs, true, bd⟩ k true = (⟨sf, ss, sl, sp, rs, true, bd⟩, 0, 0) := by rw [HRX2.out]; rfl
              have HRA : Hid (w3.rangeAt T 0 [.int .i64 sf, .int .i64 ss, .int .i64 sl, .int .i64 sp, .slice a rs.length c]) := fun j v hj => by
                rw [Nat.zero_add]
                refine HX3.out.cell j ?_
                have hj5 : j < 5 := (List.getElem?_eq_some_iff.1 hj).1
                match j, hj5, hj with
                | 0, _, hj => exact hj
                | 1, _, hj => exact hj
                | 2, _, hj => exact hj
                | 3, _, hj => exact hj
                | 4, _, hj => exact hj
              have HTH : Hid (w3.there R 0 5) := HR3.out.th 5 (by decide)
              have HR9 := Lib.hid (HR3.out.set5 (.int .i64 sf) (.int .i64 ss) (.int .i64 sl) (.int .i64 sp) (.slice a rs.length c))
              have hoR : ∀ b, (Value.slice a rs.length c).ownBlock = some b → (some R : Option Nat) ≠ some b := fun b h1 h2 => by injection h2 with h2; have := (HO3.out.lt b h1).1; omega
              have HE : Hid (ReadPost t0 w (.returned (.tuple #[.agg #[.int .i64 sf, .int .i64 ss, .int .i64 sl, .int .i64 sp, .slice a rs.length c], .int .i64 0, .int .i64 0])) (w3.setCells R 0 [.int .i64 sf, .int .i64 ss, .int .i64 sl, .int .i64 sp, .slice a rs.length c])) := ⟨⟨sf, ss, sl, sp, rs, true, bd⟩, k, true, HTO.out, a, rs.length, c, by rw [hrx], by rw [hrx]; exact own_le (own_gb HO3.out (setCells_gb R _ 0) hoR) hwT, by rw [hrx]; exact HRS.out, below_put hwR HB3.out _⟩
              clear HX3 HO3 HR3 HB3 hrx HTO HRS HRX2 hoR
              as_aux_lemma =>
                go_wp2_with (first | (refine wpList_load_mid rfl 28 (.tmp 34) rfl T 0 rfl [.int .i64 sf, .int .i64 ss, .int .i64 sl, .int .i64 sp, .slice a rs.length c] _ HRA.out Tryz.underlying28 rfl Tryz.deckSz ?_) | (refine wpList_store_mid rfl 28 (.tmp 2) (.tmp 35) rfl R 0 #[.int .i64 sf, .int .i64 ss, .int .i64 sl, .int .i64 sp, .slice a rs.length c] rfl rfl HTH.out Tryz.deckSz (by simp [Value.oneCell']) ?_; generalize World.setCells w3 R 0 _ = W9 at HR9 HE ⊢))
                refine bodyPost_ret (v := .tuple #[.agg #[.int .i64 sf, .int .i64 ss, .int .i64 sl, .int .i64 sp, .slice a rs.length c], .int .i64 0, .int .i64 0]) ?_ rfl HE.out
                exact results_cellTT (t := 2) (u := 3) (v := 4) (by rfl) _ _ _ Tryz.isAgg28 Tryz.sizeOf28 (by rfl) [.int .i64 sf, .int .i64 ss, .int .i64 sl, .int .i64 sp, .slice a rs.length c] rfl (fun j v hj => HR9.out.cell j hj)
end Go.Proofs.YtacekbbndamkmaaGreatDoor

set_option linter.unusedVariables false
set_option linter.unusedSimpArgs false
namespace Go.Proofs.YtacekbbndamkmaaGreatDoor
open Go.RowKit

theorem hasPre_c (s p : List UInt8) (w : World) : Calls Tryz.prog 44 #[.string ⟨s.toArray⟩, .string ⟨p.toArray⟩] w fun e w' => e = .returned (.bool (Lib.hasPrefix s p)) ∧ w = w' := (Tryz.strings_HasPrefix ⟨s.toArray⟩ ⟨p.toArray⟩ w).mono (fun e w' h => ⟨h.1, h.2.symm⟩)
/-- The rate with the longest prefix, among the first. -/
def refTo (cs : List Rate) (s : List UInt8) : Nat → Option Rate
  | 0 => none
  | k + 1 => if Lib.hasPrefix s (cs.getD k noRate).p = true ∧ ((refTo cs s k).isSome = false ∨ ((refTo cs s k).getD noRate).p.length < (cs.getD k noRate).p.length) then some (cs.getD k noRate) else refTo cs s k
/-- What both searches find. -/
def BestR (cs : List Rate) (s : List UInt8) (o : Option Rate) : Prop :=
  match o with
  | none => ∀ r ∈ cs, Lib.hasPrefix s r.p = false
  | some r => r ∈ cs ∧ Lib.hasPrefix s r.p = true ∧ ∀ q ∈ cs, Lib.hasPrefix s q.p = true → q.p.length ≤ r.p.length
theorem refTo_best (cs : List Rate) (s : List UInt8) : ∀ k, k ≤ cs.length → (match refTo cs s k with
    | none => ∀ i, i < k → Lib.hasPrefix s (cs.getD i noRate).p = false
    | some r => r ∈ cs ∧ Lib.hasPrefix s r.p = true ∧ ∀ i, i < k → Lib.hasPrefix s (cs.getD i noRate).p = true → (cs.getD i noRate).p.length ≤ r.p.length)
  | 0, _ => by intro i hi; omega
  | k + 1, hk => by
    have ih := refTo_best cs s k (by omega)
    unfold refTo
    cases h9 : refTo cs s k with
    | none =>
      rw [h9] at ih
      simp only at ih
      by_cases h1 : Lib.hasPrefix s (cs.getD k noRate).p = true
      · rw [if_pos ⟨h1, Or.inl rfl⟩]
        refine ⟨mem_getD _ (by omega), h1, fun i hi h2 => ?_⟩
        rcases Nat.lt_succ_iff_lt_or_eq.1 hi with h3 | rfl
        · rw [ih i h3] at h2; cases h2
        · exact Nat.le_refl _
      · rw [if_neg (fun h => h1 h.1)]
        intro i hi
        rcases Nat.lt_succ_iff_lt_or_eq.1 hi with h3 | rfl
        · exact ih i h3
        · simpa using h1
    | some r =>
      rw [h9] at ih
      simp only at ih
      obtain ⟨i1, i2, i3⟩ := ih
      by_cases h1 : Lib.hasPrefix s (cs.getD k noRate).p = true ∧ r.p.length < (cs.getD k noRate).p.length
      · rw [if_pos ⟨h1.1, Or.inr h1.2⟩]
        refine ⟨mem_getD _ (by omega), h1.1, fun i hi h2 => ?_⟩
        rcases Nat.lt_succ_iff_lt_or_eq.1 hi with h3 | rfl
        · have := i3 i h3 h2; omega
        · exact Nat.le_refl _
      · rw [if_neg (fun h => h1 ⟨h.1, h.2.resolve_left (by simp)⟩)]
        refine ⟨i1, i2, fun i hi h2 => ?_⟩
        rcases Nat.lt_succ_iff_lt_or_eq.1 hi with h3 | rfl
        · exact i3 i h3 h2
        · by_cases h4 : (cs.getD i noRate).p.length ≤ r.p.length
          · exact h4
          · exact absurd ⟨h2, by omega⟩ h1
theorem refTo_is (cs : List Rate) (s : List UInt8) : BestR cs s (refTo cs s cs.length) := by
  have h := refTo_best cs s cs.length (Nat.le_refl _)
  unfold BestR
  cases h9 : refTo cs s cs.length with
  | none =>
    rw [h9] at h
    intro r hr
    obtain ⟨j, hj, rfl⟩ := List.getElem_of_mem hr
    have := h j hj
    rwa [List.getD_eq_getElem?_getD, List.getElem?_eq_getElem hj] at this
  | some r =>
    rw [h9] at h
    obtain ⟨h1, h2, h3⟩ := h
    refine ⟨h1, h2, fun q hq h4 => ?_⟩
    obtain ⟨j, hj, rfl⟩ := List.getElem_of_mem hq
    have := h3 j hj
    rw [List.getD_eq_getElem?_getD, List.getElem?_eq_getElem hj] at this
    exact this h4
theorem pre_take {s p : List UInt8} (h : Lib.hasPrefix s p = true) : s.take p.length = p := by
  have h1 := Lib.hasPrefix_of_take s p
  rw [h] at h1
  simp only [Bool.and_eq_true, decide_eq_true_eq] at h1
  simpa using h1.2
theorem prefix_len {s p : List UInt8} (h : Lib.hasPrefix s p = true) : p.length ≤ s.length := by
  have h1 := Lib.hasPrefix_of_take s p
  rw [h] at h1
  simp only [Bool.and_eq_true, decide_eq_true_eq] at h1
  exact h1.1
theorem take_pre {s : List UInt8} (k : Nat) : Lib.hasPrefix s (s.take k) = true := by
  rw [← Lib.hasPrefix_of_take]
  simp [Nat.min_le_right]
theorem findR_none {cs : List Rate} {t : List UInt8} (h : findR cs t = none) : ∀ r ∈ cs, r.p ≠ t := fun r hr h9 => by
  unfold findR at h
  rw [List.find?_eq_none] at h
  exact h r hr (by simpa using h9)
theorem findR_some {cs : List Rate} {t : List UInt8} {r : Rate} (h : findR cs t = some r) : r.p = t := by
  unfold findR at h
  have := List.find?_some h
  simpa using this
theorem rateTo_best (cs : List Rate) (s : List UInt8) : ∀ k, k ≤ s.length → (match rateTo cs s k with
    | none => ∀ r ∈ cs, r.p.length ≤ k → Lib.hasPrefix s r.p = false
    | some r => r ∈ cs ∧ Lib.hasPrefix s r.p = true ∧ ∀ q ∈ cs, q.p.length ≤ k → Lib.hasPrefix s q.p = true → q.p.length ≤ r.p.length)
  | 0, _ => by
    unfold rateTo
    cases h9 : findR cs (s.take 0) with
    | none =>
      intro r hr h1
      cases h2 : Lib.hasPrefix s r.p with
      | false => rfl
      | true =>
        have h3 := pre_take h2
        exact absurd (by rw [show r.p.length = 0 by omega] at h3; exact h3.symm) (findR_none h9 r hr)
    | some r =>
      have h1 := findR_some h9
      refine ⟨findR_mem h9, by rw [h1]; exact take_pre 0, fun q hq h2 _ => by omega⟩
  | k + 1, hk => by
    have ih := rateTo_best cs s k (by omega)
    unfold rateTo
    cases h9 : findR cs (s.take (k + 1)) with
    | some r =>
      have h1 := findR_some h9
      refine ⟨findR_mem h9, by rw [h1]; exact take_pre _, fun q hq h2 _ => by rw [h1, List.length_take]; omega⟩
    | none =>
      have hno : ∀ q ∈ cs, q.p.length ≤ k + 1 → Lib.hasPrefix s q.p = true → q.p.length ≤ k := fun q hq h2 h3 => by
        rcases Nat.lt_or_ge k q.p.length with h4 | h4
        · have h5 := pre_take h3
          exact absurd (by rw [show q.p.length = k + 1 by omega] at h5; exact h5.symm) (findR_none h9 q hq)
        · exact h4
      show (match (none : Option Rate).or (rateTo cs s k) with | none => _ | some r => _)
      simp only [Option.none_or]
      cases h8 : rateTo cs s k with
      | none =>
        rw [h8] at ih
        intro r hr h1
        cases h2 : Lib.hasPrefix s r.p with
        | false => rfl
        | true => rw [ih r hr (hno r hr h1 h2)] at h2; cases h2
      | some r =>
        rw [h8] at ih
        obtain ⟨i1, i2, i3⟩ := ih
        exact ⟨i1, i2, fun q hq h1 h2 => i3 q hq (hno q hq h1 h2) h2⟩
theorem rateOf_is (cs : List Rate) (s : List UInt8) (hs : s.length ≤ 15) : BestR cs s (rateOf cs s 15) := by
  have h := rateTo_best cs s s.length (Nat.le_refl _)
  unfold rateOf
  rw [show min s.length 15 = s.length by omega]
  unfold BestR
  cases h9 : rateTo cs s s.length with
  | none =>
    rw [h9] at h
    intro r hr
    cases h2 : Lib.hasPrefix s r.p with
    | false => rfl
    | true => rw [h r hr (prefix_len h2)] at h2; cases h2
  | some r =>
    rw [h9] at h
    obtain ⟨h1, h2, h3⟩ := h
    exact ⟨h1, h2, fun q hq h4 => h3 q hq (prefix_len h4) h4⟩
theorem RSorted.inj {cs : List Rate} (h : RSorted cs) {a b : Rate} (ha : a ∈ cs) (hb : b ∈ cs) (hp : a.p = b.p) : a = b := by
  obtain ⟨i, hi, rfl⟩ := List.getElem_of_mem ha
  obtain ⟨j, hj, rfl⟩ := List.getElem_of_mem hb
  have e1 : cs.getD i noRate = cs[i] := by simp [List.getD_eq_getElem?_getD, List.getElem?_eq_getElem hi]
  have e2 : cs.getD j noRate = cs[j] := by simp [List.getD_eq_getElem?_getD, List.getElem?_eq_getElem hj]
  rcases Nat.lt_trichotomy i j with h1 | rfl | h1
  · have h2 := h.lt' h1 hj
    rw [e1, e2, hp, less_irrefl] at h2; cases h2
  · rfl
  · have h2 := h.lt' h1 hi
    rw [e1, e2, hp, less_irrefl] at h2; cases h2
theorem best_same {cs : List Rate} {s : List UInt8} (h : RSorted cs) {o q : Option Rate} (ho : BestR cs s o) (hq : BestR cs s q) : o = q := by
  cases o with
  | none =>
    cases q with
    | none => rfl
    | some r => obtain ⟨h1, h2, -⟩ := hq; rw [ho r h1] at h2; cases h2
  | some r =>
    cases q with
    | none => obtain ⟨h1, h2, -⟩ := ho; rw [hq r h1] at h2; cases h2
    | some r' =>
      obtain ⟨h1, h2, h3⟩ := ho
      obtain ⟨g1, g2, g3⟩ := hq
      have hl : r.p.length = r'.p.length := Nat.le_antisymm (g3 r h1 h2) (h3 r' g1 g2)
      have hp : r.p = r'.p := by rw [← pre_take h2, ← pre_take g2, hl]
      rw [h.inj h1 g1 hp]
theorem ref_same {cs : List Rate} {s : List UInt8} (h : RSorted cs) (hs : s.length ≤ 15) : refTo cs s cs.length = rateOf cs s 15 := best_same h (refTo_is cs s) (rateOf_is cs s hs)

/-- Division, rounded up. -/
def upD (a b : Int) : Int := (a + b - 1) / b
set_option maxHeartbeats 2000000 in
theorem upward_any (a b : Int) (ha : 0 ≤ a ∧ a ≤ 1000000000000000000) (hb : 1 ≤ b ∧ b ≤ 1000000000000) (w : World) : Calls Tryz.prog 63 #[.int .i64 a, .int .i64 b] w fun e w' => e = .returned (.int .i64 (upD a b)) ∧ w = w' := by
  have q1 : a.tdiv b = a / b := Int.tdiv_eq_ediv_of_nonneg ha.1
  have q2 : a.tmod b = a % b := Int.tmod_eq_emod_of_nonneg ha.1
  have m0 := Int.emod_nonneg a (show b ≠ 0 by omega)
  have m1 := Int.emod_lt_of_pos a (show 0 < b by omega)
  have d1 : b * (a / b) + a % b = a := Int.mul_ediv_add_emod a b
  have d0 : 0 ≤ a / b := Int.ediv_nonneg ha.1 (by omega)
  have d2 : a / b ≤ a := Int.ediv_le_self b ha.1
  have hU : Hid (upD a b = if 0 < a % b then a / b + 1 else a / b) := by
    show (a + b - 1) / b = _
    split
    · rename_i h
      rw [show a + b - 1 = (a % b - 1) + (a / b + 1) * b by have := Int.mul_comm b (a / b); rw [Int.add_mul]; omega, Int.add_mul_ediv_right _ _ (by omega), Int.ediv_eq_zero_of_lt (by omega) (by omega)]
      omega
    · rename_i h
      rw [show a + b - 1 = (b - 1) + (a / b) * b by have := Int.mul_comm b (a / b); omega, Int.add_mul_ediv_right _ _ (by omega), Int.ediv_eq_zero_of_lt (by omega) (by omega)]
      omega
  generalize upD a b = U at hU ⊢
  generalize a / b = q at q1 d0 d1 d2 hU
  generalize a % b = r at q2 m0 m1 d1 hU
  have w1 : IntKind.i64.wrap q = q := IntWalk.i64_in _ (by omega)
  have w2 : IntKind.i64.wrap r = r := IntWalk.i64_in _ (by omega)
  have w3 : IntKind.i64.wrap (q + 1) = q + 1 := IntWalk.i64_in _ (by omega)
  have hb0 : ¬ b = 0 := by omega
  clear d1 m0 m1 d0 d2
  by_cases h : 0 < r
  · have HU : Hid (U = q + 1) := by show U = _; rw [hU.out, if_pos h]
    clear hU
    go_enter Tryz.func63, Tryz.ntmps63
    go_wp2_with fail
    go_ret
    exact ⟨by rw [HU.out]; rfl, rfl⟩
  · have HU : Hid (U = q) := by show U = _; rw [hU.out, if_neg h]
    clear hU
    go_enter Tryz.func63, Tryz.ntmps63
    go_wp2_with fail
    go_ret
    exact ⟨by rw [HU.out]; rfl, rfl⟩
end Go.Proofs.YtacekbbndamkmaaGreatDoor
