/- What is proved here: lemmas and contracts for the statement, put together out of smaller texts (CarrDk, CarrCarried, CarrSame, EqualW, WhenL). No condition beyond those stated. -/
import Derived.Test.YtacekbbndamkmaaGreatDoorDcPkJ
import Derived.Test.YtacekbbndamkmaaGreatDoorShelfRep
import Derived.Test.YtacekbbndamkmaaGreatDoorDcPkC
import Derived.Test.YtacekbbndamkmaaGreatDoorDcPkB
import Derived.Test.YtacekbbndamkmaaGreatDoorShelfOff
import Derived.Laws.StructEq
import Derived.Test.YtacekbbndamkmaaGreatDoorDcPkA
set_option linter.unusedVariables false
set_option linter.unusedSimpArgs false
namespace Go.Proofs.YtacekbbndamkmaaGreatDoor
open Go.RowKit

set_option maxRecDepth 100000 in
set_option maxHeartbeats 8000000 in
theorem deck_any (S k : Nat) (w : World) (h : StreamOk w S k) (hk : k ≤ 900000) : Calls Tryz.prog 5 #[.pointer (some ⟨S, 0, none⟩)] w (DeckPost S (k + 50) w) := by
  obtain ⟨i1, hi1, hy0, hy1, hy2⟩ := info_parts Tryz.infoRate
  have HS := Lib.hid h
  have hSl := h.lt
  clear h
  go_enter Tryz.func5, Tryz.ntmps5
  go_upto_region 1 with (fail)
  have HF0 : Hid (Room (w.alloc (.cells #[.int .i64 0, .int .i64 0, .int .i64 0, .int .i64 0, .slice none 0 0] 28)) w.heap.size 5) := ⟨by simp, box_th (heap_new _ _)⟩
  have HS0 : Hid (StreamOk (w.alloc (.cells #[.int .i64 0, .int .i64 0, .int .i64 0, .int .i64 0, .slice none 0 0] 28)) S k) := HS.out.below (ext_alloc (Below.refl _ _))
  have HK0 : Hid (Keeps S w (w.alloc (.cells #[.int .i64 0, .int .i64 0, .int .i64 0, .int .i64 0, .slice none 0 0] 28))) := (Keeps.refl _ _).alloc _
  generalize w.alloc (.cells #[.int .i64 0, .int .i64 0, .int .i64 0, .int .i64 0, .slice none 0 0] 28) = w0 at HF0 HS0 HK0 ⊢
  obtain ⟨F, hF⟩ : ∃ F, F = w.heap.size := ⟨_, rfl⟩
  rw [← hF] at HF0 ⊢
  have hFS : F ≠ S := by omega
  have hSF : S + 1 ≤ F := by omega
  have HFW := Lib.hid hF
  clear hF HS
  as_aux_lemma =>
    go_wp2_with (first | (refine wpList_val rfl (bs_i3 _ (fun _ => rfl) _ _ _ _ _ rfl) ?_))
    refine (pick_lit S k [0, 10, 50] (fun x => 0 ≤ x ∧ x ≤ 50) _ _ _ HS0.out (by omega) rfl rfl (by decide) (by decide) (by decide)).mono ?_
    rintro e w1 ⟨ps, rfl, ⟨ps0, ps1⟩, hst1, hk1⟩
    have HS1 := Lib.hid hst1
    have HK1 := Lib.hid (HK0.out.trans hk1)
    have HF1 := Lib.hid (HF0.out.keeps hk1 hFS)
    clear hst1 hk1 HS0 HK0 HF0
    as_aux_lemma =>
      go_wp2_with fail
      refine (rightDeck_any S (k + 1) w1 HS1.out (by omega) ps ⟨by omega, by omega⟩).mono ?_
      rintro e w2 ⟨d, rfl, hown, hlen, hst2, hk2⟩
      obtain ⟨df, ds, dl, dt, ra, rn, rc, rates⟩ := d
      obtain ⟨hown, hok, hbd⟩ := hown
      obtain ⟨hc1, -⟩ := own_caps hown
      obtain ⟨⟨f0, f1⟩, ⟨s0, s1⟩, ⟨l0, l1⟩, ⟨t0, t1⟩⟩ := hbd
      have HRI : Hid (RatesIn rates) := hok.2
      dsimp only [Deck.cells] at hown hlen hc1 f0 f1 s0 s1 l0 l1 t0 t1 ⊢
      subst hc1
      have HS2 := Lib.hid hst2
      have HK2 := Lib.hid (HK1.out.trans hk2)
      have HF2 := Lib.hid (HF1.out.keeps hk2 hFS)
      have HO2 := Lib.hid hown
      obtain ⟨WB, hWB⟩ : ∃ x, x = w1.heap.size := ⟨_, rfl⟩
      rw [← hWB] at HO2
      have hwW : w.heap.size ≤ WB := by rw [hWB]; exact HK1.out.size
      have hFW : F < WB := by rw [hWB]; exact HF1.out.lt
      have hSW : S < WB := by omega
      have hW2 : WB ≤ w2.heap.size := by rw [hWB]; exact hk2.size
      clear hst2 hk2 HS1 HK1 HF1 hown hWB hok
      as_aux_lemma =>
        go_upto_region 2 with (fail)
        have HD3 : Hid (DBox (w2.alloc (.cells #[.int .i64 df, .int .i64 ds, .int .i64 dl, .int .i64 dt, .slice ra rates.length rc] 28)) w2.heap.size df ds dl dt (.slice ra rates.length rc)) := ⟨by simp, by go_simp, by go_simp, by go_simp, by go_simp, by go_simp, fun j => by go_simp⟩
        have hk3 : Keeps S w2 (w2.alloc (.cells #[.int .i64 df, .int .i64 ds, .int .i64 dl, .int .i64 dt, .slice ra rates.length rc] 28)) := (Keeps.refl _ _).alloc _
        have HS3 : Hid (StreamOk (w2.alloc (.cells #[.int .i64 df, .int .i64 ds, .int .i64 dl, .int .i64 dt, .slice ra rates.length rc] 28)) S (k + 44)) := HS2.out.below (ext_alloc (Below.refl _ _))
        have HK3 := Lib.hid (HK2.out.trans hk3)
        have HF3 := Lib.hid (HF2.out.keeps hk3 hFS)
        have HO3 := Lib.hid (own_keeps HO2.out hk3 hSW)
        have hvD : (Value.slice ra rates.length rc).ownBlock ≠ some w2.heap.size := fun e => by have := (HO2.out.lt _ e).2; omega
        have hvF : (Value.slice ra rates.length rc).ownBlock ≠ some F := fun e => by have := (HO2.out.lt _ e).1; omega
        generalize w2.alloc (.cells #[.int .i64 df, .int .i64 ds, .int .i64 dl, .int .i64 dt, .slice ra rates.length rc] 28) = w3 at HD3 HS3 HK3 HF3 HO3 hk3 ⊢
        generalize w2.heap.size = D at HD3 hvD hW2 ⊢
        have hDS : D ≠ S := by omega
        have hDw : w.heap.size ≤ D := by omega
        clear hk3 HS2 HK2 HF2 HO2
        as_aux_lemma =>
          go_wp2_with fail
          refine (flip_any S (k + 44) 12 _ HS3.out (by omega) (by decide) (by decide)).mono ?_
          rintro e w4 ⟨fl, rfl, hst, hk'⟩
          have HS4 := Lib.hid hst
          have HK4 := Lib.hid (HK3.out.trans hk')
          have HF4 := Lib.hid (HF3.out.keeps hk' hFS)
          have HD4 := Lib.hid (HD3.out.keeps hk' hDS)
          have HO4 := Lib.hid (own_keeps HO3.out hk' hSW)
          clear hst hk' HS3 HK3 HF3 HD3 HO3
          cases fl
          · obtain ⟨wE, rfl⟩ : ∃ x : World, x = w4 := ⟨_, rfl⟩
            have HDE := HD4
            have HFE := HF4
            have HSE := HS4
            have HKE := HK4
            have HOE := HO4
            clear HD4 HF4 HS4 HK4 HO4
            skip
            obtain ⟨hDl, z0, z1, z2, z3, z4, zf⟩ := HDE.out
            have HTH := Lib.hid HFE.out.th
            have HC9 := Lib.hid (World.rangeAt_setCells_same wE F 0 [.int .i64 df, .int .i64 ds, .int .i64 dl, .int .i64 dt, .slice ra rates.length rc] HTH.out)
            have HS9 : Hid (StreamOk (wE.setCells F 0 [.int .i64 df, .int .i64 ds, .int .i64 dl, .int .i64 dt, .slice ra rates.length rc]) S (k + 50)) := (HSE.out.mono (by omega)).upto (below_setCells hSF _ _ _)
            have HK9 : Hid (Keeps S w (wE.setCells F 0 [.int .i64 df, .int .i64 ds, .int .i64 dl, .int .i64 dt, .slice ra rates.length rc])) := keeps_setCells (Nat.le_of_eq HFW.out.symm) _ _ _ HKE.out
            have HO9 : Hid ((wE.setCells F 0 [.int .i64 df, .int .i64 ds, .int .i64 dl, .int .i64 dt, .slice ra rates.length rc]).ownsRow WB 51 3 (.slice ra rates.length rc) rates.length (((rates).map Rate.cells).flatten)) := own_set (own_set (own_set (own_set (own_set HOE.out hvF) hvF) hvF) hvF) hvF
            clear HOE HSE HKE HDE
            skip
            as_aux_lemma =>
              go_wp2_with (refine wpList_store_mid rfl 28 (.tmp 2) (.tmp 52) rfl F 0 #[.int .i64 df, .int .i64 ds, .int .i64 dl, .int .i64 dt, .slice ra rates.length rc] rfl rfl HTH.out Tryz.deckSize (by simp [Value.oneCell']) ?_; generalize World.setCells wE F 0 _ = W9 at HC9 HS9 HK9 HO9 ⊢)
              refine bodyPost_ret (?_ : _ = Result.ok (.agg #[.int .i64 df, .int .i64 ds, .int .i64 dl, .int .i64 dt, .slice ra rates.length rc]) _) rfl ?_
              · exact results_cell1 (t := 2) (by rfl) _ _ _ Tryz.isAgg28 Tryz.sizeOf28 (by rfl) [.int .i64 df, .int .i64 ds, .int .i64 dl, .int .i64 dt, .slice ra rates.length rc] rfl (fun j v hj => by have := HC9.out j v hj; rw [Nat.zero_add] at this; exact this)
              exact ⟨⟨df, ds, dl, dt, ra, rates.length, rc, rates⟩, rfl, ⟨own_le HO9.out hwW, ⟨by show (rates).length ≤ 50; omega, HRI.out⟩, ⟨⟨by show -2000000000000 ≤ (df : Int); omega, by show (df : Int) ≤ 2000000000000; omega⟩, ⟨by show -2000000000000 ≤ (ds : Int); omega, by show (ds : Int) ≤ 2000000000000; omega⟩, ⟨by show -2000000000000 ≤ (dl : Int); omega, by show (dl : Int) ≤ 2000000000000; omega⟩, ⟨by show -2000000000000 ≤ (dt : Int); omega, by show (dt : Int) ≤ 2000000000000; omega⟩⟩⟩, HS9.out, HK9.out⟩
          · skip
            as_aux_lemma =>
              go_wp2_with fail
              refine (next_any S (k + 45) 4 _ HS4.out (by omega) (by omega) (by omega)).mono ?_
              rintro e w5 ⟨m, rfl, x0, x1, hst, hk'⟩
              have HS5 := Lib.hid hst
              have HK5 := Lib.hid (HK4.out.trans hk')
              have HF5 := Lib.hid (HF4.out.keeps hk' hFS)
              have HD5 := Lib.hid (HD4.out.keeps hk' hDS)
              have HO5 := Lib.hid (own_keeps HO4.out hk' hSW)
              clear hst hk' HS4 HK4 HF4 HD4 HO4
              obtain ⟨m, rfl⟩ := Int.eq_ofNat_of_zero_le x0
              obtain hm | hm | hm | hm : m = 0 ∨ m = 1 ∨ m = 2 ∨ m = 3 := by omega
              · subst hm
                as_aux_lemma =>
                  go_wp2_with fail
                  refine (odd_any S (k + 46) 0 345686399999 _ HS5.out (by omega) (by omega) (by omega) (by omega)).mono ?_
                  rintro e w6 ⟨y, rfl, ⟨y0, y1⟩, hst, hk'⟩
                  have HS6 := Lib.hid hst
                  have HK6 := Lib.hid (HK5.out.trans hk')
                  have HF6 := Lib.hid (HF5.out.keeps hk' hFS)
                  have HD6 := Lib.hid (HD5.out.keeps hk' hDS)
                  have HO6 := Lib.hid (own_keeps HO5.out hk' hSW)
                  clear hst hk' HS5 HK5 HF5 HD5 HO5
                  as_aux_lemma =>
                    go_wp2_with fail
                    refine (odd_any S (k + 46 + 2) 0 100000000 _ HS6.out (by omega) (by omega) (by omega) (by omega)).mono ?_
                    rintro e w7 ⟨y2, rfl, ⟨y20, y21⟩, hst, hk'⟩
                    have HS7 := Lib.hid hst
                    have HK7 := Lib.hid (HK6.out.trans hk')
                    have HF7 := Lib.hid (HF6.out.keeps hk' hFS)
                    have HD7 := Lib.hid (HD6.out.keeps hk' hDS)
                    have HO7 := Lib.hid (own_keeps HO6.out hk' hSW)
                    clear hst hk' HS6 HK6 HF6 HD6 HO6
                    have HD8 := Lib.hid ((HD7.out.s0 y).s1 y2)
                    have HF8 := Lib.hid ((HF7.out.set D 0 (.int .i64 y)).set D 1 (.int .i64 y2))
                    have HO8 : Hid (((w7.setCell ⟨D, 0, none⟩ (.int .i64 y)).setCell ⟨D, 1, none⟩ (.int .i64 y2)).ownsRow WB 51 3 (.slice ra rates.length rc) rates.length ((rates.map Rate.cells).flatten)) := own_set (own_set HO7.out hvD) hvD
                    have HK8 : Hid (Keeps S w ((w7.setCell ⟨D, 0, none⟩ (.int .i64 y)).setCell ⟨D, 1, none⟩ (.int .i64 y2))) := (HK7.out.setCell_new (p := ⟨D, 0, none⟩) hDw _).setCell_new (p := ⟨D, 1, none⟩) hDw _
                    have HS8 : Hid (StreamOk ((w7.setCell ⟨D, 0, none⟩ (.int .i64 y)).setCell ⟨D, 1, none⟩ (.int .i64 y2)) S (k + 50)) := (HS7.out.mono (by omega)).upto (((Below.refl (S + 1) w7).setCell (p := ⟨D, 0, none⟩) (by show S + 1 ≤ D; omega) _).setCell (p := ⟨D, 1, none⟩) (by show S + 1 ≤ D; omega) _)
                    obtain ⟨hDl, z0, z1, z2, z3, z4, zf⟩ := HD7.out
                    clear HS7 HK7 HF7 HD7 HO7
                    as_aux_lemma =>
                      go_upto_region 11 with (fail)
                      clear hDl z0 z1 z2 z3 z4 zf
                      generalize (w7.setCell ⟨D, 0, none⟩ (.int .i64 y)).setCell ⟨D, 1, none⟩ (.int .i64 y2) = wE at HD8 HF8 HO8 HK8 HS8 ⊢
                      have HDE := HD8
                      have HFE := HF8
                      have HSE := HS8
                      have HKE := HK8
                      have HOE := HO8
                      clear HD8 HF8 HS8 HK8 HO8
                      obtain ⟨hDl, z0, z1, z2, z3, z4, zf⟩ := HDE.out
                      have HTH := Lib.hid HFE.out.th
                      have HC9 := Lib.hid (World.rangeAt_setCells_same wE F 0 [.int .i64 y, .int .i64 y2, .int .i64 dl, .int .i64 dt, .slice ra rates.length rc] HTH.out)
                      have HS9 : Hid (StreamOk (wE.setCells F 0 [.int .i64 y, .int .i64 y2, .int .i64 dl, .int .i64 dt, .slice ra rates.length rc]) S (k + 50)) := (HSE.out.mono (by omega)).upto (below_setCells hSF _ _ _)
                      have HK9 : Hid (Keeps S w (wE.setCells F 0 [.int .i64 y, .int .i64 y2, .int .i64 dl, .int .i64 dt, .slice ra rates.length rc])) := keeps_setCells (Nat.le_of_eq HFW.out.symm) _ _ _ HKE.out
                      have HO9 : Hid ((wE.setCells F 0 [.int .i64 y, .int .i64 y2, .int .i64 dl, .int .i64 dt, .slice ra rates.length rc]).ownsRow WB 51 3 (.slice ra rates.length rc) rates.length (((rates).map Rate.cells).flatten)) := own_set (own_set (own_set (own_set (own_set HOE.out hvF) hvF) hvF) hvF) hvF
                      clear HOE HSE HKE HDE
                      as_aux_lemma =>
                        go_wp2_with (refine wpList_store_mid rfl 28 (.tmp 2) (.tmp 52) rfl F 0 #[.int .i64 y, .int .i64 y2, .int .i64 dl, .int .i64 dt, .slice ra rates.length rc] rfl rfl HTH.out Tryz.deckSize (by simp [Value.oneCell']) ?_; generalize World.setCells wE F 0 _ = W9 at HC9 HS9 HK9 HO9 ⊢)
                        refine bodyPost_ret (?_ : _ = Result.ok (.agg #[.int .i64 y, .int .i64 y2, .int .i64 dl, .int .i64 dt, .slice ra rates.length rc]) _) rfl ?_
                        · exact results_cell1 (t := 2) (by rfl) _ _ _ Tryz.isAgg28 Tryz.sizeOf28 (by rfl) [.int .i64 y, .int .i64 y2, .int .i64 dl, .int .i64 dt, .slice ra rates.length rc] rfl (fun j v hj => by have := HC9.out j v hj; rw [Nat.zero_add] at this; exact this)
                        exact ⟨⟨y, y2, dl, dt, ra, rates.length, rc, rates⟩, rfl, ⟨own_le HO9.out hwW, ⟨by show (rates).length ≤ 50; omega, HRI.out⟩, ⟨⟨by show -2000000000000 ≤ (y : Int); omega, by show (y : Int) ≤ 2000000000000; omega⟩, ⟨by show -2000000000000 ≤ (y2 : Int); omega, by show (y2 : Int) ≤ 2000000000000; omega⟩, ⟨by show -2000000000000 ≤ (dl : Int); omega, by show (dl : Int) ≤ 2000000000000; omega⟩, ⟨by show -2000000000000 ≤ (dt : Int); omega, by show (dt : Int) ≤ 2000000000000; omega⟩⟩⟩, HS9.out, HK9.out⟩
              · subst hm
                as_aux_lemma =>
                  go_wp2_with fail
                  refine (odd_any S (k + 46) 0 86400000 _ HS5.out (by omega) (by omega) (by omega) (by omega)).mono ?_
                  rintro e w6 ⟨y, rfl, ⟨y0, y1⟩, hst, hk'⟩
                  have HS6 := Lib.hid hst
                  have HK6 := Lib.hid (HK5.out.trans hk')
                  have HF6 := Lib.hid (HF5.out.keeps hk' hFS)
                  have HD6 := Lib.hid (HD5.out.keeps hk' hDS)
                  have HO6 := Lib.hid (own_keeps HO5.out hk' hSW)
                  clear hst hk' HS5 HK5 HF5 HD5 HO5
                  as_aux_lemma =>
                    go_wp2_with fail
                    refine (odd_any S (k + 46 + 2) 1 86400000 _ HS6.out (by omega) (by omega) (by omega) (by omega)).mono ?_
                    rintro e w7 ⟨y2, rfl, ⟨y20, y21⟩, hst, hk'⟩
                    have HS7 := Lib.hid hst
                    have HK7 := Lib.hid (HK6.out.trans hk')
                    have HF7 := Lib.hid (HF6.out.keeps hk' hFS)
                    have HD7 := Lib.hid (HD6.out.keeps hk' hDS)
                    have HO7 := Lib.hid (own_keeps HO6.out hk' hSW)
                    clear hst hk' HS6 HK6 HF6 HD6 HO6
                    have HD8 := Lib.hid ((HD7.out.s2 y).s3 y2)
                    have HF8 := Lib.hid ((HF7.out.set D 2 (.int .i64 y)).set D 3 (.int .i64 y2))
                    have HO8 : Hid (((w7.setCell ⟨D, 2, none⟩ (.int .i64 y)).setCell ⟨D, 3, none⟩ (.int .i64 y2)).ownsRow WB 51 3 (.slice ra rates.length rc) rates.length ((rates.map Rate.cells).flatten)) := own_set (own_set HO7.out hvD) hvD
                    have HK8 : Hid (Keeps S w ((w7.setCell ⟨D, 2, none⟩ (.int .i64 y)).setCell ⟨D, 3, none⟩ (.int .i64 y2))) := (HK7.out.setCell_new (p := ⟨D, 2, none⟩) hDw _).setCell_new (p := ⟨D, 3, none⟩) hDw _
                    have HS8 : Hid (StreamOk ((w7.setCell ⟨D, 2, none⟩ (.int .i64 y)).setCell ⟨D, 3, none⟩ (.int .i64 y2)) S (k + 50)) := (HS7.out.mono (by omega)).upto (((Below.refl (S + 1) w7).setCell (p := ⟨D, 2, none⟩) (by show S + 1 ≤ D; omega) _).setCell (p := ⟨D, 3, none⟩) (by show S + 1 ≤ D; omega) _)
                    obtain ⟨hDl, z0, z1, z2, z3, z4, zf⟩ := HD7.out
                    clear HS7 HK7 HF7 HD7 HO7
                    as_aux_lemma =>
                      go_upto_region 11 with (fail)
                      clear hDl z0 z1 z2 z3 z4 zf
                      generalize (w7.setCell ⟨D, 2, none⟩ (.int .i64 y)).setCell ⟨D, 3, none⟩ (.int .i64 y2) = wE at HD8 HF8 HO8 HK8 HS8 ⊢
                      have HDE := HD8
                      have HFE := HF8
                      have HSE := HS8
                      have HKE := HK8
                      have HOE := HO8
                      clear HD8 HF8 HS8 HK8 HO8
                      obtain ⟨hDl, z0, z1, z2, z3, z4, zf⟩ := HDE.out
                      have HTH := Lib.hid HFE.out.th
                      have HC9 := Lib.hid (World.rangeAt_setCells_same wE F 0 [.int .i64 df, .int .i64 ds, .int .i64 y, .int .i64 y2, .slice ra rates.length rc] HTH.out)
                      have HS9 : Hid (StreamOk (wE.setCells F 0 [.int .i64 df, .int .i64 ds, .int .i64 y, .int .i64 y2, .slice ra rates.length rc]) S (k + 50)) := (HSE.out.mono (by omega)).upto (below_setCells hSF _ _ _)
                      have HK9 : Hid (Keeps S w (wE.setCells F 0 [.int .i64 df, .int .i64 ds, .int .i64 y, .int .i64 y2, .slice ra rates.length rc])) := keeps_setCells (Nat.le_of_eq HFW.out.symm) _ _ _ HKE.out
                      have HO9 : Hid ((wE.setCells F 0 [.int .i64 df, .int .i64 ds, .int .i64 y, .int .i64 y2, .slice ra rates.length rc]).ownsRow WB 51 3 (.slice ra rates.length rc) rates.length (((rates).map Rate.cells).flatten)) := own_set (own_set (own_set (own_set (own_set HOE.out hvF) hvF) hvF) hvF) hvF
                      clear HOE HSE HKE HDE
                      as_aux_lemma =>
                        go_wp2_with (refine wpList_store_mid rfl 28 (.tmp 2) (.tmp 52) rfl F 0 #[.int .i64 df, .int .i64 ds, .int .i64 y, .int .i64 y2, .slice ra rates.length rc] rfl rfl HTH.out Tryz.deckSize (by simp [Value.oneCell']) ?_; generalize World.setCells wE F 0 _ = W9 at HC9 HS9 HK9 HO9 ⊢)
                        refine bodyPost_ret (?_ : _ = Result.ok (.agg #[.int .i64 df, .int .i64 ds, .int .i64 y, .int .i64 y2, .slice ra rates.length rc]) _) rfl ?_
                        · exact results_cell1 (t := 2) (by rfl) _ _ _ Tryz.isAgg28 Tryz.sizeOf28 (by rfl) [.int .i64 df, .int .i64 ds, .int .i64 y, .int .i64 y2, .slice ra rates.length rc] rfl (fun j v hj => by have := HC9.out j v hj; rw [Nat.zero_add] at this; exact this)
                        exact ⟨⟨df, ds, y, y2, ra, rates.length, rc, rates⟩, rfl, ⟨own_le HO9.out hwW, ⟨by show (rates).length ≤ 50; omega, HRI.out⟩, ⟨⟨by show -2000000000000 ≤ (df : Int); omega, by show (df : Int) ≤ 2000000000000; omega⟩, ⟨by show -2000000000000 ≤ (ds : Int); omega, by show (ds : Int) ≤ 2000000000000; omega⟩, ⟨by show -2000000000000 ≤ (y : Int); omega, by show (y : Int) ≤ 2000000000000; omega⟩, ⟨by show -2000000000000 ≤ (y2 : Int); omega, by show (y2 : Int) ≤ 2000000000000; omega⟩⟩⟩, HS9.out, HK9.out⟩
              · subst hm
                as_aux_lemma =>
                  go_upto_region 10 with (fail)
                  have hD5 := HD5.out.lt
                  have hS5 : (fun W : World => W.cell? ⟨D, 4, none⟩ = some (.slice ra rates.length rc)) w5.drew := HD5.out.c4
                  refine region_lastI (S := fun W : World => W.cell? ⟨D, 4, none⟩ = some (.slice ra rates.length rc)) [(true, 0), (true, 1), (true, 2), (true, 6), (false, 3), (false, 4), (false, 5), (false, 7), (true, 8), (false, 9), (false, 10), (true, 11)] (by kernel_rfl) rfl rfl (by kernel_rfl) (by kernel_rfl) rfl (by kernel_rfl) hS5 ?_
                  simp only [seqOps, List.dropLast, List.getD_cons_zero, List.getD_cons_succ]
                  refine seqI_take (v := .pointer (some ⟨D, 4, none⟩)) rfl (fun W hW => by clear hW; go_simp) (fun _ _ _ h => h) ?_
                  simp only [Act.put, List.setIfInBounds_toArray, List.set_cons_zero, List.set_cons_succ]
                  refine seqI_take (v := .slice ra rates.length rc) rfl (fun W hW => by go_simp) (fun _ _ _ h => h) ?_
                  simp only [Act.put, List.setIfInBounds_toArray, List.set_cons_zero, List.set_cons_succ]
                  refine seqI_take (v := .pointer (some ⟨S, 0, none⟩)) rfl (fun W hW => by clear hW; go_simp) (fun _ _ _ h => h) ?_
                  simp only [Act.put, List.setIfInBounds_toArray, List.set_cons_zero, List.set_cons_succ]
                  refine seqI_take (v := .pointer (some ⟨S, 0, none⟩)) rfl (fun W hW => by clear hW; go_simp) (fun _ _ _ h => h) ?_
                  simp only [Act.put, List.setIfInBounds_toArray, List.set_cons_zero, List.set_cons_succ]
                  refine seqI_call 40 #[.string ⟨#[57]⟩, .int .i64 16] rfl (by go_simp) (Tryz.strings_Repeat ⟨#[57]⟩ 16 _ (by decide) (by decide)) ?_
                  rintro e w6 ⟨rfl, hb6⟩
                  have hra : (Lib.repeatL (⟨#[57]⟩ : ByteArray).data.toList 16).length ≤ 100 := by rw [Lib.repeatL_length]; decide
                  generalize Lib.repeatL (⟨#[57]⟩ : ByteArray).data.toList 16 = rp at hra
                  have hS6 : (fun W : World => W.cell? ⟨D, 4, none⟩ = some (.slice ra rates.length rc)) w6 := (hb6.cell (p := ⟨D, 4, none⟩) hD5).trans hS5
                  refine ⟨_, rfl, hS6, ?_⟩
                  simp only [Act.put, List.setIfInBounds_toArray, List.set_cons_zero, List.set_cons_succ]
                  have hk6 : Keeps S w5 w6 := Keeps.trans (by exact Keeps.of_below (ext_drew (Below.refl _ _))) (Keeps.of_below hb6)
                  have HS6 : Hid (StreamOk w6 S (k + 46)) := HS5.out.below (Below.trans (by exact ext_drew (Below.refl _ _)) hb6)
                  have HK6 := Lib.hid (HK5.out.trans hk6)
                  have HF6 := Lib.hid (HF5.out.keeps hk6 hFS)
                  have HD6 := Lib.hid (HD5.out.keeps hk6 hDS)
                  have HO6 := Lib.hid (own_keeps HO5.out hk6 hSW)
                  clear hb6 hk6 HS5 HK5 HF5 HD5 HO5 hS5 hD5
                  refine seqI_do rfl (wp_val (bs_s5r _ (fun _ => rfl) _ _ 43 ⟨#[57, 57]⟩ ⟨#[48]⟩ ⟨#[120]⟩ ⟨#[49]⟩ ⟨rp.toArray⟩ rfl rfl) ⟨by show (World.alloc _ _).cell? _ = _; have q4 := HD6.out.c4; have ql := HD6.out.lt; go_simp, ?_⟩)
                  simp only [Act.put, List.setIfInBounds_toArray, List.set_cons_zero, List.set_cons_succ]
                  refine seqI_call 24 #[.pointer (some ⟨S, 0, none⟩), .slice (some ⟨w6.heap.size, 0, none⟩) 5 5] rfl (by go_simp) (some_lit S (k + 46) [[57, 57], [48], [120], [49], rp] (fun s => s.length ≤ 100) _ _ _ HS6.out (by omega) rfl rfl (by simp) (by simp) (by intro x hx; simp only [List.mem_cons, List.not_mem_nil, or_false] at hx; rcases hx with rfl | rfl | rfl | rfl | rfl <;> first | exact hra | decide)) ?_
                  rintro e w7 ⟨nm, rfl, hnm, hst, hk'⟩
                  have hnm : nm.length ≤ 100 := hnm
                  have HS7 := Lib.hid hst
                  have HK7 := Lib.hid (HK6.out.trans hk')
                  have HF7 := Lib.hid (HF6.out.keeps hk' hFS)
                  have HD7 := Lib.hid (HD6.out.keeps hk' hDS)
                  have HO7 := Lib.hid (own_keeps HO6.out hk' hSW)
                  refine ⟨_, rfl, HD7.out.c4, ?_⟩
                  simp only [Act.put, List.setIfInBounds_toArray, List.set_cons_zero, List.set_cons_succ]
                  clear hst hk' HS6 HK6 HF6 HD6 HO6
                  refine seqI_call 39 #[.pointer (some ⟨S, 0, none⟩), .int .i64 0, .int .i64 100000000] rfl (by go_simp) (odd_any S (k + 46 + 1) 0 100000000 _ HS7.out (by omega) (by omega) (by omega) (by omega)) ?_
                  rintro e w8 ⟨pr, rfl, ⟨pr0, pr1⟩, hst, hk'⟩
                  have HS8 := Lib.hid hst
                  have HK8 := Lib.hid (HK7.out.trans hk')
                  have HF8 := Lib.hid (HF7.out.keeps hk' hFS)
                  have HD8 := Lib.hid (HD7.out.keeps hk' hDS)
                  have HO8 := Lib.hid (own_keeps HO7.out hk' hSW)
                  refine ⟨_, rfl, HD8.out.c4, ?_⟩
                  simp only [Act.put, List.setIfInBounds_toArray, List.set_cons_zero, List.set_cons_succ]
                  clear hst hk' HS7 HK7 HF7 HD7 HO7
                  refine seqI_take (v := .agg #[.string ⟨nm.toArray⟩, .int .i64 pr, .bool false]) rfl (fun W hW => by clear hW; go_simp) (fun _ _ _ h => h) ?_
                  simp only [Act.put, List.setIfInBounds_toArray, List.set_cons_zero, List.set_cons_succ]
                  have hk9 : Keeps S w8 (w8.alloc (.cells #[.string ⟨nm.toArray⟩, .int .i64 pr, .bool false] 51)) := (Keeps.refl _ _).alloc _
                  have HF9 := Lib.hid (HF8.out.keeps hk9 hFS)
                  have HD9 := Lib.hid (HD8.out.keeps hk9 hDS)
                  have HO9 := Lib.hid (own_keeps HO8.out hk9 hSW)
                  have hW8 : WB ≤ w8.heap.size := Nat.le_trans hW2 (Nat.le_of_lt HD8.out.lt)
                  have hDlt := HD8.out.lt
                  refine seqI_do rfl (wp_val (bs_r1 _ _ _ 48 ⟨nm.toArray⟩ pr false rfl rfl) ⟨HD9.out.c4, ?_⟩)
                  simp only [Act.put, List.setIfInBounds_toArray, List.set_cons_zero, List.set_cons_succ]
                  refine seqI_do rfl (wp_append_own_at (.tmp 41) (.tmp 49) 26 rfl WB 51 i1 _ 3 32 Tryz.underlying26 hi1 hy0 hy1 hy2 rfl (by omega) (.slice ra rates.length rc) rates.length _ rfl HO9.out ⟨w8.heap.size, 0, none⟩ 1 1 [.string ⟨nm.toArray⟩, .int .i64 pr, .bool false] rfl rfl (fun j u hj => by rw [add0]; match j, hj with | 0, hj => simp at hj; subst hj; go_simp | 1, hj => simp at hj; subst hj; go_simp | 2, hj => simp at hj; subst hj; go_simp) (by simp [Value.oneCell']) (by simp only [maxLen]; omega) (by omega) (by simp; omega) ?_)
                  intro v10 w10 hown10 hgr10 hat10
                  obtain ⟨a12, c12, rfl⟩ := own_shape hown10
                  have HD10 := Lib.hid (HD9.out.grown hgr10 hvD)
                  have HF10 := Lib.hid (HF9.out.grown hgr10 hvF)
                  have HK10 : Hid (Keeps S w w10) := HK8.out.grown hgr10 (fun b e => by have := (HO9.out.lt b e).1; omega)
                  have HS10 : Hid (StreamOk w10 S (k + 49)) := (HS8.out.mono (by omega)).upto (upto_grown hgr10 (by omega) (fun b e => by have := (HO9.out.lt b e).1; omega))
                  have HO10 : Hid (w10.ownsRow WB 51 3 (.slice a12 (rates.length + 1) c12) (rates ++ [Rate.mk nm pr false]).length (((rates ++ [Rate.mk nm pr false]).map Rate.cells).flatten)) := by
                    show World.ownsRow _ _ _ _ _ _ _
                    rw [rcells_snoc, List.length_append]
                    exact hown10
                  have hvD2 : (Value.slice a12 (rates.length + 1) c12).ownBlock ≠ some D := fun e => by
                    rcases hat10 with h | h
                    · exact hvD (h ▸ e)
                    · rw [h] at e; injection e with e; simp at e; omega
                  have hvF2 : (Value.slice a12 (rates.length + 1) c12).ownBlock ≠ some F := fun e => by have := (HO10.out.lt _ e).1; omega
                  refine ⟨HD10.out.c4, ?_⟩
                  simp only [Act.put, List.setIfInBounds_toArray, List.set_cons_zero, List.set_cons_succ]
                  clear hown10 hgr10 hat10 HO9 HF9 HD9 HS8 HK8 HF8 HD8 HO8 hk9 hvD hvF
                  have hvF := hvF2
                  refine seqI_take (v := .pointer (some ⟨D, 4, none⟩)) rfl (fun W hW => by clear hW; go_simp) (fun _ _ _ h => h) ?_
                  simp only [Act.put, List.setIfInBounds_toArray, List.set_cons_zero, List.set_cons_succ]
                  have HD11 := Lib.hid (HD10.out.s4 (.slice a12 (rates.length + 1) c12))
                  have HF11 := Lib.hid (HF10.out.set D 4 (.slice a12 (rates.length + 1) c12))
                  have HO11 : Hid ((w10.setCell ⟨D, 4, none⟩ (.slice a12 (rates.length + 1) c12)).ownsRow WB 51 3 (.slice a12 (rates.length + 1) c12) (rates ++ [Rate.mk nm pr false]).length (((rates ++ [Rate.mk nm pr false]).map Rate.cells).flatten)) := own_set HO10.out hvD2
                  have HK11 : Hid (Keeps S w (w10.setCell ⟨D, 4, none⟩ (.slice a12 (rates.length + 1) c12))) := HK10.out.setCell_new (p := ⟨D, 4, none⟩) hDw _
                  have HS11 : Hid (StreamOk (w10.setCell ⟨D, 4, none⟩ (.slice a12 (rates.length + 1) c12)) S (k + 50)) := (HS10.out.mono (by omega)).upto ((Below.refl (S + 1) w10).setCell (p := ⟨D, 4, none⟩) (by show S + 1 ≤ D; omega) _)
                  obtain ⟨hDl, z0, z1, z2, z3, z4, zf⟩ := HD10.out
                  refine seqI_nil (Or.inl ?_)
                  show Oper.wp _ (⟨none, .store 26 (.tmp 51) (.tmp 50), _, _, _, none⟩ : Oper) _ _ _ _
                  refine wp_skip (w' := w10.setCell ⟨D, 4, none⟩ (.slice a12 (rates.length + 1) c12)) (by go_simp) ?_
                  simp only [Act.put]
                  clear hDl z0 z1 z2 z3 z4 zf HD10 HF10 HO10 HK10 HS10
                  generalize w10.setCell ⟨D, 4, none⟩ (.slice a12 (rates.length + 1) c12) = wE at HD11 HF11 HO11 HK11 HS11 ⊢
                  have HDE := HD11
                  have HFE := HF11
                  have HSE := HS11
                  have HKE := HK11
                  have HOE := HO11
                  clear HD11 HF11 HS11 HK11 HO11
                  obtain ⟨hDl, z0, z1, z2, z3, z4, zf⟩ := HDE.out
                  have HTH := Lib.hid HFE.out.th
                  have HC9 := Lib.hid (World.rangeAt_setCells_same wE F 0 [.int .i64 df, .int .i64 ds, .int .i64 dl, .int .i64 dt, .slice a12 (rates.length + 1) c12] HTH.out)
                  have HS9 : Hid (StreamOk (wE.setCells F 0 [.int .i64 df, .int .i64 ds, .int .i64 dl, .int .i64 dt, .slice a12 (rates.length + 1) c12]) S (k + 50)) := (HSE.out.mono (by omega)).upto (below_setCells hSF _ _ _)
                  have HK9 : Hid (Keeps S w (wE.setCells F 0 [.int .i64 df, .int .i64 ds, .int .i64 dl, .int .i64 dt, .slice a12 (rates.length + 1) c12])) := keeps_setCells (Nat.le_of_eq HFW.out.symm) _ _ _ HKE.out
                  have HO9 : Hid ((wE.setCells F 0 [.int .i64 df, .int .i64 ds, .int .i64 dl, .int .i64 dt, .slice a12 (rates.length + 1) c12]).ownsRow WB 51 3 (.slice a12 (rates.length + 1) c12) (rates ++ [Rate.mk nm pr false]).length (((rates ++ [Rate.mk nm pr false]).map Rate.cells).flatten)) := own_set (own_set (own_set (own_set (own_set HOE.out hvF) hvF) hvF) hvF) hvF
                  clear HOE HSE HKE HDE
                  as_aux_lemma =>
                    go_wp2_with (refine wpList_store_mid rfl 28 (.tmp 2) (.tmp 52) rfl F 0 #[.int .i64 df, .int .i64 ds, .int .i64 dl, .int .i64 dt, .slice a12 (rates.length + 1) c12] rfl rfl HTH.out Tryz.deckSize (by simp [Value.oneCell']) ?_; generalize World.setCells wE F 0 _ = W9 at HC9 HS9 HK9 HO9 ⊢)
                    refine bodyPost_ret (?_ : _ = Result.ok (.agg #[.int .i64 df, .int .i64 ds, .int .i64 dl, .int .i64 dt, .slice a12 (rates.length + 1) c12]) _) rfl ?_
                    · exact results_cell1 (t := 2) (by rfl) _ _ _ Tryz.isAgg28 Tryz.sizeOf28 (by rfl) [.int .i64 df, .int .i64 ds, .int .i64 dl, .int .i64 dt, .slice a12 (rates.length + 1) c12] rfl (fun j v hj => by have := HC9.out j v hj; rw [Nat.zero_add] at this; exact this)
                    exact ⟨⟨df, ds, dl, dt, a12, rates.length + 1, c12, rates ++ [Rate.mk nm pr false]⟩, rfl, ⟨own_le HO9.out hwW, ⟨by show (rates ++ [Rate.mk nm pr false]).length ≤ 50; rw [List.length_append, List.length_singleton]; omega, rates_snoc HRI.out (by show List.length _ ≤ 100; first | omega | simp) (by show -2000000000000 ≤ pr; omega) (by show pr ≤ 2000000000000; omega)⟩, ⟨⟨by show -2000000000000 ≤ (df : Int); omega, by show (df : Int) ≤ 2000000000000; omega⟩, ⟨by show -2000000000000 ≤ (ds : Int); omega, by show (ds : Int) ≤ 2000000000000; omega⟩, ⟨by show -2000000000000 ≤ (dl : Int); omega, by show (dl : Int) ≤ 2000000000000; omega⟩, ⟨by show -2000000000000 ≤ (dt : Int); omega, by show (dt : Int) ≤ 2000000000000; omega⟩⟩⟩, HS9.out, HK9.out⟩
              · subst hm
                as_aux_lemma =>
                  go_upto_region 4 with (fail)
                  have hD5 := HD5.out.lt
                  have hS5 : (fun W : World => W.cell? ⟨D, 4, none⟩ = some (.slice ra rates.length rc)) w5.drew := HD5.out.c4
                  have HSd : Hid (StreamOk w5.drew S (k + 46)) := HS5.out.below (by exact ext_drew (Below.refl _ _))
                  have hkd : Keeps S w5 w5.drew := Keeps.of_below (by exact ext_drew (Below.refl _ _))
                  refine region_lastI (S := fun W : World => W.cell? ⟨D, 4, none⟩ = some (.slice ra rates.length rc)) [(true, 0), (true, 1), (true, 2), (false, 3), (false, 4), (true, 5), (false, 6), (false, 7), (true, 8)] (by kernel_rfl) rfl rfl (by kernel_rfl) (by kernel_rfl) rfl (by kernel_rfl) hS5 ?_
                  simp only [seqOps, List.dropLast, List.getD_cons_zero, List.getD_cons_succ]
                  refine seqI_take (v := .pointer (some ⟨D, 4, none⟩)) rfl (fun W hW => by clear hW; go_simp) (fun _ _ _ h => h) ?_
                  simp only [Act.put, List.setIfInBounds_toArray, List.set_cons_zero, List.set_cons_succ]
                  refine seqI_take (v := .slice ra rates.length rc) rfl (fun W hW => by go_simp) (fun _ _ _ h => h) ?_
                  simp only [Act.put, List.setIfInBounds_toArray, List.set_cons_zero, List.set_cons_succ]
                  refine seqI_take (v := .pointer (some ⟨S, 0, none⟩)) rfl (fun W hW => by clear hW; go_simp) (fun _ _ _ h => h) ?_
                  simp only [Act.put, List.setIfInBounds_toArray, List.set_cons_zero, List.set_cons_succ]
                  refine seqI_do rfl (wp_val (bs_i2 _ (fun _ => rfl) _ _ 0 1 rfl) ⟨by show (World.alloc _ _).cell? _ = _; have q4 := HD5.out.c4; have ql := HD5.out.lt; go_simp, ?_⟩)
                  simp only [Act.put, List.setIfInBounds_toArray, List.set_cons_zero, List.set_cons_succ]
                  refine seqI_call 6 #[.pointer (some ⟨S, 0, none⟩), .slice (some ⟨w5.drew.heap.size, 0, none⟩) 2 2] rfl (by go_simp) (pick_lit S (k + 46) [0, 1] (fun x => 0 ≤ x ∧ x ≤ 1) _ _ _ HSd.out (by omega) rfl rfl (by decide) (by decide) (by decide)) ?_
                  rintro e w8 ⟨pr, rfl, ⟨pr0, pr1⟩, hst, hk'⟩
                  have hk' : Keeps S w5 w8 := hkd.trans hk'
                  have HS8 := Lib.hid hst
                  have HK8 := Lib.hid (HK5.out.trans hk')
                  have HF8 := Lib.hid (HF5.out.keeps hk' hFS)
                  have HD8 := Lib.hid (HD5.out.keeps hk' hDS)
                  have HO8 := Lib.hid (own_keeps HO5.out hk' hSW)
                  refine ⟨_, rfl, HD8.out.c4, ?_⟩
                  simp only [Act.put, List.setIfInBounds_toArray, List.set_cons_zero, List.set_cons_succ]
                  clear hst hk' HSd hkd HS5 HK5 HF5 HD5 HO5
                  refine seqI_take (v := .agg #[.string ⟨#[57, 57]⟩, .int .i64 pr, .bool true]) rfl (fun W hW => by clear hW; go_simp) (fun _ _ _ h => h) ?_
                  simp only [Act.put, List.setIfInBounds_toArray, List.set_cons_zero, List.set_cons_succ]
                  have hk9 : Keeps S w8 (w8.alloc (.cells #[.string ⟨#[57, 57]⟩, .int .i64 pr, .bool true] 51)) := (Keeps.refl _ _).alloc _
                  have HF9 := Lib.hid (HF8.out.keeps hk9 hFS)
                  have HD9 := Lib.hid (HD8.out.keeps hk9 hDS)
                  have HO9 := Lib.hid (own_keeps HO8.out hk9 hSW)
                  have hW8 : WB ≤ w8.heap.size := Nat.le_trans hW2 (Nat.le_of_lt HD8.out.lt)
                  have hDlt := HD8.out.lt
                  refine seqI_do rfl (wp_val (bs_r1 _ _ _ 18 ⟨#[57, 57]⟩ pr true rfl rfl) ⟨HD9.out.c4, ?_⟩)
                  simp only [Act.put, List.setIfInBounds_toArray, List.set_cons_zero, List.set_cons_succ]
                  refine seqI_do rfl (wp_append_own_at (.tmp 14) (.tmp 19) 26 rfl WB 51 i1 _ 3 32 Tryz.underlying26 hi1 hy0 hy1 hy2 rfl (by omega) (.slice ra rates.length rc) rates.length _ rfl HO9.out ⟨w8.heap.size, 0, none⟩ 1 1 [.string ⟨#[57, 57]⟩, .int .i64 pr, .bool true] rfl rfl (fun j u hj => by rw [add0]; match j, hj with | 0, hj => simp at hj; subst hj; go_simp | 1, hj => simp at hj; subst hj; go_simp | 2, hj => simp at hj; subst hj; go_simp) (by simp [Value.oneCell']) (by simp only [maxLen]; omega) (by omega) (by simp; omega) ?_)
                  intro v10 w10 hown10 hgr10 hat10
                  obtain ⟨a12, c12, rfl⟩ := own_shape hown10
                  have HD10 := Lib.hid (HD9.out.grown hgr10 hvD)
                  have HF10 := Lib.hid (HF9.out.grown hgr10 hvF)
                  have HK10 : Hid (Keeps S w w10) := HK8.out.grown hgr10 (fun b e => by have := (HO9.out.lt b e).1; omega)
                  have HS10 : Hid (StreamOk w10 S (k + 49)) := (HS8.out.mono (by omega)).upto (upto_grown hgr10 (by omega) (fun b e => by have := (HO9.out.lt b e).1; omega))
                  have HO10 : Hid (w10.ownsRow WB 51 3 (.slice a12 (rates.length + 1) c12) (rates ++ [Rate.mk [57, 57] pr true]).length (((rates ++ [Rate.mk [57, 57] pr true]).map Rate.cells).flatten)) := by
                    show World.ownsRow _ _ _ _ _ _ _
                    rw [rcells_snoc, List.length_append]
                    exact hown10
                  have hvD2 : (Value.slice a12 (rates.length + 1) c12).ownBlock ≠ some D := fun e => by
                    rcases hat10 with h | h
                    · exact hvD (h ▸ e)
                    · rw [h] at e; injection e with e; simp at e; omega
                  have hvF2 : (Value.slice a12 (rates.length + 1) c12).ownBlock ≠ some F := fun e => by have := (HO10.out.lt _ e).1; omega
                  refine ⟨HD10.out.c4, ?_⟩
                  simp only [Act.put, List.setIfInBounds_toArray, List.set_cons_zero, List.set_cons_succ]
                  clear hown10 hgr10 hat10 HO9 HF9 HD9 HS8 HK8 HF8 HD8 HO8 hk9 hvD hvF
                  have hvF := hvF2
                  refine seqI_take (v := .pointer (some ⟨D, 4, none⟩)) rfl (fun W hW => by clear hW; go_simp) (fun _ _ _ h => h) ?_
                  simp only [Act.put, List.setIfInBounds_toArray, List.set_cons_zero, List.set_cons_succ]
                  have HD11 := Lib.hid (HD10.out.s4 (.slice a12 (rates.length + 1) c12))
                  have HF11 := Lib.hid (HF10.out.set D 4 (.slice a12 (rates.length + 1) c12))
                  have HO11 : Hid ((w10.setCell ⟨D, 4, none⟩ (.slice a12 (rates.length + 1) c12)).ownsRow WB 51 3 (.slice a12 (rates.length + 1) c12) (rates ++ [Rate.mk [57, 57] pr true]).length (((rates ++ [Rate.mk [57, 57] pr true]).map Rate.cells).flatten)) := own_set HO10.out hvD2
                  have HK11 : Hid (Keeps S w (w10.setCell ⟨D, 4, none⟩ (.slice a12 (rates.length + 1) c12))) := HK10.out.setCell_new (p := ⟨D, 4, none⟩) hDw _
                  have HS11 : Hid (StreamOk (w10.setCell ⟨D, 4, none⟩ (.slice a12 (rates.length + 1) c12)) S (k + 50)) := (HS10.out.mono (by omega)).upto ((Below.refl (S + 1) w10).setCell (p := ⟨D, 4, none⟩) (by show S + 1 ≤ D; omega) _)
                  obtain ⟨hDl, z0, z1, z2, z3, z4, zf⟩ := HD10.out
                  refine seqI_nil (Or.inl ?_)
                  show Oper.wp _ (⟨none, .store 26 (.tmp 21) (.tmp 20), _, _, _, none⟩ : Oper) _ _ _ _
                  refine wp_skip (w' := w10.setCell ⟨D, 4, none⟩ (.slice a12 (rates.length + 1) c12)) (by go_simp) ?_
                  simp only [Act.put]
                  clear hDl z0 z1 z2 z3 z4 zf HD10 HF10 HO10 HK10 HS10
                  generalize w10.setCell ⟨D, 4, none⟩ (.slice a12 (rates.length + 1) c12) = wE at HD11 HF11 HO11 HK11 HS11 ⊢
                  have HDE := HD11
                  have HFE := HF11
                  have HSE := HS11
                  have HKE := HK11
                  have HOE := HO11
                  clear HD11 HF11 HS11 HK11 HO11
                  obtain ⟨hDl, z0, z1, z2, z3, z4, zf⟩ := HDE.out
                  have HTH := Lib.hid HFE.out.th
                  have HC9 := Lib.hid (World.rangeAt_setCells_same wE F 0 [.int .i64 df, .int .i64 ds, .int .i64 dl, .int .i64 dt, .slice a12 (rates.length + 1) c12] HTH.out)
                  have HS9 : Hid (StreamOk (wE.setCells F 0 [.int .i64 df, .int .i64 ds, .int .i64 dl, .int .i64 dt, .slice a12 (rates.length + 1) c12]) S (k + 50)) := (HSE.out.mono (by omega)).upto (below_setCells hSF _ _ _)
                  have HK9 : Hid (Keeps S w (wE.setCells F 0 [.int .i64 df, .int .i64 ds, .int .i64 dl, .int .i64 dt, .slice a12 (rates.length + 1) c12])) := keeps_setCells (Nat.le_of_eq HFW.out.symm) _ _ _ HKE.out
                  have HO9 : Hid ((wE.setCells F 0 [.int .i64 df, .int .i64 ds, .int .i64 dl, .int .i64 dt, .slice a12 (rates.length + 1) c12]).ownsRow WB 51 3 (.slice a12 (rates.length + 1) c12) (rates ++ [Rate.mk [57, 57] pr true]).length (((rates ++ [Rate.mk [57, 57] pr true]).map Rate.cells).flatten)) := own_set (own_set (own_set (own_set (own_set HOE.out hvF) hvF) hvF) hvF) hvF
                  clear HOE HSE HKE HDE
                  as_aux_lemma =>
                    go_wp2_with (refine wpList_store_mid rfl 28 (.tmp 2) (.tmp 52) rfl F 0 #[.int .i64 df, .int .i64 ds, .int .i64 dl, .int .i64 dt, .slice a12 (rates.length + 1) c12] rfl rfl HTH.out Tryz.deckSize (by simp [Value.oneCell']) ?_; generalize World.setCells wE F 0 _ = W9 at HC9 HS9 HK9 HO9 ⊢)
                    refine bodyPost_ret (?_ : _ = Result.ok (.agg #[.int .i64 df, .int .i64 ds, .int .i64 dl, .int .i64 dt, .slice a12 (rates.length + 1) c12]) _) rfl ?_
                    · exact results_cell1 (t := 2) (by rfl) _ _ _ Tryz.isAgg28 Tryz.sizeOf28 (by rfl) [.int .i64 df, .int .i64 ds, .int .i64 dl, .int .i64 dt, .slice a12 (rates.length + 1) c12] rfl (fun j v hj => by have := HC9.out j v hj; rw [Nat.zero_add] at this; exact this)
                    exact ⟨⟨df, ds, dl, dt, a12, rates.length + 1, c12, rates ++ [Rate.mk [57, 57] pr true]⟩, rfl, ⟨own_le HO9.out hwW, ⟨by show (rates ++ [Rate.mk [57, 57] pr true]).length ≤ 50; rw [List.length_append, List.length_singleton]; omega, rates_snoc HRI.out (by show List.length _ ≤ 100; first | omega | simp) (by show -2000000000000 ≤ pr; omega) (by show pr ≤ 2000000000000; omega)⟩, ⟨⟨by show -2000000000000 ≤ (df : Int); omega, by show (df : Int) ≤ 2000000000000; omega⟩, ⟨by show -2000000000000 ≤ (ds : Int); omega, by show (ds : Int) ≤ 2000000000000; omega⟩, ⟨by show -2000000000000 ≤ (dl : Int); omega, by show (dl : Int) ≤ 2000000000000; omega⟩, ⟨by show -2000000000000 ≤ (dt : Int); omega, by show (dt : Int) ≤ 2000000000000; omega⟩⟩⟩, HS9.out, HK9.out⟩
end Go.Proofs.YtacekbbndamkmaaGreatDoor

set_option linter.unusedVariables false
set_option linter.unusedSimpArgs false
namespace Go.Proofs.YtacekbbndamkmaaGreatDoor
open Go.RowKit

def probeD (B : Nat) : Deck := ⟨0, 0, 0, 60000, some ⟨B, 0, none⟩, 1, 1, [⟨[52, 57], 100, false⟩]⟩
theorem probe_fine {w : World} {B : Nat} (h : Blk w B [.string ⟨#[52, 57]⟩, .int .i64 100, .bool false] 51) : DeckFine w (probeD B) := by
  refine ⟨⟨⟨rfl, Or.inr ⟨B, 0, rfl, h.lt, fun i hi j hj => ?_⟩⟩, by show 1 ≤ 100; decide, fun i hi => ?_⟩, Nat.le_refl 1, by show (-2000000000000 : Int) ≤ 0 ∧ (0 : Int) ≤ 2000000000000; decide, by show (-2000000000000 : Int) ≤ 0 ∧ (0 : Int) ≤ 2000000000000; decide, by show (-2000000000000 : Int) ≤ 0 ∧ (0 : Int) ≤ 2000000000000; decide, by show (-2000000000000 : Int) ≤ 60000 ∧ (60000 : Int) ≤ 2000000000000; decide⟩
  · have hi : i < 1 := hi
    obtain rfl : i = 0 := by omega
    match j, hj with
    | 0, _ => exact h.cell 0 rfl
    | 1, _ => exact h.cell 1 rfl
    | 2, _ => exact h.cell 2 rfl
  · have hi : i < 1 := hi
    obtain rfl : i = 0 := by omega
    show ([52, 57] : List UInt8).length ≤ 100 ∧ (-2000000000000 : Int) ≤ 100 ∧ (100 : Int) ≤ 2000000000000
    decide
theorem probe_err (B : Nat) : priceE (probeD B) [43, 52, 57, 51, 48, 49] 61000 = 0 := by
  show priceE ⟨0, 0, 0, 60000, some ⟨B, 0, none⟩, 1, 1, [⟨[52, 57], 100, false⟩]⟩ _ _ = 0
  rfl
theorem probe_val (B : Nat) : priceA (probeD B) [43, 52, 57, 51, 48, 49] 61000 = (200, true) := by
  unfold priceA
  rw [probe_err, if_pos rfl]
  rfl
theorem probe_any (w : World) (B : Nat) (h : Blk w B [.string ⟨#[52, 57]⟩, .int .i64 100, .bool false] 51) : Calls Tryz.prog 27 #[.agg #[.int .i64 0, .int .i64 0, .int .i64 0, .int .i64 60000, .slice (some ⟨B, 0, none⟩) 1 1], .string ⟨#[43, 52, 57, 51, 48, 49]⟩, .int .i64 61000] w fun e w' => e = .returned (.tuple #[.int .i64 200, .bool true, .int .i64 0]) ∧ Below w.heap.size w w' := by
  refine (carPrice_any w (probeD B) (probe_fine h) [43, 52, 57, 51, 48, 49] (by decide) 61000).mono ?_
  rintro e w' ⟨rfl, hb⟩
  rw [probe_err, probe_val]
  exact ⟨rfl, hb⟩
set_option maxRecDepth 100000 in
set_option maxHeartbeats 2000000 in
theorem carried_any (w : World) : Calls Tryz.prog 23 #[] w fun e w' => e = .returned (.bool true) ∧ Below w.heap.size w w' := by
  go_enter Tryz.func23, Tryz.ntmps23
  go_wp2_with fail
  have HB : Hid (Blk (w.alloc (.cells #[.string ⟨#[52, 57]⟩, .int .i64 100, .bool false] 51)) w.heap.size [.string ⟨#[52, 57]⟩, .int .i64 100, .bool false] 51) := Blk.new w [.string ⟨#[52, 57]⟩, .int .i64 100, .bool false] 51
  refine (probe_any _ _ HB.out).mono ?_
  rintro e w1 ⟨rfl, hb⟩
  have HE := Lib.hid (ext_trans (ext_alloc (Below.refl w.heap.size w) (o := .cells #[.string ⟨#[52, 57]⟩, .int .i64 100, .bool false] 51)) hb)
  clear hb HB
  as_aux_lemma =>
    go_wp2_with fail
    go_ret
    exact ⟨rfl, HE.out⟩
end Go.Proofs.YtacekbbndamkmaaGreatDoor

set_option linter.unusedVariables false
set_option linter.unusedSimpArgs false
namespace Go.Proofs.YtacekbbndamkmaaGreatDoor
open Go.RowKit

instance : Inhabited Rate := ⟨noRate⟩
def eqR (x y : Rate) : Bool := x.p == y.p && (x.price == y.price && x.closed == y.closed)
theorem neqR : NeqAt Tryz.prog 51 (fun x : Rate => .agg (Rate.cells x).toArray) eqR := by
  refine ⟨fun x y w => ?_, GuardAt.agg _ (by kernel_rfl)⟩
  obtain ⟨c, n1, b1⟩ := x
  obtain ⟨c', m1, b2⟩ := y
  show (binOp .neq 51 (.agg #[.string ⟨c.toArray⟩, .int .i64 n1, .bool b1]) (.agg #[.string ⟨c'.toArray⟩, .int .i64 m1, .bool b2])).run Tryz.prog w = _
  go_simp
  unfold eqR
  by_cases h1 : c = c' <;> by_cases h2 : n1 = m1 <;> by_cases h3 : b1 = b2 <;> simp [*]
theorem allEqR_self : ∀ (l : List Rate), Lib.allEq eqR l l = true
  | [] => rfl
  | x :: l => by
    show (eqR x x && Lib.allEq eqR l l) = true
    rw [show eqR x x = true by simp [eqR], allEqR_self l]; rfl
theorem bang_getDR {l : List Rate} {j : Nat} (h : j < l.length) : l[j]! = l.getD j noRate := by
  simp [List.getD_eq_getElem?_getD, h]
theorem equalR_none (w : World) (a a2 : Option Addr) (c c2 : Nat) : Calls Tryz.prog 19 #[.slice a 0 c, .slice a2 0 c2] w fun e w' => e = .returned (.bool true) ∧ Below w.heap.size w w' := by
  go_enter Tryz.func19, Tryz.ntmps19
  go_wp2_with fail
  go_loopw [13] (fun i wr => i = .int .i64 0 ∧ Hid (Below w.heap.size w wr)) (fun _ _ => 0)
  case atStart => exact ⟨rfl, (by (try show Below _ _ _); repeat (with_reducible first | exact Below.refl _ _ | assumption | exact Hid.out (by assumption) | refine ext_alloc ?_ | refine ext_drewN ?_ | refine ext_drew ?_ | refine ext_setCell ?_ (Nat.le_refl _) | refine ext_setCell ?_ (Nat.le_succ _) | refine ext_trans ?_ (by assumption) | (refine ext_setCell ?_ (by simp)) | (refine ext_setCell ?_ (by simp at *; omega))))⟩
  case round =>
    obtain ⟨rfl, HB⟩ := hrel
    go_wp2_with fail
    go_ret
    exact ⟨rfl, (by (try show Below _ _ _); repeat (with_reducible first | exact Below.refl _ _ | assumption | exact Hid.out (by assumption) | refine ext_alloc ?_ | refine ext_drewN ?_ | refine ext_drew ?_ | refine ext_setCell ?_ (Nat.le_refl _) | refine ext_setCell ?_ (Nat.le_succ _) | refine ext_trans ?_ (by assumption) | (refine ext_setCell ?_ (by simp)) | (refine ext_setCell ?_ (by simp at *; omega))))⟩
theorem rate_get {w : World} {b off n : Nat} {l : List Rate} (h : RateRow w (some ⟨b, off, none⟩) n l) (j : Nat) (hj : j < l.length) (i : Nat) (v : Value) (hv : (Rate.cells l[j]!)[i]? = some v) : w.cell? ⟨b, off + j * 3 + i, none⟩ = some v := by
  have hl := h.len
  rw [bang_getDR hj] at hv
  obtain ⟨b', off', e, -, hc⟩ := h.at (by omega)
  injection e with e
  injection e with e1 e2 e3
  subst e1
  subst e2
  obtain ⟨c0, c1, c2⟩ := hc j (by omega)
  match i, hv with
  | 0, hv => simp [Rate.cells] at hv; subst hv; rw [Nat.add_zero]; exact c0
  | 1, hv => simp [Rate.cells] at hv; subst hv; exact c1
  | 2, hv => simp [Rate.cells] at hv; subst hv; exact c2
theorem equalR_any (w : World) (a a2 : Option Addr) (n c c2 : Nat) (l : List Rate) (h : RateRow w a n l) (h2 : RateRow w a2 n l) : Calls Tryz.prog 19 #[.slice a n c, .slice a2 n c2] w fun e w' => e = .returned (.bool true) ∧ Below w.heap.size w w' := by
  by_cases h0 : n = 0
  · subst h0
    exact equalR_none w a a2 c c2
  · have hl := h.len
    have hf := h.few
    obtain ⟨b, off, rfl, -, -⟩ := h.at (by omega)
    obtain ⟨b2, off2, rfl, -, -⟩ := h2.at (by omega)
    refine (Tryz.slices_eqR Rate.cells (fun _ => rfl) eqR neqR b off n c b2 off2 n c2 l l w (by omega) (by omega) (by omega) (by omega) (fun j hj i v hv => rate_get h j hj i v hv) (fun j hj i v hv => rate_get h2 j hj i v hv)).mono ?_
    rintro e w' ⟨rfl, q, rfl⟩
    rw [List.take_of_length_le (by omega), allEqR_self]
    exact ⟨rfl, ext_drewN (Below.refl _ _)⟩
set_option maxRecDepth 100000 in
set_option maxHeartbeats 4000000 in
theorem sameDeck_any (w : World) (df ds dl dp : Int) (ra sa : Option Addr) (rn rc sc : Nat) (rates : List Rate) (h : RateRow w ra rn rates) (h2 : RateRow w sa rn rates) : Calls Tryz.prog 10 #[.agg #[.int .i64 df, .int .i64 ds, .int .i64 dl, .int .i64 dp, .slice ra rn rc], .agg #[.int .i64 df, .int .i64 ds, .int .i64 dl, .int .i64 dp, .slice sa rn sc]] w fun e w' => e = .returned (.bool true) ∧ Below w.heap.size w w' := by
  have HEQ := Lib.hid (fun W (hW : Below w.heap.size w W) => equalR_any W ra sa rn rc sc rates (h.below hW) (h2.below hW))
  clear h h2
  go_enter Tryz.func10, Tryz.ntmps10
  go_upto_region 1 with (fail)
  have HD : Hid (Blk ((w.alloc (.cells #[.int .i64 df, .int .i64 ds, .int .i64 dl, .int .i64 dp, .slice ra rn rc] 28)).alloc (.cells #[.int .i64 df, .int .i64 ds, .int .i64 dl, .int .i64 dp, .slice sa rn sc] 28)) w.heap.size [.int .i64 df, .int .i64 ds, .int .i64 dl, .int .i64 dp, .slice ra rn rc] 28) := (Blk.new w [.int .i64 df, .int .i64 ds, .int .i64 dl, .int .i64 dp, .slice ra rn rc] 28).alloc _
  have HE : Hid (Blk ((w.alloc (.cells #[.int .i64 df, .int .i64 ds, .int .i64 dl, .int .i64 dp, .slice ra rn rc] 28)).alloc (.cells #[.int .i64 df, .int .i64 ds, .int .i64 dl, .int .i64 dp, .slice sa rn sc] 28)) (w.heap.size + 1) [.int .i64 df, .int .i64 ds, .int .i64 dl, .int .i64 dp, .slice sa rn sc] 28) := by
    have := Blk.new (w.alloc (.cells #[.int .i64 df, .int .i64 ds, .int .i64 dl, .int .i64 dp, .slice ra rn rc] 28)) [.int .i64 df, .int .i64 ds, .int .i64 dl, .int .i64 dp, .slice sa rn sc] 28
    show Blk _ _ _ _
    simpa using this
  have HB : Hid (Below w.heap.size w ((w.alloc (.cells #[.int .i64 df, .int .i64 ds, .int .i64 dl, .int .i64 dp, .slice ra rn rc] 28)).alloc (.cells #[.int .i64 df, .int .i64 ds, .int .i64 dl, .int .i64 dp, .slice sa rn sc] 28))) := ext_alloc (ext_alloc (Below.refl _ _))
  generalize World.alloc (World.alloc w _) _ = W at HD HE HB ⊢
  have d0 := HD.out.cell 0 rfl
  have d1 := HD.out.cell 1 rfl
  have d2 := HD.out.cell 2 rfl
  have d3 := HD.out.cell 3 rfl
  have d4 := HD.out.cell 4 rfl
  have e0 := HE.out.cell 0 rfl
  have e1 := HE.out.cell 1 rfl
  have e2 := HE.out.cell 2 rfl
  have e3 := HE.out.cell 3 rfl
  have e4 := HE.out.cell 4 rfl
  clear HD HE
  as_aux_lemma =>
    go_wp2_with fail
    refine (HEQ.out _ HB.out).mono ?_
    rintro e w1 ⟨rfl, hb⟩
    have HB1 := Lib.hid (ext_trans HB.out hb)
    clear hb HB HEQ d0 d1 d2 d3 d4 e0 e1 e2 e3 e4
    go_wp2_with fail
    go_ret
    exact ⟨rfl, HB1.out⟩
end Go.Proofs.YtacekbbndamkmaaGreatDoor

set_option linter.unusedVariables false
set_option linter.unusedSimpArgs false
namespace Go.Proofs.YtacekbbndamkmaaGreatDoor
open Go.RowKit

theorem equal_none (w : World) (a a2 : Option Addr) (c c2 : Nat) : Calls Tryz.prog 13 #[.slice a 0 c, .slice a2 0 c2] w fun e w' => e = .returned (.bool true) ∧ Below w.heap.size w w' := by
  go_enter Tryz.func13, Tryz.ntmps13
  go_wp2_with fail
  go_loopw [13] (fun i wr => i = .int .i64 0 ∧ Hid (Below w.heap.size w wr)) (fun _ _ => 0)
  case atStart => exact ⟨rfl, (by (try show Below _ _ _); repeat (with_reducible first | exact Below.refl _ _ | assumption | exact Hid.out (by assumption) | refine ext_alloc ?_ | refine ext_drewN ?_ | refine ext_drew ?_ | refine ext_setCell ?_ (Nat.le_refl _) | refine ext_setCell ?_ (Nat.le_succ _) | refine ext_trans ?_ (by assumption) | (refine ext_setCell ?_ (by simp)) | (refine ext_setCell ?_ (by simp at *; omega))))⟩
  case round =>
    obtain ⟨rfl, HB⟩ := hrel
    go_wp2_with fail
    go_ret
    exact ⟨rfl, (by (try show Below _ _ _); repeat (with_reducible first | exact Below.refl _ _ | assumption | exact Hid.out (by assumption) | refine ext_alloc ?_ | refine ext_drewN ?_ | refine ext_drew ?_ | refine ext_setCell ?_ (Nat.le_refl _) | refine ext_setCell ?_ (Nat.le_succ _) | refine ext_trans ?_ (by assumption) | (refine ext_setCell ?_ (by simp)) | (refine ext_setCell ?_ (by simp at *; omega))))⟩
theorem equal_words {w : World} {base base2 : Nat} {v v2 : Value} {n n2 : Nat} {xs ys : List (List UInt8)} (h : w.ownsRow base 9 1 v n (xs.map encS)) (h2 : w.ownsRow base2 9 1 v2 n2 (ys.map encS)) (he : xs = ys) (hn : n ≤ 100000) :
    Calls Tryz.prog 13 #[v, v2] w fun e w' => e = .returned (.bool true) ∧ Below w.heap.size w w' := by
  subst he
  have hl : xs.length = n := by have := h.1; simpa using this
  have hl2 : xs.length = n2 := by have := h2.1; simpa using this
  subst hl
  subst hl2
  by_cases h0 : xs.length = 0
  · obtain ⟨a, c, rfl⟩ := own_shape h
    obtain ⟨a2, c2, rfl⟩ := own_shape h2
    rw [h0]
    exact equal_none w a a2 c c2
  · obtain ⟨m, hm⟩ : ∃ m, xs.length = m + 1 := ⟨xs.length - 1, by omega⟩
    rw [hm] at h h2 hn
    obtain ⟨g, c, rfl, _, _⟩ := own_row1 h
    obtain ⟨g2, c2, rfl, _, _⟩ := own_row1 h2
    refine (Tryz.slices_eqS g 0 (m + 1) c g2 0 (m + 1) c2 (xs.map fun x => ⟨x.toArray⟩) (xs.map fun x => ⟨x.toArray⟩) w (by simp; omega) (by simp; omega) (by omega) (by omega) (fun j hj => ?_) (fun j hj => ?_)).mono ?_
    · have hj' : j < xs.length := by simpa using hj
      rw [Nat.zero_add, h.cellAt j (by omega)]
      simp [encS, hj']
    · have hj' : j < xs.length := by simpa using hj
      rw [Nat.zero_add, h2.cellAt j (by omega)]
      simp [encS, hj']
    · rintro e w' ⟨rfl, q, rfl⟩
      exact ⟨by simp, ext_drewN (Below.refl _ _)⟩
end Go.Proofs.YtacekbbndamkmaaGreatDoor

set_option linter.unusedVariables false
namespace Go.Proofs.YtacekbbndamkmaaGreatDoor
open Go.RowKit

theorem when_l (b : Bool) (e : Int) (w : World) : Calls Tryz.prog 16 #[.bool b, .int .i64 e] w fun r w' => r = .returned (.int .i64 (if b = true then e else 0)) ∧ w = w' := by
  cases b
  · go_enter Tryz.func16, Tryz.ntmps16
    go_wp2_with fail
    go_ret
    exact ⟨rfl, rfl⟩
  · go_enter Tryz.func16, Tryz.ntmps16
    go_wp2_with fail
    go_ret
    exact ⟨rfl, rfl⟩
end Go.Proofs.YtacekbbndamkmaaGreatDoor
