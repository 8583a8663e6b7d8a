/- What is proved here: lemmas and contracts for the statement, put together out of smaller texts (WayWalk, WayTop, LawNumbers). No condition beyond those stated. -/
import Derived.Test.YthajppcmmmkfcaaGreatDoorNrPkF
import Derived.Test.YthajppcmmmkfcaaGreatDoorNrPkD
import Derived.Test.YthajppcmmmkfcaaGreatDoorNrPkA
import Derived.Deep.DeepCutAuto
import Derived.Test.YthajppcmmmkfcaaGreatDoorNrPkH
set_option linter.unusedVariables false
set_option linter.unusedSimpArgs false
namespace Go.Proofs.YthajppcmmmkfcaaGreatDoor
open Go.RowKit

set_option maxRecDepth 100000 in
set_option maxHeartbeats 4000000 in
theorem ways_any (w : World) (a : Option Addr) (n cap : Nat) (l : List Ctry) (hr : CtryRow w a n l) (hcap : n ≤ cap) (hne : 1 ≤ n) (hna : ∀ i, i < l.length → 1 ≤ (l.getD i noCtry).an) (code0 area s : List UInt8) (ha : area.length ≤ 100) (hs : s.length ≤ 500) :
    Calls Tryz.prog 20 #[.slice a n cap, .agg #[.string ⟨code0.toArray⟩, .string ⟨area.toArray⟩], .string ⟨s.toArray⟩] w (WaysPost (waysTop l code0 area s) w) := by
  have HR := Lib.hid hr
  have HNA := Lib.hid hna
  have HDEF : Hid (waysTop l code0 area s = if planErr l ≠ 0 then (planErr l, ([] : List (List UInt8))) else match homeC l code0 area with | none => (8, []) | some c => if (splitP l s).err ≠ 0 then ((splitP l s).err, []) else (0, sortW (waysL l c area s))) := rfl
  generalize waysTop l code0 area s = R at HDEF ⊢
  obtain ⟨i0, hi, hz0, hz1, hz2⟩ := info_parts Tryz.infoStr
  clear hr hna
  go_enter Tryz.func20, Tryz.ntmps20
  go_wp2_with fail
  refine (open_any _ a n cap l (HR.out.below (ext_alloc (Below.refl _ _))) hcap hne code0 area).mono ?_
  rintro e w1 ⟨hcase, hb1⟩
  have HB1 : Hid (Below w.heap.size w w1) := ext_trans (ext_alloc (Below.refl _ _)) hb1
  have HH1 : Hid (w1.cell? ⟨w.heap.size, 0, none⟩ = some (.string ⟨code0.toArray⟩) ∧ w1.cell? ⟨w.heap.size, 1, none⟩ = some (.string ⟨area.toArray⟩)) := ⟨(hb1.cell (p := ⟨w.heap.size, 0, none⟩) (by simp)).trans (by go_simp), (hb1.cell (p := ⟨w.heap.size, 1, none⟩) (by simp)).trans (by go_simp)⟩
  have hz1' : w.heap.size < w1.heap.size := by have := hb1.size; simp at this; omega
  clear hb1
  rcases hcase with ⟨c, hpe, hhc, rfl⟩ | ⟨er, her, hcase, rfl⟩
  · have hcl := ctry_len HR.out (p := homeP code0 area) hhc
    have HIN := Lib.hid (homeIn_of hhc)
    have HPE := Lib.hid hpe
    have HD2 : Hid (R = if (splitP l s).err ≠ 0 then ((splitP l s).err, []) else (0, sortW (waysL l c area s))) := by
      show _ = _
      rw [HDEF.out, if_neg (by simp [hpe]), hhc]
    have HRE := Lib.hid (fun (W : World) (hB : Below w.heap.size w W) (d : List UInt8) (hd : d.length ≤ 1000) => reached_any W a n cap l (HR.out.below hB) hne HNA.out c hcl.1 hcl.2.1 hcl.2.2 code0 area d ha hd)
    clear HDEF hpe hhc
    generalize homeX c area = x
    obtain ⟨xp, xl, xh⟩ := x
    obtain ⟨code, abroad, trunk, aa, an, ac, areas⟩ := c
    obtain ⟨q1, q2, q3⟩ := hcl
    simp only [Ctry.cells, Area.cells] at q1 q2 q3 HRE ⊢
    as_aux_lemma =>
      go_wp2_with fail
      refine (split_any _ a n cap l (HR.out.below (by (try show Below _ _ _); repeat (with_reducible first | exact Below.refl _ _ | assumption | exact Hid.out (by assumption) | refine ext_alloc ?_ | refine ext_drewN ?_ | refine ext_drew ?_ | refine ext_setCell ?_ (Nat.le_refl _) | refine ext_setCell ?_ (Nat.le_succ _) | refine ext_trans ?_ (by assumption) | (refine ext_setCell ?_ (by simp)) | (refine ext_setCell ?_ (by simp at *; omega))))) hne HNA.out s (by omega)).mono ?_
      rintro e w5 ⟨y0, y1, y2, ya, yn, yc, y4, y5, y6, rfl, hb5⟩
      have hz5 : w1.heap.size < w5.heap.size := by have := hb5.size; simp at this; omega
      have HB5 : Hid (Below w.heap.size w w5) := ext_trans (by (try show Below _ _ _); repeat (with_reducible first | exact Below.refl _ _ | assumption | exact Hid.out (by assumption) | refine ext_alloc ?_ | refine ext_drewN ?_ | refine ext_drew ?_ | refine ext_setCell ?_ (Nat.le_refl _) | refine ext_setCell ?_ (Nat.le_succ _) | refine ext_trans ?_ (by assumption) | (refine ext_setCell ?_ (by simp)) | (refine ext_setCell ?_ (by simp at *; omega)))) hb5
      have HC5 : Hid ((w5.cell? ⟨w.heap.size, 0, none⟩ = some (.string ⟨code0.toArray⟩) ∧ w5.cell? ⟨w.heap.size, 1, none⟩ = some (.string ⟨area.toArray⟩)) ∧ w5.cell? ⟨w1.heap.size, 0, none⟩ = some (.string ⟨code.toArray⟩) ∧ w5.cell? ⟨w1.heap.size, 1, none⟩ = some (.string ⟨abroad.toArray⟩) ∧ w5.cell? ⟨w1.heap.size, 2, none⟩ = some (.string ⟨trunk.toArray⟩) ∧ w5.cell? ⟨w1.heap.size, 3, none⟩ = some (.slice aa an ac)) := by
        obtain ⟨p0, p1⟩ := HH1.out
        exact ⟨⟨(hb5.cell (p := ⟨w.heap.size, 0, none⟩) (by simp; omega)).trans (by go_simp), (hb5.cell (p := ⟨w.heap.size, 1, none⟩) (by simp; omega)).trans (by go_simp)⟩, (hb5.cell (p := ⟨w1.heap.size, 0, none⟩) (by simp; omega)).trans (by go_simp), (hb5.cell (p := ⟨w1.heap.size, 1, none⟩) (by simp; omega)).trans (by go_simp), (hb5.cell (p := ⟨w1.heap.size, 2, none⟩) (by simp; omega)).trans (by go_simp), (hb5.cell (p := ⟨w1.heap.size, 3, none⟩) (by simp; omega)).trans (by go_simp)⟩
      obtain ⟨z1, z2, z3⟩ := spl_len HR.out s
      clear hb5
      have HXE : Hid (∀ X, splitP l s = X → splitP l s = X) := fun X h => h
      generalize hX : splitP l s = X at z1 z2 z3 ⊢
      have HX := Lib.hid (HXE.out X hX)
      rw [hX] at HD2
      obtain ⟨er, x1, x2, x3⟩ := X
      clear hX HXE
      simp only at HD2 z1 z2 z3 ⊢
      by_cases he : er = 0
      · subst he
        have hex : ∃ m, s = 43 :: m := by
          obtain ⟨i, j, so⟩ := split_ok (by rw [HX.out] : (splitP l s).err = 0)
          exact ⟨_, so.form⟩
        obtain ⟨m, rfl⟩ := hex
        as_aux_lemma =>
          go_upto_region 7 with (fail)
          have HB6 : Hid (Below w.heap.size w (w5.alloc (.cells #[.string ⟨x1.toArray⟩, .string ⟨x2.toArray⟩, .string ⟨x3.toArray⟩, .string y0, .string y1, .string y2, .slice ya yn yc, .string y4, .int .i64 y5, .int .i64 y6] 97))) := ext_alloc HB5.out
          have HCELL : Hid (∀ W, Below (w5.alloc (.cells #[.string ⟨x1.toArray⟩, .string ⟨x2.toArray⟩, .string ⟨x3.toArray⟩, .string y0, .string y1, .string y2, .slice ya yn yc, .string y4, .int .i64 y5, .int .i64 y6] 97)).heap.size (w5.alloc (.cells #[.string ⟨x1.toArray⟩, .string ⟨x2.toArray⟩, .string ⟨x3.toArray⟩, .string y0, .string y1, .string y2, .slice ya yn yc, .string y4, .int .i64 y5, .int .i64 y6] 97)) W →
              ((W.cell? ⟨w.heap.size, 0, none⟩ = some (.string ⟨code0.toArray⟩) ∧ W.cell? ⟨w.heap.size, 1, none⟩ = some (.string ⟨area.toArray⟩)) ∧ (W.cell? ⟨w1.heap.size, 0, none⟩ = some (.string ⟨code.toArray⟩) ∧ W.cell? ⟨w1.heap.size, 1, none⟩ = some (.string ⟨abroad.toArray⟩) ∧ W.cell? ⟨w1.heap.size, 2, none⟩ = some (.string ⟨trunk.toArray⟩) ∧ W.cell? ⟨w1.heap.size, 3, none⟩ = some (.slice aa an ac)) ∧ W.cell? ⟨w5.heap.size, 0, none⟩ = some (.string ⟨x1.toArray⟩) ∧ W.cell? ⟨w5.heap.size, 1, none⟩ = some (.string ⟨x2.toArray⟩) ∧ W.cell? ⟨w5.heap.size, 2, none⟩ = some (.string ⟨x3.toArray⟩)) ∧ w5.heap.size < W.heap.size) := fun W hb => by
            obtain ⟨⟨p0, p1⟩, p2, p3, p4, p5⟩ := HC5.out
            have hz := hb.size
            simp at hz
            have hw1 : w.heap.size < w5.heap.size := by omega
            exact ⟨⟨⟨(hb.cell (p := ⟨w.heap.size, 0, none⟩) (by simp; omega)).trans (by go_simp), (hb.cell (p := ⟨w.heap.size, 1, none⟩) (by simp; omega)).trans (by go_simp)⟩, ⟨(hb.cell (p := ⟨w1.heap.size, 0, none⟩) (by simp; omega)).trans (by go_simp), (hb.cell (p := ⟨w1.heap.size, 1, none⟩) (by simp; omega)).trans (by go_simp), (hb.cell (p := ⟨w1.heap.size, 2, none⟩) (by simp; omega)).trans (by go_simp), (hb.cell (p := ⟨w1.heap.size, 3, none⟩) (by simp; omega)).trans (by go_simp)⟩, (hb.cell (p := ⟨w5.heap.size, 0, none⟩) (by simp)).trans (by go_simp), (hb.cell (p := ⟨w5.heap.size, 1, none⟩) (by simp)).trans (by go_simp), (hb.cell (p := ⟨w5.heap.size, 2, none⟩) (by simp)).trans (by go_simp)⟩, by omega⟩
          generalize (World.alloc w5 _) = W6 at HB6 HCELL ⊢
          generalize w5.heap.size = D at HCELL hz5 ⊢
          generalize w1.heap.size = G at HCELL hz5 hz1' ⊢
          have HZW := Lib.hid hz1'
          have HZD := Lib.hid hz5
          clear hz1' hz5 HC5 HB5 HB1 HH1
          have HWL : Hid (waysL l ⟨code, abroad, trunk, aa, an, ac, areas⟩ area (43 :: m) = (triesL l ⟨code, abroad, trunk, aa, an, ac, areas⟩ area (43 :: m)).foldl (stepW l ⟨code, abroad, trunk, aa, an, ac, areas⟩ area (43 :: m)) []) := (tries_fold HPE.out HIN.out (by rw [HX.out])).symm
          have HTR : Hid (triesL l ⟨code, abroad, trunk, aa, an, ac, areas⟩ area (43 :: m) = (abroad ++ m) :: (if x1 = code then (trunk ++ (x2 ++ x3)) :: (if area = x2 ∧ trunk ≠ [] then [x3] else []) else [])) := by
            show _ = _
            unfold triesL
            rw [HX.out]
            rfl
          have HD3 : Hid (R = (0, sortW (waysL l ⟨code, abroad, trunk, aa, an, ac, areas⟩ area (43 :: m)))) := by show _ = _; rw [HD2.out, if_neg (by simp)]
          clear HD2
          have hml : m.length ≤ 500 := by simp at hs; omega
          generalize triesL l ⟨code, abroad, trunk, aa, an, ac, areas⟩ area (43 :: m) = T at HWL HTR
          have hext : ((⟨(43 :: m).toArray⟩ : ByteArray)).extract 1 (m.length + 1) = ⟨m.toArray⟩ := (extract_drop (43 :: m) 1)
          have HEXT := Lib.hid hext
          clear hext
          have hS0 : (fun W => W.cell? ⟨G, 1, none⟩ = some (.string ⟨abroad.toArray⟩)) W6.drew := (HCELL.out _ (ext_drew (Below.refl _ _))).1.2.1.2.1
          have HS0 := Lib.hid hS0
          clear hS0
          refine region_seqI (S := fun W => W.cell? ⟨G, 1, none⟩ = some (.string ⟨abroad.toArray⟩)) [(true, 0), (true, 1), (true, 2), (true, 3), (true, 4), (false, 5), (true, 6)] (by kernel_rfl) (by kernel_rfl) rfl (by kernel_rfl) HS0.out ?_
          simp only [seqOps, List.getD_cons_zero, List.getD_cons_succ]
          refine seqI_take (v := .pointer (some ⟨G, 1, none⟩)) rfl (fun W hW => by go_simp) (fun _ _ _ h => h) ?_
          simp only [Act.put, List.setIfInBounds_toArray, List.set_cons_zero, List.set_cons_succ]
          refine seqI_take (v := .string ⟨abroad.toArray⟩) rfl (fun W hW => by go_simp) (fun _ _ _ h => h) ?_
          simp only [Act.put, List.setIfInBounds_toArray, List.set_cons_zero, List.set_cons_succ]
          refine seqI_take (v := .string ⟨(43 :: m).toArray⟩) rfl (fun W hW => by go_simp) (fun _ _ _ h => h) ?_
          simp only [Act.put, List.setIfInBounds_toArray, List.set_cons_zero, List.set_cons_succ]
          refine seqI_take (v := .string ⟨m.toArray⟩) rfl (fun W hW => by rw [← HEXT.out]; go_simp <;> (intro h; omega)) (fun _ _ _ h => h) ?_
          simp only [Act.put, List.setIfInBounds_toArray, List.set_cons_zero, List.set_cons_succ]
          refine seqI_take (v := .string ⟨(abroad ++ m).toArray⟩) rfl (fun W hW => by rw [← cat_str abroad m]; go_simp <;> omega) (fun _ _ _ h => h) ?_
          simp only [Act.put, List.setIfInBounds_toArray, List.set_cons_zero, List.set_cons_succ]
          refine seqI_do rfl (wp_made (v := .slice (some ⟨W6.heap.size, 0, none⟩) 1 1) (w' := W6.drew.alloc (.cells #[.string ⟨(abroad ++ m).toArray⟩] 9)) (by go_simp) ⟨?_, ?_⟩)
          · have := HS0.out
            have hG := HCELL.out _ (ext_drew (Below.refl _ _))
            exact (HCELL.out _ (ext_alloc (ext_drew (Below.refl _ _)))).1.2.1.2.1
          simp only [Act.put, List.setIfInBounds_toArray, List.set_cons_zero, List.set_cons_succ]
          refine seqI_take (v := .slice (some ⟨W6.heap.size, 0, none⟩) 1 1) rfl (fun W hW => by go_simp) (fun _ _ _ h => h) ?_
          simp only [Act.put, List.setIfInBounds_toArray, List.set_cons_zero, List.set_cons_succ]
          refine seqI_nil ?_
          have HO1 : Hid ((W6.drew.alloc (.cells #[.string ⟨(abroad ++ m).toArray⟩] 9)).ownsRow W6.heap.size 9 1 (.slice (some ⟨W6.heap.size, 0, none⟩) 1 1) 1 ([abroad ++ m].map encS)) := own_lit1 W6.drew (abroad ++ m) W6.heap.size (Nat.le_refl _)
          have HB7 : Hid (Below W6.heap.size W6 (W6.drew.alloc (.cells #[.string ⟨(abroad ++ m).toArray⟩] 9))) := ext_alloc (ext_drew (Below.refl _ _))
          generalize (World.alloc W6.drew _) = W7 at HO1 HB7 ⊢
          clear HS0
          as_aux_lemma =>
            obtain ⟨⟨⟨p0, p1⟩, ⟨p2, p3, p4, p5⟩, p6, p7, p8⟩, hDW⟩ := HCELL.out _ HB7.out
            go_upto_if 48 with (fail)
            go_cut [12] (fun v wx => Hid (wx.ownsRow W6.heap.size 9 1 v T.length (T.map encS)) ∧ Hid (Below W6.heap.size W6 wx))
            case first =>
              by_cases hco : x1 = code
              · have hcc : (x1 == code) = true := by simpa using hco
                rw [hcc]
                clear hcc
                have HRW : Hid (∀ b, (Value.slice (some ⟨W6.heap.size, 0, none⟩) 1 1).ownBlock = some b → W6.heap.size ≤ b) := fun b e => (HO1.out.lt b e).1
                by_cases hax : area = x2
                · have haa : (area == x2) = true := by simpa using hax
                  cases trunk with
                  | nil =>
                    have HT : Hid (T = [abroad ++ m, [] ++ (x2 ++ x3)]) := by show _ = _; rw [HTR.out, if_pos hco, if_neg (by simp)]
                    clear hax hco
                    have HOA := Lib.hid (HO1.out.alloc (.cells #[.string ((⟨([] : List UInt8).toArray⟩ ++ ⟨x2.toArray⟩ : ByteArray) ++ ⟨x3.toArray⟩)] 9))
                    have HMAP : Hid (([abroad ++ m].map encS ++ [.string ((⟨([] : List UInt8).toArray⟩ ++ ⟨x2.toArray⟩ : ByteArray) ++ ⟨x3.toArray⟩)] : List Value) = [abroad ++ m, ([] : List UInt8) ++ (x2 ++ x3)].map encS) := by
                      show _ = _
                      rw [cat_str, cat_str, List.append_assoc]
                      rfl
                    as_aux_lemma =>
                      go_wp2_with (at_builtin; refine wpList_append_own _ rfl (.tmp 49) (.tmp 60) 46 rfl W6.heap.size 9 i0 (.string ⟨#[]⟩) 1 16 Tryz.underlying46 hi hz0 hz1 hz2 rfl (by decide) _ 1 _ rfl HOA.out ⟨W7.heap.size, 0, none⟩ 1 1 [.string ((⟨([] : List UInt8).toArray⟩ ++ ⟨x2.toArray⟩ : ByteArray) ++ ⟨x3.toArray⟩)] rfl rfl (news_one (by go_simp)) (by simp [Value.oneCell']) (by simp only [maxLen]; omega) (by omega) (by have := HB7.out.size; simp; omega) ?_; intro v6 w6 hown6 hgr6 _; have HUP : Hid (Below W6.heap.size W7 w6) := upto_grown hgr6 HB7.out.size HRW.out; have HB8 := Lib.hid (HB7.out.trans HUP.out); have HO2 : Hid (w6.ownsRow W6.heap.size 9 1 v6 2 ([abroad ++ m, ([] : List UInt8) ++ (x2 ++ x3)].map encS)) := (by rw [HMAP.out] at hown6; exact hown6); have HRW2 : Hid (∀ b, v6.ownBlock = some b → W6.heap.size ≤ b) := (fun b e => (HO2.out.lt b e).1); clear hown6 hgr6 HUP p0 p1 p2 p3 p4 p5 p6 p7 p8 hDW; obtain ⟨⟨⟨p0, p1⟩, ⟨p2, p3, p4, p5⟩, p6, p7, p8⟩, hDW⟩ := HCELL.out w6 HB8.out)
                      go_meet
                      exact ⟨by rw [HT.out]; exact HO2.out, HB8⟩
                  | cons t0 tr =>
                    have q3' : tr.length + 1 ≤ 100 := by simpa using q3
                    have HT : Hid (T = [abroad ++ m, (t0 :: tr) ++ (x2 ++ x3), x3]) := by show _ = _; rw [HTR.out, if_pos hco, if_pos ⟨hax, by simp⟩]
                    clear hax hco
                    have HOA := Lib.hid (HO1.out.alloc (.cells #[.string ((⟨(t0 :: tr).toArray⟩ ++ ⟨x2.toArray⟩ : ByteArray) ++ ⟨x3.toArray⟩)] 9))
                    have HMAP : Hid (([abroad ++ m].map encS ++ [.string ((⟨(t0 :: tr).toArray⟩ ++ ⟨x2.toArray⟩ : ByteArray) ++ ⟨x3.toArray⟩)] : List Value) = [abroad ++ m, (t0 :: tr) ++ (x2 ++ x3)].map encS) := by
                      show _ = _
                      rw [cat_str, cat_str, List.append_assoc]
                      rfl
                    as_aux_lemma =>
                      go_wp2_with (first | (at_builtin; refine wpList_append_own _ rfl (.tmp 49) (.tmp 60) 46 rfl W6.heap.size 9 i0 (.string ⟨#[]⟩) 1 16 Tryz.underlying46 hi hz0 hz1 hz2 rfl (by decide) _ 1 _ rfl HOA.out ⟨W7.heap.size, 0, none⟩ 1 1 [.string ((⟨(t0 :: tr).toArray⟩ ++ ⟨x2.toArray⟩ : ByteArray) ++ ⟨x3.toArray⟩)] rfl rfl (news_one (by go_simp)) (by simp [Value.oneCell']) (by simp only [maxLen]; omega) (by omega) (by have := HB7.out.size; simp; omega) ?_; intro v6 w6 hown6 hgr6 _; have HUP : Hid (Below W6.heap.size W7 w6) := upto_grown hgr6 HB7.out.size HRW.out; have HB8 := Lib.hid (HB7.out.trans HUP.out); have HO2 : Hid (w6.ownsRow W6.heap.size 9 1 v6 2 ([abroad ++ m, (t0 :: tr) ++ (x2 ++ x3)].map encS)) := (by rw [HMAP.out] at hown6; exact hown6); have HRW2 : Hid (∀ b, v6.ownBlock = some b → W6.heap.size ≤ b) := (fun b e => (HO2.out.lt b e).1); clear hown6 hgr6 HUP p0 p1 p2 p3 p4 p5 p6 p7 p8 hDW; obtain ⟨⟨⟨p0, p1⟩, ⟨p2, p3, p4, p5⟩, p6, p7, p8⟩, hDW⟩ := HCELL.out w6 HB8.out) | (at_builtin; refine wpList_append_own _ rfl (.tmp 73) (.tmp 77) 46 rfl W6.heap.size 9 i0 (.string ⟨#[]⟩) 1 16 Tryz.underlying46 hi hz0 hz1 hz2 rfl (by decide) _ 2 _ rfl (HO2.out.alloc (.cells #[.string ⟨x3.toArray⟩] 9)) ⟨w6.heap.size, 0, none⟩ 1 1 [.string ⟨x3.toArray⟩] rfl rfl (news_one (by go_simp)) (by simp [Value.oneCell']) (by simp only [maxLen]; omega) (by omega) (by have := HB8.out.size; simp; omega) ?_; intro v9 w9 hown9 hgr9 _; have HUP : Hid (Below W6.heap.size w6 w9) := upto_grown hgr9 HB8.out.size HRW2.out; have HB9 := Lib.hid (HB8.out.trans HUP.out); have HO3 : Hid (w9.ownsRow W6.heap.size 9 1 v9 3 ([abroad ++ m, (t0 :: tr) ++ (x2 ++ x3), x3].map encS)) := hown9; clear hown9 hgr9 HUP))
                      go_meet
                      exact ⟨by rw [HT.out]; exact HO3.out, HB9⟩
                · have hax2 : (area == x2) = false := by simpa using hax
                  have HT : Hid (T = [abroad ++ m, trunk ++ (x2 ++ x3)]) := by show _ = _; rw [HTR.out, if_pos hco, if_neg (fun h => hax h.1)]
                  clear hax hco
                  have HOA := Lib.hid (HO1.out.alloc (.cells #[.string ((⟨trunk.toArray⟩ ++ ⟨x2.toArray⟩ : ByteArray) ++ ⟨x3.toArray⟩)] 9))
                  have HMAP : Hid (([abroad ++ m].map encS ++ [.string ((⟨trunk.toArray⟩ ++ ⟨x2.toArray⟩ : ByteArray) ++ ⟨x3.toArray⟩)] : List Value) = [abroad ++ m, trunk ++ (x2 ++ x3)].map encS) := by
                    show _ = _
                    rw [cat_str, cat_str, List.append_assoc]
                    rfl
                  as_aux_lemma =>
                    go_wp2_with (at_builtin; refine wpList_append_own _ rfl (.tmp 49) (.tmp 60) 46 rfl W6.heap.size 9 i0 (.string ⟨#[]⟩) 1 16 Tryz.underlying46 hi hz0 hz1 hz2 rfl (by decide) _ 1 _ rfl HOA.out ⟨W7.heap.size, 0, none⟩ 1 1 [.string ((⟨trunk.toArray⟩ ++ ⟨x2.toArray⟩ : ByteArray) ++ ⟨x3.toArray⟩)] rfl rfl (news_one (by go_simp)) (by simp [Value.oneCell']) (by simp only [maxLen]; omega) (by omega) (by have := HB7.out.size; simp; omega) ?_; intro v6 w6 hown6 hgr6 _; have HUP : Hid (Below W6.heap.size W7 w6) := upto_grown hgr6 HB7.out.size HRW.out; have HB8 := Lib.hid (HB7.out.trans HUP.out); have HO2 : Hid (w6.ownsRow W6.heap.size 9 1 v6 2 ([abroad ++ m, trunk ++ (x2 ++ x3)].map encS)) := (by rw [HMAP.out] at hown6; exact hown6); have HRW2 : Hid (∀ b, v6.ownBlock = some b → W6.heap.size ≤ b) := (fun b e => (HO2.out.lt b e).1); clear hown6 hgr6 HUP p0 p1 p2 p3 p4 p5 p6 p7 p8 hDW; obtain ⟨⟨⟨p0, p1⟩, ⟨p2, p3, p4, p5⟩, p6, p7, p8⟩, hDW⟩ := HCELL.out w6 HB8.out)
                    go_meet
                    exact ⟨by rw [HT.out]; exact HO2.out, HB8⟩
              · have hne1 : (x1 == code) = false := by simpa using hco
                have HT : Hid (T = [abroad ++ m]) := by show _ = _; rw [HTR.out, if_neg hco]
                rw [hne1]
                clear hne1 hco
                as_aux_lemma =>
                  go_wp2_with fail
                  go_meet
                  exact ⟨by rw [HT.out]; exact HO1.out, HB7⟩
            case rest =>
              obtain ⟨HO, HBT⟩ := hcut
              have hT3 : T.length ≤ 3 := by
                rw [HTR.out]
                split
                · split <;> simp
                · simp
              have HTL : Hid (∀ j, (T.getD j []).length ≤ 1000) := fun j => by
                have hall : ∀ x ∈ T, x.length ≤ 1000 := by
                  rw [HTR.out]
                  intro x hx
                  rcases List.mem_cons.1 hx with rfl | hx
                  · rw [List.length_append]; omega
                  · split at hx
                    · rcases List.mem_cons.1 hx with rfl | hx
                      · simp only [List.length_append]; simp only [List.length_cons] at z3; omega
                      · split at hx
                        · rcases List.mem_cons.1 hx with rfl | hx
                          · simp only [List.length_cons] at z3; omega
                          · cases hx
                        · cases hx
                    · cases hx
                rcases Nat.lt_or_ge j T.length with h | h
                · rw [show T.getD j [] = T[j] by simp [h]]; exact hall _ (List.getElem_mem h)
                · simp [List.getElem?_eq_none h]
              have hT1 : ∃ N, T.length = N + 1 := ⟨T.length - 1, by rw [HTR.out]; simp⟩
              obtain ⟨N, hN⟩ := hT1
              rw [hN] at HO hT3
              obtain ⟨g, cg, rfl, hg1, hg2⟩ := own_row1 HO.out
              have HN := Lib.hid hN
              have HCT : Hid (∀ W, Below wc.heap.size wc W → ∀ k, k < N + 1 → W.cell? ⟨g, k, none⟩ = some (.string ⟨(T.getD k []).toArray⟩)) := fun W hW k hk => by
                rw [hW.cell (p := ⟨g, k, none⟩) hg2, HO.out.cellAt k (by omega)]
                have : k < T.length := by rw [HN.out]; exact hk
                simp [encS, this]
              have HGL := Lib.hid hg2
              clear hg1 hg2 hN HO1 HB7 HTR z3
              clear p0 p1 p2 p3 p4 p5 p6 p7 p8 hDW
              as_aux_lemma =>
                go_wp2_with fail
                go_loopw [13, 81] (fun v i wr => ∃ (k : Nat) (out : List (List UInt8)), k ≤ N + 1 ∧ i = .int .i64 k ∧ out.length ≤ k ∧ Hid (out = (T.take k).foldl (stepW l ⟨code, abroad, trunk, aa, an, ac, areas⟩ area (43 :: m)) []) ∧ Hid (wr.ownsRow wc.heap.size 9 1 v out.length (out.map encS)) ∧ Hid (Below wc.heap.size wc wr)) (fun _ i _ => N + 1 - (intOf i).toNat)
                case atStart => exact ⟨0, [], Nat.zero_le _, rfl, Nat.le_refl _, rfl, World.ownsRow_nil _ _ _ _, Below.refl _ _⟩
                case round =>
                  obtain ⟨k, out, hk, rfl, hol, HG, HOU, HB⟩ := hrel
                  by_cases hlt : k < N + 1
                  · have ck := HCT.out wr HB.out k hlt
                    have HSL := Lib.hid (HTL.out k)
                    have HTK : Hid (T.take (k + 1) = T.take k ++ [T.getD k []]) := by
                      show _ = _
                      have : k < T.length := by rw [HN.out]; exact hlt
                      rw [List.take_add_one]
                      simp [this]
                    generalize T.getD k [] = d at ck HSL HTK
                    have hgw : g < wr.heap.size := Nat.lt_of_lt_of_le HGL.out HB.out.size
                    have HBW : Hid (Below W6.heap.size W6 wr) := HBT.out.trans (HB.out.mono HBT.out.size)
                    obtain ⟨⟨⟨p0, p1⟩, ⟨p2, p3, p4, p5⟩, p6, p7, p8⟩, hDW⟩ := HCELL.out _ HBW.out
                    have hG8 : G < wr.heap.size := by have := HZD.out; omega
                    have hW8 : w.heap.size < wr.heap.size := by have := HZW.out; omega
                    as_aux_lemma =>
                      go_wp2_with fail
                      refine (HRE.out wr (HB6.out.trans (HBW.out.mono HB6.out.size)) d HSL.out).mono ?_
                      rintro e w8 ⟨rfl, hb8⟩
                      have HBL : Hid (Below wr.heap.size wr w8) := hb8
                      clear hb8 p0 p1 p2 p3 p4 p5 p6 p7 p8 hDW ck
                      have HSTEP : Hid (stepW l ⟨code, abroad, trunk, aa, an, ac, areas⟩ area (43 :: m) out d = if reachP l ⟨code, abroad, trunk, aa, an, ac, areas⟩ area d = (0, 43 :: m) ∧ d ∉ out then out ++ [d] else out) := rfl
                      generalize reachP l ⟨code, abroad, trunk, aa, an, ac, areas⟩ area d = rr at HSTEP ⊢
                      obtain ⟨er, y⟩ := rr
                      simp only
                      have HOW : Hid (w8.ownsRow wc.heap.size 9 1 u13 out.length (out.map encS)) := own_keep HOU.out HBL.out
                      have HB8 : Hid (Below wc.heap.size wc w8) := HB.out.trans (HBL.out.mono HB.out.size)
                      have HFOLD : Hid ((T.take (k + 1)).foldl (stepW l ⟨code, abroad, trunk, aa, an, ac, areas⟩ area (43 :: m)) [] = stepW l ⟨code, abroad, trunk, aa, an, ac, areas⟩ area (43 :: m) out d) := by
                        show _ = _
                        rw [HTK.out, List.foldl_append, ← HG.out]
                        rfl
                      clear HTK HG HBW
                      have HSAME : ¬ ((er, y) = ((0 : Int), 43 :: m) ∧ d ∉ out) → out = (T.take (k + 1)).foldl (stepW l ⟨code, abroad, trunk, aa, an, ac, areas⟩ area (43 :: m)) [] := fun h => by rw [HFOLD.out, HSTEP.out, if_neg h]
                      have HSM := Lib.hid HSAME
                      clear HSAME
                      by_cases her : er = 0
                      · subst her
                        by_cases hy : y = 43 :: m
                        · subst hy
                          have HCON := Lib.hid (contains_own HOW.out (by omega) d)
                          by_cases hin : d ∈ out
                          · have HSM2 := Lib.hid (HSM.out (fun h => h.2 hin))
                            rw [decide_eq_true hin] at HCON
                            clear hin
                            as_aux_lemma =>
                              go_wp2_with fail
                              refine HCON.out.mono ?_
                              rintro e w9 ⟨rfl, rfl⟩
                              go_wp2_with fail
                              go_roundw
                              case rel => exact ⟨k + 1, out, by omega, by go_num, by omega, HSM2.out, HOW, HB8⟩
                              case measure => simp [intOf]; omega
                          · have HAD : Hid (out ++ [d] = (T.take (k + 1)).foldl (stepW l ⟨code, abroad, trunk, aa, an, ac, areas⟩ area (43 :: m)) []) := by
                              show _ = _
                              rw [HFOLD.out, HSTEP.out, if_pos ⟨rfl, hin⟩]
                            rw [decide_eq_false hin] at HCON
                            clear hin
                            have HOA := Lib.hid (HOW.out.alloc (.cells #[.string ⟨d.toArray⟩] 9))
                            have HRW8 := Lib.hid (fun b e => (HOW.out.lt b e).1)
                            as_aux_lemma =>
                              go_wp2_with fail
                              refine HCON.out.mono ?_
                              rintro e w9 ⟨rfl, rfl⟩
                              go_wp2_with (at_builtin; refine wpList_append_own _ rfl (.tmp 106) (.tmp 108) 46 rfl wc.heap.size 9 i0 (.string ⟨#[]⟩) 1 16 Tryz.underlying46 hi hz0 hz1 hz2 rfl (by decide) _ out.length _ rfl HOA.out ⟨w9.heap.size, 0, none⟩ 1 1 [.string ⟨d.toArray⟩] rfl rfl (news_one (by go_simp)) (by simp [Value.oneCell']) (by simp only [maxLen]; omega) (by omega) (by have := HB8.out.size; simp; omega) ?_; intro v6 w6 hown6 hgr6 _)
                              have HO7 : Hid (w6.ownsRow wc.heap.size 9 1 v6 (out ++ [d]).length ((out ++ [d]).map encS)) := by
                                show World.ownsRow _ _ _ _ _ _ _
                                rw [List.length_append, List.map_append]
                                exact hown6
                              have HB9 : Hid (Below wc.heap.size wc w6) := HB8.out.trans (upto_grown hgr6 HB8.out.size HRW8.out)
                              clear hown6 hgr6
                              go_roundw
                              case rel => exact ⟨k + 1, out ++ [d], by omega, by go_num, by simp; omega, HAD.out, HO7, HB9⟩
                              case measure => simp [intOf]; omega
                        · have HSM2 := Lib.hid (HSM.out (fun h => hy (by have := congrArg Prod.snd h.1; exact this)))
                          have hyb : (y == 43 :: m) = false := by simpa using hy
                          clear hy
                          as_aux_lemma =>
                            go_wp2_with fail
                            go_roundw
                            case rel => exact ⟨k + 1, out, by omega, by go_num, by omega, HSM2.out, HOW, HB8⟩
                            case measure => simp [intOf]; omega
                      · have HSM2 := Lib.hid (HSM.out (fun h => her (congrArg Prod.fst h.1)))
                        have heb : (er == 0) = false := by simpa using her
                        as_aux_lemma =>
                          go_wp2_with fail
                          go_roundw
                          case rel => exact ⟨k + 1, out, by omega, by go_num, by omega, HSM2.out, HOW, HB8⟩
                          case measure => simp [intOf]; omega
                  · obtain rfl : k = N + 1 := by omega
                    have HWY : Hid (waysL l ⟨code, abroad, trunk, aa, an, ac, areas⟩ area (43 :: m) = out) := by
                      show _ = _
                      rw [HWL.out, HG.out, List.take_of_length_le (by rw [HN.out]; exact Nat.le_refl _)]
                    have hon : ∃ q, out.length = q + 1 := by
                      refine ⟨out.length - 1, ?_⟩
                      rw [← HWY.out]
                      unfold waysL
                      simp
                    obtain ⟨q, hq⟩ := hon
                    have HQ := Lib.hid hq
                    have HO9 := HOU.out
                    rw [hq] at HO9
                    obtain ⟨g2, c2, rfl, hg3, hg4⟩ := own_row1 HO9
                    have HSRT := Lib.hid (stable_any 66 isLenCmp1 wr wc.heap.size g2 (q + 1) c2 out HO9 (by omega))
                    have HBW : Hid (Below w.heap.size w wr) := HB6.out.trans ((HBT.out.trans (HB.out.mono HBT.out.size)).mono HB6.out.size)
                    have HZC : Hid (w.heap.size ≤ wc.heap.size) := Nat.le_trans HB6.out.size HBT.out.size
                    clear HO9 hg3 hg4 HG HWL hq
                    as_aux_lemma =>
                      go_wp2_with fail
                      refine HSRT.out.mono ?_
                      rintro e w9 ⟨rfl, ho9, hb9⟩
                      have HO9 := Lib.hid ho9
                      have HF : Hid (Below w.heap.size w w9) := HBW.out.trans (hb9.mono HZC.out)
                      clear ho9 hb9
                      go_wp2_with fail
                      go_ret2
                      refine ⟨.slice (some ⟨g2, 0, none⟩) (q + 1) c2, by rw [HD3.out]; rfl, ?_, HF.out⟩
                      rw [HD3.out, HWY.out]
                      have hsl : (sortW out).length = q + 1 := by rw [sortW_len]; exact HQ.out
                      simp only
                      rw [hsl]
                      exact own_le HO9.out HZC.out
      · have HF : Hid (R = (er, [])) := by show _ = _; rw [HD2.out, if_pos he]
        as_aux_lemma =>
          go_wp2_with fail
          go_ret2
          exact ⟨.slice none 0 0, by rw [HF.out]; rfl, by rw [HF.out]; exact World.ownsRow_nil _ _ _ _, ext_alloc HB5.out⟩
  · have HF : Hid (R = (er, [])) := by
      show _ = _
      rcases hcase with h | ⟨h, rfl, h2⟩
      · rw [HDEF.out, if_pos (by rw [h]; exact her), h]
      · rw [HDEF.out, if_neg (by simp [h]), h2]
    clear HDEF hcase
    simp only [Ctry.cells, Area.cells, noCtry, noArea]
    as_aux_lemma =>
      go_wp2_with fail
      go_ret2
      exact ⟨.slice none 0 0, by rw [HF.out]; rfl, by rw [HF.out]; exact World.ownsRow_nil _ _ _ _, (by (try show Below _ _ _); repeat (with_reducible first | exact Below.refl _ _ | assumption | exact Hid.out (by assumption) | refine ext_alloc ?_ | refine ext_drewN ?_ | refine ext_drew ?_ | refine ext_setCell ?_ (Nat.le_refl _) | refine ext_setCell ?_ (Nat.le_succ _) | refine ext_trans ?_ (by assumption) | (refine ext_setCell ?_ (by simp)) | (refine ext_setCell ?_ (by simp at *; omega))))⟩
end Go.Proofs.YthajppcmmmkfcaaGreatDoor

set_option linter.unusedVariables false
set_option linter.unusedSimpArgs false
namespace Go.Proofs.YthajppcmmmkfcaaGreatDoor
open Go.RowKit

theorem own_shape {w : World} {base : Nat} {e : TypeId} {size : Nat} {v : Value} {n : Nat} {xs : List Value} (h : w.ownsRow base e size v n xs) : ∃ a c, v = .slice a n c := by
  rcases h.2 with ⟨rfl, rfl⟩ | ⟨g, cap, cur, rfl, _⟩
  · exact ⟨none, 0, rfl⟩
  · exact ⟨_, _, rfl⟩
def reachTop (l : List Ctry) (code area d : List UInt8) : Int × List UInt8 :=
  if planErr l ≠ 0 then (planErr l, []) else match homeC l code area with
    | none => (8, [])
    | some c => reachP l c area d

set_option maxRecDepth 100000 in
set_option maxHeartbeats 4000000 in
theorem reachTop_any (w : World) (a : Option Addr) (n cap : Nat) (l : List Ctry) (hr : CtryRow w a n l) (hcap : n ≤ cap) (hne : 1 ≤ n) (hna : ∀ i, i < l.length → 1 ≤ (l.getD i noCtry).an) (code0 area s : List UInt8) (ha : area.length ≤ 100) (hs : s.length ≤ 1000) :
    Calls Tryz.prog 19 #[.slice a n cap, .agg #[.string ⟨code0.toArray⟩, .string ⟨area.toArray⟩], .string ⟨s.toArray⟩] w (StrPost (reachTop l code0 area s) w) := by
  have HR := Lib.hid hr
  have HNA := Lib.hid hna
  have HDEF : Hid (reachTop l code0 area s = if planErr l ≠ 0 then (planErr l, ([] : List UInt8)) else match homeC l code0 area with | none => (8, []) | some c => reachP l c area s) := rfl
  generalize reachTop l code0 area s = R at HDEF ⊢
  clear hr hna
  go_enter Tryz.func19, Tryz.ntmps19
  go_wp2_with fail
  refine (open_any _ a n cap l (HR.out.below (ext_alloc (Below.refl _ _))) hcap hne code0 area).mono ?_
  rintro e w1 ⟨hcase, hb1⟩
  have HB1 : Hid (Below w.heap.size w w1) := ext_trans (ext_alloc (Below.refl _ _)) hb1
  have h0 : w1.cell? ⟨w.heap.size, 0, none⟩ = some (.string ⟨code0.toArray⟩) := (hb1.cell (p := ⟨w.heap.size, 0, none⟩) (by simp)).trans (by go_simp)
  have h1 : w1.cell? ⟨w.heap.size, 1, none⟩ = some (.string ⟨area.toArray⟩) := (hb1.cell (p := ⟨w.heap.size, 1, none⟩) (by simp)).trans (by go_simp)
  have hz1' : w.heap.size < w1.heap.size := by have := hb1.size; simp at this; omega
  clear hb1
  rcases hcase with ⟨c, hpe, hhc, rfl⟩ | ⟨er, her, hcase, rfl⟩
  · have hcl := ctry_len HR.out (p := homeP code0 area) hhc
    have HD2 : Hid (reachP l c area s = R) := by
      show _ = _
      rw [HDEF.out, if_neg (by simp [hpe]), hhc]
    have HRE := Lib.hid (fun (W : World) (hB : Below w.heap.size w W) => reached_any W a n cap l (HR.out.below hB) hne HNA.out c hcl.1 hcl.2.1 hcl.2.2 code0 area s ha hs)
    rw [HD2.out] at HRE
    clear HDEF hpe hhc HD2
    generalize homeX c area = x
    obtain ⟨xp, xl, xh⟩ := x
    obtain ⟨code, abroad, trunk, aa, an, ac, areas⟩ := c
    simp only [Ctry.cells, Area.cells] at HRE ⊢
    as_aux_lemma =>
      go_wp2_with fail
      refine (HRE.out _ (by (try show Below _ _ _); repeat (with_reducible first | exact Below.refl _ _ | assumption | exact Hid.out (by assumption) | refine ext_alloc ?_ | refine ext_drewN ?_ | refine ext_drew ?_ | refine ext_setCell ?_ (Nat.le_refl _) | refine ext_setCell ?_ (Nat.le_succ _) | refine ext_trans ?_ (by assumption) | (refine ext_setCell ?_ (by simp)) | (refine ext_setCell ?_ (by simp at *; omega))))).mono ?_
      rintro e w5 ⟨rfl, hb5⟩
      have HB5 : Hid (Below w.heap.size w w5) := ext_trans (by (try show Below _ _ _); repeat (with_reducible first | exact Below.refl _ _ | assumption | exact Hid.out (by assumption) | refine ext_alloc ?_ | refine ext_drewN ?_ | refine ext_drew ?_ | refine ext_setCell ?_ (Nat.le_refl _) | refine ext_setCell ?_ (Nat.le_succ _) | refine ext_trans ?_ (by assumption) | (refine ext_setCell ?_ (by simp)) | (refine ext_setCell ?_ (by simp at *; omega)))) hb5
      clear hb5
      go_wp2_with fail
      go_ret2
      exact ⟨rfl, HB5.out⟩
  · have HF : Hid (R = (er, [])) := by
      show _ = _
      rcases hcase with h | ⟨h, rfl, h2⟩
      · rw [HDEF.out, if_pos (by rw [h]; exact her), h]
      · rw [HDEF.out, if_neg (by simp [h]), h2]
    clear HDEF hcase
    simp only [Ctry.cells, Area.cells, noCtry, noArea]
    as_aux_lemma =>
      go_wp2_with fail
      go_ret2
      exact ⟨by rw [HF.out]; rfl, (by (try show Below _ _ _); repeat (with_reducible first | exact Below.refl _ _ | assumption | exact Hid.out (by assumption) | refine ext_alloc ?_ | refine ext_drewN ?_ | refine ext_drew ?_ | refine ext_setCell ?_ (Nat.le_refl _) | refine ext_setCell ?_ (Nat.le_succ _) | refine ext_trans ?_ (by assumption) | (refine ext_setCell ?_ (by simp)) | (refine ext_setCell ?_ (by simp at *; omega))))⟩

def dialR (r : Int × List (List UInt8)) : Int × List UInt8 := if r.1 ≠ 0 then (r.1, []) else (0, r.2.getD 0 [])
theorem waysTop_some (l : List Ctry) (code area s : List UInt8) (h : (waysTop l code area s).1 = 0) : ∃ q, (waysTop l code area s).2.length = q + 1 := by
  unfold waysTop at h ⊢
  split at h
  · rename_i hp; exact absurd h hp
  · rename_i hp
    rw [if_neg hp]
    cases hc : homeC l code area with
    | none => rw [hc] at h; cases h
    | some c =>
      rw [hc] at h
      simp only at h ⊢
      split at h
      · rename_i he; exact absurd h he
      · rename_i he
        rw [if_neg he]
        simp only
        rw [sortW_len]
        unfold waysL
        exact ⟨_, rfl⟩
theorem waysTop_none (l : List Ctry) (code area s : List UInt8) (h : (waysTop l code area s).1 ≠ 0) : (waysTop l code area s).2 = [] := by
  unfold waysTop at h ⊢
  split
  · rfl
  · rename_i hp
    rw [if_neg hp] at h
    cases hc : homeC l code area with
    | none => rfl
    | some c =>
      rw [hc] at h
      simp only at h ⊢
      split
      · rfl
      · rename_i he
        rw [if_neg he] at h
        exact absurd rfl h

set_option maxRecDepth 100000 in
set_option maxHeartbeats 4000000 in
theorem dial_any (w : World) (a : Option Addr) (n cap : Nat) (l : List Ctry) (hr : CtryRow w a n l) (hcap : n ≤ cap) (hne : 1 ≤ n) (hna : ∀ i, i < l.length → 1 ≤ (l.getD i noCtry).an) (code0 area s : List UInt8) (ha : area.length ≤ 100) (hs : s.length ≤ 500) :
    Calls Tryz.prog 21 #[.slice a n cap, .agg #[.string ⟨code0.toArray⟩, .string ⟨area.toArray⟩], .string ⟨s.toArray⟩] w (StrPost (dialR (waysTop l code0 area s)) w) := by
  have HR := Lib.hid hr
  have HNA := Lib.hid hna
  have HWS := Lib.hid (waysTop_some l code0 area s)
  have HWN := Lib.hid (waysTop_none l code0 area s)
  have HCALL := Lib.hid (fun W hW => ways_any W a n cap l hW hcap hne hna code0 area s ha hs)
  generalize waysTop l code0 area s = R at HWS HWN HCALL ⊢
  obtain ⟨er, WL⟩ := R
  simp only at HWS HWN
  clear hr hna
  go_enter Tryz.func21, Tryz.ntmps21
  go_wp2_with fail
  refine (HCALL.out _ (HR.out.below (ext_alloc (Below.refl _ _)))).mono ?_
  rintro e w1 ⟨v, rfl, ho, hb1⟩
  have HB1 : Hid (Below w.heap.size w w1) := ext_trans (ext_alloc (Below.refl _ _)) hb1
  simp only at ho ⊢
  by_cases he : er = 0
  · subst he
    obtain ⟨q, hq⟩ := HWS.out rfl
    rw [hq] at ho
    obtain ⟨g, cg, rfl, hg1, hg2⟩ := own_row1 ho
    have ck : w1.cell? ⟨g, 0, none⟩ = some (.string ⟨(WL.getD 0 []).toArray⟩) := by
      rw [ho.cellAt 0 (by omega)]
      have : 0 < WL.length := by omega
      simp [encS, this]
    have HF : Hid (dialR (0, WL) = (0, WL.getD 0 [])) := rfl
    generalize WL.getD 0 [] = t at ck HF
    clear ho hb1 hq hg1
    as_aux_lemma =>
      go_wp2_with fail
      go_ret2
      exact ⟨by rw [HF.out]; rfl, HB1.out⟩
  · obtain ⟨av, cv, rfl⟩ := own_shape ho
    have HF : Hid (dialR (er, WL) = (er, [])) := by show _ = _; unfold dialR; rw [if_pos he]
    have heb : (er == 0) = false := by simpa using he
    clear ho hb1
    as_aux_lemma =>
      go_wp2_with fail
      go_ret2
      exact ⟨by rw [HF.out]; rfl, HB1.out⟩
end Go.Proofs.YthajppcmmmkfcaaGreatDoor

set_option linter.unusedVariables false
set_option linter.unusedSimpArgs false
namespace Go.Proofs.YthajppcmmmkfcaaGreatDoor
open Go.RowKit

theorem equal_own {w : World} {base base2 : Nat} {v v2 : Value} {n : Nat} {xs : List (List UInt8)} (h : w.ownsRow base 9 1 v (n + 1) (xs.map encS)) (h2 : w.ownsRow base2 9 1 v2 (n + 1) (xs.map encS)) (hn : n ≤ 1000) :
    Calls Tryz.prog 25 #[v, v2] w fun e w' => e = .returned (.bool true) ∧ Below w.heap.size w w' := by
  have hl : xs.length = n + 1 := by have := h.1; simpa using this
  obtain ⟨g, c, rfl, _, _⟩ := own_row1 h
  obtain ⟨g2, c2, rfl, _, _⟩ := own_row1 h2
  refine (Tryz.slices_eqS g 0 (n + 1) c g2 0 (n + 1) c2 (xs.map fun x => ⟨x.toArray⟩) (xs.map fun x => ⟨x.toArray⟩) w (by simp; omega) (by simp; omega) (by omega) (by omega) (fun j hj => ?_) (fun j hj => ?_)).mono ?_
  · have hj' : j < xs.length := by simpa using hj
    rw [Nat.zero_add, h.cellAt j (by omega)]
    simp [encS, hj']
  · have hj' : j < xs.length := by simpa using hj
    rw [Nat.zero_add, h2.cellAt j (by omega)]
    simp [encS, hj']
  · rintro e w' ⟨rfl, q, rfl⟩
    exact ⟨by simp, ext_drewN (Below.refl _ _)⟩

set_option maxRecDepth 100000 in
set_option maxHeartbeats 8000000 in
theorem numbers_true (w : World) (a : Option Addr) (len cap : Nat) (zs : List Int) (hr : ArgRow w a len cap zs) :
    Calls Tryz.prog 4 #[.slice a len cap] w fun e w' => e = .returned (.bool true) ∧ Below w.heap.size w w' := by
  have HS0 := Lib.hid (stream_start hr)
  clear hr
  go_enter Tryz.func4, Tryz.ntmps4
  go_wp2_with fail
  refine (countries_any w.heap.size 0 _ HS0.out (by omega)).mono ?_
  rintro e w1 ⟨P, l, rfl, hrow, hna, hst1, hk1⟩
  have HR := Lib.hid hrow
  have HNA := Lib.hid hna
  have HS1 := Lib.hid hst1
  have HK1 := Lib.hid hk1
  clear hrow hna hst1 hk1 HS0
  as_aux_lemma =>
    go_wp2_with fail
    refine (home_drawn w.heap.size 20 _ HS1.out (by omega)).mono ?_
    rintro e w2 ⟨code, area, rfl, hco, har, hst2, hk2⟩
    have HK2 := Lib.hid (HK1.out.trans hk2)
    have HR2 : Hid (∀ w9, Keeps w.heap.size w2 w9 → CtryRow w9 (some ⟨P, 0, none⟩) 3 l) := fun w9 h9 => HR.out w9 (hk2.trans h9)
    have HS2 := Lib.hid hst2
    clear hst2 hk2 HR HS1 HK1
    as_aux_lemma =>
      go_upto_region 3 with (fail)
      have HKB : Hid (Keeps w.heap.size w2 (w2.alloc (.cells #[.string ⟨code.toArray⟩, .string ⟨area.toArray⟩] 29))) := (Keeps.refl _ w2).alloc _
      have HSB : Hid (StreamOk (w2.alloc (.cells #[.string ⟨code.toArray⟩, .string ⟨area.toArray⟩] 29)) w.heap.size 23) := HS2.out.below (ext_alloc (Below.refl _ _))
      have hwl := HS2.out.lt
      have HC0 : Hid (∀ w9, Keeps w.heap.size (w2.alloc (.cells #[.string ⟨code.toArray⟩, .string ⟨area.toArray⟩] 29)) w9 → w9.cell? ⟨w2.heap.size, 0, none⟩ = some (.string ⟨code.toArray⟩) ∧ w9.cell? ⟨w2.heap.size, 1, none⟩ = some (.string ⟨area.toArray⟩) ∧ w2.heap.size < w9.heap.size) := fun w9 h9 => ⟨(h9.cell (p := ⟨w2.heap.size, 0, none⟩) (by simp) (by show w2.heap.size ≠ w.heap.size; omega)).trans (by go_simp), (h9.cell (p := ⟨w2.heap.size, 1, none⟩) (by simp) (by show w2.heap.size ≠ w.heap.size; omega)).trans (by go_simp), by have := h9.size; simp at this; omega⟩
      generalize World.alloc w2 _ = W0 at HKB HSB HC0 ⊢
      generalize w2.heap.size = D at HC0 hwl ⊢
      obtain ⟨c0, c1, hz⟩ := HC0.out W0 (Keeps.refl _ _)
      as_aux_lemma =>
        go_wp2_with fail
        refine (digits_any w.heap.size 23 _ (some ⟨P, 0, none⟩) 3 3 l code area HSB.out (by omega) (fun w9 h9 => HR2.out w9 (HKB.out.trans h9)) (by omega) (by omega) HNA.out hco har).mono ?_
        rintro e w3 ⟨d, rfl, hd, hst3, hk3⟩
        have HK3 := Lib.hid hk3
        have HS3 := Lib.hid hst3
        clear hst3 hk3 c0 c1 hz HSB HS2
        as_aux_lemma =>
          go_wp2_with fail
          refine (number_any w.heap.size (23 + 5000) _ (some ⟨P, 0, none⟩) 3 3 l HS3.out (by omega) (fun w9 h9 => HR2.out w9 (HKB.out.trans (HK3.out.trans h9))) (by omega) (by omega) HNA.out).mono ?_
          rintro e w4 ⟨s, rfl, hs, hst4, hk4⟩
          have HK4 := Lib.hid (HK3.out.trans hk4)
          have HS4 := Lib.hid hst4
          clear hst4 hk4 HS3 HK3
          have HRK : Hid (∀ w9, Keeps w.heap.size w4 w9 → CtryRow w9 (some ⟨P, 0, none⟩) 3 l) := fun w9 h9 => HR2.out w9 (HKB.out.trans (HK4.out.trans h9))
          have HRW : Hid (∀ w9, Below w4.heap.size w4 w9 → CtryRow w9 (some ⟨P, 0, none⟩) 3 l) := fun w9 h9 => HRK.out w9 (Keeps.of_below h9)
          have HCW : Hid (∀ w9, Below w4.heap.size w4 w9 → w9.cell? ⟨D, 0, none⟩ = some (.string ⟨code.toArray⟩) ∧ w9.cell? ⟨D, 1, none⟩ = some (.string ⟨area.toArray⟩) ∧ D < w9.heap.size) := fun w9 h9 => HC0.out w9 (HK4.out.trans (Keeps.of_below h9))
          have HENK : Hid (∀ w9, Keeps w.heap.size w4 w9 → Below w.heap.size w w9) := fun w9 h9 => law_end (HK2.out.trans (HKB.out.trans (HK4.out.trans h9)))
          have HEND : Hid (∀ w9, Below w4.heap.size w4 w9 → Below w.heap.size w w9) := fun w9 h9 => HENK.out w9 (Keeps.of_below h9)
          have hs' : s.length ≤ 500 := by omega
          clear HC0 HKB HR2 HK2 HK4
          have HT0 : Hid (reachTop l code area d = if planErr l ≠ 0 then (planErr l, ([] : List UInt8)) else match homeC l code area with | none => (8, []) | some c => reachP l c area d) := rfl
          have HW0 : Hid (waysTop l code area s = if planErr l ≠ 0 then (planErr l, ([] : List (List UInt8))) else match homeC l code area with | none => (8, []) | some c => if (splitP l s).err ≠ 0 then ((splitP l s).err, []) else (0, sortW (waysL l c area s))) := rfl
          have HWN := Lib.hid (waysTop_none l code area s)
          have HRE := Lib.hid (fun W hW => reachTop_any W (some ⟨P, 0, none⟩) 3 3 l hW (by omega) (by omega) HNA.out code area d har hd)
          have HWA := Lib.hid (fun W hW => ways_any W (some ⟨P, 0, none⟩) 3 3 l hW (by omega) (by omega) HNA.out code area s har hs')
          have HDI := Lib.hid (fun W hW => dial_any W (some ⟨P, 0, none⟩) 3 3 l hW (by omega) (by omega) HNA.out code area s har hs')
          generalize reachTop l code area d = RT at HT0 HRE
          generalize waysTop l code area s = WT at HW0 HWN HWA HDI
          have HDR : Hid (dialR WT = if WT.1 ≠ 0 then (WT.1, []) else (0, WT.2.getD 0 [])) := rfl
          generalize dialR WT = DR at HDR HDI
          obtain ⟨e1, x1⟩ := RT
          obtain ⟨f1, WL⟩ := WT
          obtain ⟨g1, y1⟩ := DR
          simp only at HWN HDR
          obtain ⟨c0, c1, hz⟩ := HCW.out w4 (Below.refl _ _)
          as_aux_lemma =>
            go_wp2_with fail
            refine (HRE.out _ (HRW.out _ (Below.refl _ _))).mono ?_
            rintro e w5 ⟨rfl, hb5⟩
            have HB5 : Hid (Below w4.heap.size w4 w5) := hb5
            clear c0 c1 hz hb5
            obtain ⟨c0, c1, hz⟩ := HCW.out w5 HB5.out
            as_aux_lemma =>
              go_wp2_with fail
              refine (HWA.out _ (HRW.out _ HB5.out)).mono ?_
              rintro e w6 ⟨v6, rfl, ho6, hb6⟩
              have HB6 := Lib.hid (ext_trans HB5.out hb6)
              have HO6 := Lib.hid ho6
              clear c0 c1 hz hb6 ho6
              obtain ⟨c0, c1, hz⟩ := HCW.out w6 HB6.out
              as_aux_lemma =>
                go_wp2_with fail
                refine (HDI.out _ (HRW.out _ HB6.out)).mono ?_
                rintro e w7 ⟨rfl, hb7⟩
                have HB7 := Lib.hid (ext_trans HB6.out hb7)
                have HO7 := Lib.hid (own_keep HO6.out hb7)
                have HZ5 : Hid (w.heap.size < w5.heap.size) := Nat.lt_of_lt_of_le HS4.out.lt HB5.out.size
                clear c0 c1 hz hb7 HRE HWA HDI HB5 HB6 HO6
                as_aux_lemma =>
                  go_wp2_with fail
                  refine (planFault_any _ (some ⟨P, 0, none⟩) 3 3 l (HRW.out _ HB7.out) (by omega)).mono ?_
                  rintro e w9 ⟨rfl, hb9⟩
                  have HB9 := Lib.hid (ext_trans HB7.out hb9)
                  have HO9 := Lib.hid (own_keep HO7.out hb9)
                  obtain ⟨c0, c1, hz⟩ := HCW.out w9 HB9.out
                  clear hb9 HB7 HO7
                  by_cases hE : planErr l = 0
                  · have HEE := Lib.hid hE
                    rw [hE]
                    clear hE
                    as_aux_lemma =>
                      go_wp2_with fail
                      refine (homeFault_any _ (some ⟨P, 0, none⟩) 3 3 l (HRW.out _ HB9.out) (by omega) (by omega) HNA.out code area).mono ?_
                      rintro e w10 ⟨rfl, hb10⟩
                      have HB10 := Lib.hid (ext_trans HB9.out hb10)
                      have HO10 := Lib.hid (own_keep HO9.out hb10)
                      clear c0 c1 hz
                      obtain ⟨c0, c1, hz⟩ := HCW.out w10 HB10.out
                      clear hb10 HB9 HO9
                      by_cases hH : homeErr l code area = 0
                      · obtain ⟨c, hc, hfc⟩ := home_found HEE.out hH
                        have HIN := Lib.hid (homeIn_of hc)
                        have HFC := Lib.hid hfc
                        have HT1 : Hid (reachP l c area d = (e1, x1)) := by show _ = _; rw [HT0.out, if_neg (by simp [HEE.out]), hc]
                        have HW1 : Hid ((f1, WL) = if (splitP l s).err ≠ 0 then ((splitP l s).err, []) else (0, sortW (waysL l c area s))) := by show _ = _; rw [HW0.out, if_neg (by simp [HEE.out]), hc]
                        rw [hH]
                        have HFR := Lib.hid (fun W hW => reachedFrom_any W (some ⟨P, 0, none⟩) 3 3 l hW (by omega) (by omega) HEE.out c code area d hfc har hd)
                        rw [HT1.out] at HFR
                        have HSP := Lib.hid (fun W hW => splitOf_any W (some ⟨P, 0, none⟩) 3 3 l hW (by omega) s (by omega))
                        rw [split_same s HEE.out] at HSP
                        have HWF := Lib.hid (fun (hX : (splitP l s).err = 0) W hst (hkw : Keeps w.heap.size w4 W) => waysFrom_any w.heap.size (23 + 5000 + 4000) W (some ⟨P, 0, none⟩) 3 3 l hst (by omega) (fun w9 h9 => HRK.out w9 (hkw.trans h9)) (by omega) (by omega) HEE.out c code area s hfc HIN.out har hs' hX)
                        have HW1L : Hid (∃ q, (sortW (waysL l c area s)).length = q + 1 ∧ q ≤ 2) := ways_one l c area s
                        generalize sortW (waysL l c area s) = AL at HW1 HWF HW1L
                        generalize splitP l s = X at HSP HW1 HWF
                        obtain ⟨er, z1, z2, z3⟩ := X
                        simp only at HSP HW1 HWF
                        clear hH hc hfc HT0 HW0 HT1
                        as_aux_lemma =>
                          go_wp2_with fail
                          refine (HFR.out _ (HRW.out _ HB10.out)).mono ?_
                          rintro e w11 ⟨rfl, hb11⟩
                          have HB11 := Lib.hid (ext_trans HB10.out hb11)
                          have HO11 := Lib.hid (own_keep HO10.out hb11)
                          clear c0 c1 hz hb11 HB10 HFR HO10
                          as_aux_lemma =>
                            go_wp2_with fail
                            refine (HSP.out _ (HRW.out _ HB11.out)).mono ?_
                            rintro e w12 ⟨rfl, hb12⟩
                            have HB12 := Lib.hid (ext_trans HB11.out hb12)
                            have HO12 := Lib.hid (own_keep HO11.out hb12)
                            obtain ⟨c0, c1, hz⟩ := HCW.out w12 HB12.out
                            clear hb12 HB11 HSP HO11
                            simp only
                            by_cases her : er = 0
                            · subst her
                              obtain ⟨rfl, rfl⟩ : f1 = 0 ∧ WL = AL := by have := HW1.out; simp at this; exact this
                              obtain ⟨rfl, rfl⟩ : g1 = 0 ∧ y1 = WL.getD 0 [] := by have := HDR.out; simp at this; exact ⟨this.1, by simpa using this.2⟩
                              obtain ⟨q, hq, hq2⟩ := HW1L.out
                              have HQ := Lib.hid hq
                              have HO := HO12.out
                              rw [hq] at HO
                              have HOH := Lib.hid HO
                              obtain ⟨gg, cg, rfl, hg1, hg2⟩ := own_row1 HO
                              have hDne : w12.heap.size ≠ D := by omega
                              clear HO HDR HW1 HWN hq hg1
                              have HST := Lib.hid (HS4.out.below HB12.out)
                              generalize ht0 : WL.getD 0 [] = t0
                              have HT0 := Lib.hid ht0
                              clear ht0
                              as_aux_lemma =>
                                go_wp2_with fail
                                refine (HWF.out trivial _ (HST.out.below (by (try show Below _ _ _); repeat (with_reducible first | exact Below.refl _ _ | assumption | exact Hid.out (by assumption) | refine ext_alloc ?_ | refine ext_drewN ?_ | refine ext_drew ?_ | refine ext_setCell ?_ (Nat.le_refl _) | refine ext_setCell ?_ (Nat.le_succ _) | refine ext_trans ?_ (by assumption) | (refine ext_setCell ?_ (by simp)) | (refine ext_setCell ?_ (by simp at *; omega))))) (Keeps.of_below (ext_trans HB12.out (by (try show Below _ _ _); repeat (with_reducible first | exact Below.refl _ _ | assumption | exact Hid.out (by assumption) | refine ext_alloc ?_ | refine ext_drewN ?_ | refine ext_drew ?_ | refine ext_setCell ?_ (Nat.le_refl _) | refine ext_setCell ?_ (Nat.le_succ _) | refine ext_trans ?_ (by assumption) | (refine ext_setCell ?_ (by simp)) | (refine ext_setCell ?_ (by simp at *; omega))))))).mono ?_
                                rintro e w13 ⟨v13, rfl, ho13, hk13, hst13⟩
                                have HK13 : Hid (Keeps w.heap.size w4 w13) := Keeps.trans (Keeps.of_below (ext_alloc HB12.out)) hk13
                                have HO13 : Hid (w13.ownsRow w5.heap.size 9 1 (.slice (some ⟨gg, 0, none⟩) (q + 1) cg) (q + 1) (WL.map encS)) := own_keeps (own_keep HOH.out (ext_alloc (Below.refl _ _))) hk13 HZ5.out
                                rw [HQ.out] at ho13
                                have HP13 := Lib.hid ho13
                                obtain ⟨g2, c2, rfl, hg3, hg4⟩ := own_row1 ho13
                                have ck : w13.cell? ⟨g2, 0, none⟩ = some (.string ⟨t0.toArray⟩) := by
                                  rw [ho13.cellAt 0 (by omega)]
                                  have : 0 < WL.length := by rw [HQ.out]; omega
                                  rw [← HT0.out]
                                  simp [encS, this]
                                have HEQ := Lib.hid (equal_own HO13.out HP13.out (by omega))
                                clear ho13 hk13 hst13 hg3 HO13 HP13 HWF HST HOH c0 c1
                                as_aux_lemma =>
                                  go_wp2_with fail
                                  refine HEQ.out.mono ?_
                                  rintro e w15 ⟨rfl, hb15⟩
                                  have ck15 := (hb15.cell (p := ⟨g2, 0, none⟩) hg4).trans ck
                                  have hg15 : g2 < w15.heap.size := Nat.lt_of_lt_of_le hg4 hb15.size
                                  have HK15 := Lib.hid (HK13.out.trans (Keeps.of_below hb15))
                                  clear hb15 ck hg4
                                  as_aux_lemma =>
                                    go_wp2_with fail
                                    refine (numbered_any _).mono ?_
                                    rintro e w14 ⟨rfl, hb14⟩
                                    have HF := Lib.hid (HENK.out _ (HK15.out.trans (Keeps.of_below hb14)))
                                    clear hb14
                                    go_wp2_with fail
                                    go_ret
                                    exact ⟨rfl, HF.out⟩
                            · obtain ⟨rfl, rfl⟩ : f1 = er ∧ WL = [] := by have := HW1.out; simp [her] at this; exact this
                              obtain ⟨rfl, rfl⟩ : g1 = f1 ∧ y1 = [] := by have := HDR.out; simp [her] at this; exact this
                              obtain ⟨av, cv, rfl⟩ := own_shape HO12.out
                              clear HW1 HDR
                              as_aux_lemma =>
                                go_wp2_with fail
                                refine (numbered_any _).mono ?_
                                rintro e w14 ⟨rfl, hb14⟩
                                have HF := Lib.hid (HEND.out _ (ext_trans (ext_alloc HB12.out) hb14))
                                clear hb14
                                go_wp2_with fail
                                go_ret
                                exact ⟨rfl, HF.out⟩
                      · obtain ⟨hc, h8⟩ := home_not HEE.out hH
                        obtain ⟨rfl, rfl⟩ : e1 = 8 ∧ x1 = [] := by have := HT0.out; simp [HEE.out, hc] at this; exact this
                        obtain ⟨rfl, rfl⟩ : f1 = 8 ∧ WL = [] := by have := HW0.out; simp [HEE.out, hc] at this; exact this
                        obtain ⟨rfl, rfl⟩ : g1 = 8 ∧ y1 = [] := by have := HDR.out; simp at this; exact this
                        obtain ⟨av, cv, rfl⟩ := own_shape HO10.out
                        rw [h8]
                        clear hc h8 hH HT0 HW0 HDR
                        have hcat : ((⟨#[]⟩ : ByteArray) ++ (⟨#[]⟩ : ByteArray)).toList = [] := by decide +kernel
                        as_aux_lemma =>
                          go_wp2_with fail
                          refine (numbered_any _).mono ?_
                          rintro e w14 ⟨rfl, hb14⟩
                          have HF := Lib.hid (HEND.out _ (ext_trans HB10.out hb14))
                          clear hb14
                          go_wp2_with fail
                          go_ret
                          exact ⟨rfl, HF.out⟩
                  · have HT2 := HT0.out
                    have HW2 := HW0.out
                    rw [if_pos hE] at HT2 HW2
                    have hEE := Lib.hid hE
                    generalize planErr l = E at *
                    obtain ⟨rfl, rfl⟩ : e1 = E ∧ x1 = [] := by simpa using HT2
                    obtain ⟨rfl, rfl⟩ : f1 = e1 ∧ WL = [] := by simpa using HW2
                    obtain ⟨rfl, rfl⟩ : g1 = f1 ∧ y1 = [] := by have := HDR.out; rw [if_pos hEE.out] at this; simpa using this
                    obtain ⟨av, cv, rfl⟩ := own_shape HO9.out
                    clear HT0 HW0 HT2 HW2 HDR
                    have hcat : ((⟨#[]⟩ : ByteArray) ++ (⟨#[]⟩ : ByteArray)).toList = [] := by decide +kernel
                    as_aux_lemma =>
                      go_wp2_with fail
                      refine (numbered_any _).mono ?_
                      rintro e w14 ⟨rfl, hb14⟩
                      have HF := Lib.hid (HEND.out _ (ext_trans HB9.out hb14))
                      clear hb14
                      go_wp2_with fail
                      go_ret
                      exact ⟨rfl, HF.out⟩
end Go.Proofs.YthajppcmmmkfcaaGreatDoor
