/- What is proved here: what SplitOf of the reference answers. Condition: the plan lies in memory as stated. -/
import Derived.Test.YthajppcmmmkfcaaGreatDoorRefSmall
import Derived.Test.YthajppcmmmkfcaaGreatDoorSplitPost
set_option linter.unusedVariables false
set_option linter.unusedSimpArgs false
namespace Go.Proofs.YthajppcmmmkfcaaGreatDoor
open Go.RowKit

theorem cutPrefix_l (s p : List UInt8) (w : World) : Calls Tryz.prog 69 #[.string ⟨s.toArray⟩, .string ⟨p.toArray⟩] w fun e w' => e = .returned (.tuple #[.string ⟨(Lib.trimPrefix s p).toArray⟩, .bool (Lib.hasPrefix s p)]) ∧ w = w' := (Tryz.strings_CutPrefix ⟨s.toArray⟩ ⟨p.toArray⟩ w).mono (fun e w' h => ⟨h.1, h.2.symm⟩)

theorem find_at {α : Type} (p : α → Bool) (d : α) (l : List α) (k : Nat) (hk : k < l.length) (h : ∀ j, j < k → p (l.getD j d) = false) (hp : p (l.getD k d) = true) : l.find? p = some (l.getD k d) := by
  rw [List.find?_eq_some_iff_getElem]
  refine ⟨hp, k, hk, by simp [hk], fun j hj => ?_⟩
  have := h j hj
  rw [List.getD_eq_getElem?_getD, List.getElem?_eq_getElem (by omega)] at this
  simpa using this
theorem find_not {α : Type} (p : α → Bool) (d : α) (l : List α) (h : ∀ j, j < l.length → p (l.getD j d) = false) : l.find? p = none := by
  rw [List.find?_eq_none]
  intro x hx
  obtain ⟨j, hj, rfl⟩ := List.getElem_of_mem hx
  have := h j hj
  rw [List.getD_eq_getElem?_getD, List.getElem?_eq_getElem hj] at this
  simpa using this
theorem some_at {α β : Type} (f : α → Option β) (d : α) : ∀ (l : List α) (k : Nat) (x : β), k < l.length → (∀ j, j < k → f (l.getD j d) = none) → f (l.getD k d) = some x → l.findSome? f = some x
  | [], _, _, h, _, _ => by simp at h
  | a :: l, 0, x, _, _, h => by simp at h; simp [List.findSome?_cons, h]
  | a :: l, k + 1, x, hk, h, hx => by
    have h0 : f a = none := by simpa using h 0 (by omega)
    rw [List.findSome?_cons, h0]
    exact some_at f d l k x (by simpa using hk) (fun j hj => by simpa using h (j + 1) (by omega)) (by simpa using hx)
theorem some_not {α β : Type} (f : α → Option β) (d : α) (l : List α) (h : ∀ j, j < l.length → f (l.getD j d) = none) : l.findSome? f = none := by
  rw [List.findSome?_eq_none_iff]
  intro x hx
  obtain ⟨j, hj, rfl⟩ := List.getElem_of_mem hx
  have := h j hj
  rwa [List.getD_eq_getElem?_getD, List.getElem?_eq_getElem hj] at this

def zero3 : Array Value := #[.string ⟨#[]⟩, .string ⟨#[]⟩, .string ⟨#[]⟩]
theorem zero3_one : zero3.all (·.oneCell') = true := by simp [zero3, Value.oneCell']
theorem parts_size : (Tryz.prog.info? 50).map (·.size) = some 3 := by kernel_rfl

set_option maxRecDepth 100000 in
set_option maxHeartbeats 2000000 in
theorem splitOf_any (w : World) (a : Option Addr) (n cap : Nat) (l : List Ctry) (hr : CtryRow w a n l) (hcap : n ≤ cap) (s : List UInt8) (hs : s.length ≤ 1000) : Calls Tryz.prog 23 #[.slice a n cap, .string ⟨s.toArray⟩] w (PartsPost (splitR l s) w) := by
  have hfew := hr.few
  have HLEN := Lib.hid hr.len
  have HR := Lib.hid hr
  have HDEF : Hid (splitR l s = if isNumB s = false then noSpl 3 else (l.findSome? (tryCtry s)).getD (noSpl 8)) := rfl
  generalize splitR l s = R at HDEF ⊢
  clear hr
  go_enter Tryz.func23, Tryz.ntmps23
  go_wp2_with fail
  refine (form_l s _ hs).mono ?_
  rintro e w1 ⟨rfl, hb1⟩
  have hz0 : w.heap.size < w1.heap.size := by have := hb1.size; simp at this; omega
  have HB1 : Hid (Below w.heap.size w w1) := ext_trans (ext_alloc (Below.refl _ _)) hb1
  have HTH : Hid (w1.there w.heap.size 0 3) := there_below (w := w.alloc (.cells zero3 50)) (fun j hj => by
    match j, hj with
    | 0, _ | 1, _ | 2, _ => exact ⟨by simp [zero3], by simp⟩) (by simp) hb1
  clear hb1
  generalize isNumB s = g at HDEF ⊢
  as_aux_lemma =>
    cases g
    · have HF : Hid (R = noSpl 3) := HDEF.out
      have HC9 := Lib.hid (World.rangeAt_setCells_same w1 w.heap.size 0 zero3.toList HTH.out)
      have HB9 := Lib.hid (setCells_ext (B := w.heap.size) (Nat.le_refl _) zero3.toList w1 0 HB1.out)
      as_aux_lemma =>
        go_wp2_with (refine wpList_store_mid rfl 50 (.tmp 4) (.tmp 17) rfl w.heap.size 0 zero3 rfl rfl HTH.out parts_size zero3_one ?_; generalize World.setCells w1 w.heap.size 0 _ = W9 at HC9 HB9 ⊢)
        (try simp only [Exit.inBlock, Exit.then])
        refine bodyPost_ret (?_ : _ = Result.ok (.tuple #[.agg zero3, .int .i64 3]) _) rfl ?_
        · exact results_cell2 (t := 4) (u := 5) (by rfl) _ _ _ Tryz.isAgg50 Tryz.sizeOf50 (by rfl) zero3.toList rfl (fun j v hj => by have := HC9.out j v hj; rw [Nat.zero_add] at this; exact this)
        exact ⟨by rw [HF.out]; rfl, HB9.out⟩
    · have HD : Hid (R = (l.findSome? (tryCtry s)).getD (noSpl 8)) := HDEF.out
      clear HDEF
      as_aux_lemma =>
        go_wp2_with fail
        go_loopw [20] (fun it wr => ∃ k : Nat, k ≤ n ∧ it = .int .i64 k ∧ Hid (Below w1.heap.size w1 wr) ∧ Hid (∀ j, j < k → tryCtry s (l.getD j noCtry) = none)) (fun it _ => n - (intOf it).toNat)
        case atStart => exact ⟨0, Nat.zero_le _, rfl, Below.refl _ _, fun j hj => absurd hj (by omega)⟩
        case round =>
          obtain ⟨wo, rfl⟩ : ∃ wo : World, wo = wr := ⟨_, rfl⟩
          obtain ⟨i, hk, rfl, HB, HN⟩ := hrel
          have HTO := Lib.hid (there_below HTH.out hz0 HB.out)
          have HBO := Lib.hid (ext_trans HB1.out HB.out)
          have hzo : w.heap.size < wo.heap.size := Nat.lt_of_lt_of_le hz0 HB.out.size
          by_cases hlt : i < n
          · have HRK := Lib.hid (HR.out.below HBO.out)
            rcases HRK.out.row with h0 | ⟨b, off, rfl, hb, hcl⟩
            · omega
            have hil : i < l.length := by rw [← HLEN.out]; exact hlt
            obtain ⟨c0, c1, c2, c3⟩ := ctry_cells (hcl i hlt)
            have HFI := Lib.hid (HRK.out.each i hil)
            obtain ⟨hcode, habr, htr, hmany, -, -⟩ := HRK.out.each i hil
            have HX : Hid (∀ x, tryCtry s (l.getD i noCtry) = some x → R = x) := fun x hx => by rw [HD.out, some_at (tryCtry s) noCtry l i x hil HN.out hx]; rfl
            have HST : Hid (tryCtry s (l.getD i noCtry) = none → ∀ j, j < i + 1 → tryCtry s (l.getD j noCtry) = none) := fun h9 j hj => by
              rcases Nat.lt_or_eq_of_le (Nat.lt_succ_iff.1 hj) with h | h
              · exact HN.out j h
              · subst h; exact h9
            generalize l.getD i noCtry = c at c0 c1 c2 c3 hcode habr htr hmany HFI HX HST
            obtain ⟨code, abroad, trunk, aa, an, ac, areas⟩ := c
            simp only at hcode habr htr hmany c0 c1 c2 c3
            clear hcl hil
            have HCP := Lib.hid (fun w => cutPrefix_l s (43 :: code) w)
            have HTP : Hid (Lib.hasPrefix s (43 :: code) = true → Lib.trimPrefix s (43 :: code) = s.drop (1 + code.length)) := fun h => by
              unfold Lib.trimPrefix; rw [if_pos h, List.length_cons, Nat.add_comm]
            have HTC : Hid (tryCtry s ⟨code, abroad, trunk, aa, an, ac, areas⟩ = if Lib.hasPrefix s (43 :: code) = true then inAreas code (s.drop (1 + code.length)) areas else none) := rfl
            have htl : (Lib.trimPrefix s (43 :: code)).length ≤ 1000 := Nat.le_trans (Lib.trimPrefix_le _ _) hs
            as_aux_lemma =>
              go_wp2_with fail
              rw [show (⟨#[43]⟩ : ByteArray) ++ ⟨code.toArray⟩ = ⟨(43 :: code).toArray⟩ from cat_str [43] code]
              refine (HCP.out _).mono ?_
              rintro e w2 ⟨rfl, rfl⟩
              generalize Lib.trimPrefix s (43 :: code) = nat at HTP htl ⊢
              generalize Lib.hasPrefix s (43 :: code) = g at HTP HTC ⊢
              cases g
              · have HNO := Lib.hid (HST.out HTC.out)
                as_aux_lemma =>
                  go_wp2_with fail
                  go_roundw
                  case rel => exact ⟨i + 1, by omega, by go_num, ext_alloc HB.out, HNO.out⟩
                  case measure => simp [intOf]; omega
              · have hnat := HTP.out rfl
                have HT2 : Hid (tryCtry s ⟨code, abroad, trunk, aa, an, ac, areas⟩ = inAreas code nat areas) := by show _ = _; rw [HTC.out, hnat]; rfl
                clear HTP HTC hnat HCP
                generalize tryCtry s ⟨code, abroad, trunk, aa, an, ac, areas⟩ = TR at HT2 HX HST
                have hal : an = areas.length := HFI.out.row.len
                have HAL := Lib.hid hal
                clear hal
                have HBA : Hid (Below w.heap.size w (wo.alloc (.cells #[.string ⟨code.toArray⟩, .string ⟨abroad.toArray⟩, .string ⟨trunk.toArray⟩, .slice aa an ac] 68))) := ext_alloc HBO.out
                have d0 : (wo.alloc (.cells #[.string ⟨code.toArray⟩, .string ⟨abroad.toArray⟩, .string ⟨trunk.toArray⟩, .slice aa an ac] 68)).cell? ⟨wo.heap.size, 0, none⟩ = some (.string ⟨code.toArray⟩) := by go_simp
                have d3 : (wo.alloc (.cells #[.string ⟨code.toArray⟩, .string ⟨abroad.toArray⟩, .string ⟨trunk.toArray⟩, .slice aa an ac] 68)).cell? ⟨wo.heap.size, 3, none⟩ = some (.slice aa an ac) := by go_simp
                have HTA := Lib.hid (there_below HTO.out hzo (ext_alloc (o := .cells #[.string ⟨code.toArray⟩, .string ⟨abroad.toArray⟩, .string ⟨trunk.toArray⟩, .slice aa an ac] 68) (Below.refl _ _)))
                have hza : wo.heap.size < (wo.alloc (.cells #[.string ⟨code.toArray⟩, .string ⟨abroad.toArray⟩, .string ⟨trunk.toArray⟩, .slice aa an ac] 68)).heap.size := by simp
                have HF5 : Hid (CtryFine (wo.alloc (.cells #[.string ⟨code.toArray⟩, .string ⟨abroad.toArray⟩, .string ⟨trunk.toArray⟩, .slice aa an ac] 68)) ⟨code, abroad, trunk, aa, an, ac, areas⟩) := HFI.out.below (ext_alloc (Below.refl _ _))
                have HBW : Hid (Below w1.heap.size w1 (wo.alloc (.cells #[.string ⟨code.toArray⟩, .string ⟨abroad.toArray⟩, .string ⟨trunk.toArray⟩, .slice aa an ac] 68))) := ext_alloc HB.out
                generalize wo.alloc (.cells #[.string ⟨code.toArray⟩, .string ⟨abroad.toArray⟩, .string ⟨trunk.toArray⟩, .slice aa an ac] 68) = W5 at HBA d0 d3 HTA hza HF5 HBW ⊢
                clear c0 c1 c2 c3 HFI HRK HTO
                as_aux_lemma =>
                  go_wp2_with fail
                  go_loopw [37] (fun it wq => ∃ j : Nat, j ≤ an ∧ it = .int .i64 j ∧ Hid (Below W5.heap.size W5 wq) ∧ Hid (∀ j9, j9 < j → Lib.hasPrefix nat (areas.getD j9 noArea).pre = false)) (fun it _ => an - (intOf it).toNat)
                  case atStart => exact ⟨0, Nat.zero_le _, rfl, Below.refl _ _, fun j hj => absurd hj (by omega)⟩
                  case round =>
                    obtain ⟨j, hj, rfl, HBQ, HNQ⟩ := hrel
                    have hzq : wo.heap.size < wr.heap.size := Nat.lt_of_lt_of_le hza HBQ.out.size
                    have hzw : w.heap.size < wr.heap.size := by omega
                    have e0 := (HBQ.out.cell (p := ⟨wo.heap.size, 0, none⟩) hza).trans d0
                    have HTQ := Lib.hid (there_below HTA.out (by omega) HBQ.out)
                    have HBR := Lib.hid (ext_trans HBA.out HBQ.out)
                    clear d0 d3
                    as_aux_lemma =>
                      by_cases hlj : j < an
                      · rcases HF5.out.row.row with h0 | ⟨ab, ao, haa, hab, hac⟩
                        · have h1 : an = 0 := h0
                          omega
                        have haa' : aa = some ⟨ab, ao, none⟩ := haa
                        subst haa'
                        have hjl : j < areas.length := by rw [← HAL.out]; exact hlj
                        obtain ⟨a0, a1, a2⟩ := area_cells (fun q hq => (HBQ.out.cell (p := ⟨ab, ao + j * 3 + q, none⟩) hab).trans (hac j hlj q hq))
                        have HAF : AreaFine (areas.getD j noArea) := HF5.out.each j hjl
                        have HFX : Hid (Lib.hasPrefix nat (areas.getD j noArea).pre = true → R = inArea code nat (areas.getD j noArea)) := fun h => HX.out _ (by rw [HT2.out, inAreas, find_at _ noArea areas j hjl HNQ.out h]; rfl)
                        have HSA : Hid (Lib.hasPrefix nat (areas.getD j noArea).pre = false → ∀ j9, j9 < j + 1 → Lib.hasPrefix nat (areas.getD j9 noArea).pre = false) := fun h9 j9 hj9 => by
                          rcases Nat.lt_or_eq_of_le (Nat.lt_succ_iff.1 hj9) with h | h
                          · exact HNQ.out j9 h
                          · subst h; exact h9
                        generalize areas.getD j noArea = y at a0 a1 a2 HAF HFX HSA
                        obtain ⟨pre, low, high⟩ := y
                        obtain ⟨f1, f2, f3, f4, f5⟩ := HAF
                        simp only at a0 a1 a2 f1 f2 f3 f4 f5
                        have HFX : Hid (Lib.hasPrefix nat pre = true → R = inArea code nat ⟨pre, low, high⟩) := HFX
                        have HSA : Hid (Lib.hasPrefix nat pre = false → ∀ j9, j9 < j + 1 → Lib.hasPrefix nat (areas.getD j9 noArea).pre = false) := HSA
                        have HTP : Hid (Lib.hasPrefix nat pre = true → Lib.trimPrefix nat pre = nat.drop pre.length) := fun h => by unfold Lib.trimPrefix; rw [if_pos h]
                        clear hac hjl haa
                        as_aux_lemma =>
                          go_wp2_with fail
                          refine (cutPrefix_l nat pre _).mono ?_
                          rintro e w2 ⟨rfl, rfl⟩
                          generalize Lib.trimPrefix nat pre = rest at HTP ⊢
                          generalize Lib.hasPrefix nat pre = g2 at HFX HSA HTP ⊢
                          cases g2
                          · have HNO := Lib.hid (HSA.out rfl)
                            as_aux_lemma =>
                              go_wp2_with fail
                              go_roundw
                              case rel => exact ⟨j + 1, by omega, by go_num, ext_alloc HBQ.out, HNO.out⟩
                              case measure => simp [intOf]; omega
                          · have HRR := Lib.hid (HFX.out rfl)
                            have HRE := Lib.hid (HTP.out rfl)
                            clear HFX HSA HTP
                            have HDI : Hid (inArea code nat ⟨pre, low, high⟩ = if (decide (low ≤ (nat.length : Int)) && decide ((nat.length : Int) ≤ high)) = false then noSpl 1 else ⟨0, code, pre, nat.drop pre.length⟩) := by
                              show _ = _
                              unfold inArea
                              by_cases k1 : (nat.length : Int) < low
                              · rw [decide_eq_true k1, decide_eq_false (show ¬ low ≤ (nat.length : Int) by omega)]; rfl
                              · by_cases k2 : high < (nat.length : Int)
                                · rw [decide_eq_true k2, decide_eq_false (show ¬ (nat.length : Int) ≤ high by omega), Bool.and_false, Bool.or_true]; rfl
                                · rw [decide_eq_false k1, decide_eq_false k2, decide_eq_true (show low ≤ (nat.length : Int) by omega), decide_eq_true (show (nat.length : Int) ≤ high by omega)]; rfl
                            as_aux_lemma =>
                              go_wp2_with fail
                              refine (in_any _ low high _).mono ?_
                              rintro e w2 ⟨rfl, rfl⟩
                              generalize (decide (low ≤ (nat.length : Int)) && decide ((nat.length : Int) ≤ high)) = g3 at HDI ⊢
                              have HT4 : Hid ((wr.alloc (.cells #[.string ⟨pre.toArray⟩, .int .i64 low, .int .i64 high] 72)).there w.heap.size 0 3) := there_below HTQ.out hzw (ext_alloc (Below.refl _ _))
                              have HB4 : Hid (Below w.heap.size w (wr.alloc (.cells #[.string ⟨pre.toArray⟩, .int .i64 low, .int .i64 high] 72))) := ext_alloc HBR.out
                              cases g3
                              · have HF : Hid (R = noSpl 1) := HRR.out.trans HDI.out
                                have HC9 := Lib.hid (World.rangeAt_setCells_same (wr.alloc (.cells #[.string ⟨pre.toArray⟩, .int .i64 low, .int .i64 high] 72)) w.heap.size 0 zero3.toList HT4.out)
                                have HB9 := Lib.hid (setCells_ext (B := w.heap.size) (Nat.le_refl _) zero3.toList (wr.alloc (.cells #[.string ⟨pre.toArray⟩, .int .i64 low, .int .i64 high] 72)) 0 HB4.out)
                                as_aux_lemma =>
                                  go_wp2_with (refine wpList_store_mid rfl 50 (.tmp 4) (.tmp 60) rfl w.heap.size 0 zero3 rfl rfl HT4.out parts_size zero3_one ?_; generalize World.setCells (wr.alloc (.cells #[.string ⟨pre.toArray⟩, .int .i64 low, .int .i64 high] 72)) w.heap.size 0 _ = W9 at HC9 HB9 ⊢)
                                  (try simp only [Exit.inBlock, Exit.then])
                                  refine bodyPost_ret (?_ : _ = Result.ok (.tuple #[.agg zero3, .int .i64 1]) _) rfl ?_
                                  · exact results_cell2 (t := 4) (u := 5) (by rfl) _ _ _ Tryz.isAgg50 Tryz.sizeOf50 (by rfl) zero3.toList rfl (fun j v hj => by have := HC9.out j v hj; rw [Nat.zero_add] at this; exact this)
                                  exact ⟨by rw [HF.out]; rfl, HB9.out⟩
                              · have HF : Hid (R = ⟨0, code, pre, rest⟩) := by show _ = _; rw [HRR.out, HDI.out, HRE.out]; rfl
                                clear HRR HDI HRE
                                have HC9 := Lib.hid (World.rangeAt_setCells_same (wr.alloc (.cells #[.string ⟨pre.toArray⟩, .int .i64 low, .int .i64 high] 72)) w.heap.size 0 [.string ⟨code.toArray⟩, .string ⟨pre.toArray⟩, .string ⟨rest.toArray⟩] HT4.out)
                                have HB9 := Lib.hid (setCells_ext (B := w.heap.size) (Nat.le_refl _) [.string ⟨code.toArray⟩, .string ⟨pre.toArray⟩, .string ⟨rest.toArray⟩] (wr.alloc (.cells #[.string ⟨pre.toArray⟩, .int .i64 low, .int .i64 high] 72)) 0 HB4.out)
                                as_aux_lemma =>
                                  go_wp2_with (refine wpList_store_mid rfl 50 (.tmp 4) (.tmp 68) rfl w.heap.size 0 [.string ⟨code.toArray⟩, .string ⟨pre.toArray⟩, .string ⟨rest.toArray⟩].toArray rfl rfl HT4.out parts_size (by simp [Value.oneCell']) ?_; simp only [List.toList_toArray]; generalize World.setCells (wr.alloc (.cells #[.string ⟨pre.toArray⟩, .int .i64 low, .int .i64 high] 72)) w.heap.size 0 _ = W9 at HC9 HB9 ⊢)
                                  (try simp only [Exit.inBlock, Exit.then])
                                  refine bodyPost_ret (?_ : _ = Result.ok (.tuple #[.agg [.string ⟨code.toArray⟩, .string ⟨pre.toArray⟩, .string ⟨rest.toArray⟩].toArray, .int .i64 0]) _) rfl ?_
                                  · exact results_cell2 (t := 4) (u := 5) (by rfl) _ _ _ Tryz.isAgg50 Tryz.sizeOf50 (by rfl) [.string ⟨code.toArray⟩, .string ⟨pre.toArray⟩, .string ⟨rest.toArray⟩] rfl (fun j v hj => by have := HC9.out j v hj; rw [Nat.zero_add] at this; exact this)
                                  exact ⟨by rw [HF.out], HB9.out⟩
                      · have hjn : j = an := by omega
                        have HNO : Hid (∀ j, j < i + 1 → tryCtry s (l.getD j noCtry) = none) := HST.out (by rw [HT2.out, inAreas, find_not _ noArea areas (fun j9 h9 => HNQ.out j9 (by have := HAL.out; omega))]; rfl)
                        as_aux_lemma =>
                          go_wp2_with fail
                          go_roundw
                          case rel => exact ⟨i + 1, by omega, by go_num, ext_trans HBW.out HBQ.out, HNO.out⟩
                          case measure => simp [intOf]; omega
          · have hkn : i = n := by omega
            have HF : Hid (R = noSpl 8) := by show _ = _; rw [HD.out, some_not (tryCtry s) noCtry l (fun j hj => HN.out j (by have := HLEN.out; omega))]; rfl
            have HC9 := Lib.hid (World.rangeAt_setCells_same wo w.heap.size 0 zero3.toList HTO.out)
            have HB9 := Lib.hid (setCells_ext (B := w.heap.size) (Nat.le_refl _) zero3.toList wo 0 HBO.out)
            as_aux_lemma =>
              go_wp2_with (refine wpList_store_mid rfl 50 (.tmp 4) (.tmp 71) rfl w.heap.size 0 zero3 rfl rfl HTO.out parts_size zero3_one ?_; generalize World.setCells wo w.heap.size 0 _ = W9 at HC9 HB9 ⊢)
              (try simp only [Exit.inBlock, Exit.then])
              refine bodyPost_ret (?_ : _ = Result.ok (.tuple #[.agg zero3, .int .i64 8]) _) rfl ?_
              · exact results_cell2 (t := 4) (u := 5) (by rfl) _ _ _ Tryz.isAgg50 Tryz.sizeOf50 (by rfl) zero3.toList rfl (fun j v hj => by have := HC9.out j v hj; rw [Nat.zero_add] at this; exact this)
              exact ⟨by rw [HF.out]; rfl, HB9.out⟩
end Go.Proofs.YthajppcmmmkfcaaGreatDoor
