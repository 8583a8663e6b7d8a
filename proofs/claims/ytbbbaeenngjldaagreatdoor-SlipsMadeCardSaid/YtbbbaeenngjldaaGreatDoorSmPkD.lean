/- What is proved here: lemmas and contracts for the statement, put together out of smaller texts (RefSplit, SlipE, SlipF, SplitTop, SlipG, OrErr, EqualW, Stream, Picks, Changed). No condition beyond those stated. -/
import Derived.Test.YtbbbaeenngjldaaGreatDoorSmPkC
import Derived.Maps.AppendAt
import Derived.Test.YtbbbaeenngjldaaGreatDoorSmPkB
import Derived.OneCell
import Derived.Test.YtbbbaeenngjldaaGreatDoorSmPkA
import Derived.Laws.Runes
import Derived.Deep.QuietTactic
import Derived.BigQuiet
import Derived.IntWalk
set_option linter.unusedVariables false
set_option linter.unusedSimpArgs false
namespace Go.Proofs.YtbbbaeenngjldaaGreatDoor
open Go.RowKit

theorem cutPrefix_l (s p : List UInt8) (w : World) : Calls Tryz.prog 123 #[.string ⟨s.toArray⟩, .string ⟨p.toArray⟩] w fun e w' => e = .returned (.tuple #[.string ⟨(Lib.trimPrefix s p).toArray⟩, .bool (Lib.hasPrefix s p)]) ∧ w = w' := (Tryz.strings_CutPrefix ⟨s.toArray⟩ ⟨p.toArray⟩ w).mono (fun e w' h => ⟨h.1, h.2.symm⟩)

theorem find_at {α : Type} (p : α → Bool) (d : α) (l : List α) (k : Nat) (hk : k < l.length) (h : ∀ j, j < k → p (l.getD j d) = false) (hp : p (l.getD k d) = true) : l.find? p = some (l.getD k d) := by
  rw [List.find?_eq_some_iff_getElem]
  refine ⟨hp, k, hk, by simp [hk], fun j hj => ?_⟩
  have := h j hj
  rw [List.getD_eq_getElem?_getD, List.getElem?_eq_getElem (by omega)] at this
  simpa using this
theorem find_not {α : Type} (p : α → Bool) (d : α) (l : List α) (h : ∀ j, j < l.length → p (l.getD j d) = false) : l.find? p = none := by
  rw [List.find?_eq_none]
  intro x hx
  obtain ⟨j, hj, rfl⟩ := List.getElem_of_mem hx
  have := h j hj
  rw [List.getD_eq_getElem?_getD, List.getElem?_eq_getElem hj] at this
  simpa using this
theorem some_at {α β : Type} (f : α → Option β) (d : α) : ∀ (l : List α) (k : Nat) (x : β), k < l.length → (∀ j, j < k → f (l.getD j d) = none) → f (l.getD k d) = some x → l.findSome? f = some x
  | [], _, _, h, _, _ => by simp at h
  | a :: l, 0, x, _, _, h => by simp at h; simp [List.findSome?_cons, h]
  | a :: l, k + 1, x, hk, h, hx => by
    have h0 : f a = none := by simpa using h 0 (by omega)
    rw [List.findSome?_cons, h0]
    exact some_at f d l k x (by simpa using hk) (fun j hj => by simpa using h (j + 1) (by omega)) (by simpa using hx)
theorem some_not {α β : Type} (f : α → Option β) (d : α) (l : List α) (h : ∀ j, j < l.length → f (l.getD j d) = none) : l.findSome? f = none := by
  rw [List.findSome?_eq_none_iff]
  intro x hx
  obtain ⟨j, hj, rfl⟩ := List.getElem_of_mem hx
  have := h j hj
  rwa [List.getD_eq_getElem?_getD, List.getElem?_eq_getElem hj] at this

def zero3 : Array Value := #[.string ⟨#[]⟩, .string ⟨#[]⟩, .string ⟨#[]⟩]
theorem zero3_one : zero3.all (·.oneCell') = true := by simp [zero3, Value.oneCell']
theorem parts_size : (Tryz.prog.info? 43).map (·.size) = some 3 := by kernel_rfl

set_option maxRecDepth 100000 in
set_option maxHeartbeats 2000000 in
theorem splitOf_any (w : World) (a : Option Addr) (n cap : Nat) (l : List Ctry) (hr : CtryRow w a n l) (hcap : n ≤ cap) (s : List UInt8) (hs : s.length ≤ 1000) : Calls Tryz.prog 21 #[.slice a n cap, .string ⟨s.toArray⟩] w (PartsPost (splitR l s) w) := by
  have hfew := hr.few
  have HLEN := Lib.hid hr.len
  have HR := Lib.hid hr
  have HDEF : Hid (splitR l s = if isNumB s = false then noSpl 3 else (l.findSome? (tryCtry s)).getD (noSpl 8)) := rfl
  generalize splitR l s = R at HDEF ⊢
  clear hr
  go_enter Tryz.func21, Tryz.ntmps21
  go_wp2_with fail
  refine (form_l s _ hs).mono ?_
  rintro e w1 ⟨rfl, hb1⟩
  have hz0 : w.heap.size < w1.heap.size := by have := hb1.size; simp at this; omega
  have HB1 : Hid (Below w.heap.size w w1) := ext_trans (ext_alloc (Below.refl _ _)) hb1
  have HTH : Hid (w1.there w.heap.size 0 3) := there_below (w := w.alloc (.cells zero3 43)) (fun j hj => by
    match j, hj with
    | 0, _ | 1, _ | 2, _ => exact ⟨by simp [zero3], by simp⟩) (by simp) hb1
  clear hb1
  generalize isNumB s = g at HDEF ⊢
  as_aux_lemma =>
    cases g
    · have HF : Hid (R = noSpl 3) := HDEF.out
      have HC9 := Lib.hid (World.rangeAt_setCells_same w1 w.heap.size 0 zero3.toList HTH.out)
      have HB9 := Lib.hid (setCells_ext (B := w.heap.size) (Nat.le_refl _) zero3.toList w1 0 HB1.out)
      as_aux_lemma =>
        go_wp2_with (refine wpList_store_mid rfl 43 (.tmp 4) (.tmp 17) rfl w.heap.size 0 zero3 rfl rfl HTH.out parts_size zero3_one ?_; generalize World.setCells w1 w.heap.size 0 _ = W9 at HC9 HB9 ⊢)
        (try simp only [Exit.inBlock, Exit.then])
        refine bodyPost_ret (?_ : _ = Result.ok (.tuple #[.agg zero3, .int .i64 3]) _) rfl ?_
        · exact results_cell2 (t := 4) (u := 5) (by rfl) _ _ _ Tryz.isAgg43 Tryz.sizeOf43 (by rfl) zero3.toList rfl (fun j v hj => by have := HC9.out j v hj; rw [Nat.zero_add] at this; exact this)
        exact ⟨by rw [HF.out]; rfl, HB9.out⟩
    · have HD : Hid (R = (l.findSome? (tryCtry s)).getD (noSpl 8)) := HDEF.out
      clear HDEF
      as_aux_lemma =>
        go_wp2_with fail
        go_loopw [20] (fun it wr => ∃ k : Nat, k ≤ n ∧ it = .int .i64 k ∧ Hid (Below w1.heap.size w1 wr) ∧ Hid (∀ j, j < k → tryCtry s (l.getD j noCtry) = none)) (fun it _ => n - (intOf it).toNat)
        case atStart => exact ⟨0, Nat.zero_le _, rfl, Below.refl _ _, fun j hj => absurd hj (by omega)⟩
        case round =>
          obtain ⟨wo, rfl⟩ : ∃ wo : World, wo = wr := ⟨_, rfl⟩
          obtain ⟨i, hk, rfl, HB, HN⟩ := hrel
          have HTO := Lib.hid (there_below HTH.out hz0 HB.out)
          have HBO := Lib.hid (ext_trans HB1.out HB.out)
          have hzo : w.heap.size < wo.heap.size := Nat.lt_of_lt_of_le hz0 HB.out.size
          by_cases hlt : i < n
          · have HRK := Lib.hid (HR.out.below HBO.out)
            rcases HRK.out.row with h0 | ⟨b, off, rfl, hb, hcl⟩
            · omega
            have hil : i < l.length := by rw [← HLEN.out]; exact hlt
            obtain ⟨c0, c1, c2, c3⟩ := ctry_cells (hcl i hlt)
            have HFI := Lib.hid (HRK.out.each i hil)
            obtain ⟨hcode, habr, htr, hmany, -, -⟩ := HRK.out.each i hil
            have HX : Hid (∀ x, tryCtry s (l.getD i noCtry) = some x → R = x) := fun x hx => by rw [HD.out, some_at (tryCtry s) noCtry l i x hil HN.out hx]; rfl
            have HST : Hid (tryCtry s (l.getD i noCtry) = none → ∀ j, j < i + 1 → tryCtry s (l.getD j noCtry) = none) := fun h9 j hj => by
              rcases Nat.lt_or_eq_of_le (Nat.lt_succ_iff.1 hj) with h | h
              · exact HN.out j h
              · subst h; exact h9
            generalize l.getD i noCtry = c at c0 c1 c2 c3 hcode habr htr hmany HFI HX HST
            obtain ⟨code, abroad, trunk, aa, an, ac, areas⟩ := c
            simp only at hcode habr htr hmany c0 c1 c2 c3
            clear hcl hil
            have HCP := Lib.hid (fun w => cutPrefix_l s (43 :: code) w)
            have HTP : Hid (Lib.hasPrefix s (43 :: code) = true → Lib.trimPrefix s (43 :: code) = s.drop (1 + code.length)) := fun h => by
              unfold Lib.trimPrefix; rw [if_pos h, List.length_cons, Nat.add_comm]
            have HTC : Hid (tryCtry s ⟨code, abroad, trunk, aa, an, ac, areas⟩ = if Lib.hasPrefix s (43 :: code) = true then inAreas code (s.drop (1 + code.length)) areas else none) := rfl
            have htl : (Lib.trimPrefix s (43 :: code)).length ≤ 1000 := Nat.le_trans (Lib.trimPrefix_le _ _) hs
            as_aux_lemma =>
              go_wp2_with fail
              rw [show (⟨#[43]⟩ : ByteArray) ++ ⟨code.toArray⟩ = ⟨(43 :: code).toArray⟩ from cat_str [43] code]
              refine (HCP.out _).mono ?_
              rintro e w2 ⟨rfl, rfl⟩
              generalize Lib.trimPrefix s (43 :: code) = nat at HTP htl ⊢
              generalize Lib.hasPrefix s (43 :: code) = g at HTP HTC ⊢
              cases g
              · have HNO := Lib.hid (HST.out HTC.out)
                as_aux_lemma =>
                  go_wp2_with fail
                  go_roundw
                  case rel => exact ⟨i + 1, by omega, by go_num, ext_alloc HB.out, HNO.out⟩
                  case measure => simp [intOf]; omega
              · have hnat := HTP.out rfl
                have HT2 : Hid (tryCtry s ⟨code, abroad, trunk, aa, an, ac, areas⟩ = inAreas code nat areas) := by show _ = _; rw [HTC.out, hnat]; rfl
                clear HTP HTC hnat HCP
                generalize tryCtry s ⟨code, abroad, trunk, aa, an, ac, areas⟩ = TR at HT2 HX HST
                have hal : an = areas.length := HFI.out.row.len
                have HAL := Lib.hid hal
                clear hal
                have HBA : Hid (Below w.heap.size w (wo.alloc (.cells #[.string ⟨code.toArray⟩, .string ⟨abroad.toArray⟩, .string ⟨trunk.toArray⟩, .slice aa an ac] 179))) := ext_alloc HBO.out
                have d0 : (wo.alloc (.cells #[.string ⟨code.toArray⟩, .string ⟨abroad.toArray⟩, .string ⟨trunk.toArray⟩, .slice aa an ac] 179)).cell? ⟨wo.heap.size, 0, none⟩ = some (.string ⟨code.toArray⟩) := by go_simp
                have d3 : (wo.alloc (.cells #[.string ⟨code.toArray⟩, .string ⟨abroad.toArray⟩, .string ⟨trunk.toArray⟩, .slice aa an ac] 179)).cell? ⟨wo.heap.size, 3, none⟩ = some (.slice aa an ac) := by go_simp
                have HTA := Lib.hid (there_below HTO.out hzo (ext_alloc (o := .cells #[.string ⟨code.toArray⟩, .string ⟨abroad.toArray⟩, .string ⟨trunk.toArray⟩, .slice aa an ac] 179) (Below.refl _ _)))
                have hza : wo.heap.size < (wo.alloc (.cells #[.string ⟨code.toArray⟩, .string ⟨abroad.toArray⟩, .string ⟨trunk.toArray⟩, .slice aa an ac] 179)).heap.size := by simp
                have HF5 : Hid (CtryFine (wo.alloc (.cells #[.string ⟨code.toArray⟩, .string ⟨abroad.toArray⟩, .string ⟨trunk.toArray⟩, .slice aa an ac] 179)) ⟨code, abroad, trunk, aa, an, ac, areas⟩) := HFI.out.below (ext_alloc (Below.refl _ _))
                have HBW : Hid (Below w1.heap.size w1 (wo.alloc (.cells #[.string ⟨code.toArray⟩, .string ⟨abroad.toArray⟩, .string ⟨trunk.toArray⟩, .slice aa an ac] 179))) := ext_alloc HB.out
                generalize wo.alloc (.cells #[.string ⟨code.toArray⟩, .string ⟨abroad.toArray⟩, .string ⟨trunk.toArray⟩, .slice aa an ac] 179) = W5 at HBA d0 d3 HTA hza HF5 HBW ⊢
                clear c0 c1 c2 c3 HFI HRK HTO
                as_aux_lemma =>
                  go_wp2_with fail
                  go_loopw [37] (fun it wq => ∃ j : Nat, j ≤ an ∧ it = .int .i64 j ∧ Hid (Below W5.heap.size W5 wq) ∧ Hid (∀ j9, j9 < j → Lib.hasPrefix nat (areas.getD j9 noArea).pre = false)) (fun it _ => an - (intOf it).toNat)
                  case atStart => exact ⟨0, Nat.zero_le _, rfl, Below.refl _ _, fun j hj => absurd hj (by omega)⟩
                  case round =>
                    obtain ⟨j, hj, rfl, HBQ, HNQ⟩ := hrel
                    have hzq : wo.heap.size < wr.heap.size := Nat.lt_of_lt_of_le hza HBQ.out.size
                    have hzw : w.heap.size < wr.heap.size := by omega
                    have e0 := (HBQ.out.cell (p := ⟨wo.heap.size, 0, none⟩) hza).trans d0
                    have HTQ := Lib.hid (there_below HTA.out (by omega) HBQ.out)
                    have HBR := Lib.hid (ext_trans HBA.out HBQ.out)
                    clear d0 d3
                    as_aux_lemma =>
                      by_cases hlj : j < an
                      · rcases HF5.out.row.row with h0 | ⟨ab, ao, haa, hab, hac⟩
                        · have h1 : an = 0 := h0
                          omega
                        have haa' : aa = some ⟨ab, ao, none⟩ := haa
                        subst haa'
                        have hjl : j < areas.length := by rw [← HAL.out]; exact hlj
                        obtain ⟨a0, a1, a2⟩ := area_cells (fun q hq => (HBQ.out.cell (p := ⟨ab, ao + j * 3 + q, none⟩) hab).trans (hac j hlj q hq))
                        have HAF : AreaFine (areas.getD j noArea) := HF5.out.each j hjl
                        have HFX : Hid (Lib.hasPrefix nat (areas.getD j noArea).pre = true → R = inArea code nat (areas.getD j noArea)) := fun h => HX.out _ (by rw [HT2.out, inAreas, find_at _ noArea areas j hjl HNQ.out h]; rfl)
                        have HSA : Hid (Lib.hasPrefix nat (areas.getD j noArea).pre = false → ∀ j9, j9 < j + 1 → Lib.hasPrefix nat (areas.getD j9 noArea).pre = false) := fun h9 j9 hj9 => by
                          rcases Nat.lt_or_eq_of_le (Nat.lt_succ_iff.1 hj9) with h | h
                          · exact HNQ.out j9 h
                          · subst h; exact h9
                        generalize areas.getD j noArea = y at a0 a1 a2 HAF HFX HSA
                        obtain ⟨pre, low, high⟩ := y
                        obtain ⟨f1, f2, f3, f4, f5⟩ := HAF
                        simp only at a0 a1 a2 f1 f2 f3 f4 f5
                        have HFX : Hid (Lib.hasPrefix nat pre = true → R = inArea code nat ⟨pre, low, high⟩) := HFX
                        have HSA : Hid (Lib.hasPrefix nat pre = false → ∀ j9, j9 < j + 1 → Lib.hasPrefix nat (areas.getD j9 noArea).pre = false) := HSA
                        have HTP : Hid (Lib.hasPrefix nat pre = true → Lib.trimPrefix nat pre = nat.drop pre.length) := fun h => by unfold Lib.trimPrefix; rw [if_pos h]
                        clear hac hjl haa
                        as_aux_lemma =>
                          go_wp2_with fail
                          refine (cutPrefix_l nat pre _).mono ?_
                          rintro e w2 ⟨rfl, rfl⟩
                          generalize Lib.trimPrefix nat pre = rest at HTP ⊢
                          generalize Lib.hasPrefix nat pre = g2 at HFX HSA HTP ⊢
                          cases g2
                          · have HNO := Lib.hid (HSA.out rfl)
                            as_aux_lemma =>
                              go_wp2_with fail
                              go_roundw
                              case rel => exact ⟨j + 1, by omega, by go_num, ext_alloc HBQ.out, HNO.out⟩
                              case measure => simp [intOf]; omega
                          · have HRR := Lib.hid (HFX.out rfl)
                            have HRE := Lib.hid (HTP.out rfl)
                            clear HFX HSA HTP
                            have HDI : Hid (inArea code nat ⟨pre, low, high⟩ = if (decide (low ≤ (nat.length : Int)) && decide ((nat.length : Int) ≤ high)) = false then noSpl 1 else ⟨0, code, pre, nat.drop pre.length⟩) := by
                              show _ = _
                              unfold inArea
                              by_cases k1 : (nat.length : Int) < low
                              · rw [decide_eq_true k1, decide_eq_false (show ¬ low ≤ (nat.length : Int) by omega)]; rfl
                              · by_cases k2 : high < (nat.length : Int)
                                · rw [decide_eq_true k2, decide_eq_false (show ¬ (nat.length : Int) ≤ high by omega), Bool.and_false, Bool.or_true]; rfl
                                · rw [decide_eq_false k1, decide_eq_false k2, decide_eq_true (show low ≤ (nat.length : Int) by omega), decide_eq_true (show (nat.length : Int) ≤ high by omega)]; rfl
                            as_aux_lemma =>
                              go_wp2_with fail
                              refine (in_any _ low high _).mono ?_
                              rintro e w2 ⟨rfl, rfl⟩
                              generalize (decide (low ≤ (nat.length : Int)) && decide ((nat.length : Int) ≤ high)) = g3 at HDI ⊢
                              have HT4 : Hid ((wr.alloc (.cells #[.string ⟨pre.toArray⟩, .int .i64 low, .int .i64 high] 182)).there w.heap.size 0 3) := there_below HTQ.out hzw (ext_alloc (Below.refl _ _))
                              have HB4 : Hid (Below w.heap.size w (wr.alloc (.cells #[.string ⟨pre.toArray⟩, .int .i64 low, .int .i64 high] 182))) := ext_alloc HBR.out
                              cases g3
                              · have HF : Hid (R = noSpl 1) := HRR.out.trans HDI.out
                                have HC9 := Lib.hid (World.rangeAt_setCells_same (wr.alloc (.cells #[.string ⟨pre.toArray⟩, .int .i64 low, .int .i64 high] 182)) w.heap.size 0 zero3.toList HT4.out)
                                have HB9 := Lib.hid (setCells_ext (B := w.heap.size) (Nat.le_refl _) zero3.toList (wr.alloc (.cells #[.string ⟨pre.toArray⟩, .int .i64 low, .int .i64 high] 182)) 0 HB4.out)
                                as_aux_lemma =>
                                  go_wp2_with (refine wpList_store_mid rfl 43 (.tmp 4) (.tmp 60) rfl w.heap.size 0 zero3 rfl rfl HT4.out parts_size zero3_one ?_; generalize World.setCells (wr.alloc (.cells #[.string ⟨pre.toArray⟩, .int .i64 low, .int .i64 high] 182)) w.heap.size 0 _ = W9 at HC9 HB9 ⊢)
                                  (try simp only [Exit.inBlock, Exit.then])
                                  refine bodyPost_ret (?_ : _ = Result.ok (.tuple #[.agg zero3, .int .i64 1]) _) rfl ?_
                                  · exact results_cell2 (t := 4) (u := 5) (by rfl) _ _ _ Tryz.isAgg43 Tryz.sizeOf43 (by rfl) zero3.toList rfl (fun j v hj => by have := HC9.out j v hj; rw [Nat.zero_add] at this; exact this)
                                  exact ⟨by rw [HF.out]; rfl, HB9.out⟩
                              · have HF : Hid (R = ⟨0, code, pre, rest⟩) := by show _ = _; rw [HRR.out, HDI.out, HRE.out]; rfl
                                clear HRR HDI HRE
                                have HC9 := Lib.hid (World.rangeAt_setCells_same (wr.alloc (.cells #[.string ⟨pre.toArray⟩, .int .i64 low, .int .i64 high] 182)) w.heap.size 0 [.string ⟨code.toArray⟩, .string ⟨pre.toArray⟩, .string ⟨rest.toArray⟩] HT4.out)
                                have HB9 := Lib.hid (setCells_ext (B := w.heap.size) (Nat.le_refl _) [.string ⟨code.toArray⟩, .string ⟨pre.toArray⟩, .string ⟨rest.toArray⟩] (wr.alloc (.cells #[.string ⟨pre.toArray⟩, .int .i64 low, .int .i64 high] 182)) 0 HB4.out)
                                as_aux_lemma =>
                                  go_wp2_with (refine wpList_store_mid rfl 43 (.tmp 4) (.tmp 68) rfl w.heap.size 0 [.string ⟨code.toArray⟩, .string ⟨pre.toArray⟩, .string ⟨rest.toArray⟩].toArray rfl rfl HT4.out parts_size (by simp [Value.oneCell']) ?_; simp only [List.toList_toArray]; generalize World.setCells (wr.alloc (.cells #[.string ⟨pre.toArray⟩, .int .i64 low, .int .i64 high] 182)) w.heap.size 0 _ = W9 at HC9 HB9 ⊢)
                                  (try simp only [Exit.inBlock, Exit.then])
                                  refine bodyPost_ret (?_ : _ = Result.ok (.tuple #[.agg [.string ⟨code.toArray⟩, .string ⟨pre.toArray⟩, .string ⟨rest.toArray⟩].toArray, .int .i64 0]) _) rfl ?_
                                  · exact results_cell2 (t := 4) (u := 5) (by rfl) _ _ _ Tryz.isAgg43 Tryz.sizeOf43 (by rfl) [.string ⟨code.toArray⟩, .string ⟨pre.toArray⟩, .string ⟨rest.toArray⟩] rfl (fun j v hj => by have := HC9.out j v hj; rw [Nat.zero_add] at this; exact this)
                                  exact ⟨by rw [HF.out], HB9.out⟩
                      · have hjn : j = an := by omega
                        have HNO : Hid (∀ j, j < i + 1 → tryCtry s (l.getD j noCtry) = none) := HST.out (by rw [HT2.out, inAreas, find_not _ noArea areas (fun j9 h9 => HNQ.out j9 (by have := HAL.out; omega))]; rfl)
                        as_aux_lemma =>
                          go_wp2_with fail
                          go_roundw
                          case rel => exact ⟨i + 1, by omega, by go_num, ext_trans HBW.out HBQ.out, HNO.out⟩
                          case measure => simp [intOf]; omega
          · have hkn : i = n := by omega
            have HF : Hid (R = noSpl 8) := by show _ = _; rw [HD.out, some_not (tryCtry s) noCtry l (fun j hj => HN.out j (by have := HLEN.out; omega))]; rfl
            have HC9 := Lib.hid (World.rangeAt_setCells_same wo w.heap.size 0 zero3.toList HTO.out)
            have HB9 := Lib.hid (setCells_ext (B := w.heap.size) (Nat.le_refl _) zero3.toList wo 0 HBO.out)
            as_aux_lemma =>
              go_wp2_with (refine wpList_store_mid rfl 43 (.tmp 4) (.tmp 71) rfl w.heap.size 0 zero3 rfl rfl HTO.out parts_size zero3_one ?_; generalize World.setCells wo w.heap.size 0 _ = W9 at HC9 HB9 ⊢)
              (try simp only [Exit.inBlock, Exit.then])
              refine bodyPost_ret (?_ : _ = Result.ok (.tuple #[.agg zero3, .int .i64 8]) _) rfl ?_
              · exact results_cell2 (t := 4) (u := 5) (by rfl) _ _ _ Tryz.isAgg43 Tryz.sizeOf43 (by rfl) zero3.toList rfl (fun j v hj => by have := HC9.out j v hj; rw [Nat.zero_add] at this; exact this)
              exact ⟨by rw [HF.out]; rfl, HB9.out⟩
end Go.Proofs.YtbbbaeenngjldaaGreatDoor

set_option linter.unusedVariables false
set_option linter.unusedSimpArgs false
namespace Go.Proofs.YtbbbaeenngjldaaGreatDoor
open Go.RowKit

/-- A string of digits is a right number behind a plus. -/
def okN (l : List Ctry) (d : List UInt8) : Bool := decide ((splitP l (43 :: d)).err = 0)
/-- append of one string to a slice of the call's own, and where the new slice lies. -/
theorem app_at {o : Oper} {a : Act} {K : Act → World → Prop} {Q : Exit → Act → World → Prop} (W : World) (s x : Operand) {ops : Array Oper} {rest : List Oper} (hgd : o.guard = none) (ho : o.op = .call { callee := .builtin .append, args := #[s, x], argTypes := #[35, 35] })
    (base : Nat) (v : Value) (n : Nat) (xs : List (List UInt8)) (z : List UInt8) (hs : a.eval s = v) (hown : W.ownsRow base 9 1 v n (xs.map encS)) (hx : a.eval x = .slice (some ⟨W.heap.size, 0, none⟩) 1 1) (hn : n ≤ 100000) (hbase : base ≤ W.heap.size)
    (h : ∀ v' w', w'.ownsRow base 9 1 v' (n + 1) ((xs ++ [z]).map encS) → (W.alloc (.cells #[.string ⟨z.toArray⟩] 9)).grownBy w' v.ownBlock → (v'.ownBlock = v.ownBlock ∨ v'.ownBlock = some (W.alloc (.cells #[.string ⟨z.toArray⟩] 9)).heap.size) → wpList Tryz.prog ops Q rest (a.put o.dst v') w') : wpList Tryz.prog ops Q (o :: rest) a (W.alloc (.cells #[.string ⟨z.toArray⟩] 9)) := by
  obtain ⟨i0, hi, hz0, hz1, hz2⟩ := info_parts Tryz.infoStr
  refine wpList_append_own_at _ hgd s x 35 ho base 9 i0 (.string ⟨#[]⟩) 1 16 Tryz.underlying35 hi hz0 hz1 hz2 rfl (by decide) v n (xs.map encS) hs (hown.alloc _) ⟨W.heap.size, 0, none⟩ 1 1 [.string ⟨z.toArray⟩] hx rfl (news_one (by simp)) (by simp [Value.oneCell']) (by simp only [maxLen]; omega) (by omega) (by simp; omega) (fun v' w' h1 h2 _ h3 => h v' w' ?_ h2 h3)
  rw [show (xs ++ [z]).map encS = xs.map encS ++ [.string ⟨z.toArray⟩] by simp [encS]]
  exact h1
theorem slips_short {a x : List UInt8} {kind : Nat} (h : x ∈ slipsL a kind) : x.length ≤ a.length + 1 := by
  obtain ⟨i, d, h1, -, h3⟩ := (mem_slips a kind x).1 h
  unfold slipStep at h3
  split at h3
  · rw [List.mem_singleton.1 h3, len_more a i d h1]; omega
  split at h3
  · cases h3
  split at h3
  · rw [List.mem_singleton.1 h3, len_other a i d (by omega)]; omega
  split at h3
  · have := len_lost a i (by omega); rw [List.mem_singleton.1 h3]; omega
  split at h3
  · rename_i h6
    rw [List.mem_singleton.1 h3, len_turn a i h6.2]; omega
  · cases h3
theorem plus_list (x : List UInt8) : ((⟨#[43]⟩ : ByteArray) ++ (⟨x.toArray⟩ : ByteArray)).toList = 43 :: x := by
  rw [cat_str [43] x]
  simp
def kindsTo (s : List UInt8) (j : Nat) : List (List UInt8) := (List.range j).flatMap fun k => slipsL s (k + 2)
theorem kindsTo_succ (s : List UInt8) (j : Nat) : kindsTo s (j + 1) = kindsTo s j ++ slipsL s (j + 2) := by
  unfold kindsTo
  rw [List.range_succ, List.flatMap_append]
  simp
theorem kindsTo_four (s : List UInt8) : kindsTo s 4 = allKinds s := by
  unfold allKinds
  rw [kindsTo_succ, kindsTo_succ, kindsTo_succ, kindsTo_succ]
  simp [kindsTo]
theorem kindsTo_len (s : List UInt8) (j : Nat) : (kindsTo s j).length ≤ 10 * (s.length + 1) * j := by
  have h := flat_len (fun k => slipsL s (k + 2)) (10 * (s.length + 1)) (fun k => slipsL_len s (k + 2)) (List.range j)
  rw [List.length_range] at h
  exact h

set_option maxRecDepth 100000 in
set_option maxHeartbeats 4000000 in
theorem slipsOf_ref (w : World) (a : Option Addr) (n cap : Nat) (l : List Ctry) (hr : CtryRow w a n l) (hcap : n ≤ cap) (hE : planErr l = 0) (s : List UInt8) (hs : s.length ≤ 80) : Calls Tryz.prog 24 #[.slice a n cap, .string ⟨(43 :: s).toArray⟩] w (OncePost (onceL (takeN (okN l) s (allKinds s))) w) := by
  obtain ⟨i0, hi, hz00, hz1, hz2⟩ := info_parts Tryz.infoStr
  have HR := Lib.hid hr
  have HSP : Hid (∀ W x, CtryRow W a n l → x.length ≤ 1000 → Calls Tryz.prog 21 #[.slice a n cap, .string ⟨x.toArray⟩] W (PartsPost (splitP l x) W)) := fun W x hW hx => by rw [← split_same x hE]; exact splitOf_any W a n cap l hW hcap x hx
  have HEX : Hid ((⟨(43 :: s).toArray⟩ : ByteArray).extract 1 (s.length + 1) = ⟨s.toArray⟩) := extract_drop (43 :: s) 1
  have HFIN := Lib.hid (kindsTo_four s)
  clear hr
  go_enter Tryz.func24, Tryz.ntmps24
  go_wp2_with fail
  have HC : Hid (∀ w9, Below (w.heap.size + 1) (w.alloc (.cells #[.int .i64 2, .int .i64 3, .int .i64 4, .int .i64 5] 3)) w9 → ∀ j, j < 4 → w9.cell? ⟨w.heap.size, j, none⟩ = some (.int .i64 ((j : Nat) + 2 : Int))) := fun w9 h9 j hj => cells_kinds h9 j hj
  have HB0 : Hid (Below w.heap.size w (w.alloc (.cells #[.int .i64 2, .int .i64 3, .int .i64 4, .int .i64 5] 3))) := (by (try show Below _ _ _); repeat (with_reducible first | exact Below.refl _ _ | assumption | exact Hid.out (by assumption) | refine ext_alloc ?_ | refine ext_drewN ?_ | refine ext_drew ?_ | refine ext_setCell ?_ (Nat.le_refl _) | refine ext_setCell ?_ (Nat.le_succ _) | refine ext_trans ?_ (by assumption) | (refine ext_setCell ?_ (by simp)) | (refine ext_setCell ?_ (by simp at *; omega))))
  have hz0 : (w.alloc (.cells #[.int .i64 2, .int .i64 3, .int .i64 4, .int .i64 5] 3)).heap.size = w.heap.size + 1 := by simp
  generalize World.alloc w _ = W0 at HC HB0 hz0 ⊢
  go_loopw [5, 14] (fun v jv wr => ∃ (j : Nat) (ys : List (List UInt8)), j ≤ 4 ∧ jv = .int .i64 j ∧ Hid (ys = takeN (okN l) s (kindsTo s j)) ∧ Hid (wr.ownsRow (w.heap.size + 1) 9 1 v ys.length (ys.map encS)) ∧ Hid (Below (w.heap.size + 1) W0 wr)) (fun _ jv _ => 4 - (intOf jv).toNat)
  case atStart => exact ⟨0, [], by omega, rfl, rfl, World.ownsRow_nil _ _ _ _, Below.refl _ _⟩
  case round =>
    obtain ⟨j, ys, hj, rfl, HY, HO, HB⟩ := hrel
    by_cases hlt : j < 4
    · have hltI : (j : Int) < 4 := by omega
      have c0 := HC.out wr HB.out j hlt
      have hsz := HB.out.size
      have hzw : w.heap.size < wr.heap.size := by omega
      have hsl := slipsL_len s (j + 2)
      have hyl : ys.length ≤ 3300 := by
        have h1 := kindsTo_len s j
        have h2 := takeN_len (okN l) s (kindsTo s j)
        rw [HY.out]
        have h3 : 10 * (s.length + 1) * j ≤ 810 * 4 := Nat.mul_le_mul (by omega) (by omega)
        omega
      have HSH : Hid (∀ x ∈ slipsL s (j + 2), x.length ≤ 81) := fun x hx => Nat.le_trans (slips_short hx) (by omega)
      have HST : Hid (takeN (okN l) s (kindsTo s (j + 1)) = ys ++ takeN (okN l) s (slipsL s (j + 2))) := by show _ = _; rw [kindsTo_succ, takeN_app, ← HY.out]
      have e1 : (0 : Int) ≤ (s.length : Int) := by omega
      clear hsz
      as_aux_lemma =>
        go_wp2_with fail
        rw [HEX.out]
        refine (slipsOf_any s (j + 2) (by omega) (by omega) _).mono ?_
        rintro e w2 ⟨lv, rfl, hol, hb2⟩
        have HB2 : Hid (Below (w.heap.size + 1) W0 w2) := HB.out.trans (hb2.mono (by omega))
        have HO2 := Lib.hid (own_keep HO.out hb2)
        have HNE : Hid (∀ g, lv.ownBlock = some g → wr.heap.size ≤ g ∧ g < w2.heap.size) := fun g hg => hol.lt g hg
        have HVL : Hid (∀ v : Value, wr.ownsRow (w.heap.size + 1) 9 1 v ys.length (ys.map encS) → lv.ownBlock = none ∨ lv.ownBlock ≠ v.ownBlock) := fun v hv => by
          cases hq : lv.ownBlock with
          | none => exact Or.inl rfl
          | some g =>
            refine Or.inr fun e => ?_
            have h1 := (HNE.out g hq).1
            have h2 := (hv.lt g e.symm).2
            omega
        have HDJ := Lib.hid (HVL.out _ HO.out)
        have HL := Lib.hid hol
        clear hol hb2 c0 HO HB HVL
        generalize slipsL s (j + 2) = L at HL hsl HSH HST
        have hll : L.length ≤ 900 := by omega
        obtain ⟨la, lc, rfl⟩ := own_shape HL.out
        generalize hln : L.length = m at HL HDJ hll hsl ⊢
        have HLN := Lib.hid hln
        generalize hwb : wr.heap.size = WB at HL HNE
        clear hln hwb
        as_aux_lemma =>
          go_wp2_with fail
          go_loopw [5, 23] (fun v kv wr => ∃ (k : Nat) (zs : List (List UInt8)), k ≤ m ∧ kv = .int .i64 k ∧ Hid (zs = ys ++ takeN (okN l) s (L.take k)) ∧ Hid (wr.ownsRow (w.heap.size + 1) 9 1 v zs.length (zs.map encS)) ∧ Hid (wr.ownsRow WB 9 1 (.slice la m lc) m (L.map encS)) ∧ Hid ((Value.slice la m lc).ownBlock = none ∨ (Value.slice la m lc).ownBlock ≠ v.ownBlock) ∧ Hid (Below (w.heap.size + 1) W0 wr)) (fun _ kv _ => m - (intOf kv).toNat)
          case atStart => exact ⟨0, ys, Nat.zero_le _, rfl, by show _ = _; simp [takeN], HO2.out, HL.out, HDJ.out, HB2.out⟩
          case round =>
            obtain ⟨k, zs, hk, rfl, HZ, HOZ, HLZ, HDZ, HBZ⟩ := hrel
            by_cases hlt2 : k < m
            · have hltI2 : (k : Int) < m := by omega
              have hkl : k < L.length := Nat.lt_of_lt_of_eq hlt2 HLN.out.symm
              obtain ⟨g, rfl, hgl, c1⟩ : ∃ g, la = some ⟨g, 0, none⟩ ∧ g < wr.heap.size ∧ wr.cell? ⟨g, k, none⟩ = some (.string ⟨(L.getD k []).toArray⟩) := by
                rcases HLZ.out.2 with ⟨-, h0⟩ | ⟨g, cap, cur, e, -, hb, -⟩
                · omega
                · injection e with e1 e2 e3
                  have h9 := HLZ.out
                  rw [e1, e3] at h9
                  refine ⟨g, e1, (Array.getElem?_eq_some_iff.1 hb).1, ?_⟩
                  rw [h9.cellAt k (by omega)]
                  simp [encS, hkl]
              have hx81 : (L.getD k []).length ≤ 81 := HSH.out _ (by rw [show L.getD k [] = L[k] by simp [hkl]]; exact List.getElem_mem hkl)
              have HTK : Hid (takeN (okN l) s (L.take (k + 1)) = takeN (okN l) s (L.take k) ++ takeN (okN l) s [L.getD k []]) := by
                show _ = _
                rw [← takeN_app, List.take_add_one, List.getElem?_eq_getElem hkl]
                simp [hkl]
              have hzl : zs.length ≤ 4300 := by
                have h1 := takeN_len (okN l) s (L.take k)
                rw [List.length_take] at h1
                rw [HZ.out, List.length_append]
                omega
              have HBW : Hid (Below w.heap.size w wr) := HB0.out.trans (HBZ.out.mono (by omega))
              have HZN : Hid (ys ++ takeN (okN l) s (L.take (k + 1)) = zs ++ takeN (okN l) s [L.getD k []]) := by show _ = _; rw [HTK.out, HZ.out, List.append_assoc]
              have HT1 : Hid (takeN (okN l) s [L.getD k []] = if (okN l (L.getD k []) && !(L.getD k [] == s)) = true then [43 :: L.getD k []] else []) := takeN_one _ _ _
              clear hkl
              generalize L.getD k [] = x at c1 hx81 HTK HZN HT1
              have HOK : Hid (okN l x = decide ((splitP l (43 :: x)).err = 0)) := rfl
              clear HTK
              as_aux_lemma =>
                go_wp2_with fail
                rw [show (⟨#[43]⟩ : ByteArray) ++ ⟨x.toArray⟩ = ⟨(43 :: x).toArray⟩ from cat_str [43] x]
                refine (HSP.out _ (43 :: x) (HR.out.below HBW.out) (by rw [List.length_cons]; omega)).mono ?_
                rintro e w5 ⟨rfl, hb5⟩
                generalize splitP l (43 :: x) = X at HOK ⊢
                obtain ⟨er, co, ar, re⟩ := X
                simp only at HOK ⊢
                have HO5 := Lib.hid (own_keep HOZ.out hb5)
                have HL5 := Lib.hid (own_keep HLZ.out hb5)
                have HB5 : Hid (Below (w.heap.size + 1) W0 w5) := HBZ.out.trans (hb5.mono (by have := HBZ.out.size; omega))
                have hz5 : g < w5.heap.size := Nat.lt_of_lt_of_le hgl hb5.size
                clear hb5 c1 HOZ HLZ HBW
                have hz9 := HB5.out.size
                by_cases her : er = 0
                · subst her
                  have HO9 : Hid (okN l x = true) := by show _ = _; rw [HOK.out]; simp
                  by_cases hxs : x = s
                  · have hcmp : (((⟨#[43]⟩ : ByteArray) ++ (⟨x.toArray⟩ : ByteArray)).toList == 43 :: s) = true := by rw [plus_list, hxs]; simp
                    have HZ9 : Hid (zs = ys ++ takeN (okN l) s (L.take (k + 1))) := by show _ = _; rw [HZN.out, HT1.out, HO9.out, hxs]; simp
                    clear HOK HO9 HZN HT1 hxs
                    as_aux_lemma =>
                      go_wp2_with fail
                      go_roundw
                      case rel => exact ⟨k + 1, zs, by omega, by go_num, HZ9.out, HO5.out.alloc _, HL5.out.alloc _, HDZ.out, HB5.out.alloc (by omega) _⟩
                      case measure => first | (simp [intOf]; done) | (simp [intOf]; omega)
                  · have hcmp : (((⟨#[43]⟩ : ByteArray) ++ (⟨x.toArray⟩ : ByteArray)).toList == 43 :: s) = false := by rw [plus_list]; simpa using hxs
                    have HZ9 : Hid (zs ++ [43 :: x] = ys ++ takeN (okN l) s (L.take (k + 1))) := by
                      show _ = _
                      rw [HZN.out, HT1.out, HO9.out, if_pos (by simpa using hxs)]
                    clear HOK HO9 HZN HT1 hxs
                    have HOA := Lib.hid ((HO5.out.alloc (.cells #[.string ⟨co.toArray⟩, .string ⟨ar.toArray⟩, .string ⟨re.toArray⟩] 43)).alloc (.cells #[.string ((⟨#[43]⟩ : ByteArray) ++ ⟨x.toArray⟩)] 9))
                    have HLA := Lib.hid ((HL5.out.alloc (.cells #[.string ⟨co.toArray⟩, .string ⟨ar.toArray⟩, .string ⟨re.toArray⟩] 43)).alloc (.cells #[.string ((⟨#[43]⟩ : ByteArray) ++ ⟨x.toArray⟩)] 9))
                    as_aux_lemma =>
                      go_wp2_with (at_builtin; refine wpList_append_own_at _ rfl (.tmp 42) (.tmp 45) 35 rfl (w.heap.size + 1) 9 i0 (.string ⟨#[]⟩) 1 16 Tryz.underlying35 hi hz00 hz1 hz2 rfl (by decide) _ zs.length _ rfl HOA.out ⟨w5.heap.size + 1, 0, none⟩ 1 1 [.string ((⟨#[43]⟩ : ByteArray) ++ ⟨x.toArray⟩)] rfl rfl (news_one (by go_simp)) (by simp [Value.oneCell']) (by simp only [maxLen]; omega) (by omega) (by simp; omega) ?_; intro v6 w6 hown6 hgr6 _ hat6)
                      have HO6 : Hid (w6.ownsRow (w.heap.size + 1) 9 1 v6 (zs ++ [43 :: x]).length ((zs ++ [43 :: x]).map encS)) := by
                        show World.ownsRow _ _ _ _ _ _ _
                        rw [show (zs ++ [43 :: x]).map encS = zs.map encS ++ [.string ((⟨#[43]⟩ : ByteArray) ++ ⟨x.toArray⟩)] by rw [cat_str [43] x]; simp [encS], List.length_append]
                        exact hown6
                      have HL6 := Lib.hid (HLA.out.kept hgr6 HDZ.out)
                      have HD6 : Hid ((Value.slice (some ⟨g, 0, none⟩) m lc).ownBlock = none ∨ (Value.slice (some ⟨g, 0, none⟩) m lc).ownBlock ≠ v6.ownBlock) := by
                        rcases hat6 with h9 | h9
                        · rw [h9]; exact HDZ.out
                        · refine Or.inr fun e => ?_
                          rw [h9] at e
                          simp [Value.ownBlock] at e
                          omega
                      have HB6 : Hid (Below (w.heap.size + 1) W0 w6) := ((HB5.out.alloc (by omega) (.cells #[.string ⟨co.toArray⟩, .string ⟨ar.toArray⟩, .string ⟨re.toArray⟩] 43)).alloc (by simp; omega) (.cells #[.string ((⟨#[43]⟩ : ByteArray) ++ ⟨x.toArray⟩)] 9)).grown hgr6 (by simp; omega) (fun b e => (HO5.out.lt b e).1)
                      clear hown6 hgr6 hat6
                      go_roundw
                      case rel => exact ⟨k + 1, zs ++ [43 :: x], by omega, by go_num, HZ9.out, HO6.out, HL6.out, HD6.out, HB6.out⟩
                      case measure => first | (simp [intOf]; done) | (simp [intOf]; omega)
                · have HO9 : Hid (okN l x = false) := by show _ = _; rw [HOK.out]; simpa using her
                  have HZ9 : Hid (zs = ys ++ takeN (okN l) s (L.take (k + 1))) := by show _ = _; rw [HZN.out, HT1.out, HO9.out]; simp
                  clear HOK HO9 HZN HT1
                  as_aux_lemma =>
                    go_wp2_with fail
                    go_roundw
                    case rel => exact ⟨k + 1, zs, by omega, by go_num, HZ9.out, HO5.out.alloc _, HL5.out.alloc _, HDZ.out, HB5.out.alloc (by omega) _⟩
                    case measure => first | (simp [intOf]; done) | (simp [intOf]; omega)
            · obtain rfl : k = m := by omega
              have HZ9 : Hid (zs = takeN (okN l) s (kindsTo s (j + 1))) := by
                show _ = _
                rw [HST.out, HZ.out, List.take_of_length_le (Nat.le_of_eq HLN.out)]
              clear HZ HST
              as_aux_lemma =>
                go_wp2_with fail
                go_roundw
                case rel => exact ⟨j + 1, zs, by omega, by go_num, HZ9.out, HOZ.out, HBZ.out⟩
                case measure => first | (simp [intOf]; done) | (simp [intOf]; omega)
    · obtain rfl : j = 4 := by omega
      have HY9 : Hid (ys = takeN (okN l) s (allKinds s)) := by show _ = _; rw [HY.out, HFIN.out]
      have hyl : ys.length ≤ 3300 := by
        have h1 := kindsTo_len s 4
        have h2 := takeN_len (okN l) s (kindsTo s 4)
        rw [HY.out]
        omega
      have HBW : Hid (Below w.heap.size w wr) := HB0.out.trans (HB.out.mono (by omega))
      clear HY HFIN HSP
      as_aux_lemma =>
        go_wp2_with fail
        refine (once_any HO.out (by omega)).mono ?_
        rintro e w2 ⟨v2, rfl, ho2, hb2⟩
        have HO2 := Lib.hid ho2
        have HB2 := Lib.hid (ext_trans HBW.out hb2)
        have HBS := Lib.hid HBW.out.size
        clear ho2 hb2
        go_wp2_with fail
        go_ret
        exact ⟨v2, rfl, by rw [← HY9.out]; exact own_le HO2.out HBS.out, HB2.out⟩
end Go.Proofs.YtbbbaeenngjldaaGreatDoor

set_option linter.unusedVariables false
set_option linter.unusedSimpArgs false
namespace Go.Proofs.YtbbbaeenngjldaaGreatDoor
open Go.RowKit

/-- The captured variables: the plan, the digits, what has been taken. -/
structure Cap (w : World) (Bp Bs Bo : Nat) (a : Option Addr) (n cap : Nat) (l : List Ctry) (s : List UInt8) (ys : List (List UInt8)) : Prop where
  plan : w.cell? ⟨Bp, 0, none⟩ = some (.slice a n cap)
  digs : w.cell? ⟨Bs, 0, none⟩ = some (.string ⟨s.toArray⟩)
  row : CtryRow w a n l
  ltp : Bp < Bo
  lts : Bs < Bo
  out : ∃ v, w.heap[Bo]? = some (.cells #[v] 35 (0, 0)) ∧ w.ownsRow (Bo + 1) 9 1 v ys.length (ys.map encS)
theorem Cap.lt {w : World} {Bp Bs Bo n cap : Nat} {a : Option Addr} {l : List Ctry} {s : List UInt8} {ys : List (List UInt8)} (h : Cap w Bp Bs Bo a n cap l s ys) : Bs < w.heap.size := by
  obtain ⟨-, -, -, -, h1, v, h2, -⟩ := h
  exact Nat.lt_trans h1 (Array.getElem?_eq_some_iff.1 h2).1
theorem Cap.alloc {w : World} {Bp Bs Bo n cap : Nat} {a : Option Addr} {l : List Ctry} {s : List UInt8} {ys : List (List UInt8)} (h : Cap w Bp Bs Bo a n cap l s ys) (o : Obj) : Cap (w.alloc o) Bp Bs Bo a n cap l s ys := by
  obtain ⟨h1, h2, h3, h4, h5, v, h6, h7⟩ := h
  have hlo := (Array.getElem?_eq_some_iff.1 h6).1
  have hb : Below w.heap.size w (w.alloc o) := (Below.refl _ _).alloc (Nat.le_refl _) o
  exact ⟨(hb.cell (p := ⟨Bp, 0, none⟩) (by show Bp < _; omega)).trans h1, (hb.cell (p := ⟨Bs, 0, none⟩) (by show Bs < _; omega)).trans h2, h3.below hb, h4, h5, v, (hb.block Bo hlo).trans h6, h7.alloc o⟩
theorem Cap.below {w w' : World} {Bp Bs Bo n cap : Nat} {a : Option Addr} {l : List Ctry} {s : List UInt8} {ys : List (List UInt8)} (h : Cap w Bp Bs Bo a n cap l s ys) (hb : Below w.heap.size w w') : Cap w' Bp Bs Bo a n cap l s ys := by
  obtain ⟨h1, h2, h3, h4, h5, v, h6, h7⟩ := h
  have hlo := (Array.getElem?_eq_some_iff.1 h6).1
  exact ⟨(hb.cell (p := ⟨Bp, 0, none⟩) (by show Bp < _; omega)).trans h1, (hb.cell (p := ⟨Bs, 0, none⟩) (by show Bs < _; omega)).trans h2, h3.below hb, h4, h5, v, (hb.block Bo hlo).trans h6, own_keep h7 hb⟩
theorem Cap.drew {w : World} {Bp Bs Bo n cap : Nat} {a : Option Addr} {l : List Ctry} {s : List UInt8} {ys : List (List UInt8)} (h : Cap w Bp Bs Bo a n cap l s ys) : Cap w.drew Bp Bs Bo a n cap l s ys := by
  obtain ⟨h1, h2, h3, h4, h5, v, h6, h7⟩ := h
  exact ⟨h1, h2, h3.below (Below.refl _ _).drew, h4, h5, v, h6, h7⟩
def TakePost (Bp Bs Bo : Nat) (a : Option Addr) (n cap : Nat) (l : List Ctry) (s : List UInt8) (ys : List (List UInt8)) (w : World) (e : Ending) (w' : World) : Prop :=
  e = .returned (.tuple #[]) ∧ Cap w' Bp Bs Bo a n cap l s ys ∧ Below Bo w w'

set_option maxRecDepth 100000 in
set_option maxHeartbeats 4000000 in
theorem take_any (w : World) (Bp Bs Bo : Nat) (a : Option Addr) (n cap : Nat) (l : List Ctry) (s : List UInt8) (ys : List (List UInt8)) (h : Cap w Bp Bs Bo a n cap l s ys) (hrow : ∀ w9, Below Bo w w9 → CtryRow w9 a n l) (hcap : n ≤ cap) (hne : 1 ≤ n) (hna : ∀ i, i < l.length → 1 ≤ (l.getD i noCtry).an) (hy : ys.length ≤ 5000) (d : List UInt8) (hd : d.length ≤ 100) :
    Calls Tryz.prog 112 #[.string ⟨d.toArray⟩, .pointer (some ⟨Bp, 0, none⟩), .pointer (some ⟨Bs, 0, none⟩), .pointer (some ⟨Bo, 0, none⟩)] w (TakePost Bp Bs Bo a n cap l s (ys ++ takeN (okN l) s [d]) w) := by
  obtain ⟨i0, hi, hz00, hz1, hz2⟩ := info_parts Tryz.infoStr
  have HR := Lib.hid hrow
  have HNA := Lib.hid hna
  obtain ⟨c0, c1, hr, ltp, lts, v, hbo, hov⟩ := h
  have hlo : Bo < w.heap.size := (Array.getElem?_eq_some_iff.1 hbo).1
  have HO := Lib.hid hov
  have HBO := Lib.hid hbo
  have hr' := Lib.hid hr
  have HT1 : Hid (takeN (okN l) s [d] = if (okN l d && !(d == s)) = true then [43 :: d] else []) := takeN_one _ _ _
  have HOK : Hid (okN l d = decide ((splitP l (43 :: d)).err = 0)) := rfl
  generalize takeN (okN l) s [d] = T at HT1 ⊢
  clear hna hrow hov hbo hr
  go_enter Tryz.func112, Tryz.ntmps112
  go_wp2_with fail
  rw [show (⟨#[43]⟩ : ByteArray) ++ ⟨d.toArray⟩ = ⟨(43 :: d).toArray⟩ from cat_str [43] d]
  refine (split_any _ a n cap l hr'.out hne HNA.out (43 :: d) (by rw [List.length_cons]; omega)).mono ?_
  rintro e w2 ⟨y0, y1, y2, ya, yn, yc, y4, y5, y6, rfl, hb2⟩
  generalize splitP l (43 :: d) = X at HOK ⊢
  obtain ⟨er, co, ar, re⟩ := X
  simp only at HOK ⊢
  have HB2 := Lib.hid hb2
  have d0 : w2.cell? ⟨Bp, 0, none⟩ = some (.slice a n cap) := (hb2.cell (p := ⟨Bp, 0, none⟩) (by show Bp < _; omega)).trans c0
  have d1 : w2.cell? ⟨Bs, 0, none⟩ = some (.string ⟨s.toArray⟩) := (hb2.cell (p := ⟨Bs, 0, none⟩) (by show Bs < _; omega)).trans c1
  have HO2 := Lib.hid (own_keep HO.out hb2)
  have HBO2 : Hid (w2.heap[Bo]? = some (.cells #[v] 35 (0, 0))) := (hb2.block Bo hlo).trans HBO.out
  have hlo2 : Bo < w2.heap.size := Nat.lt_of_lt_of_le hlo hb2.size
  have hbs2 : Bs < w2.heap.size := by omega
  have hbp2 : Bp < w2.heap.size := by omega
  have c2 : w2.cell? ⟨Bo, 0, none⟩ = some v := cell_of_one HBO2.out
  have HP2 : Hid (∀ w9 ys9 v9, Below Bo w2 w9 → w9.heap[Bo]? = some (.cells #[v9] 35 (0, 0)) → w9.ownsRow (Bo + 1) 9 1 v9 ys9.length (ys9.map encS) → TakePost Bp Bs Bo a n cap l s ys9 w (.returned (.tuple #[])) w9) := fun w9 ys9 v9 hb hc ho => by
    have hb9 : Below Bo w w9 := (HB2.out.mono (by omega)).trans hb
    exact ⟨rfl, ⟨(hb.cell (p := ⟨Bp, 0, none⟩) (by show Bp < _; omega)).trans d0, (hb.cell (p := ⟨Bs, 0, none⟩) (by show Bs < _; omega)).trans d1, HR.out w9 hb9, ltp, lts, v9, hc, ho⟩, hb9⟩
  have HVB : Hid (v.ownBlock ≠ some Bo) := fun e => by have := (HO2.out.lt _ e).1; omega
  clear hb2 c0 c1 HBO HO
  have HPZ := Lib.hid (((Below.refl Bo w2).alloc (by omega) (.cells #[.string ⟨co.toArray⟩, .string ⟨ar.toArray⟩, .string ⟨re.toArray⟩, .string y0, .string y1, .string y2, .slice ya yn yc, .string y4, .int .i64 y5, .int .i64 y6] 191)))
  have HBOZ : Hid ((w2.alloc (.cells #[.string ⟨co.toArray⟩, .string ⟨ar.toArray⟩, .string ⟨re.toArray⟩, .string y0, .string y1, .string y2, .slice ya yn yc, .string y4, .int .i64 y5, .int .i64 y6] 191)).heap[Bo]? = some (.cells #[v] 35 (0, 0))) := (Below.heap_alloc _ _ _ hlo2).trans HBO2.out
  by_cases her : er = 0
  · subst her
    have HO9 : Hid (okN l d = true) := by show _ = _; rw [HOK.out]; simp
    by_cases hds : d = s
    · have hcmp : (d == s) = true := by simpa using hds
      obtain rfl : T = [] := by rw [HT1.out, HO9.out, hds]; simp
      clear HOK HO9 HT1 hds
      as_aux_lemma =>
        go_wp2_with fail
        go_end0
        rw [List.append_nil]
        exact HP2.out _ _ v HPZ.out HBOZ.out (HO2.out.alloc _)
    · have hcmp : (d == s) = false := by simpa using hds
      obtain rfl : T = [43 :: d] := by rw [HT1.out, HO9.out, hcmp]; simp
      clear HOK HO9 HT1 hds
      have HOA := Lib.hid ((HO2.out.alloc (.cells #[.string ⟨co.toArray⟩, .string ⟨ar.toArray⟩, .string ⟨re.toArray⟩, .string y0, .string y1, .string y2, .slice ya yn yc, .string y4, .int .i64 y5, .int .i64 y6] 191)).alloc (.cells #[.string ((⟨#[43]⟩ : ByteArray) ++ ⟨d.toArray⟩)] 9))
      as_aux_lemma =>
        go_wp2_with (at_builtin; refine wpList_append_own _ rfl (.tmp 21) (.tmp 24) 35 rfl (Bo + 1) 9 i0 (.string ⟨#[]⟩) 1 16 Tryz.underlying35 hi hz00 hz1 hz2 rfl (by decide) _ ys.length _ rfl HOA.out ⟨w2.heap.size + 1, 0, none⟩ 1 1 [.string ((⟨#[43]⟩ : ByteArray) ++ ⟨d.toArray⟩)] rfl rfl (news_one (by go_simp)) (by simp [Value.oneCell']) (by simp only [maxLen]; omega) (by omega) (by simp; omega) ?_; intro v6 w6 hown6 hgr6 _; obtain ⟨a6, k6, rfl⟩ := own_shape hown6; have hbo6 : w6.heap[Bo]? = some (.cells #[v] 35 (0, 0)) := (hgr6.block Bo (by simp; omega) (fun e => HVB.out e.symm)).trans ((Below.heap_alloc _ _ _ (by simp; omega)).trans HBOZ.out); have c6 := cell_of_one hbo6; have f6 := free_of_one hbo6; have l6 := lt_of_block hbo6; have HBO6 := Lib.hid hbo6; clear hbo6)
        have HO6 : Hid (w6.ownsRow (Bo + 1) 9 1 (.slice a6 (ys.length + 1) k6) (ys ++ [43 :: d]).length ((ys ++ [43 :: d]).map encS)) := by
          show World.ownsRow _ _ _ _ _ _ _
          rw [show (ys ++ [43 :: d]).map encS = ys.map encS ++ [.string ((⟨#[43]⟩ : ByteArray) ++ ⟨d.toArray⟩)] by rw [cat_str [43] d]; simp [encS], List.length_append]
          exact hown6
        have HB6 : Hid (Below Bo w2 w6) := (HPZ.out.alloc (by simp; omega) (.cells #[.string ((⟨#[43]⟩ : ByteArray) ++ ⟨d.toArray⟩)] 9)).grown hgr6 (by simp; omega) (fun b e => by have := (HO2.out.lt b e).1; omega)
        clear hown6 hgr6
        go_end0
        exact HP2.out _ _ _ (HB6.out.setCell (Nat.le_refl _) _) (one_setCell HBO6.out) (ownsRow_setCell_other HO6.out (fun e => by have h9 : Bo + 1 ≤ Bo := (HO6.out.lt _ e).1; omega) _)
  · have HO9 : Hid (okN l d = false) := by show _ = _; rw [HOK.out]; simpa using her
    obtain rfl : T = [] := by rw [HT1.out, HO9.out]; simp
    clear HOK HO9 HT1
    as_aux_lemma =>
      go_wp2_with fail
      go_end0
      rw [List.append_nil]
      exact HP2.out _ _ v HPZ.out HBOZ.out (HO2.out.alloc _)
end Go.Proofs.YtbbbaeenngjldaaGreatDoor

set_option linter.unusedVariables false
set_option linter.unusedSimpArgs false
namespace Go.Proofs.YtbbbaeenngjldaaGreatDoor
open Go.RowKit

def splitTop (l : List Ctry) (s : List UInt8) : Spl := if planErr l = 0 then splitP l s else noSpl (planErr l)

set_option maxRecDepth 100000 in
set_option maxHeartbeats 2000000 in
theorem numSplit_any (w : World) (a : Option Addr) (n cap : Nat) (l : List Ctry) (hr : CtryRow w a n l) (hcap : n ≤ cap) (hne : 1 ≤ n) (hna : ∀ i, i < l.length → 1 ≤ (l.getD i noCtry).an) (s : List UInt8) (hs : s.length ≤ 1000) : Calls Tryz.prog 111 #[.slice a n cap, .string ⟨s.toArray⟩] w (PartsPost (splitTop l s) w) := by
  have HR := Lib.hid hr
  have HNA := Lib.hid hna
  have HDEF : Hid (splitTop l s = if planErr l = 0 then splitP l s else noSpl (planErr l)) := rfl
  generalize splitTop l s = R at HDEF ⊢
  clear hr hna
  go_enter Tryz.func111, Tryz.ntmps111
  go_wp2_with fail
  refine (checkPlan_any _ _ n cap l (HR.out.below (ext_alloc (Below.refl _ _))) hcap).mono ?_
  rintro e w1 ⟨rfl, hb1⟩
  obtain ⟨qc, qf⟩ := bcell hb1
  have hz0 : w.heap.size < w1.heap.size := by have := hb1.size; simp at this; omega
  have HB1 : Hid (Below w.heap.size w w1) := ext_trans (ext_alloc (Below.refl _ _)) hb1
  have r0 : w1.cell? ⟨w.heap.size, 0, none⟩ = some (.string ⟨#[]⟩) := (qc _ 0 (by simp)).trans (by go_simp)
  have r1 : w1.cell? ⟨w.heap.size, 1, none⟩ = some (.string ⟨#[]⟩) := (qc _ 1 (by simp)).trans (by go_simp)
  have r2 : w1.cell? ⟨w.heap.size, 2, none⟩ = some (.string ⟨#[]⟩) := (qc _ 2 (by simp)).trans (by go_simp)
  have rf : ∀ j, w1.frozen? ⟨w.heap.size, j, none⟩ = false := fun j => (qf _ j (by simp)).trans (by go_simp)
  have HR1 := Lib.hid (HR.out.below HB1.out)
  clear qc qf hb1
  generalize planErr l = E at HDEF ⊢
  as_aux_lemma =>
    by_cases he : E = 0
    · subst he
      have HD : Hid (R = splitP l s) := HDEF.out
      as_aux_lemma =>
        go_wp2_with fail
        refine (split_any _ _ n cap l HR1.out hne HNA.out s hs).mono ?_
        rintro e w2 ⟨y0, y1, y2, ya, yn, yc, y4, y5, y6, rfl, hb2⟩
        obtain ⟨qc, qf⟩ := bcell hb2
        have HB2 := Lib.hid (ext_trans HB1.out hb2)
        have s0 := (qc _ 0 hz0).trans r0
        have s1 := (qc _ 1 hz0).trans r1
        have s2 := (qc _ 2 hz0).trans r2
        have sf : ∀ j, w2.frozen? ⟨w.heap.size, j, none⟩ = false := fun j => (qf _ j hz0).trans (rf j)
        have hz2 : w.heap.size < w2.heap.size := Nat.lt_of_lt_of_le hz0 hb2.size
        clear qc qf hb2 r0 r1 r2 rf
        generalize splitP l s = X at HD ⊢
        obtain ⟨err, code, area, rest⟩ := X
        simp only
        have HTX : Hid (w2.there w.heap.size 0 3) := there3 s0 s1 s2 sf
        as_aux_lemma =>
          go_wp2_with fail
          rw [row3]
          have HC9 := Lib.hid (World.rangeAt_setCells_same w2 w.heap.size 0 [.string ⟨code.toArray⟩, .string ⟨area.toArray⟩, .string ⟨rest.toArray⟩] (HTX.out))
          have HB9 := Lib.hid (setCells_ext (B := w.heap.size) (Nat.le_refl _) [.string ⟨code.toArray⟩, .string ⟨area.toArray⟩, .string ⟨rest.toArray⟩] w2 0 HB2.out)
          generalize World.setCells w2 w.heap.size 0 _ = W9 at HC9 HB9 ⊢
          refine bodyPost_ret (?_ : _ = Result.ok (.tuple #[.agg #[.string ⟨code.toArray⟩, .string ⟨area.toArray⟩, .string ⟨rest.toArray⟩], .int .i64 err]) _) rfl ?_
          · exact results_cell2 (t := 4) (u := 5) (by rfl) _ _ _ Tryz.isAgg43 Tryz.sizeOf43 (by rfl) [.string ⟨code.toArray⟩, .string ⟨area.toArray⟩, .string ⟨rest.toArray⟩] rfl (fun j v hj => Lib.cell?_alloc_some _ (by have := HC9.out j v hj; rw [Nat.zero_add] at this; exact this))
          exact ⟨by rw [HD.out], ext_alloc HB9.out⟩
    · have HD : Hid (R = noSpl E) := by show _ = _; rw [HDEF.out, if_neg he]
      have HTX : Hid (w1.there w.heap.size 0 3) := there3 r0 r1 r2 rf
      as_aux_lemma =>
        go_wp2_with fail
        rw [row3]
        have HC9 := Lib.hid (World.rangeAt_setCells_same w1 w.heap.size 0 [.string ⟨#[]⟩, .string ⟨#[]⟩, .string ⟨#[]⟩] (HTX.out))
        have HB9 := Lib.hid (setCells_ext (B := w.heap.size) (Nat.le_refl _) [.string ⟨#[]⟩, .string ⟨#[]⟩, .string ⟨#[]⟩] w1 0 HB1.out)
        generalize World.setCells w1 w.heap.size 0 _ = W9 at HC9 HB9 ⊢
        refine bodyPost_ret (?_ : _ = Result.ok (.tuple #[.agg #[.string ⟨#[]⟩, .string ⟨#[]⟩, .string ⟨#[]⟩], .int .i64 E]) _) rfl ?_
        · exact results_cell2 (t := 4) (u := 5) (by rfl) _ _ _ Tryz.isAgg43 Tryz.sizeOf43 (by rfl) [.string ⟨#[]⟩, .string ⟨#[]⟩, .string ⟨#[]⟩] rfl (fun j v hj => by have := HC9.out j v hj; rw [Nat.zero_add] at this; exact this)
        exact ⟨by rw [HD.out]; rfl, HB9.out⟩
end Go.Proofs.YtbbbaeenngjldaaGreatDoor

set_option linter.unusedVariables false
set_option linter.unusedSimpArgs false
namespace Go.Proofs.YtbbbaeenngjldaaGreatDoor
open Go.RowKit

theorem ten_nat (k : Nat) (hk : k < 10) : ((tenD.getD k 0).toNat : Int) = (k : Int) + 48 := by
  match k, hk with
  | 0, _ | 1, _ | 2, _ | 3, _ | 4, _ | 5, _ | 6, _ | 7, _ | 8, _ | 9, _ => rfl
def slipsTop (l : List Ctry) (s : List UInt8) : List (List UInt8) := onceL (takeN (okN l) s (tryTo s (s.length + 1)))
def SlipsTop (l : List Ctry) (nm : List UInt8) (w : World) (e : Ending) (w' : World) : Prop :=
  ∃ v ys, e = .returned (.tuple #[v, .int .i64 (splitTop l nm).err]) ∧ w'.ownsRow w.heap.size 9 1 v ys.length (ys.map encS) ∧ Below w.heap.size w w' ∧ (((splitTop l nm).err ≠ 0 ∧ ys = []) ∨ ((splitTop l nm).err = 0 ∧ ∃ s, nm = 43 :: s ∧ s.length ≤ 15 ∧ ys = slipsTop l s))
theorem split_plus {l : List Ctry} {nm : List UInt8} (h : (splitTop l nm).err = 0) : ∃ s, nm = 43 :: s ∧ 4 ≤ s.length ∧ s.length ≤ 15 := by
  unfold splitTop at h
  split at h
  · unfold splitP at h
    split at h
    · cases h
    · rename_i h1
      have hn : isNumB nm = true := by simpa using h1
      obtain ⟨d, rfl, -⟩ := plus_head hn
      have := num_len hn
      rw [List.length_cons] at this
      exact ⟨d, rfl, by omega, by omega⟩
  · rename_i h1
    exact absurd h h1

theorem cell_new (W : World) (v : Value) (t : TypeId) : (W.alloc (.cells #[v] t)).cell? ⟨W.heap.size, 0, none⟩ = some v := by simp
theorem byte_back (W : World) (c : UInt8) (q : Int) (h : (c.toNat : Int) = q) : (convert 195 9 (.slice (some ⟨W.heap.size, 0, none⟩) 1 1)).run Tryz.prog (W.alloc (.cells #[.int .u8 q] 5)).drew = .ok (.string ⟨[c].toArray⟩) (W.alloc (.cells #[.int .u8 q] 5)).drew := by
  subst h
  refine str_back _ W.heap.size 1 [c] (fun j hj => ?_)
  have h0 : j = 0 := by simpa using hj
  subst h0
  exact cell_new W (.int .u8 (c.toNat : Int)) 5
theorem block_new (W : World) (o : Obj) : (W.alloc o).heap[W.heap.size]? = some o := by
  show (W.heap.push o)[W.heap.size]? = some o
  simp
theorem cap_start (w1 : World) (o : Obj) (s : List UInt8) {Bp n cap : Nat} {a : Option Addr} {l : List Ctry} (q0 : w1.cell? ⟨Bp, 0, none⟩ = some (.slice a n cap)) (hp : Bp < w1.heap.size) (hr : CtryRow (((w1.alloc o).alloc (.cells #[.string ⟨s.toArray⟩] 9)).alloc (.cells #[.slice none 0 0] 35)) a n l) : Cap (((w1.alloc o).alloc (.cells #[.string ⟨s.toArray⟩] 9)).alloc (.cells #[.slice none 0 0] 35)) Bp (w1.heap.size + 1) (w1.heap.size + 1 + 1) a n cap l s [] := by
  have e1 : (w1.alloc o).heap.size = w1.heap.size + 1 := by simp
  have e2 : ((w1.alloc o).alloc (.cells #[.string ⟨s.toArray⟩] 9)).heap.size = w1.heap.size + 1 + 1 := by simp
  have hb : Below w1.heap.size w1 (((w1.alloc o).alloc (.cells #[.string ⟨s.toArray⟩] 9)).alloc (.cells #[.slice none 0 0] 35)) := (((Below.refl _ _).alloc (Nat.le_refl _) _).alloc (by rw [e1]; omega) _).alloc (by rw [e2]; omega) _
  refine ⟨(hb.cell (p := ⟨Bp, 0, none⟩) hp).trans q0, ?_, hr, by omega, by omega, .slice none 0 0, ?_, World.ownsRow_nil _ _ _ _⟩
  · have h1 := cell_new (w1.alloc o) (.string ⟨s.toArray⟩) 9
    rw [e1] at h1
    exact Lib.cell?_alloc_some _ h1
  · have h1 := block_new ((w1.alloc o).alloc (.cells #[.string ⟨s.toArray⟩] 9)) (.cells #[.slice none 0 0] 35)
    rw [e2] at h1
    exact h1

set_option maxRecDepth 100000 in
set_option maxHeartbeats 4000000 in
theorem slips_any (w : World) (a : Option Addr) (n cap : Nat) (l : List Ctry) (hr : CtryRow w a n l) (hcap : n ≤ cap) (hne : 1 ≤ n) (hna : ∀ i, i < l.length → 1 ≤ (l.getD i noCtry).an) (nm : List UInt8) (hs : nm.length ≤ 1000) : Calls Tryz.prog 16 #[.slice a n cap, .string ⟨nm.toArray⟩] w (SlipsTop l nm w) := by
  have HR := Lib.hid hr
  have HNA := Lib.hid hna
  have HPB : Hid (∀ w', Below w.heap.size w w' → (splitTop l nm).err ≠ 0 → SlipsTop l nm w (.returned (.tuple #[.slice none 0 0, .int .i64 (splitTop l nm).err])) w') := fun w' h1 h2 => ⟨_, [], rfl, World.ownsRow_nil _ _ _ _, h1, Or.inl ⟨h2, rfl⟩⟩
  have HPG : Hid (∀ w' s v, Below w.heap.size w w' → (splitTop l nm).err = 0 → nm = 43 :: s → s.length ≤ 15 → w'.ownsRow w.heap.size 9 1 v (slipsTop l s).length ((slipsTop l s).map encS) → SlipsTop l nm w (.returned (.tuple #[v, .int .i64 (splitTop l nm).err])) w') := fun w' s v h1 h2 h3 h4 h5 => ⟨v, _, rfl, h5, h1, Or.inr ⟨h2, s, h3, h4, rfl⟩⟩
  have HSPL := Lib.hid (fun W hW => numSplit_any W a n cap l hW hcap hne HNA.out nm hs)
  have HPL : Hid ((splitTop l nm).err = 0 → ∃ s, nm = 43 :: s ∧ 4 ≤ s.length ∧ s.length ≤ 15) := split_plus
  generalize splitTop l nm = X at HPB HPG HSPL HPL
  obtain ⟨er, co, ar, re⟩ := X
  simp only at HPB HPG HPL
  clear hr hna
  go_enter Tryz.func16, Tryz.ntmps16
  go_wp2_with fail
  refine (HSPL.out _ (HR.out.below (ext_alloc (Below.refl _ _)))).mono ?_
  rintro e w1 ⟨rfl, hb1⟩
  simp only
  have HB1 : Hid (Below w.heap.size w w1) := ext_trans (ext_alloc (Below.refl _ _)) hb1
  have q0 : w1.cell? ⟨w.heap.size, 0, none⟩ = some (.slice a n cap) := (hb1.cell (p := ⟨w.heap.size, 0, none⟩) (by simp)).trans (by go_simp)
  have hz1 : w.heap.size < w1.heap.size := by have := hb1.size; simp at this; omega
  clear hb1
  by_cases her : er = 0
  · subst her
    obtain ⟨s, rfl, hs4, hs15⟩ := HPL.out rfl
    have HEX : Hid ((⟨(43 :: s).toArray⟩ : ByteArray).extract 1 (s.length + 1) = ⟨s.toArray⟩) := extract_drop (43 :: s) 1
    as_aux_lemma =>
      go_upto_region 7 with (fail)
      rw [HEX.out]
      have HCAP0 : Hid (Cap (((w1.alloc (.cells #[.string ⟨co.toArray⟩, .string ⟨ar.toArray⟩, .string ⟨re.toArray⟩] 43)).alloc (.cells #[.string ⟨s.toArray⟩] 9)).alloc (.cells #[.slice none 0 0] 35)) w.heap.size (w1.heap.size + 1) (w1.heap.size + 1 + 1) a n cap l s []) := by
        exact cap_start w1 _ _ q0 hz1 (HR.out.below (((HB1.out.alloc (by omega) _).alloc (by simp; omega) _).alloc (by simp; omega) _))
      have HBC : Hid (Below w.heap.size w (((w1.alloc (.cells #[.string ⟨co.toArray⟩, .string ⟨ar.toArray⟩, .string ⟨re.toArray⟩] 43)).alloc (.cells #[.string ⟨s.toArray⟩] 9)).alloc (.cells #[.slice none 0 0] 35))) := ((HB1.out.alloc (by omega) _).alloc (by simp; omega) _).alloc (by simp; omega) _
      have hbs : w.heap.size < w1.heap.size + 1 := by omega
      clear q0
      generalize World.alloc (World.alloc (World.alloc w1 _) _) _ = Wc at HCAP0 HBC ⊢
      generalize w1.heap.size + 1 = Bs at HCAP0 hbs ⊢
      have HTK : Hid (∀ W ys d, Cap W w.heap.size Bs (Bs + 1) a n cap l s ys → Below (Bs + 1) Wc W → ys.length ≤ 5000 → d.length ≤ 100 → Calls Tryz.prog 112 #[.string ⟨d.toArray⟩, .pointer (some ⟨w.heap.size, 0, none⟩), .pointer (some ⟨Bs, 0, none⟩), .pointer (some ⟨Bs + 1, 0, none⟩)] W (TakePost w.heap.size Bs (Bs + 1) a n cap l s (ys ++ takeN (okN l) s [d]) W)) := fun W ys d h1 h2 h3 h4 => take_any W w.heap.size Bs (Bs + 1) a n cap l s ys h1 (fun w9 h9 => HR.out.below (HBC.out.trans ((h2.trans h9).mono (by omega)))) hcap hne HNA.out h3 d h4
      have d0 := HCAP0.out.digs
      have e0 := HCAP0.out.lt
      as_aux_lemma =>
        go_wp2_with fail
        clear d0 e0
        go_loopw [28] (fun iv wr => ∃ (i : Nat) (ys : List (List UInt8)), i ≤ s.length + 1 ∧ iv = .int .i64 i ∧ Hid (ys = takeN (okN l) s (tryTo s i)) ∧ Hid (Cap wr w.heap.size Bs (Bs + 1) a n cap l s ys) ∧ Hid (Below (Bs + 1) Wc wr)) (fun iv _ => s.length + 1 - (intOf iv).toNat)
        case atStart => exact ⟨0, [], Nat.zero_le _, rfl, rfl, HCAP0.out, Below.refl _ _⟩
        case round =>
          obtain ⟨i, ys, hi, rfl, HY, HCP, HBW⟩ := hrel
          by_cases hlt : i < s.length + 1
          · have hltI : (i : Int) < (s.length : Int) + 1 := by omega
            have hyl : ys.length ≤ 400 := by
              have h1 := takeN_len (okN l) s (tryTo s i)
              have h2 := tryTo_len s i
              rw [HY.out]; omega
            have hi1 : IntKind.i64.wrap ((i : Int) + 1) = (i : Int) + 1 := IntWalk.i64_in _ (by omega)
            have hi2 : ((i : Int) + 1).toNat = i + 1 := by omega
            have hi3 : (i : Int) ≤ s.length := by omega
            have hi4 : (0 : Int) ≤ (i : Int) + 1 := by omega
            as_aux_lemma =>
              go_wp2_with fail
              obtain ⟨wo, rfl⟩ : ∃ wo : World, wo = wr := ⟨_, rfl⟩
              go_loopw [12] (fun cv wr => ∃ (k : Nat) (zs : List (List UInt8)), k ≤ 10 ∧ cv = .int .u8 ((k : Int) + 48) ∧ Hid (zs = takeN (okN l) s (tryTo s i ++ tryCs s i k)) ∧ Hid (Cap wr w.heap.size Bs (Bs + 1) a n cap l s zs) ∧ Hid (Below (Bs + 1) Wc wr)) (fun cv _ => 58 - (intOf cv).toNat)
              case atStart => exact ⟨0, ys, by omega, rfl, by show _ = _; rw [HY.out]; simp [tryCs], HCP.out, HBW.out⟩
              case round =>
                clear HCP HBW
                obtain ⟨k, zs, hk, rfl, HZ, HCP, HBW⟩ := hrel
                have hzl : zs.length ≤ 500 := by
                  have h1 := takeN_len (okN l) s (tryTo s i ++ tryCs s i k)
                  have h2 := tryTo_len s i
                  have h3 := tryCs_len s i k
                  rw [List.length_append] at h1
                  rw [HZ.out]; omega
                by_cases hk10 : k < 10
                · have hkI : (k : Int) + 48 ≤ 57 := by omega
                  have hw8 : IntKind.u8.wrap ((k : Int) + 48 + 1) = (k : Int) + 48 + 1 := IntWalk.u8_in _ (by omega)
                  have HLT : Hid (Bs < wr.heap.size) := HCP.out.lt
                  have HTS : Hid (tryCs s i (k + 1) = tryCs s i k ++ (moreAt s i (tenD.getD k 0) :: (if i < s.length then [otherAt s i (tenD.getD k 0)] else []))) := tryCs_succ s i k hk10
                  have HCN : Hid (((tenD.getD k 0).toNat : Int) = (k : Int) + 48) := ten_nat k hk10
                  have HLM : Hid (∀ d, (moreAt s i d).length ≤ 100) := fun d => by rw [len_more s i d (by omega)]; omega
                  generalize tenD.getD k 0 = c at HTS HCN
                  as_aux_lemma =>
                    go_upto_region 13 with (fail)
                    have HS1 : Hid (wr.drew.cell? ⟨Bs, 0, none⟩ = some (.string ⟨s.toArray⟩) ∧ Bs < wr.drew.heap.size) := ⟨HCP.out.digs, HLT.out⟩
                    have HS2 : Hid (((wr.alloc (.cells #[.int .u8 ((k : Int) + 48)] 5)).drew).cell? ⟨Bs, 0, none⟩ = some (.string ⟨s.toArray⟩) ∧ Bs < ((wr.alloc (.cells #[.int .u8 ((k : Int) + 48)] 5)).drew).heap.size) := ⟨(HCP.out.alloc _).digs, by have h9 : Bs < wr.heap.size := HLT.out; simp; omega⟩
                    have hsb : (convert 195 9 (.slice (some ⟨wr.heap.size, 0, none⟩) 1 1)).run Tryz.prog ((wr.alloc (.cells #[.int .u8 ((k : Int) + 48)] 5)).drew) = .ok (.string ⟨[c].toArray⟩) ((wr.alloc (.cells #[.int .u8 ((k : Int) + 48)] 5)).drew) := byte_back wr c _ HCN.out
                    refine region_seqI (S := fun W => W.cell? ⟨Bs, 0, none⟩ = some (.string ⟨s.toArray⟩) ∧ Bs < W.heap.size) [(true, 0), (true, 1), (true, 2), (true, 3), (true, 4), (true, 8), (true, 9), (true, 10), (false, 5), (false, 6), (true, 7), (true, 11), (false, 12)] (by kernel_rfl) (by kernel_rfl) rfl (by kernel_rfl) HS1.out ?_
                    simp only [seqOps, List.getD_cons_zero, List.getD_cons_succ]
                    refine seqI_take (v := .func (.func 112) #[] #[.pointer (some ⟨w.heap.size, 0, none⟩), .pointer (some ⟨Bs, 0, none⟩), .pointer (some ⟨Bs + 1, 0, none⟩)]) rfl (fun W hW => by obtain ⟨m0, m1⟩ := hW; go_simp) (fun _ _ _ h => h) ?_
                    simp only [Act.put, List.setIfInBounds_toArray, List.set_cons_zero, List.set_cons_succ]
                    refine seqI_take (v := .string ⟨(s).toArray⟩) rfl (fun W hW => by obtain ⟨m0, m1⟩ := hW; go_simp) (fun _ _ _ h => h) ?_
                    simp only [Act.put, List.setIfInBounds_toArray, List.set_cons_zero, List.set_cons_succ]
                    refine seqI_take (v := .int .i64 i) rfl (fun W hW => by obtain ⟨m0, m1⟩ := hW; go_simp) (fun _ _ _ h => h) ?_
                    simp only [Act.put, List.setIfInBounds_toArray, List.set_cons_zero, List.set_cons_succ]
                    refine seqI_take (v := .string ⟨(s.take i).toArray⟩) rfl (fun W hW => by obtain ⟨m0, m1⟩ := hW; rw [← ext_take s i]; go_simp) (fun _ _ _ h => h) ?_
                    simp only [Act.put, List.setIfInBounds_toArray, List.set_cons_zero, List.set_cons_succ]
                    refine seqI_take (v := .int .u8 ((k : Int) + 48)) rfl (fun W hW => by obtain ⟨m0, m1⟩ := hW; go_simp) (fun _ _ _ h => h) ?_
                    simp only [Act.put, List.setIfInBounds_toArray, List.set_cons_zero, List.set_cons_succ]
                    refine seqI_take (v := .string ⟨(s).toArray⟩) rfl (fun W hW => by obtain ⟨m0, m1⟩ := hW; go_simp) (fun _ _ _ h => h) ?_
                    simp only [Act.put, List.setIfInBounds_toArray, List.set_cons_zero, List.set_cons_succ]
                    refine seqI_take (v := .int .i64 i) rfl (fun W hW => by obtain ⟨m0, m1⟩ := hW; go_simp) (fun _ _ _ h => h) ?_
                    simp only [Act.put, List.setIfInBounds_toArray, List.set_cons_zero, List.set_cons_succ]
                    refine seqI_take (v := .string ⟨(s.drop (i)).toArray⟩) rfl (fun W hW => by obtain ⟨m0, m1⟩ := hW; rw [← extract_drop s (i)]; go_simp) (fun _ _ _ h => h) ?_
                    simp only [Act.put, List.setIfInBounds_toArray, List.set_cons_zero, List.set_cons_succ]
                    refine seqI_do rfl (wp_made (v := .slice (some ⟨wr.heap.size, 0, none⟩) 1 1) (w' := (wr.alloc (.cells #[.int .u8 ((k : Int) + 48)] 5)).drew) (by go_simp) ⟨HS2.out, ?_⟩)
                    simp only [Act.put, List.setIfInBounds_toArray, List.set_cons_zero, List.set_cons_succ]
                    refine seqI_do rfl (wp_made (v := .string ⟨[c].toArray⟩) (w' := (wr.alloc (.cells #[.int .u8 ((k : Int) + 48)] 5)).drew) (by go_simp) ⟨HS2.out, ?_⟩)
                    simp only [Act.put, List.setIfInBounds_toArray, List.set_cons_zero, List.set_cons_succ]
                    clear hsb
                    refine seqI_take (v := .string ⟨((s.take i) ++ ([c])).toArray⟩) rfl (fun W hW => by obtain ⟨m0, m1⟩ := hW; rw [← cat_str (s.take i) ([c])]; go_simp <;> first | omega | rw [if_neg (by omega)]) (fun _ _ _ h => h) ?_
                    simp only [Act.put, List.setIfInBounds_toArray, List.set_cons_zero, List.set_cons_succ]
                    refine seqI_take (v := .string ⟨(moreAt s i c).toArray⟩) rfl (fun W hW => by obtain ⟨m0, m1⟩ := hW; rw [show moreAt s i c = (s.take i ++ [c]) ++ (s.drop i) from by simp [moreAt], ← cat_str (s.take i ++ [c]) (s.drop i)]; go_simp <;> first | omega | rw [if_neg (by omega)]) (fun _ _ _ h => h) ?_
                    simp only [Act.put, List.setIfInBounds_toArray, List.set_cons_zero, List.set_cons_succ]
                    refine seqI_call 112 #[.string ⟨(moreAt s i c).toArray⟩, .pointer (some ⟨w.heap.size, 0, none⟩), .pointer (some ⟨Bs, 0, none⟩), .pointer (some ⟨Bs + 1, 0, none⟩)] rfl (by go_simp) (HTK.out _ _ (moreAt s i c) (HCP.out.alloc _).drew (HBW.out.alloc (by have h9 : Bs < wr.heap.size := HLT.out; omega) _).drew (by omega) (HLM.out c)) ?_
                    rintro e w5 ⟨rfl, hc5, hb5⟩
                    refine ⟨_, rfl, ⟨hc5.digs, hc5.lt⟩, ?_⟩
                    simp only [Act.put, List.setIfInBounds_toArray, List.set_cons_zero, List.set_cons_succ]
                    refine seqI_nil ?_
                    have HCP5 := Lib.hid hc5
                    have HB5 : Hid (Below (Bs + 1) Wc w5) := ((HBW.out.alloc (by have h9 : Bs < wr.heap.size := HLT.out; omega) _).drew).trans hb5
                    clear hc5 hb5
                    have HLT5 : Hid (Bs < w5.heap.size) := HCP5.out.lt
                    have d5 := HCP5.out.digs
                    have l5 := HCP5.out.lt
                    by_cases hil : i < s.length
                    · have hilI : (i : Int) < s.length := by omega
                      have hi5 : (i : Int) + 1 ≤ s.length := by omega
                      have HLO : Hid (∀ d, (otherAt s i d).length ≤ 100) := fun d => by rw [len_other s i d hil]; omega
                      have HZ9 : Hid ((zs ++ takeN (okN l) s [moreAt s i c]) ++ takeN (okN l) s [otherAt s i c] = takeN (okN l) s (tryTo s i ++ tryCs s i (k + 1))) := by
                        show _ = _
                        rw [HTS.out, if_pos hil, HZ.out, ← takeN_app, ← takeN_app]
                        simp
                      have hz5 : (zs ++ takeN (okN l) s [moreAt s i c]).length ≤ 600 := by
                        have h1 := takeN_len (okN l) s [moreAt s i c]
                        rw [List.length_append]
                        simp only [List.length_singleton] at h1
                        omega
                      clear HZ HTS
                      generalize zs ++ takeN (okN l) s [moreAt s i c] = z5 at HCP5 HZ9 hz5
                      as_aux_lemma =>
                        go_upto_region 15 with (fail)
                        clear d5 l5
                        have HS1 : Hid (w5.drew.cell? ⟨Bs, 0, none⟩ = some (.string ⟨s.toArray⟩) ∧ Bs < w5.drew.heap.size) := ⟨HCP5.out.digs, HLT5.out⟩
                        have HS2 : Hid (((w5.alloc (.cells #[.int .u8 ((k : Int) + 48)] 5)).drew).cell? ⟨Bs, 0, none⟩ = some (.string ⟨s.toArray⟩) ∧ Bs < ((w5.alloc (.cells #[.int .u8 ((k : Int) + 48)] 5)).drew).heap.size) := ⟨(HCP5.out.alloc _).digs, by have h9 : Bs < w5.heap.size := HLT5.out; simp; omega⟩
                        have hsb : (convert 195 9 (.slice (some ⟨w5.heap.size, 0, none⟩) 1 1)).run Tryz.prog ((w5.alloc (.cells #[.int .u8 ((k : Int) + 48)] 5)).drew) = .ok (.string ⟨[c].toArray⟩) ((w5.alloc (.cells #[.int .u8 ((k : Int) + 48)] 5)).drew) := byte_back w5 c _ HCN.out
                        refine region_seqI (S := fun W => W.cell? ⟨Bs, 0, none⟩ = some (.string ⟨s.toArray⟩) ∧ Bs < W.heap.size) [(true, 0), (true, 1), (true, 2), (true, 3), (true, 4), (true, 8), (true, 9), (true, 10), (true, 11), (false, 5), (false, 6), (true, 7), (true, 12), (false, 13)] (by kernel_rfl) (by kernel_rfl) rfl (by kernel_rfl) HS1.out ?_
                        simp only [seqOps, List.getD_cons_zero, List.getD_cons_succ]
                        refine seqI_take (v := .func (.func 112) #[] #[.pointer (some ⟨w.heap.size, 0, none⟩), .pointer (some ⟨Bs, 0, none⟩), .pointer (some ⟨Bs + 1, 0, none⟩)]) rfl (fun W hW => by obtain ⟨m0, m1⟩ := hW; go_simp) (fun _ _ _ h => h) ?_
                        simp only [Act.put, List.setIfInBounds_toArray, List.set_cons_zero, List.set_cons_succ]
                        refine seqI_take (v := .string ⟨(s).toArray⟩) rfl (fun W hW => by obtain ⟨m0, m1⟩ := hW; go_simp) (fun _ _ _ h => h) ?_
                        simp only [Act.put, List.setIfInBounds_toArray, List.set_cons_zero, List.set_cons_succ]
                        refine seqI_take (v := .int .i64 i) rfl (fun W hW => by obtain ⟨m0, m1⟩ := hW; go_simp) (fun _ _ _ h => h) ?_
                        simp only [Act.put, List.setIfInBounds_toArray, List.set_cons_zero, List.set_cons_succ]
                        refine seqI_take (v := .string ⟨(s.take i).toArray⟩) rfl (fun W hW => by obtain ⟨m0, m1⟩ := hW; rw [← ext_take s i]; go_simp) (fun _ _ _ h => h) ?_
                        simp only [Act.put, List.setIfInBounds_toArray, List.set_cons_zero, List.set_cons_succ]
                        refine seqI_take (v := .int .u8 ((k : Int) + 48)) rfl (fun W hW => by obtain ⟨m0, m1⟩ := hW; go_simp) (fun _ _ _ h => h) ?_
                        simp only [Act.put, List.setIfInBounds_toArray, List.set_cons_zero, List.set_cons_succ]
                        refine seqI_take (v := .string ⟨(s).toArray⟩) rfl (fun W hW => by obtain ⟨m0, m1⟩ := hW; go_simp) (fun _ _ _ h => h) ?_
                        simp only [Act.put, List.setIfInBounds_toArray, List.set_cons_zero, List.set_cons_succ]
                        refine seqI_take (v := .int .i64 i) rfl (fun W hW => by obtain ⟨m0, m1⟩ := hW; go_simp) (fun _ _ _ h => h) ?_
                        simp only [Act.put, List.setIfInBounds_toArray, List.set_cons_zero, List.set_cons_succ]
                        refine seqI_take (v := .int .i64 ((i : Int) + 1)) rfl (fun W hW => by obtain ⟨m0, m1⟩ := hW; go_simp) (fun _ _ _ h => h) ?_
                        simp only [Act.put, List.setIfInBounds_toArray, List.set_cons_zero, List.set_cons_succ]
                        refine seqI_take (v := .string ⟨(s.drop (i + 1)).toArray⟩) rfl (fun W hW => by obtain ⟨m0, m1⟩ := hW; rw [← extract_drop s (i + 1)]; go_simp) (fun _ _ _ h => h) ?_
                        simp only [Act.put, List.setIfInBounds_toArray, List.set_cons_zero, List.set_cons_succ]
                        refine seqI_do rfl (wp_made (v := .slice (some ⟨w5.heap.size, 0, none⟩) 1 1) (w' := (w5.alloc (.cells #[.int .u8 ((k : Int) + 48)] 5)).drew) (by go_simp) ⟨HS2.out, ?_⟩)
                        simp only [Act.put, List.setIfInBounds_toArray, List.set_cons_zero, List.set_cons_succ]
                        refine seqI_do rfl (wp_made (v := .string ⟨[c].toArray⟩) (w' := (w5.alloc (.cells #[.int .u8 ((k : Int) + 48)] 5)).drew) (by go_simp) ⟨HS2.out, ?_⟩)
                        simp only [Act.put, List.setIfInBounds_toArray, List.set_cons_zero, List.set_cons_succ]
                        clear hsb
                        refine seqI_take (v := .string ⟨((s.take i) ++ ([c])).toArray⟩) rfl (fun W hW => by obtain ⟨m0, m1⟩ := hW; rw [← cat_str (s.take i) ([c])]; go_simp <;> first | omega | rw [if_neg (by omega)]) (fun _ _ _ h => h) ?_
                        simp only [Act.put, List.setIfInBounds_toArray, List.set_cons_zero, List.set_cons_succ]
                        refine seqI_take (v := .string ⟨(otherAt s i c).toArray⟩) rfl (fun W hW => by obtain ⟨m0, m1⟩ := hW; rw [show otherAt s i c = (s.take i ++ [c]) ++ (s.drop (i + 1)) from by simp [otherAt], ← cat_str (s.take i ++ [c]) (s.drop (i + 1))]; go_simp <;> first | omega | rw [if_neg (by omega)]) (fun _ _ _ h => h) ?_
                        simp only [Act.put, List.setIfInBounds_toArray, List.set_cons_zero, List.set_cons_succ]
                        refine seqI_call 112 #[.string ⟨(otherAt s i c).toArray⟩, .pointer (some ⟨w.heap.size, 0, none⟩), .pointer (some ⟨Bs, 0, none⟩), .pointer (some ⟨Bs + 1, 0, none⟩)] rfl (by go_simp) (HTK.out _ _ (otherAt s i c) (HCP5.out.alloc _).drew (HB5.out.alloc (by have h9 : Bs < w5.heap.size := HLT5.out; omega) _).drew (by omega) (HLO.out c)) ?_
                        rintro e w7 ⟨rfl, hc5, hb5⟩
                        refine ⟨_, rfl, ⟨hc5.digs, hc5.lt⟩, ?_⟩
                        simp only [Act.put, List.setIfInBounds_toArray, List.set_cons_zero, List.set_cons_succ]
                        refine seqI_nil ?_
                        have HCP7 := Lib.hid hc5
                        have HB7 : Hid (Below (Bs + 1) Wc w7) := ((HB5.out.alloc (by have h9 : Bs < w5.heap.size := HLT5.out; omega) _).drew).trans hb5
                        clear hc5 hb5
                        as_aux_lemma =>
                          go_wp2_with fail
                          go_roundw
                          case rel => exact ⟨k + 1, _, by omega, by first | (congr 1; done) | (congr 1; omega), HZ9.out, HCP7.out, HB7.out⟩
                          case measure => first | (simp [intOf]; done) | (simp [intOf]; omega)
                    · have hilI : ¬ (i : Int) < s.length := by omega
                      have HZ9 : Hid (zs ++ takeN (okN l) s [moreAt s i c] = takeN (okN l) s (tryTo s i ++ tryCs s i (k + 1))) := by
                        show _ = _
                        rw [HTS.out, if_neg hil, HZ.out, ← takeN_app]
                        simp
                      clear HZ HTS
                      as_aux_lemma =>
                        go_wp2_with fail
                        go_roundw
                        case rel => exact ⟨k + 1, _, by omega, by first | (congr 1; done) | (congr 1; omega), HZ9.out, HCP5.out, HB5.out⟩
                        case measure => first | (simp [intOf]; done) | (simp [intOf]; omega)
                · obtain rfl : k = 10 := by omega
                  have d5 := HCP.out.digs
                  have l5 := HCP.out.lt
                  by_cases hil : i < s.length
                  · have hilI : (i : Int) < s.length := by omega
                    have hll : (lostAt s i).length ≤ 100 := by have := len_lost s i hil; omega
                    as_aux_lemma =>
                      go_wp2_with fail
                      refine (without_any s i hil (by omega) _).mono ?_
                      rintro e w5 ⟨rfl, hb5⟩
                      have HCP5 := Lib.hid (HCP.out.below hb5)
                      have HB5 : Hid (Below (Bs + 1) Wc w5) := HBW.out.trans (hb5.mono (by omega))
                      clear hb5 d5 l5
                      go_wp2_with fail
                      refine (HTK.out _ _ _ HCP5.out HB5.out (by omega) hll).mono ?_
                      rintro e w6 ⟨rfl, hc6, hb6⟩
                      have HCP6 := Lib.hid hc6
                      have HB6 : Hid (Below (Bs + 1) Wc w6) := HB5.out.trans hb6
                      have d6 := HCP6.out.digs
                      have l6 := HCP6.out.lt
                      clear hc6 hb6
                      have hz6 : (zs ++ takeN (okN l) s [lostAt s i]).length ≤ 600 := by
                        have h1 := takeN_len (okN l) s [lostAt s i]
                        rw [List.length_append]
                        simp only [List.length_singleton] at h1
                        omega
                      by_cases hT : i + 1 < s.length
                      · have hTI : (i : Int) + 1 < s.length := by omega
                        have htl : (turnAt s i).length ≤ 100 := by rw [len_turn s i hT]; omega
                        have HZ9 : Hid ((zs ++ takeN (okN l) s [lostAt s i]) ++ takeN (okN l) s [turnAt s i] = takeN (okN l) s (tryTo s (i + 1))) := by
                          show _ = _
                          rw [tryTo_succ, tryRow, tryL, if_pos hil, if_pos hT, HZ.out, ← takeN_app, ← takeN_app]
                          simp
                        clear HZ
                        generalize zs ++ takeN (okN l) s [lostAt s i] = z6 at HCP6 HZ9 hz6
                        as_aux_lemma =>
                          go_wp2_with fail
                          refine (turned_any s i hT (by omega) _).mono ?_
                          rintro e w7 ⟨rfl, hb7⟩
                          have HCP7 := Lib.hid (HCP6.out.below hb7)
                          have HB7 : Hid (Below (Bs + 1) Wc w7) := HB6.out.trans (hb7.mono (by omega))
                          clear hb7 d6 l6
                          go_wp2_with fail
                          refine (HTK.out _ _ _ HCP7.out HB7.out (by omega) htl).mono ?_
                          rintro e w8 ⟨rfl, hc8, hb8⟩
                          have HCP8 := Lib.hid hc8
                          have HB8 : Hid (Below (Bs + 1) Wc w8) := HB7.out.trans hb8
                          clear hc8 hb8
                          go_wp2_with fail
                          go_roundw
                          case rel => exact ⟨i + 1, _, by omega, by go_num, HZ9.out, HCP8.out, HB8.out⟩
                          case measure => first | (simp [intOf]; done) | (simp [intOf]; omega)
                      · have hTI : ¬ (i : Int) + 1 < s.length := by omega
                        have HZ9 : Hid (zs ++ takeN (okN l) s [lostAt s i] = takeN (okN l) s (tryTo s (i + 1))) := by
                          show _ = _
                          rw [tryTo_succ, tryRow, tryL, if_pos hil, if_neg hT, HZ.out, ← takeN_app]
                          simp
                        clear HZ
                        as_aux_lemma =>
                          go_wp2_with fail
                          go_roundw
                          case rel => exact ⟨i + 1, _, by omega, by go_num, HZ9.out, HCP6.out, HB6.out⟩
                          case measure => first | (simp [intOf]; done) | (simp [intOf]; omega)
                  · have hilI : ¬ (i : Int) < s.length := by omega
                    have hTI : ¬ (i : Int) + 1 < s.length := by omega
                    have HZ9 : Hid (zs = takeN (okN l) s (tryTo s (i + 1))) := by
                      show _ = _
                      rw [tryTo_succ, tryRow, tryL, if_neg hil, if_neg (by omega), HZ.out]
                      simp
                    clear HZ
                    as_aux_lemma =>
                      go_wp2_with fail
                      go_roundw
                      case rel => exact ⟨i + 1, _, by omega, by go_num, HZ9.out, HCP.out, HBW.out⟩
                      case measure => first | (simp [intOf]; done) | (simp [intOf]; omega)
          · obtain rfl : i = s.length + 1 := by omega
            obtain ⟨-, -, -, -, -, v, hv, hov⟩ := HCP.out
            have c9 := cell_of_one hv
            have l9 := lt_of_block hv
            have HV := Lib.hid hv
            have HO := Lib.hid hov
            have hyl : ys.length ≤ 5000 := by
              have h1 := takeN_len (okN l) s (tryTo s (s.length + 1))
              have h2 := tryTo_len s (s.length + 1)
              rw [HY.out]; omega
            have hz : ¬ ((s.length : Int) + 1 < (s.length : Int) + 1) := by omega
            have HLB : Hid (Bs + 1 ≤ wr.heap.size) := Nat.le_of_lt l9
            clear hv hov
            as_aux_lemma =>
              go_wp2_with fail
              refine (sort_own HO.out (by omega)).mono ?_
              rintro e w5 ⟨rfl, ho5, hg5⟩
              have hv5 : w5.heap[Bs + 1]? = some (.cells #[v] 35 (0, 0)) := (hg5.block (Bs + 1) l9 (fun e => by have := (HO.out.lt _ e.symm).1; omega)).trans HV.out
              have HO5 := Lib.hid ho5
              have HB5 : Hid (Below (Bs + 1) Wc w5) := HBW.out.grown hg5 HLB.out (fun b e => by have := (HO.out.lt b e).1; omega)
              have c5 := cell_of_one hv5
              have l5 := lt_of_block hv5
              have HLB5 : Hid (Bs + 1 ≤ w5.heap.size) := Nat.le_of_lt l5
              clear ho5 hg5 hv5 c9 l9
              go_wp2_with fail
              refine (compact_own HO5.out (by omega)).mono ?_
              rintro e w6 ⟨v6, rfl, ho6, hg6⟩
              have HB6 : Hid (Below (Bs + 1) Wc w6) := HB5.out.grown hg6 HLB5.out (fun b e => by have := (HO5.out.lt b e).1; omega)
              have HO6 : Hid (w6.ownsRow w.heap.size 9 1 v6 (slipsTop l s).length ((slipsTop l s).map encS)) := by
                have h1 := ho6
                rw [HY.out] at h1
                exact own_le h1 (by omega)
              clear ho6 hg6 HO5 HO
              go_wp2_with fail
              go_ret2
              exact HPG.out _ s _ (HBC.out.trans (HB6.out.mono (by omega))) (by first | rfl | trivial) (by first | rfl | trivial) (by omega) HO6.out
  · skip
    as_aux_lemma =>
      go_wp2_with fail
      go_ret2
      exact HPB.out _ (HB1.out.alloc (by omega) _) her
end Go.Proofs.YtbbbaeenngjldaaGreatDoor

set_option linter.unusedVariables false
set_option linter.unusedSimpArgs false
namespace Go.Proofs.YtbbbaeenngjldaaGreatDoor
open Go.RowKit

theorem digitsFault_any (s : List UInt8) (w : World) (hs : s.length ≤ 1000000) : Calls Tryz.prog 18 #[.string ⟨s.toArray⟩] w (ErrPost (if digitsB s 1 30 = true then 0 else 3) w) := by
  have HD := Lib.hid (fun W => digital_l s 1 30 W hs)
  generalize digitsB s 1 30 = g at HD ⊢
  cases g
  · go_enter Tryz.func18, Tryz.ntmps18
    go_wp2_with fail
    refine (HD.out _).mono ?_
    rintro e w1 ⟨rfl, hb1⟩
    have HB := Lib.hid hb1
    clear hb1
    go_wp2_with fail
    go_ret
    exact ⟨rfl, HB.out⟩
  · go_enter Tryz.func18, Tryz.ntmps18
    go_wp2_with fail
    refine (HD.out _).mono ?_
    rintro e w1 ⟨rfl, hb1⟩
    have HB := Lib.hid hb1
    clear hb1
    go_wp2_with fail
    go_ret
    exact ⟨rfl, HB.out⟩
def firstE (a b : Int) : Int := if a ≠ 0 then a else b
set_option maxRecDepth 100000 in
theorem or_any (a b : Int) (B : Nat) (w : World) (hB : B < w.heap.size) (h0 : w.cell? ⟨B, 0, none⟩ = some (.int .i64 a)) (h1 : w.cell? ⟨B, 1, none⟩ = some (.int .i64 b)) : Calls Tryz.prog 17 #[.slice (some ⟨B, 0, none⟩) 2 2] w fun r w' => r = .returned (.int .i64 (firstE a b)) ∧ w = w' := by
  by_cases ha : a = 0
  · subst ha
    by_cases hb : b = 0
    · subst hb
      go_enter Tryz.func17, Tryz.ntmps17
      go_wp2_with fail
      go_loopw [8] (fun i wr => ∃ k : Nat, k ≤ 2 ∧ i = .int .i64 k ∧ wr = w) (fun i _ => 2 - (intOf i).toNat)
      case atStart => exact ⟨0, by omega, rfl, rfl⟩
      case round =>
        obtain ⟨k, hk, rfl, rfl⟩ := hrel
        have hkc : k = 0 ∨ k = 1 ∨ k = 2 := by omega
        rcases hkc with rfl | rfl | rfl
        · go_wp2_with fail
          go_roundw
          case rel => exact ⟨1, by omega, by go_num, trivial⟩
          case measure => simp [intOf]
        · go_wp2_with fail
          go_roundw
          case rel => exact ⟨2, by omega, by go_num, trivial⟩
          case measure => simp [intOf]
        · go_wp2_with fail
          go_ret
          exact ⟨rfl, rfl⟩
    · have hbb : (b == 0) = false := by simpa using hb
      go_enter Tryz.func17, Tryz.ntmps17
      go_wp2_with fail
      go_loopw [8] (fun i wr => ∃ k : Nat, k ≤ 1 ∧ i = .int .i64 k ∧ wr = w) (fun i _ => 2 - (intOf i).toNat)
      case atStart => exact ⟨0, by omega, rfl, rfl⟩
      case round =>
        obtain ⟨k, hk, rfl, rfl⟩ := hrel
        have hkc : k = 0 ∨ k = 1 := by omega
        rcases hkc with rfl | rfl
        · go_wp2_with fail
          go_roundw
          case rel => exact ⟨1, by omega, by go_num, trivial⟩
          case measure => simp [intOf]
        · go_wp2_with fail
          go_ret
          exact ⟨rfl, rfl⟩
  · have hab : (a == 0) = false := by simpa using ha
    have HF : Hid (firstE a b = a) := by show _ = _; unfold firstE; rw [if_pos ha]
    go_enter Tryz.func17, Tryz.ntmps17
    go_wp2_with fail
    go_loopw [8] (fun i wr => i = .int .i64 0 ∧ wr = w) (fun i _ => 0)
    case atStart => exact ⟨rfl, rfl⟩
    case round =>
      obtain ⟨rfl, rfl⟩ := hrel
      go_wp2_with fail
      go_ret
      exact ⟨by rw [HF.out]; rfl, rfl⟩

end Go.Proofs.YtbbbaeenngjldaaGreatDoor

set_option linter.unusedVariables false
set_option linter.unusedSimpArgs false
namespace Go.Proofs.YtbbbaeenngjldaaGreatDoor
open Go.RowKit

theorem equal_none (w : World) (a a2 : Option Addr) (c c2 : Nat) : Calls Tryz.prog 23 #[.slice a 0 c, .slice a2 0 c2] w fun e w' => e = .returned (.bool true) ∧ Below w.heap.size w w' := by
  go_enter Tryz.func23, Tryz.ntmps23
  go_wp2_with fail
  go_loopw [13] (fun i wr => i = .int .i64 0 ∧ Hid (Below w.heap.size w wr)) (fun _ _ => 0)
  case atStart => exact ⟨rfl, (by (try show Below _ _ _); repeat (with_reducible first | exact Below.refl _ _ | assumption | exact Hid.out (by assumption) | refine ext_alloc ?_ | refine ext_drewN ?_ | refine ext_drew ?_ | refine ext_setCell ?_ (Nat.le_refl _) | refine ext_setCell ?_ (Nat.le_succ _) | refine ext_trans ?_ (by assumption) | (refine ext_setCell ?_ (by simp)) | (refine ext_setCell ?_ (by simp at *; omega))))⟩
  case round =>
    obtain ⟨rfl, HB⟩ := hrel
    go_wp2_with fail
    go_ret
    exact ⟨rfl, (by (try show Below _ _ _); repeat (with_reducible first | exact Below.refl _ _ | assumption | exact Hid.out (by assumption) | refine ext_alloc ?_ | refine ext_drewN ?_ | refine ext_drew ?_ | refine ext_setCell ?_ (Nat.le_refl _) | refine ext_setCell ?_ (Nat.le_succ _) | refine ext_trans ?_ (by assumption) | (refine ext_setCell ?_ (by simp)) | (refine ext_setCell ?_ (by simp at *; omega))))⟩
theorem equal_words {w : World} {base base2 : Nat} {v v2 : Value} {n n2 : Nat} {xs ys : List (List UInt8)} (h : w.ownsRow base 9 1 v n (xs.map encS)) (h2 : w.ownsRow base2 9 1 v2 n2 (ys.map encS)) (he : xs = ys) (hn : n ≤ 100000) :
    Calls Tryz.prog 23 #[v, v2] w fun e w' => e = .returned (.bool true) ∧ Below w.heap.size w w' := by
  subst he
  have hl : xs.length = n := by have := h.1; simpa using this
  have hl2 : xs.length = n2 := by have := h2.1; simpa using this
  subst hl
  subst hl2
  by_cases h0 : xs.length = 0
  · obtain ⟨a, c, rfl⟩ := own_shape h
    obtain ⟨a2, c2, rfl⟩ := own_shape h2
    rw [h0]
    exact equal_none w a a2 c c2
  · obtain ⟨m, hm⟩ : ∃ m, xs.length = m + 1 := ⟨xs.length - 1, by omega⟩
    rw [hm] at h h2 hn
    obtain ⟨g, c, rfl, _, _⟩ := own_row1 h
    obtain ⟨g2, c2, rfl, _, _⟩ := own_row1 h2
    refine (Tryz.slices_eqS g 0 (m + 1) c g2 0 (m + 1) c2 (xs.map fun x => ⟨x.toArray⟩) (xs.map fun x => ⟨x.toArray⟩) w (by simp; omega) (by simp; omega) (by omega) (by omega) (fun j hj => ?_) (fun j hj => ?_)).mono ?_
    · have hj' : j < xs.length := by simpa using hj
      rw [Nat.zero_add, h.cellAt j (by omega)]
      simp [encS, hj']
    · have hj' : j < xs.length := by simpa using hj
      rw [Nat.zero_add, h2.cellAt j (by omega)]
      simp [encS, hj']
    · rintro e w' ⟨rfl, q, rfl⟩
      exact ⟨by simp, ext_drewN (Below.refl _ _)⟩
end Go.Proofs.YtbbbaeenngjldaaGreatDoor

namespace Go.Proofs.YtbbbaeenngjldaaGreatDoor
open Go.RowKit

def belowI (x n : Int) : Int := if n < 1 then 0 else if x.tmod n < 0 then x.tmod n + n else x.tmod n

theorem belowI_range (x n : Int) (h : 1 ≤ n) : 0 ≤ belowI x n ∧ belowI x n ≤ n - 1 := by
  unfold belowI
  rw [if_neg (by omega)]
  have h1 := Int.tmod_lt_of_pos x (show 0 < n by omega)
  have h2 : -n < x.tmod n := Int.lt_tmod_of_pos x (by omega)
  split <;> omega

theorem below_any (x n : Int) (w : World) (h : 1 ≤ n) (hn : n ≤ 9223372036854775807) :
    Calls Tryz.prog 210 #[.int .i64 x, .int .i64 n] w fun e w' => e = .returned (.int .i64 (belowI x n)) ∧ w = w' := by
  have h1 := Int.tmod_lt_of_pos x (show 0 < n by omega)
  have h2 : -n < x.tmod n := Int.lt_tmod_of_pos x (by omega)
  have hlt : ¬ n < 1 := by omega
  by_cases hx : x.tmod n < 0
  · have hb : Hid (belowI x n = x.tmod n + n) := Lib.hid (by unfold belowI; rw [if_neg hlt, if_pos hx])
    go_enter Tryz.func210, Tryz.ntmps210
    go_wp2
    go_ret
    exact ⟨ret_int hb.out.symm, rfl⟩
  · have hb : Hid (belowI x n = x.tmod n) := Lib.hid (by unfold belowI; rw [if_neg hlt, if_neg hx])
    go_enter Tryz.func210, Tryz.ntmps210
    go_wp2
    go_ret
    exact ⟨ret_int hb.out.symm, rfl⟩

theorem stream_set {w w' : World} {S k : Nat} {a : Option Addr} {len cap : Nat} {zs : List Int} {n : Nat} (hn : n ≤ k) (hs : S < w.heap.size)
    (h0 : w.cell? ⟨S, 0, none⟩ = some (.slice a len cap)) (h1 : w.cell? ⟨S, 1, none⟩ = some (.int .i64 n)) (hf : w.frozen? ⟨S, 1, none⟩ = false) (hr : IntRow w S a len cap zs)
    (v : Value) (hv : v = .int .i64 ((n : Int) + 1)) (m : Nat) (hw : w' = (w.setCell ⟨S, 1, none⟩ v).drewN m) : StreamOk w' S (k + 1) ∧ Keeps S w w' := by
  subst hv
  have kp : Keeps S w (w.setCell ⟨S, 1, none⟩ (.int .i64 ((n : Int) + 1))) := (Keeps.refl S w).setCell rfl _
  have kp' : Keeps S w w' := by rw [hw]; exact kp.drewN m
  refine ⟨⟨a, len, cap, zs, n + 1, by omega, Nat.lt_of_lt_of_le hs kp'.size, ?_, ?_, ?_, hr.kept (kp'.below (Nat.le_of_lt hs) (Nat.le_refl _))⟩, kp'⟩
  · rw [hw]; simpa using (World.cell?_setCell_other _ _ _ _ (by simp)).trans h0
  · rw [hw]; simpa using World.cell?_setCell_same _ _ _ h1
  · rw [hw]; simpa using hf

set_option maxHeartbeats 1000000 in
theorem next_any (S k : Nat) (n : Int) (w : World) (h : StreamOk w S k) (hk : k ≤ 1000000000) (h1 : 1 ≤ n) (h2 : n ≤ 9223372036854775807) :
    Calls Tryz.prog 102 #[.pointer (some ⟨S, 0, none⟩), .int .i64 n] w (NextPost S (k + 1) 0 (n - 1) w) := by
  obtain ⟨a, len, cap, zs, m, hm, hs, c0, c1, cf, hr⟩ := h
  have fin := fun (x : Int) (w' : World) (v : Value) (hv : v = .int .i64 ((m : Int) + 1)) (j : Nat) (hw : w' = (w.setCell ⟨S, 1, none⟩ v).drewN j) =>
    show NextPost S (k + 1) 0 (n - 1) w (.returned (.int .i64 (belowI x n))) w' from
    ⟨_, rfl, (belowI_range x n h1).1, (belowI_range x n h1).2, stream_set hm hs c0 c1 cf hr v hv j hw⟩
  have Fin := Lib.hid fin
  clear fin
  rcases hr with hl | ⟨b, off, ha, hb, hlc, hcm, hz, hc⟩
  · subst hl
    go_enter Tryz.func102, Tryz.ntmps102
    go_wp2_with (go_at_call 210; refine (below_any _ _ _ h1 h2).mono ?_; rintro e w' ⟨rfl, rfl⟩)
    go_ret
    exact Fin.out _ _ _ rfl 0 rfl
  · subst ha
    unfold maxLen at hcm
    by_cases hl : len = 0
    · subst hl
      go_enter Tryz.func102, Tryz.ntmps102
      go_wp2_with (go_at_call 210; refine (below_any _ _ _ h1 h2).mono ?_; rintro e w' ⟨rfl, rfl⟩)
      go_ret
      exact Fin.out _ _ _ rfl 0 rfl
    · have hl0 : ((len : Int) == 0) = false := by simp; omega
      have hmod : m % len < len := Nat.mod_lt _ (by omega)
      have hcell := hc (m % len) hmod
      have hbm : b ≠ S := by omega
      clear hc
      go_enter Tryz.func102, Tryz.ntmps102
      go_wp2_with fail
      go_quiet (fail)
      go_wp2_with fail
      go_quiet (fail)
      go_wp2_with fail
      refine (below_any _ _ _ (by omega) (by omega)).mono ?_
      rintro e w' ⟨rfl, rfl⟩
      go_wp2_with fail
      refine (below_any _ _ _ h1 h2).mono ?_
      rintro e w' ⟨rfl, rfl⟩
      go_wp2_with fail
      go_ret
      exact Fin.out _ _ _ rfl _ rfl

/-- A statement's end: nothing that was there before has turned. -/
theorem law_end {w w9 : World} {o : Obj} (hk : Keeps w.heap.size (w.alloc o) w9) : Below w.heap.size w w9 :=
  ((Below.refl _ w).alloc (Nat.le_refl _) o).trans (hk.below (B := w.heap.size) (by simp) (Nat.le_refl _))

/-- The slice that came in. -/
def ArgRow (w : World) (a : Option Addr) (len cap : Nat) (zs : List Int) : Prop :=
  len = 0 ∨ ∃ b off, a = some ⟨b, off, none⟩ ∧ b < w.heap.size ∧ len ≤ cap ∧ cap ≤ maxLen ∧ len ≤ zs.length ∧ ∀ i, i < len → w.cell? ⟨b, off + i, none⟩ = some (.int .i64 (zs.getD i 0))

theorem argRow_of {w : World} {x : Addr} {len cap : Nat} {zs : List Int} (h1 : len ≤ cap) (h2 : cap ≤ maxLen) (h3 : zs.length = cap) (hc : ∀ i, i < zs.length → w.cell? (x.add i) = some (.int .i64 (zs.getD i 0))) : ArgRow w (some x) len cap zs := by
  by_cases h0 : len = 0
  · exact Or.inl h0
  · obtain ⟨b, off, spot⟩ := x
    have hc0 := hc 0 (by omega)
    have hspot : spot = none := by simpa [Addr.add] using World.cell?_spot hc0
    subst hspot
    refine Or.inr ⟨b, off, rfl, ?_, h1, h2, by omega, fun i hi => ?_⟩
    · rcases Nat.lt_or_ge b w.heap.size with h | h
      · exact h
      · simp [World.cell?, Addr.add, Array.getElem?_eq_none h] at hc0
    · have := hc i (by omega)
      have hp : (⟨b, off, none⟩ : Addr).add i = ⟨b, off + i, none⟩ := by unfold Addr.add; split <;> simp_all
      rwa [hp] at this

/-- The stream that a statement begins with. -/
theorem stream_start {w : World} {a : Option Addr} {len cap : Nat} {zs : List Int} (h : len = 0 ∨ ∃ b off, a = some ⟨b, off, none⟩ ∧ b < w.heap.size ∧ len ≤ cap ∧ cap ≤ maxLen ∧ len ≤ zs.length ∧ ∀ i, i < len → w.cell? ⟨b, off + i, none⟩ = some (.int .i64 (zs.getD i 0))) :
    StreamOk (w.alloc (.cells #[.slice a len cap, .int .i64 0] 25)) w.heap.size 0 := by
  refine ⟨a, len, cap, zs, 0, Nat.le_refl _, by simp, by simp, by simp, by simp, ?_⟩
  refine h.imp id ?_
  rintro ⟨b, off, ha, hb, h1, h2, h3, hc⟩
  refine ⟨b, off, ha, hb, h1, h2, h3, fun i hi => ?_⟩
  rw [World.cell?_alloc_lt _ _ _ (by show b < _; omega)]
  exact hc i hi

theorem range_any (S k : Nat) (lo hi : Int) (w : World) (h : StreamOk w S k) (hk : k ≤ 1000000000) (h1 : lo ≤ hi) (h2 : -4611686018427387904 ≤ lo) (h3 : hi ≤ 4611686018427387000) :
    Calls Tryz.prog 38 #[.pointer (some ⟨S, 0, none⟩), .int .i64 lo, .int .i64 hi] w (NextPost S (k + 1) lo hi w) := by
  have hlt : ¬ hi < lo := by omega
  go_enter Tryz.func38, Tryz.ntmps38
  go_wp2_with fail
  refine (next_any S k _ _ h hk (by omega) (by omega)).mono ?_
  rintro e w' ⟨r, rfl, r0, r1, hst, hkp⟩
  go_wp2_with fail
  go_ret
  exact ⟨lo + r, rfl, by omega, by omega, hst, hkp⟩

def FlipPost (S k : Nat) (w : World) (e : Ending) (w' : World) : Prop :=
  ∃ r : Bool, e = .returned (.bool r) ∧ StreamOk w' S k ∧ Keeps S w w'

theorem flip_any (S k : Nat) (n : Int) (w : World) (h : StreamOk w S k) (hk : k ≤ 1000000000) (h1 : 1 ≤ n) (h2 : n ≤ 9223372036854775807) :
    Calls Tryz.prog 14 #[.pointer (some ⟨S, 0, none⟩), .int .i64 n] w (FlipPost S (k + 1) w) := by
  go_enter Tryz.func14, Tryz.ntmps14
  go_wp2_with fail
  refine (next_any S k _ _ h hk h1 h2).mono ?_
  rintro e w' ⟨r, rfl, r0, r1, hst, hkp⟩
  go_wp2_with fail
  go_ret
  exact ⟨_, rfl, hst, hkp⟩
end Go.Proofs.YtbbbaeenngjldaaGreatDoor

namespace Go.Proofs.YtbbbaeenngjldaaGreatDoor
open Go.RowKit
set_option linter.unusedVariables false

/-- One of some values is handed out. -/
def PickPost (S k : Nat) (P : Int → Prop) (w : World) (e : Ending) (w' : World) : Prop :=
  ∃ r : Int, e = .returned (.int .i64 r) ∧ P r ∧ StreamOk w' S k ∧ Keeps S w w'
def SomePost (S k : Nat) (P : List UInt8 → Prop) (w : World) (e : Ending) (w' : World) : Prop :=
  ∃ r : List UInt8, e = .returned (.string ⟨r.toArray⟩) ∧ P r ∧ StreamOk w' S k ∧ Keeps S w w'

theorem pick_any (S k b n c : Nat) (vals : List Int) (P : Int → Prop) (w : World) (h : StreamOk w S k) (hk : k ≤ 1000000000) (hb : b < w.heap.size) (hS : b ≠ S) (h1 : 1 ≤ n) (h2 : n ≤ 1000) (hc : ∀ i, i < n → w.cell? ⟨b, i, none⟩ = some (.int .i64 (vals.getD i 0))) (hP : ∀ i, i < n → P (vals.getD i 0)) :
    Calls Tryz.prog 41 #[.pointer (some ⟨S, 0, none⟩), .slice (some ⟨b, 0, none⟩) n c] w (PickPost S (k + 1) P w) := by
  have Hc := Lib.hid hc
  have HP := Lib.hid hP
  have HS := Lib.hid h
  clear hc hP h
  go_enter Tryz.func41, Tryz.ntmps41
  go_wp2_with fail
  refine (next_any S k _ _ HS.out hk (by omega) (by omega)).mono ?_
  rintro e w' ⟨r, rfl, r0, r1, hst, hkp⟩
  obtain ⟨r, rfl⟩ := Int.eq_ofNat_of_zero_le r0
  have hr : r < n := by omega
  have c0 := (hkp.cell (p := ⟨b, r, none⟩) hb hS).trans (Hc.out r hr)
  have HP' := Lib.hid (HP.out r hr)
  have HK := Lib.hid hkp
  have HS' := Lib.hid hst
  clear hkp hst
  generalize vals.getD r 0 = x at c0 HP'
  go_wp2_with fail
  go_ret
  exact ⟨x, rfl, HP'.out, HS'.out, HK.out⟩

theorem some_any (S k b n c : Nat) (vals : List (List UInt8)) (P : List UInt8 → Prop) (w : World) (h : StreamOk w S k) (hk : k ≤ 1000000000) (hb : b < w.heap.size) (hS : b ≠ S) (h1 : 1 ≤ n) (h2 : n ≤ 1000) (hc : ∀ i, i < n → w.cell? ⟨b, i, none⟩ = some (.string ⟨(vals.getD i []).toArray⟩)) (hP : ∀ i, i < n → P (vals.getD i [])) :
    Calls Tryz.prog 12 #[.pointer (some ⟨S, 0, none⟩), .slice (some ⟨b, 0, none⟩) n c] w (SomePost S (k + 1) P w) := by
  have Hc := Lib.hid hc
  have HP := Lib.hid hP
  have HS := Lib.hid h
  clear hc hP h
  go_enter Tryz.func12, Tryz.ntmps12
  go_wp2_with fail
  refine (next_any S k _ _ HS.out hk (by omega) (by omega)).mono ?_
  rintro e w' ⟨r, rfl, r0, r1, hst, hkp⟩
  obtain ⟨r, rfl⟩ := Int.eq_ofNat_of_zero_le r0
  have hr : r < n := by omega
  have c0 := (hkp.cell (p := ⟨b, r, none⟩) hb hS).trans (Hc.out r hr)
  have HP' := Lib.hid (HP.out r hr)
  have HK := Lib.hid hkp
  have HS' := Lib.hid hst
  clear hkp hst
  generalize vals.getD r [] = x at c0 HP'
  go_wp2_with fail
  go_ret
  exact ⟨x, rfl, HP'.out, HS'.out, HK.out⟩

/-- Three, four, five values in a new block. -/
theorem cells3 {w : World} {b : Nat} {x0 x1 x2 : Int} (h0 : w.cell? ⟨b, 0, none⟩ = some (.int .i64 x0)) (h1 : w.cell? ⟨b, 1, none⟩ = some (.int .i64 x1)) (h2 : w.cell? ⟨b, 2, none⟩ = some (.int .i64 x2)) : ∀ i, i < 3 → w.cell? ⟨b, i, none⟩ = some (.int .i64 (([x0, x1, x2] : List Int).getD i 0))
  | 0, _ => h0
  | 1, _ => h1
  | 2, _ => h2
theorem cells4 {w : World} {b : Nat} {x0 x1 x2 x3 : Int} (h0 : w.cell? ⟨b, 0, none⟩ = some (.int .i64 x0)) (h1 : w.cell? ⟨b, 1, none⟩ = some (.int .i64 x1)) (h2 : w.cell? ⟨b, 2, none⟩ = some (.int .i64 x2)) (h3 : w.cell? ⟨b, 3, none⟩ = some (.int .i64 x3)) : ∀ i, i < 4 → w.cell? ⟨b, i, none⟩ = some (.int .i64 (([x0, x1, x2, x3] : List Int).getD i 0))
  | 0, _ => h0
  | 1, _ => h1
  | 2, _ => h2
  | 3, _ => h3
theorem cells5 {w : World} {b : Nat} {x0 x1 x2 x3 x4 : Int} (h0 : w.cell? ⟨b, 0, none⟩ = some (.int .i64 x0)) (h1 : w.cell? ⟨b, 1, none⟩ = some (.int .i64 x1)) (h2 : w.cell? ⟨b, 2, none⟩ = some (.int .i64 x2)) (h3 : w.cell? ⟨b, 3, none⟩ = some (.int .i64 x3)) (h4 : w.cell? ⟨b, 4, none⟩ = some (.int .i64 x4)) : ∀ i, i < 5 → w.cell? ⟨b, i, none⟩ = some (.int .i64 (([x0, x1, x2, x3, x4] : List Int).getD i 0))
  | 0, _ => h0
  | 1, _ => h1
  | 2, _ => h2
  | 3, _ => h3
  | 4, _ => h4

/-- Pick of three, four or five numbers that are written out. -/
theorem pick3 (S k b : Nat) (x0 x1 x2 : Int) (P : Int → Prop) (w : World) (h : StreamOk w S k) (hk : k ≤ 1000000000) (hb : b < w.heap.size) (hS : b ≠ S) (h0 : w.cell? ⟨b, 0, none⟩ = some (.int .i64 x0)) (h1 : w.cell? ⟨b, 1, none⟩ = some (.int .i64 x1)) (h2 : w.cell? ⟨b, 2, none⟩ = some (.int .i64 x2)) (p0 : P x0) (p1 : P x1) (p2 : P x2) :
    Calls Tryz.prog 41 #[.pointer (some ⟨S, 0, none⟩), .slice (some ⟨b, 0, none⟩) 3 3] w (PickPost S (k + 1) P w) :=
  pick_any S k b 3 3 [x0, x1, x2] P w h hk hb hS (by omega) (by omega) (cells3 h0 h1 h2) (fun i hi => by match i, hi with | 0, _ => exact p0 | 1, _ => exact p1 | 2, _ => exact p2)
theorem pick4 (S k b : Nat) (x0 x1 x2 x3 : Int) (P : Int → Prop) (w : World) (h : StreamOk w S k) (hk : k ≤ 1000000000) (hb : b < w.heap.size) (hS : b ≠ S) (h0 : w.cell? ⟨b, 0, none⟩ = some (.int .i64 x0)) (h1 : w.cell? ⟨b, 1, none⟩ = some (.int .i64 x1)) (h2 : w.cell? ⟨b, 2, none⟩ = some (.int .i64 x2)) (h3 : w.cell? ⟨b, 3, none⟩ = some (.int .i64 x3)) (p0 : P x0) (p1 : P x1) (p2 : P x2) (p3 : P x3) :
    Calls Tryz.prog 41 #[.pointer (some ⟨S, 0, none⟩), .slice (some ⟨b, 0, none⟩) 4 4] w (PickPost S (k + 1) P w) :=
  pick_any S k b 4 4 [x0, x1, x2, x3] P w h hk hb hS (by omega) (by omega) (cells4 h0 h1 h2 h3) (fun i hi => by match i, hi with | 0, _ => exact p0 | 1, _ => exact p1 | 2, _ => exact p2 | 3, _ => exact p3)
theorem pick5 (S k b : Nat) (x0 x1 x2 x3 x4 : Int) (P : Int → Prop) (w : World) (h : StreamOk w S k) (hk : k ≤ 1000000000) (hb : b < w.heap.size) (hS : b ≠ S) (h0 : w.cell? ⟨b, 0, none⟩ = some (.int .i64 x0)) (h1 : w.cell? ⟨b, 1, none⟩ = some (.int .i64 x1)) (h2 : w.cell? ⟨b, 2, none⟩ = some (.int .i64 x2)) (h3 : w.cell? ⟨b, 3, none⟩ = some (.int .i64 x3)) (h4 : w.cell? ⟨b, 4, none⟩ = some (.int .i64 x4)) (p0 : P x0) (p1 : P x1) (p2 : P x2) (p3 : P x3) (p4 : P x4) :
    Calls Tryz.prog 41 #[.pointer (some ⟨S, 0, none⟩), .slice (some ⟨b, 0, none⟩) 5 5] w (PickPost S (k + 1) P w) :=
  pick_any S k b 5 5 [x0, x1, x2, x3, x4] P w h hk hb hS (by omega) (by omega) (cells5 h0 h1 h2 h3 h4) (fun i hi => by match i, hi with | 0, _ => exact p0 | 1, _ => exact p1 | 2, _ => exact p2 | 3, _ => exact p3 | 4, _ => exact p4)
theorem some3 (S k b : Nat) (x0 x1 x2 : List UInt8) (P : List UInt8 → Prop) (w : World) (h : StreamOk w S k) (hk : k ≤ 1000000000) (hb : b < w.heap.size) (hS : b ≠ S) (h0 : w.cell? ⟨b, 0, none⟩ = some (.string ⟨x0.toArray⟩)) (h1 : w.cell? ⟨b, 1, none⟩ = some (.string ⟨x1.toArray⟩)) (h2 : w.cell? ⟨b, 2, none⟩ = some (.string ⟨x2.toArray⟩)) (p0 : P x0) (p1 : P x1) (p2 : P x2) :
    Calls Tryz.prog 12 #[.pointer (some ⟨S, 0, none⟩), .slice (some ⟨b, 0, none⟩) 3 3] w (SomePost S (k + 1) P w) :=
  some_any S k b 3 3 [x0, x1, x2] P w h hk hb hS (by omega) (by omega) (fun i hi => by match i, hi with | 0, _ => exact h0 | 1, _ => exact h1 | 2, _ => exact h2) (fun i hi => by match i, hi with | 0, _ => exact p0 | 1, _ => exact p1 | 2, _ => exact p2)
theorem some4 (S k b : Nat) (x0 x1 x2 x3 : List UInt8) (P : List UInt8 → Prop) (w : World) (h : StreamOk w S k) (hk : k ≤ 1000000000) (hb : b < w.heap.size) (hS : b ≠ S) (h0 : w.cell? ⟨b, 0, none⟩ = some (.string ⟨x0.toArray⟩)) (h1 : w.cell? ⟨b, 1, none⟩ = some (.string ⟨x1.toArray⟩)) (h2 : w.cell? ⟨b, 2, none⟩ = some (.string ⟨x2.toArray⟩)) (h3 : w.cell? ⟨b, 3, none⟩ = some (.string ⟨x3.toArray⟩)) (p0 : P x0) (p1 : P x1) (p2 : P x2) (p3 : P x3) :
    Calls Tryz.prog 12 #[.pointer (some ⟨S, 0, none⟩), .slice (some ⟨b, 0, none⟩) 4 4] w (SomePost S (k + 1) P w) :=
  some_any S k b 4 4 [x0, x1, x2, x3] P w h hk hb hS (by omega) (by omega) (fun i hi => by match i, hi with | 0, _ => exact h0 | 1, _ => exact h1 | 2, _ => exact h2 | 3, _ => exact h3) (fun i hi => by match i, hi with | 0, _ => exact p0 | 1, _ => exact p1 | 2, _ => exact p2 | 3, _ => exact p3)
end Go.Proofs.YtbbbaeenngjldaaGreatDoor

set_option linter.unusedVariables false
set_option linter.unusedSimpArgs false
namespace Go.Proofs.YtbbbaeenngjldaaGreatDoor
open Go.RowKit

theorem enc_size (r : Int) : (Utf8.encode r).size ≤ 4 := by
  unfold Utf8.encode
  simp only
  repeat' split
  all_goals (show Array.size _ ≤ 4; simp)
theorem bytes_back (b : ByteArray) : b = (⟨b.data.toList.toArray⟩ : ByteArray) := by simp
theorem enc_bound (a b e : ByteArray) (n : Nat) (h : a.size + e.size + b.size ≤ n) : ((a ++ e) ++ b).data.toList.length ≤ n := by
  show _ ≤ n
  simp only [ByteArray.data_append, Array.toList_append, List.length_append]
  exact h

set_option maxRecDepth 100000 in
set_option maxHeartbeats 4000000 in
theorem changed_any (S k : Nat) (w : World) (t wi : List UInt8) (h : StreamOk w S k) (hk : k ≤ 10000000) (ht : t.length ≤ 100000) (hw : wi.length ≤ 100000) :
    Calls Tryz.prog 13 #[.pointer (some ⟨S, 0, none⟩), .string ⟨t.toArray⟩, .string ⟨wi.toArray⟩] w (SomePost S (k + 3) (fun s => s.length ≤ t.length + wi.length + 4) w) := by
  have HS := Lib.hid h
  clear h
  cases t with
  | nil =>
    go_enter Tryz.func13, Tryz.ntmps13
    go_wp2_with fail
    go_ret
    exact ⟨wi, rfl, by show wi.length ≤ 0 + wi.length + 4; omega, HS.out.mono (by omega), Keeps.refl _ _⟩
  | cons x m =>
  cases wi with
  | nil =>
    go_enter Tryz.func13, Tryz.ntmps13
    go_wp2_with fail
    go_ret
    exact ⟨[], rfl, by simp, HS.out.mono (by omega), Keeps.refl _ _⟩
  | cons y n =>
    simp only [List.length_cons] at ht hw
    go_enter Tryz.func13, Tryz.ntmps13
    go_wp2_with fail
    refine (next_any S k ((m.length : Int) + 1) _ HS.out (by omega) (by omega) (by omega)).mono ?_
    rintro e w1 ⟨r, rfl, r0, r1, hst1, hk1⟩
    have HS1 := Lib.hid hst1
    have HK1 := Lib.hid hk1
    obtain ⟨i, rfl⟩ := Int.eq_ofNat_of_zero_le r0
    have hi : i < m.length + 1 := by omega
    clear hst1 hk1 r0 r1
    as_aux_lemma =>
      go_wp2_with fail
      refine (next_any S (k + 1) ((n.length : Int) + 1) _ HS1.out (by omega) (by omega) (by omega)).mono ?_
      rintro e w2 ⟨r, rfl, r0, r1, hst2, hk2⟩
      have HS2 := Lib.hid hst2
      have HK2 := Lib.hid (HK1.out.trans hk2)
      obtain ⟨j, rfl⟩ := Int.eq_ofNat_of_zero_le r0
      have hj : j < n.length + 1 := by omega
      clear hst2 hk2 r0 r1 HS1 HK1
      as_aux_lemma =>
        go_wp2_with fail
        refine (next_any S (k + 2) 3 _ HS2.out (by omega) (by omega) (by omega)).mono ?_
        rintro e w3 ⟨r, rfl, r0, r1, hst3, hk3⟩
        have HS3 := Lib.hid hst3
        have HK3 := Lib.hid (HK2.out.trans hk3)
        have hr : r = 0 ∨ r = 1 ∨ r = 2 := by omega
        clear hst3 hk3 r0 r1 HS2 HK2
        have hq256 : ((⟨(y :: n).toArray⟩ : ByteArray)[j]'(by show j < n.length + 1; omega)).toNat < 256 := UInt8.toNat_lt _
        generalize ((⟨(y :: n).toArray⟩ : ByteArray)[j]'(by show j < n.length + 1; omega)).toNat = q at hq256
        have hwq : IntKind.i32.wrap (q : Int) = (q : Int) := IntWalk.i32_in _ (by omega)
        have hes := enc_size (q : Int)
        obtain ⟨el, hel⟩ : ∃ el : List UInt8, Utf8.encode (q : Int) = ⟨el.toArray⟩ := ⟨_, bytes_back _⟩
        rw [hel] at hes
        have hell : el.length ≤ 4 := hes
        clear hes
        have hwi : IntKind.i64.wrap ((i : Int) + 1) = (i : Int) + 1 := IntWalk.i64_in _ (by omega)
        have hwn : ((i : Int) + 1).toNat = i + 1 := by omega
        have hw0 : (0 : Int) ≤ (i : Int) + 1 := by omega
        have hiI : (i : Int) ≤ (m.length : Int) + 1 := by omega
        have hiJ : (i : Int) + 1 ≤ (m.length : Int) + 1 := by omega
        have HEX : Hid (∀ k, (⟨(x :: m).toArray⟩ : ByteArray).extract k (m.length + 1) = ⟨((x :: m).drop k).toArray⟩) := fun k => extract_drop (x :: m) k
        rcases hr with rfl | rfl | rfl
        · skip
          as_aux_lemma =>
            go_wp2_with fail
            go_quiet (fail)
            rw [ext_take, HEX.out, cat_str, cat_str]
            go_wp2_with fail
            go_ret
            exact ⟨_, rfl, by simp; omega, HS3.out.below (by (try show Below _ _ _); repeat (with_reducible first | exact Below.refl _ _ | assumption | exact Hid.out (by assumption) | refine ext_alloc ?_ | refine ext_drewN ?_ | refine ext_drew ?_ | refine ext_setCell ?_ (Nat.le_refl _) | refine ext_setCell ?_ (Nat.le_succ _) | refine ext_trans ?_ (by assumption) | (refine ext_setCell ?_ (by simp)) | (refine ext_setCell ?_ (by simp at *; omega)))), HK3.out.trans (Keeps.of_below (by (try show Below _ _ _); repeat (with_reducible first | exact Below.refl _ _ | assumption | exact Hid.out (by assumption) | refine ext_alloc ?_ | refine ext_drewN ?_ | refine ext_drew ?_ | refine ext_setCell ?_ (Nat.le_refl _) | refine ext_setCell ?_ (Nat.le_succ _) | refine ext_trans ?_ (by assumption) | (refine ext_setCell ?_ (by simp)) | (refine ext_setCell ?_ (by simp at *; omega)))))⟩
        · skip
          as_aux_lemma =>
            go_wp2_with fail
            go_quiet (fail)
            rw [ext_take, HEX.out, cat_str, cat_str]
            go_wp2_with fail
            go_ret
            exact ⟨_, rfl, by simp; omega, HS3.out.below (by (try show Below _ _ _); repeat (with_reducible first | exact Below.refl _ _ | assumption | exact Hid.out (by assumption) | refine ext_alloc ?_ | refine ext_drewN ?_ | refine ext_drew ?_ | refine ext_setCell ?_ (Nat.le_refl _) | refine ext_setCell ?_ (Nat.le_succ _) | refine ext_trans ?_ (by assumption) | (refine ext_setCell ?_ (by simp)) | (refine ext_setCell ?_ (by simp at *; omega)))), HK3.out.trans (Keeps.of_below (by (try show Below _ _ _); repeat (with_reducible first | exact Below.refl _ _ | assumption | exact Hid.out (by assumption) | refine ext_alloc ?_ | refine ext_drewN ?_ | refine ext_drew ?_ | refine ext_setCell ?_ (Nat.le_refl _) | refine ext_setCell ?_ (Nat.le_succ _) | refine ext_trans ?_ (by assumption) | (refine ext_setCell ?_ (by simp)) | (refine ext_setCell ?_ (by simp at *; omega)))))⟩
        · skip
          as_aux_lemma =>
            go_wp2_with fail
            go_quiet (fail)
            rw [ext_take, HEX.out, cat_str]
            go_wp2_with fail
            go_ret
            exact ⟨_, rfl, by simp; omega, HS3.out.below (by (try show Below _ _ _); repeat (with_reducible first | exact Below.refl _ _ | assumption | exact Hid.out (by assumption) | refine ext_alloc ?_ | refine ext_drewN ?_ | refine ext_drew ?_ | refine ext_setCell ?_ (Nat.le_refl _) | refine ext_setCell ?_ (Nat.le_succ _) | refine ext_trans ?_ (by assumption) | (refine ext_setCell ?_ (by simp)) | (refine ext_setCell ?_ (by simp at *; omega)))), HK3.out.trans (Keeps.of_below (by (try show Below _ _ _); repeat (with_reducible first | exact Below.refl _ _ | assumption | exact Hid.out (by assumption) | refine ext_alloc ?_ | refine ext_drewN ?_ | refine ext_drew ?_ | refine ext_setCell ?_ (Nat.le_refl _) | refine ext_setCell ?_ (Nat.le_succ _) | refine ext_trans ?_ (by assumption) | (refine ext_setCell ?_ (by simp)) | (refine ext_setCell ?_ (by simp at *; omega)))))⟩
end Go.Proofs.YtbbbaeenngjldaaGreatDoor
