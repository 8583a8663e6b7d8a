/- What is proved here: lemmas and contracts for the statement, put together out of smaller texts (PlanFault, Homes, HomeWalk, ProgIff). No condition beyond those stated. -/
import Derived.Test.YthajppcmmmkfcaaGreatDoorDpPkD
import Derived.Test.YthajppcmmmkfcaaGreatDoorDpPkC
import Derived.Deep.MidRow
import Derived.Test.YthajppcmmmkfcaaGreatDoorDpPkA
set_option linter.unusedVariables false
set_option linter.unusedSimpArgs false
namespace Go.Proofs.YthajppcmmmkfcaaGreatDoor
open Go.RowKit

theorem any_of_take {α : Type} (f g : α → Bool) (l : List α) (k n : Nat) (hn : k ≤ n) (h : f = g) : ((l.take k).any f) = ((l.take k).any g) := by rw [h]

set_option maxRecDepth 100000 in
set_option maxHeartbeats 2000000 in
theorem planFault_any (w : World) (a : Option Addr) (n cap : Nat) (l : List Ctry) (hr : CtryRow w a n l) (hcap : n ≤ cap) : Calls Tryz.prog 11 #[.slice a n cap] w (ErrPost (planErr l) w) := by
  have hfew := hr.few
  have hlen := hr.len
  have HR := Lib.hid hr
  have HDEF : Hid (planErr l = if 100 < l.length then 2 else firstErr (partErr l) l.length) := rfl
  generalize planErr l = R at HDEF ⊢
  clear hr
  by_cases h100 : 100 < n
  · have HF : Hid (R = 2) := by show _ = _; rw [HDEF.out, if_pos (by omega)]
    go_enter Tryz.func11, Tryz.ntmps11
    go_wp2_with fail
    go_ret
    exact ⟨by rw [HF.out]; rfl, Below.refl _ _⟩
  have HD : Hid (R = firstErr (partErr l) n) := by show _ = _; rw [HDEF.out, if_neg (by omega), ← hlen]
  have HLEN := Lib.hid hlen
  clear HDEF hlen
  go_enter Tryz.func11, Tryz.ntmps11
  go_wp2_with fail
  go_loopw [13] (fun it wr => ∃ k : Nat, k ≤ n ∧ it = .int .i64 k ∧ Hid (Below w.heap.size w wr) ∧ Hid (∀ j, j < k → partErr l j = 0)) (fun it _ => n - (intOf it).toNat)
  case atStart => exact ⟨0, Nat.zero_le _, rfl, Below.refl _ _, fun j hj => absurd hj (by omega)⟩
  case round =>
    obtain ⟨wo, rfl⟩ : ∃ wo : World, wo = wr := ⟨_, rfl⟩
    obtain ⟨i, hk, rfl, HB, HN⟩ := hrel
    by_cases hlt : i < n
    · have HRK := Lib.hid (HR.out.below HB.out)
      rcases HRK.out.row with h0 | ⟨b, off, rfl, hb, hcl⟩
      · omega
      have hil : i < l.length := by rw [← HLEN.out]; exact hlt
      obtain ⟨c0, c1, c2, c3⟩ := ctry_cells (hcl i hlt)
      have HENC := Lib.hid (ctry_enc HLEN.out hcl)
      have HPV : Hid (0 < i → wo.cell? ⟨b, off + (i - 1) * 4, none⟩ = some (.string ⟨(l.getD (i - 1) noCtry).code.toArray⟩)) := fun h9 => (ctry_cells (hcl (i - 1) (by omega))).1
      have HFI := Lib.hid (HRK.out.each i hil)
      obtain ⟨hcode, habr, htr, hmany, -, -⟩ := HRK.out.each i hil
      have HPE : Hid (partErr l i = if ctryErr l i ≠ 0 then ctryErr l i else firstErr (areaErr (l.getD i noCtry)) (l.getD i noCtry).areas.length) := rfl
      have HFE : Hid (partErr l i ≠ 0 → R = partErr l i) := fun h9 => HD.out.trans (first_some HN.out hlt h9)
      have HST : Hid (partErr l i = 0 → ∀ j, j < i + 1 → partErr l j = 0) := fun h9 j hj => by
        rcases Nat.lt_or_eq_of_le (Nat.lt_succ_iff.1 hj) with h | h
        · exact HN.out j h
        · subst h; exact h9
      have HDEF : Hid (ctryErr l i = ctryErrOf l i (l.getD i noCtry) (l.getD (i - 1) noCtry)) := rfl
      generalize partErr l i = PE at HPE HFE HST
      have HX : Hid (∀ v, ctryErr l i = v → v ≠ 0 → R = v) := fun v h1 h2 => by
        have h3 : PE = v := by rw [HPE.out, if_pos (by rw [h1]; exact h2), h1]
        rw [HFE.out (by rw [h3]; exact h2), h3]
      have HZ : Hid (ctryErr l i = 0 → PE = firstErr (areaErr (l.getD i noCtry)) (l.getD i noCtry).areas.length) := fun h1 => by rw [HPE.out, if_neg (by simpa using h1)]
      generalize ctryErr l i = E1 at HDEF HX HZ
      generalize l.getD i noCtry = c at c0 c1 c2 c3 HDEF hcode habr htr hmany HFI HZ
      generalize l.getD (i - 1) noCtry = p at HPV HDEF
      obtain ⟨code, abroad, trunk, aa, an, ac, areas⟩ := c
      simp only at hcode habr htr hmany c0 c1 c2 c3
      clear hcl hil HPE
      as_aux_lemma =>
        go_wp2_with fail
        refine (digital_l code 1 3 _ (by omega)).mono ?_
        rintro e w2 ⟨rfl, hb2⟩
        have HBO2 : Hid (Below wo.heap.size wo w2) := ext_trans (ext_alloc (Below.refl _ _)) hb2
        have HB2 : Hid (Below w.heap.size w w2) := ext_trans HB.out HBO2.out
        have hzz : wo.heap.size < w2.heap.size := by have := hb2.size; simp at this; omega
        obtain ⟨qc, qf⟩ := bcell hb2
        have D0 : w2.cell? ⟨wo.heap.size, 0, none⟩ = some (.string ⟨code.toArray⟩) := (qc _ 0 (by simp)).trans (by go_simp)
        have D1 : w2.cell? ⟨wo.heap.size, 1, none⟩ = some (.string ⟨abroad.toArray⟩) := (qc _ 1 (by simp)).trans (by go_simp)
        have D2 : w2.cell? ⟨wo.heap.size, 2, none⟩ = some (.string ⟨trunk.toArray⟩) := (qc _ 2 (by simp)).trans (by go_simp)
        have D3 : w2.cell? ⟨wo.heap.size, 3, none⟩ = some (.slice aa an ac) := (qc _ 3 (by simp)).trans (by go_simp)
        have hzb : b < w2.heap.size := Nat.lt_of_lt_of_le hb HBO2.out.size
        have HPV2 : Hid (0 < i → w2.cell? ⟨b, off + (i - 1) * 4, none⟩ = some (.string ⟨p.code.toArray⟩)) := fun h9 => (HBO2.out.cell (p := ⟨b, off + (i - 1) * 4, none⟩) hb).trans (HPV.out h9)
        have HD2 : Hid (E1 = if digitsB code 1 3 = false then 3 else if (code.headD 0 == 48) = true then 3 else if (decide (0 < i) && leS code p.code) = true then 7 else if ((l.take i).any fun d => Lib.hasPrefix code d.code) = true then 13 else if digitsB abroad 1 4 = false then 3 else if digitsB trunk 0 2 = false then 3 else if Lib.hasPrefix trunk abroad = true then 3 else if 300 < an then 2 else 0) := HDEF.out
        have hne : digitsB code 1 3 = true → 1 ≤ code.length := by intro h; unfold digitsB at h; simp at h; omega
        clear qc qf hb2 c0 c1 c2 c3 HPV HDEF
        generalize digitsB code 1 3 = g1 at HD2 hne ⊢
        as_aux_lemma =>
          cases g1
          · have HF : Hid (R = 3) := HX.out 3 HD2.out (by decide)
            go_wp2_with fail
            go_ret
            exact ⟨by rw [HF.out]; rfl, HB2.out⟩
          · have hlen := hne rfl
            clear hne
            rcases code with _ | ⟨x, xs⟩
            · simp at hlen
            have HD3 : Hid (E1 = if (x == 48) = true then 3 else if (decide (0 < i) && leS (x :: xs) p.code) = true then 7 else if ((l.take i).any fun d => Lib.hasPrefix (x :: xs) d.code) = true then 13 else if digitsB abroad 1 4 = false then 3 else if digitsB trunk 0 2 = false then 3 else if Lib.hasPrefix trunk abroad = true then 3 else if 300 < an then 2 else 0) := HD2.out
            clear HD2
            have q0 : 0 < (⟨(x :: xs).toArray⟩ : ByteArray).size := by show 0 < (x :: xs).length; simp
            have y0 : ((⟨(x :: xs).toArray⟩ : ByteArray)[0]'q0).toNat = x.toNat := rfl
            by_cases hx : x = 48
            · have HF : Hid (R = 3) := HX.out 3 (by rw [HD3.out, hx]; rfl) (by decide)
              have y1 : ((⟨(x :: xs).toArray⟩ : ByteArray)[0]'q0).toNat = 48 := by rw [y0, hx]; rfl
              clear y0 hx
              as_aux_lemma =>
                go_wp2_with fail
                go_ret
                exact ⟨by rw [HF.out]; rfl, HB2.out⟩
            · have HD4 : Hid (E1 = if (decide (0 < i) && leS (x :: xs) p.code) = true then 7 else if ((l.take i).any fun d => Lib.hasPrefix (x :: xs) d.code) = true then 13 else if digitsB abroad 1 4 = false then 3 else if digitsB trunk 0 2 = false then 3 else if Lib.hasPrefix trunk abroad = true then 3 else if 300 < an then 2 else 0) := by show _ = _; rw [HD3.out, if_neg (by simpa using hx)]
              have y1 : ((((⟨(x :: xs).toArray⟩ : ByteArray)[0]'q0).toNat : Int) == 48) = false := by
                rw [y0, beq_eq_false_iff_ne]
                intro h
                exact hx (UInt8.toNat_inj.1 (by have : (48 : UInt8).toNat = 48 := rfl; omega))
              clear HD3 y0 hx
              as_aux_lemma =>
                go_upto_region 8 with (fail)
                go_cut [13, 29] from 13 to 161 (fun s13 s29 wx => s13 = .int .i64 i ∧ s29 = .bool (decide (0 < i) && leS (x :: xs) p.code) ∧ Hid (wx = w2.drew))
                case first =>
                  by_cases hi0 : i = 0
                  · have hk1 : decide (0 < i) = false := decide_eq_false (by omega)
                    clear hi0
                    as_aux_lemma =>
                      refine region_seqI (S := (fun _ => True)) [(true, 0), (true, 1), (true, 2), (true, 3), (true, 4), (true, 5), (true, 6), (true, 7), (true, 8), (true, 9), (true, 10), (true, 11), (true, 12), (true, 13)] (by kernel_rfl) (by kernel_rfl) rfl (by kernel_rfl) trivial ?_
                      simp only [seqOps, List.getD_cons_zero, List.getD_cons_succ]
                      refine seqI_take (v := .int .i64 i) rfl (fun w9 hS9 => by go_simp) (fun _ _ _ h => h) ?_
                      simp only [Act.put, List.setIfInBounds_toArray, List.set_cons_zero, List.set_cons_succ]
                      refine seqI_take (v := .bool false) rfl (fun w9 hS9 => by go_simp) (fun _ _ _ h => h) ?_
                      simp only [Act.put, List.setIfInBounds_toArray, List.set_cons_zero, List.set_cons_succ]
                      refine seqI_take (v := .bool false) rfl (fun w9 hS9 => by go_simp) (fun _ _ _ h => h) ?_
                      simp only [Act.put, List.setIfInBounds_toArray, List.set_cons_zero, List.set_cons_succ]
                      refine seqI_skip rfl (fun _ _ _ h => h) ?_
                      simp only [Act.put, List.setIfInBounds_toArray, List.set_cons_zero, List.set_cons_succ]
                      refine seqI_skip rfl (fun _ _ _ h => h) ?_
                      simp only [Act.put, List.setIfInBounds_toArray, List.set_cons_zero, List.set_cons_succ]
                      refine seqI_skip rfl (fun _ _ _ h => h) ?_
                      simp only [Act.put, List.setIfInBounds_toArray, List.set_cons_zero, List.set_cons_succ]
                      refine seqI_skip rfl (fun _ _ _ h => h) ?_
                      simp only [Act.put, List.setIfInBounds_toArray, List.set_cons_zero, List.set_cons_succ]
                      refine seqI_skip rfl (fun _ _ _ h => h) ?_
                      simp only [Act.put, List.setIfInBounds_toArray, List.set_cons_zero, List.set_cons_succ]
                      refine seqI_skip rfl (fun _ _ _ h => h) ?_
                      simp only [Act.put, List.setIfInBounds_toArray, List.set_cons_zero, List.set_cons_succ]
                      refine seqI_skip rfl (fun _ _ _ h => h) ?_
                      simp only [Act.put, List.setIfInBounds_toArray, List.set_cons_zero, List.set_cons_succ]
                      refine seqI_skip rfl (fun _ _ _ h => h) ?_
                      simp only [Act.put, List.setIfInBounds_toArray, List.set_cons_zero, List.set_cons_succ]
                      refine seqI_skip rfl (fun _ _ _ h => h) ?_
                      simp only [Act.put, List.setIfInBounds_toArray, List.set_cons_zero, List.set_cons_succ]
                      refine seqI_take (v := .bool false) rfl (fun w9 hS9 => by go_simp) (fun _ _ _ h => h) ?_
                      simp only [Act.put, List.setIfInBounds_toArray, List.set_cons_zero, List.set_cons_succ]
                      refine seqI_take (v := .bool false) rfl (fun w9 hS9 => by go_simp) (fun _ _ _ h => h) ?_
                      simp only [Act.put, List.setIfInBounds_toArray, List.set_cons_zero, List.set_cons_succ]
                      refine seqI_nil ?_
                      go_wp2_with fail
                      go_meet
                      exact ⟨rfl, by rw [hk1]; rfl, rfl⟩
                  · have hk1 : 0 < i := by omega
                    have hk2 : decide (0 < i) = true := decide_eq_true hk1
                    have p0 := HPV2.out hk1
                    have kq : ((i : Int) - 1).toNat = i - 1 := by omega
                    have kr : 0 ≤ (i : Int) - 1 := by omega
                    have ks : (i : Int) - 1 < n := by omega
                    have kw : IntKind.i64.wrap ((i : Int) - 1) = (i : Int) - 1 := IntWalk.i64_in _ (by omega)
                    as_aux_lemma =>
                      refine region_seqI (S := (fun (w9 : World) => w9.cell? ⟨wo.heap.size, 0, none⟩ = some (.string ⟨(x :: xs).toArray⟩) ∧ w9.cell? ⟨b, off + (i - 1) * 4, none⟩ = some (.string ⟨p.code.toArray⟩))) [(true, 0), (true, 1), (true, 2), (true, 3), (true, 4), (true, 5), (true, 6), (true, 7), (true, 8), (true, 9), (true, 10), (true, 11), (true, 12), (true, 13)] (by kernel_rfl) (by kernel_rfl) rfl (by kernel_rfl) ⟨D0, p0⟩ ?_
                      simp only [seqOps, List.getD_cons_zero, List.getD_cons_succ]
                      refine seqI_take (v := .int .i64 i) rfl (fun w9 hS9 => by obtain ⟨s0, s1⟩ := hS9; go_simp) (fun _ _ _ h => h) ?_
                      simp only [Act.put, List.setIfInBounds_toArray, List.set_cons_zero, List.set_cons_succ]
                      refine seqI_take (v := .bool true) rfl (fun w9 hS9 => by obtain ⟨s0, s1⟩ := hS9; go_simp) (fun _ _ _ h => h) ?_
                      simp only [Act.put, List.setIfInBounds_toArray, List.set_cons_zero, List.set_cons_succ]
                      refine seqI_take (v := .bool true) rfl (fun w9 hS9 => by obtain ⟨s0, s1⟩ := hS9; go_simp) (fun _ _ _ h => h) ?_
                      simp only [Act.put, List.setIfInBounds_toArray, List.set_cons_zero, List.set_cons_succ]
                      refine seqI_take (v := .pointer (some ⟨wo.heap.size, 0, none⟩)) rfl (fun w9 hS9 => by obtain ⟨s0, s1⟩ := hS9; go_simp) (fun _ _ _ h => h) ?_
                      simp only [Act.put, List.setIfInBounds_toArray, List.set_cons_zero, List.set_cons_succ]
                      refine seqI_take (v := .string ⟨(x :: xs).toArray⟩) rfl (fun w9 hS9 => by obtain ⟨s0, s1⟩ := hS9; go_simp) (fun _ _ _ h => h) ?_
                      simp only [Act.put, List.setIfInBounds_toArray, List.set_cons_zero, List.set_cons_succ]
                      refine seqI_take (v := .slice (some ⟨b, off, none⟩) n cap) rfl (fun w9 hS9 => by obtain ⟨s0, s1⟩ := hS9; go_simp) (fun _ _ _ h => h) ?_
                      simp only [Act.put, List.setIfInBounds_toArray, List.set_cons_zero, List.set_cons_succ]
                      refine seqI_take (v := .int .i64 i) rfl (fun w9 hS9 => by obtain ⟨s0, s1⟩ := hS9; go_simp) (fun _ _ _ h => h) ?_
                      simp only [Act.put, List.setIfInBounds_toArray, List.set_cons_zero, List.set_cons_succ]
                      refine seqI_take (v := .int .i64 ((i : Int) - 1)) rfl (fun w9 hS9 => by obtain ⟨s0, s1⟩ := hS9; go_simp) (fun _ _ _ h => h) ?_
                      simp only [Act.put, List.setIfInBounds_toArray, List.set_cons_zero, List.set_cons_succ]
                      refine seqI_take (v := .pointer (some ⟨b, off + (i - 1) * 4, none⟩)) rfl (fun w9 hS9 => by obtain ⟨s0, s1⟩ := hS9; (go_simp; intro h9; exfalso; omega)) (fun _ _ _ h => h) ?_
                      simp only [Act.put, List.setIfInBounds_toArray, List.set_cons_zero, List.set_cons_succ]
                      refine seqI_take (v := .pointer (some ⟨b, off + (i - 1) * 4, none⟩)) rfl (fun w9 hS9 => by obtain ⟨s0, s1⟩ := hS9; go_simp) (fun _ _ _ h => h) ?_
                      simp only [Act.put, List.setIfInBounds_toArray, List.set_cons_zero, List.set_cons_succ]
                      refine seqI_take (v := .string ⟨p.code.toArray⟩) rfl (fun w9 hS9 => by obtain ⟨s0, s1⟩ := hS9; go_simp) (fun _ _ _ h => h) ?_
                      simp only [Act.put, List.setIfInBounds_toArray, List.set_cons_zero, List.set_cons_succ]
                      refine seqI_take (v := .bool (leS (x :: xs) p.code)) rfl (fun w9 hS9 => by obtain ⟨s0, s1⟩ := hS9; (go_simp; rfl)) (fun _ _ _ h => h) ?_
                      simp only [Act.put, List.setIfInBounds_toArray, List.set_cons_zero, List.set_cons_succ]
                      refine seqI_take (v := .bool (leS (x :: xs) p.code)) rfl (fun w9 hS9 => by obtain ⟨s0, s1⟩ := hS9; go_simp) (fun _ _ _ h => h) ?_
                      simp only [Act.put, List.setIfInBounds_toArray, List.set_cons_zero, List.set_cons_succ]
                      refine seqI_take (v := .bool (leS (x :: xs) p.code)) rfl (fun w9 hS9 => by obtain ⟨s0, s1⟩ := hS9; go_simp) (fun _ _ _ h => h) ?_
                      simp only [Act.put, List.setIfInBounds_toArray, List.set_cons_zero, List.set_cons_succ]
                      refine seqI_nil ?_
                      go_wp2_with fail
                      go_meet
                      exact ⟨rfl, by rw [hk2]; rfl, rfl⟩
                case rest =>
                  obtain ⟨rfl, rfl, HM⟩ := hcut
                  obtain ⟨W, rfl⟩ : ∃ W : World, W = wc := ⟨_, rfl⟩
                  have hW := HM.out
                  have HBN : Hid (Below w.heap.size w W) := by show Below _ _ _; rw [hW]; exact ext_drew HB2.out
                  have HBO : Hid (Below wo.heap.size wo W) := by show Below _ _ _; rw [hW]; exact ext_drew HBO2.out
                  have hzW : wo.heap.size < W.heap.size := by rw [hW]; exact hzz
                  have D0' : W.cell? ⟨wo.heap.size, 0, none⟩ = some (.string ⟨(x :: xs).toArray⟩) := by rw [hW]; exact D0
                  have D1' : W.cell? ⟨wo.heap.size, 1, none⟩ = some (.string ⟨abroad.toArray⟩) := by rw [hW]; exact D1
                  have D2' : W.cell? ⟨wo.heap.size, 2, none⟩ = some (.string ⟨trunk.toArray⟩) := by rw [hW]; exact D2
                  have D3' : W.cell? ⟨wo.heap.size, 3, none⟩ = some (.slice aa an ac) := by rw [hW]; exact D3
                  clear hW HM D0 D1 D2 D3 HPV2 HB2 HBO2 hzz hzb y1 q0
                  generalize (decide (0 < i) && leS (x :: xs) p.code) = g4 at HD4 ⊢
                  as_aux_lemma =>
                    cases g4
                    · have HD5 : Hid (E1 = if ((l.take i).any fun d => Lib.hasPrefix (x :: xs) d.code) = true then 13 else if digitsB abroad 1 4 = false then 3 else if digitsB trunk 0 2 = false then 3 else if Lib.hasPrefix trunk abroad = true then 3 else if 300 < an then 2 else 0) := HD4.out
                      clear HD4
                      have kc : (i : Int) ≤ cap := by omega
                      have HCON := Lib.hid (Tryz.slices_hasC Ctry.cells (fun _ => rfl) (fun y => Lib.hasPrefix (x :: xs) y.code) 54 #[.pointer (some ⟨wo.heap.size, 0, none⟩)] (enters_of Tryz.func54 (by kernel_rfl) rfl) b off i cap l W (fault1_pred (x :: xs) wo.heap.size W hzW D0') (by have := HLEN.out; omega) (by omega) (Nat.lt_of_lt_of_le hb HBO.out.size) (fun j hj q v hv => (HBO.out.cell (p := ⟨b, off + j * 4 + q, none⟩) hb).trans (HENC.out j hj q v hv)))
                      generalize ((l.take i).any fun d => Lib.hasPrefix (x :: xs) d.code) = g5 at HD5 HCON
                      as_aux_lemma =>
                        go_wp2_with fail
                        refine HCON.out.mono ?_
                        rintro e W3 ⟨rfl, hb3⟩
                        have HBR : Hid (Below w.heap.size w W3) := ext_trans HBN.out hb3
                        have HBO3 : Hid (Below wo.heap.size wo W3) := ext_trans HBO.out hb3
                        have hzr : wo.heap.size < W3.heap.size := Nat.lt_of_lt_of_le hzW hb3.size
                        have E0 := (hb3.cell (p := ⟨wo.heap.size, 0, none⟩) hzW).trans D0'
                        have E1' := (hb3.cell (p := ⟨wo.heap.size, 1, none⟩) hzW).trans D1'
                        have E2 := (hb3.cell (p := ⟨wo.heap.size, 2, none⟩) hzW).trans D2'
                        have E3 := (hb3.cell (p := ⟨wo.heap.size, 3, none⟩) hzW).trans D3'
                        clear D0' D1' D2' D3' hb3 HCON HBN HBO
                        cases g5
                        · have HD6 : Hid (E1 = if digitsB abroad 1 4 = false then 3 else if digitsB trunk 0 2 = false then 3 else if Lib.hasPrefix trunk abroad = true then 3 else if 300 < an then 2 else 0) := HD5.out
                          clear HD5
                          as_aux_lemma =>
                            go_wp2_with fail
                            refine (digital_l abroad 1 4 _ (by omega)).mono ?_
                            rintro e W4 ⟨rfl, hb4⟩
                            have HB4 : Hid (Below w.heap.size w W4) := ext_trans HBR.out hb4
                            have HBO4 : Hid (Below wo.heap.size wo W4) := ext_trans HBO3.out hb4
                            have hz4 : wo.heap.size < W4.heap.size := Nat.lt_of_lt_of_le hzr hb4.size
                            have F0 := (hb4.cell (p := ⟨wo.heap.size, 0, none⟩) hzr).trans E0
                            have F1 := (hb4.cell (p := ⟨wo.heap.size, 1, none⟩) hzr).trans E1'
                            have F2 := (hb4.cell (p := ⟨wo.heap.size, 2, none⟩) hzr).trans E2
                            have F3 := (hb4.cell (p := ⟨wo.heap.size, 3, none⟩) hzr).trans E3
                            clear E0 E1' E2 E3 hb4 HBR HBO3
                            generalize digitsB abroad 1 4 = g5 at HD6 ⊢
                            as_aux_lemma =>
                              cases g5
                              · have HF : Hid (R = 3) := HX.out 3 HD6.out (by decide)
                                go_wp2_with fail
                                go_ret
                                exact ⟨by rw [HF.out]; rfl, HB4.out⟩
                              · have HD7 : Hid (E1 = if digitsB trunk 0 2 = false then 3 else if Lib.hasPrefix trunk abroad = true then 3 else if 300 < an then 2 else 0) := HD6.out
                                clear HD6
                                as_aux_lemma =>
                                  go_wp2_with fail
                                  refine (digital_l trunk 0 2 _ (by omega)).mono ?_
                                  rintro e W5 ⟨rfl, hb5⟩
                                  have HB5 : Hid (Below w.heap.size w W5) := ext_trans HB4.out hb5
                                  have HBO5 : Hid (Below wo.heap.size wo W5) := ext_trans HBO4.out hb5
                                  have hz5 : wo.heap.size < W5.heap.size := Nat.lt_of_lt_of_le hz4 hb5.size
                                  have G0 := (hb5.cell (p := ⟨wo.heap.size, 0, none⟩) hz4).trans F0
                                  have G1 := (hb5.cell (p := ⟨wo.heap.size, 1, none⟩) hz4).trans F1
                                  have G2 := (hb5.cell (p := ⟨wo.heap.size, 2, none⟩) hz4).trans F2
                                  have G3 := (hb5.cell (p := ⟨wo.heap.size, 3, none⟩) hz4).trans F3
                                  clear F0 F1 F2 F3 hb5 HB4 HBO4
                                  generalize digitsB trunk 0 2 = g6 at HD7 ⊢
                                  cases g6
                                  · have HF : Hid (R = 3) := HX.out 3 HD7.out (by decide)
                                    as_aux_lemma =>
                                      go_wp2_with fail
                                      go_ret
                                      exact ⟨by rw [HF.out]; rfl, HB5.out⟩
                                  · have HD8 : Hid (E1 = if Lib.hasPrefix trunk abroad = true then 3 else if 300 < an then 2 else 0) := HD7.out
                                    clear HD7
                                    as_aux_lemma =>
                                      go_wp2_with fail
                                      refine (hasPrefix_l trunk abroad _).mono ?_
                                      rintro e w' ⟨rfl, rfl⟩
                                      generalize Lib.hasPrefix trunk abroad = g7 at HD8 ⊢
                                      cases g7
                                      · by_cases h300 : 300 < an
                                        · have HF : Hid (R = 2) := HX.out 2 (by rw [HD8.out]; exact if_pos h300) (by decide)
                                          as_aux_lemma =>
                                            go_wp2_with fail
                                            go_ret
                                            exact ⟨by rw [HF.out]; rfl, HB5.out⟩
                                        · have HPF : Hid (PE = firstErr (areaErr ⟨x :: xs, abroad, trunk, aa, an, ac, areas⟩) an) := by
                                            show _ = _
                                            rw [HZ.out (by rw [HD8.out]; exact if_neg h300)]
                                            show firstErr _ areas.length = _
                                            rw [show an = areas.length from HFI.out.row.len]
                                          clear HD8 HX HZ
                                          have HF5 : Hid (CtryFine W5 ⟨x :: xs, abroad, trunk, aa, an, ac, areas⟩) := HFI.out.below HBO5.out
                                          clear HFI HENC HBO5 hlen
                                          generalize x :: xs = code at HPF HF5 G0 hcode ⊢
                                          as_aux_lemma =>
                                            go_wp2_with fail
                                            go_loopw [75] (fun it wq => ∃ j : Nat, j ≤ an ∧ it = .int .i64 j ∧ Hid (Below W5.heap.size W5 wq) ∧ Hid (∀ j9, j9 < j → areaErr ⟨code, abroad, trunk, aa, an, ac, areas⟩ j9 = 0)) (fun it _ => an - (intOf it).toNat)
                                            case atStart => exact ⟨0, Nat.zero_le _, rfl, Below.refl _ _, fun j hj => absurd hj (by omega)⟩
                                            case round =>
                                              obtain ⟨j, hj, rfl, HBQ, HNQ⟩ := hrel
                                              have hzq : wo.heap.size < wr.heap.size := Nat.lt_of_lt_of_le hz5 HBQ.out.size
                                              have e0 := (HBQ.out.cell (p := ⟨wo.heap.size, 0, none⟩) hz5).trans G0
                                              have e1 := (HBQ.out.cell (p := ⟨wo.heap.size, 1, none⟩) hz5).trans G1
                                              have e2 := (HBQ.out.cell (p := ⟨wo.heap.size, 2, none⟩) hz5).trans G2
                                              have e3 := (HBQ.out.cell (p := ⟨wo.heap.size, 3, none⟩) hz5).trans G3
                                              clear G0 G1 G2 G3
                                              as_aux_lemma =>
                                                by_cases hlj : j < an
                                                · rcases HF5.out.row.row with h0 | ⟨ab, ao, haa, hab, hac⟩
                                                  · have h1 : an = 0 := h0
                                                    omega
                                                  have haa' : aa = some ⟨ab, ao, none⟩ := haa
                                                  subst haa'
                                                  have hjl : j < areas.length := by rw [← show an = areas.length from HF5.out.row.len]; exact hlj
                                                  obtain ⟨a0, a1, a2⟩ := area_cells (fun q hq => (HBQ.out.cell (p := ⟨ab, ao + j * 3 + q, none⟩) hab).trans (hac j hlj q hq))
                                                  have HPV : Hid (0 < j → wr.cell? ⟨ab, ao + (j - 1) * 3, none⟩ = some (.string ⟨(areas.getD (j - 1) noArea).pre.toArray⟩)) := fun h9 => (HBQ.out.cell (p := ⟨ab, ao + (j - 1) * 3, none⟩) hab).trans (area_cells (hac (j - 1) (show j - 1 < an by omega))).1
                                                  have HAF : AreaFine (areas.getD j noArea) := HF5.out.each j hjl
                                                  have HDEF : Hid (areaErr ⟨code, abroad, trunk, some ⟨ab, ao, none⟩, an, ac, areas⟩ j = areaErrOf ⟨code, abroad, trunk, some ⟨ab, ao, none⟩, an, ac, areas⟩ j (areas.getD j noArea) (areas.getD (j - 1) noArea)) := rfl
                                                  have HFA : Hid (∀ v, areaErr ⟨code, abroad, trunk, some ⟨ab, ao, none⟩, an, ac, areas⟩ j = v → v ≠ 0 → R = v) := fun v h1 h2 => by
                                                    have h3 : PE = v := by rw [HPF.out, first_some HNQ.out hlj (by rw [h1]; exact h2), h1]
                                                    rw [HFE.out (by rw [h3]; exact h2), h3]
                                                  have HSA : Hid (areaErr ⟨code, abroad, trunk, some ⟨ab, ao, none⟩, an, ac, areas⟩ j = 0 → ∀ j9, j9 < j + 1 → areaErr ⟨code, abroad, trunk, some ⟨ab, ao, none⟩, an, ac, areas⟩ j9 = 0) := fun h9 j9 hj9 => by
                                                    rcases Nat.lt_or_eq_of_le (Nat.lt_succ_iff.1 hj9) with h | h
                                                    · exact HNQ.out j9 h
                                                    · subst h; exact h9
                                                  generalize areaErr ⟨code, abroad, trunk, some ⟨ab, ao, none⟩, an, ac, areas⟩ j = E2 at HDEF HFA HSA
                                                  generalize areas.getD j noArea = y at a0 a1 a2 HAF HDEF
                                                  generalize areas.getD (j - 1) noArea = pp at HPV HDEF
                                                  obtain ⟨pre, low, high⟩ := y
                                                  obtain ⟨f1, f2, f3, f4, f5⟩ := HAF
                                                  simp only at a0 a1 a2 f1 f2 f3 f4 f5
                                                  have hzab : ab < wr.heap.size := Nat.lt_of_lt_of_le hab HBQ.out.size
                                                  clear hac hjl haa HPF HFE HST
                                                  as_aux_lemma =>
                                                    go_wp2_with fail
                                                    rw [cat_str]
                                                    refine (digital_l pre 1 8 _ (by omega)).mono ?_
                                                    rintro e w2 ⟨rfl, hb2⟩
                                                    obtain ⟨qc, qf⟩ := bcell hb2
                                                    have HBQ2 : Hid (Below W5.heap.size W5 w2) := ext_trans (ext_alloc HBQ.out) hb2
                                                    have hzA : wr.heap.size < w2.heap.size := by have := hb2.size; simp at this; omega
                                                    have K0 : w2.cell? ⟨wo.heap.size, 0, none⟩ = some (.string ⟨code.toArray⟩) := (qc _ 0 (by simp; omega)).trans (by go_simp)
                                                    have K1 : w2.cell? ⟨wo.heap.size, 1, none⟩ = some (.string ⟨abroad.toArray⟩) := (qc _ 1 (by simp; omega)).trans (by go_simp)
                                                    have K3 : w2.cell? ⟨wo.heap.size, 3, none⟩ = some (.slice (some ⟨ab, ao, none⟩) an ac) := (qc _ 3 (by simp; omega)).trans (by go_simp)
                                                    have L0 : w2.cell? ⟨wr.heap.size, 0, none⟩ = some (.string ⟨pre.toArray⟩) := (qc _ 0 (by simp)).trans (by go_simp)
                                                    have L1 : w2.cell? ⟨wr.heap.size, 1, none⟩ = some (.int .i64 low) := (qc _ 1 (by simp)).trans (by go_simp)
                                                    have L2 : w2.cell? ⟨wr.heap.size, 2, none⟩ = some (.int .i64 high) := (qc _ 2 (by simp)).trans (by go_simp)
                                                    have HPV2 : Hid (0 < j → w2.cell? ⟨ab, ao + (j - 1) * 3, none⟩ = some (.string ⟨pp.pre.toArray⟩)) := fun h9 => ((ext_trans (ext_alloc (Below.refl _ _)) hb2).cell (p := ⟨ab, ao + (j - 1) * 3, none⟩) hzab).trans (HPV.out h9)
                                                    have HD2 : Hid (E2 = if digitsB pre 1 8 = false then 3 else if (decide (0 < j) && leS pre pp.pre) = true then 7 else if ((decide (0 < j) && Lib.hasPrefix pre pp.pre) || (Lib.hasPrefix (trunk ++ pre) abroad || Lib.hasPrefix abroad (trunk ++ pre))) = true then 13 else if areaBad code pre low high = true then 1 else 0) := HDEF.out
                                                    clear qc qf hb2 e0 e1 e2 e3 a0 a1 a2 HPV HDEF HBQ
                                                    generalize digitsB pre 1 8 = g1 at HD2 ⊢
                                                    as_aux_lemma =>
                                                      cases g1
                                                      · have HF : Hid (R = 3) := HFA.out 3 HD2.out (by decide)
                                                        as_aux_lemma =>
                                                          go_wp2_with fail
                                                          go_ret
                                                          exact ⟨by rw [HF.out]; rfl, ext_trans HB5.out HBQ2.out⟩
                                                      · have HD3 : Hid (E2 = if (decide (0 < j) && leS pre pp.pre) = true then 7 else if ((decide (0 < j) && Lib.hasPrefix pre pp.pre) || (Lib.hasPrefix (trunk ++ pre) abroad || Lib.hasPrefix abroad (trunk ++ pre))) = true then 13 else if areaBad code pre low high = true then 1 else 0) := HD2.out
                                                        clear HD2
                                                        go_upto_region 22 with (fail)
                                                        go_cut [75, 90] from 75 to 160 (fun s75 s90 wx => s75 = .int .i64 j ∧ s90 = .bool (decide (0 < j) && leS pre pp.pre) ∧ Hid (wx = w2.drew))
                                                        case first =>
                                                          by_cases hi0 : j = 0
                                                          · have hk1 : decide (0 < j) = false := decide_eq_false (by omega)
                                                            clear hi0
                                                            as_aux_lemma =>
                                                              refine region_seqI (S := (fun _ => True)) [(true, 0), (true, 1), (true, 2), (true, 3), (true, 4), (true, 5), (true, 6), (true, 7), (true, 8), (true, 9), (true, 10), (true, 11), (true, 12), (true, 13), (true, 14)] (by kernel_rfl) (by kernel_rfl) rfl (by kernel_rfl) trivial ?_
                                                              simp only [seqOps, List.getD_cons_zero, List.getD_cons_succ]
                                                              refine seqI_take (v := .int .i64 j) rfl (fun w9 hS9 => by go_simp) (fun _ _ _ h => h) ?_
                                                              simp only [Act.put, List.setIfInBounds_toArray, List.set_cons_zero, List.set_cons_succ]
                                                              refine seqI_take (v := .bool false) rfl (fun w9 hS9 => by go_simp) (fun _ _ _ h => h) ?_
                                                              simp only [Act.put, List.setIfInBounds_toArray, List.set_cons_zero, List.set_cons_succ]
                                                              refine seqI_take (v := .bool false) rfl (fun w9 hS9 => by go_simp) (fun _ _ _ h => h) ?_
                                                              simp only [Act.put, List.setIfInBounds_toArray, List.set_cons_zero, List.set_cons_succ]
                                                              refine seqI_skip rfl (fun _ _ _ h => h) ?_
                                                              simp only [Act.put, List.setIfInBounds_toArray, List.set_cons_zero, List.set_cons_succ]
                                                              refine seqI_skip rfl (fun _ _ _ h => h) ?_
                                                              simp only [Act.put, List.setIfInBounds_toArray, List.set_cons_zero, List.set_cons_succ]
                                                              refine seqI_skip rfl (fun _ _ _ h => h) ?_
                                                              simp only [Act.put, List.setIfInBounds_toArray, List.set_cons_zero, List.set_cons_succ]
                                                              refine seqI_skip rfl (fun _ _ _ h => h) ?_
                                                              simp only [Act.put, List.setIfInBounds_toArray, List.set_cons_zero, List.set_cons_succ]
                                                              refine seqI_skip rfl (fun _ _ _ h => h) ?_
                                                              simp only [Act.put, List.setIfInBounds_toArray, List.set_cons_zero, List.set_cons_succ]
                                                              refine seqI_skip rfl (fun _ _ _ h => h) ?_
                                                              simp only [Act.put, List.setIfInBounds_toArray, List.set_cons_zero, List.set_cons_succ]
                                                              refine seqI_skip rfl (fun _ _ _ h => h) ?_
                                                              simp only [Act.put, List.setIfInBounds_toArray, List.set_cons_zero, List.set_cons_succ]
                                                              refine seqI_skip rfl (fun _ _ _ h => h) ?_
                                                              simp only [Act.put, List.setIfInBounds_toArray, List.set_cons_zero, List.set_cons_succ]
                                                              refine seqI_skip rfl (fun _ _ _ h => h) ?_
                                                              simp only [Act.put, List.setIfInBounds_toArray, List.set_cons_zero, List.set_cons_succ]
                                                              refine seqI_skip rfl (fun _ _ _ h => h) ?_
                                                              simp only [Act.put, List.setIfInBounds_toArray, List.set_cons_zero, List.set_cons_succ]
                                                              refine seqI_take (v := .bool false) rfl (fun w9 hS9 => by go_simp) (fun _ _ _ h => h) ?_
                                                              simp only [Act.put, List.setIfInBounds_toArray, List.set_cons_zero, List.set_cons_succ]
                                                              refine seqI_take (v := .bool false) rfl (fun w9 hS9 => by go_simp) (fun _ _ _ h => h) ?_
                                                              simp only [Act.put, List.setIfInBounds_toArray, List.set_cons_zero, List.set_cons_succ]
                                                              refine seqI_nil ?_
                                                              go_wp2_with fail
                                                              go_meet
                                                              exact ⟨rfl, by rw [hk1]; rfl, rfl⟩
                                                          · have hk1 : 0 < j := by omega
                                                            have hk2 : decide (0 < j) = true := decide_eq_true hk1
                                                            have p0 := HPV2.out hk1
                                                            have kq : ((j : Int) - 1).toNat = j - 1 := by omega
                                                            have kr : 0 ≤ (j : Int) - 1 := by omega
                                                            have ks : (j : Int) - 1 < an := by omega
                                                            have kw : IntKind.i64.wrap ((j : Int) - 1) = (j : Int) - 1 := IntWalk.i64_in _ (by omega)
                                                            as_aux_lemma =>
                                                              refine region_seqI (S := (fun (w9 : World) => w9.cell? ⟨wo.heap.size, 3, none⟩ = some (.slice (some ⟨ab, ao, none⟩) an ac) ∧ w9.cell? ⟨wr.heap.size, 0, none⟩ = some (.string ⟨pre.toArray⟩) ∧ w9.cell? ⟨ab, ao + (j - 1) * 3, none⟩ = some (.string ⟨pp.pre.toArray⟩))) [(true, 0), (true, 1), (true, 2), (true, 3), (true, 4), (true, 5), (true, 6), (true, 7), (true, 8), (true, 9), (true, 10), (true, 11), (true, 12), (true, 13), (true, 14)] (by kernel_rfl) (by kernel_rfl) rfl (by kernel_rfl) ⟨K3, L0, p0⟩ ?_
                                                              simp only [seqOps, List.getD_cons_zero, List.getD_cons_succ]
                                                              refine seqI_take (v := .int .i64 j) rfl (fun w9 hS9 => by obtain ⟨s0, s1, s2⟩ := hS9; go_simp) (fun _ _ _ h => h) ?_
                                                              simp only [Act.put, List.setIfInBounds_toArray, List.set_cons_zero, List.set_cons_succ]
                                                              refine seqI_take (v := .bool true) rfl (fun w9 hS9 => by obtain ⟨s0, s1, s2⟩ := hS9; go_simp) (fun _ _ _ h => h) ?_
                                                              simp only [Act.put, List.setIfInBounds_toArray, List.set_cons_zero, List.set_cons_succ]
                                                              refine seqI_take (v := .bool true) rfl (fun w9 hS9 => by obtain ⟨s0, s1, s2⟩ := hS9; go_simp) (fun _ _ _ h => h) ?_
                                                              simp only [Act.put, List.setIfInBounds_toArray, List.set_cons_zero, List.set_cons_succ]
                                                              refine seqI_take (v := .pointer (some ⟨wr.heap.size, 0, none⟩)) rfl (fun w9 hS9 => by obtain ⟨s0, s1, s2⟩ := hS9; go_simp) (fun _ _ _ h => h) ?_
                                                              simp only [Act.put, List.setIfInBounds_toArray, List.set_cons_zero, List.set_cons_succ]
                                                              refine seqI_take (v := .string ⟨pre.toArray⟩) rfl (fun w9 hS9 => by obtain ⟨s0, s1, s2⟩ := hS9; go_simp) (fun _ _ _ h => h) ?_
                                                              simp only [Act.put, List.setIfInBounds_toArray, List.set_cons_zero, List.set_cons_succ]
                                                              refine seqI_take (v := .pointer (some ⟨wo.heap.size, 3, none⟩)) rfl (fun w9 hS9 => by obtain ⟨s0, s1, s2⟩ := hS9; go_simp) (fun _ _ _ h => h) ?_
                                                              simp only [Act.put, List.setIfInBounds_toArray, List.set_cons_zero, List.set_cons_succ]
                                                              refine seqI_take (v := .slice (some ⟨ab, ao, none⟩) an ac) rfl (fun w9 hS9 => by obtain ⟨s0, s1, s2⟩ := hS9; go_simp) (fun _ _ _ h => h) ?_
                                                              simp only [Act.put, List.setIfInBounds_toArray, List.set_cons_zero, List.set_cons_succ]
                                                              refine seqI_take (v := .int .i64 j) rfl (fun w9 hS9 => by obtain ⟨s0, s1, s2⟩ := hS9; go_simp) (fun _ _ _ h => h) ?_
                                                              simp only [Act.put, List.setIfInBounds_toArray, List.set_cons_zero, List.set_cons_succ]
                                                              refine seqI_take (v := .int .i64 ((j : Int) - 1)) rfl (fun w9 hS9 => by obtain ⟨s0, s1, s2⟩ := hS9; go_simp) (fun _ _ _ h => h) ?_
                                                              simp only [Act.put, List.setIfInBounds_toArray, List.set_cons_zero, List.set_cons_succ]
                                                              refine seqI_take (v := .pointer (some ⟨ab, ao + (j - 1) * 3, none⟩)) rfl (fun w9 hS9 => by obtain ⟨s0, s1, s2⟩ := hS9; (go_simp; intro h9; exfalso; omega)) (fun _ _ _ h => h) ?_
                                                              simp only [Act.put, List.setIfInBounds_toArray, List.set_cons_zero, List.set_cons_succ]
                                                              refine seqI_take (v := .pointer (some ⟨ab, ao + (j - 1) * 3, none⟩)) rfl (fun w9 hS9 => by obtain ⟨s0, s1, s2⟩ := hS9; go_simp) (fun _ _ _ h => h) ?_
                                                              simp only [Act.put, List.setIfInBounds_toArray, List.set_cons_zero, List.set_cons_succ]
                                                              refine seqI_take (v := .string ⟨pp.pre.toArray⟩) rfl (fun w9 hS9 => by obtain ⟨s0, s1, s2⟩ := hS9; go_simp) (fun _ _ _ h => h) ?_
                                                              simp only [Act.put, List.setIfInBounds_toArray, List.set_cons_zero, List.set_cons_succ]
                                                              refine seqI_take (v := .bool (leS pre pp.pre)) rfl (fun w9 hS9 => by obtain ⟨s0, s1, s2⟩ := hS9; (go_simp; rfl)) (fun _ _ _ h => h) ?_
                                                              simp only [Act.put, List.setIfInBounds_toArray, List.set_cons_zero, List.set_cons_succ]
                                                              refine seqI_take (v := .bool (leS pre pp.pre)) rfl (fun w9 hS9 => by obtain ⟨s0, s1, s2⟩ := hS9; go_simp) (fun _ _ _ h => h) ?_
                                                              simp only [Act.put, List.setIfInBounds_toArray, List.set_cons_zero, List.set_cons_succ]
                                                              refine seqI_take (v := .bool (leS pre pp.pre)) rfl (fun w9 hS9 => by obtain ⟨s0, s1, s2⟩ := hS9; go_simp) (fun _ _ _ h => h) ?_
                                                              simp only [Act.put, List.setIfInBounds_toArray, List.set_cons_zero, List.set_cons_succ]
                                                              refine seqI_nil ?_
                                                              go_wp2_with fail
                                                              go_meet
                                                              exact ⟨rfl, by rw [hk2]; rfl, rfl⟩
                                                        case rest =>
                                                          obtain ⟨rfl, rfl, HM⟩ := hcut
                                                          obtain ⟨V, rfl⟩ : ∃ V : World, V = wc := ⟨_, rfl⟩
                                                          have hW := HM.out
                                                          have HBV : Hid (Below W5.heap.size W5 V) := by show Below _ _ _; rw [hW]; exact ext_drew HBQ2.out
                                                          have M0 : V.cell? ⟨wo.heap.size, 0, none⟩ = some (.string ⟨code.toArray⟩) := by rw [hW]; exact K0
                                                          have M1 : V.cell? ⟨wo.heap.size, 1, none⟩ = some (.string ⟨abroad.toArray⟩) := by rw [hW]; exact K1
                                                          have M3 : V.cell? ⟨wo.heap.size, 3, none⟩ = some (.slice (some ⟨ab, ao, none⟩) an ac) := by rw [hW]; exact K3
                                                          have N0 : V.cell? ⟨wr.heap.size, 0, none⟩ = some (.string ⟨pre.toArray⟩) := by rw [hW]; exact L0
                                                          have N1 : V.cell? ⟨wr.heap.size, 1, none⟩ = some (.int .i64 low) := by rw [hW]; exact L1
                                                          have N2 : V.cell? ⟨wr.heap.size, 2, none⟩ = some (.int .i64 high) := by rw [hW]; exact L2
                                                          have HPW : Hid (0 < j → V.cell? ⟨ab, ao + (j - 1) * 3, none⟩ = some (.string ⟨pp.pre.toArray⟩)) := fun h9 => by rw [hW]; exact HPV2.out h9
                                                          clear hW HM K0 K1 K3 L0 L1 L2 HBQ2 HPV2 hzA
                                                          as_aux_lemma =>
                                                            generalize (decide (0 < j) && leS pre pp.pre) = g4 at HD3 ⊢
                                                            cases g4
                                                            · have HD5 : Hid (E2 = if ((decide (0 < j) && Lib.hasPrefix pre pp.pre) || (Lib.hasPrefix (trunk ++ pre) abroad || Lib.hasPrefix abroad (trunk ++ pre))) = true then 13 else if areaBad code pre low high = true then 1 else 0) := HD3.out
                                                              clear HD3
                                                              as_aux_lemma =>
                                                                go_upto_region 24 with (fail)
                                                                go_cut [75, 105] from 75 to 160 (fun s75 s105 wx => s75 = .int .i64 j ∧ s105 = .bool (decide (0 < j) && Lib.hasPrefix pre pp.pre) ∧ Hid (wx = V.drew))
                                                                case first =>
                                                                  by_cases hi0 : j = 0
                                                                  · have hk1 : decide (0 < j) = false := decide_eq_false (by omega)
                                                                    clear hi0
                                                                    as_aux_lemma =>
                                                                      refine region_seqI (S := (fun _ => True)) [(true, 0), (true, 1), (true, 2), (true, 3), (true, 4), (true, 5), (true, 6), (true, 7), (true, 8), (true, 9), (true, 10), (true, 11), (true, 12), (true, 13), (true, 14)] (by kernel_rfl) (by kernel_rfl) rfl (by kernel_rfl) trivial ?_
                                                                      simp only [seqOps, List.getD_cons_zero, List.getD_cons_succ]
                                                                      refine seqI_take (v := .int .i64 j) rfl (fun w9 hS9 => by go_simp) (fun _ _ _ h => h) ?_
                                                                      simp only [Act.put, List.setIfInBounds_toArray, List.set_cons_zero, List.set_cons_succ]
                                                                      refine seqI_take (v := .bool false) rfl (fun w9 hS9 => by go_simp) (fun _ _ _ h => h) ?_
                                                                      simp only [Act.put, List.setIfInBounds_toArray, List.set_cons_zero, List.set_cons_succ]
                                                                      refine seqI_take (v := .bool false) rfl (fun w9 hS9 => by go_simp) (fun _ _ _ h => h) ?_
                                                                      simp only [Act.put, List.setIfInBounds_toArray, List.set_cons_zero, List.set_cons_succ]
                                                                      refine seqI_skip rfl (fun _ _ _ h => h) ?_
                                                                      simp only [Act.put, List.setIfInBounds_toArray, List.set_cons_zero, List.set_cons_succ]
                                                                      refine seqI_skip rfl (fun _ _ _ h => h) ?_
                                                                      simp only [Act.put, List.setIfInBounds_toArray, List.set_cons_zero, List.set_cons_succ]
                                                                      refine seqI_skip rfl (fun _ _ _ h => h) ?_
                                                                      simp only [Act.put, List.setIfInBounds_toArray, List.set_cons_zero, List.set_cons_succ]
                                                                      refine seqI_skip rfl (fun _ _ _ h => h) ?_
                                                                      simp only [Act.put, List.setIfInBounds_toArray, List.set_cons_zero, List.set_cons_succ]
                                                                      refine seqI_skip rfl (fun _ _ _ h => h) ?_
                                                                      simp only [Act.put, List.setIfInBounds_toArray, List.set_cons_zero, List.set_cons_succ]
                                                                      refine seqI_skip rfl (fun _ _ _ h => h) ?_
                                                                      simp only [Act.put, List.setIfInBounds_toArray, List.set_cons_zero, List.set_cons_succ]
                                                                      refine seqI_skip rfl (fun _ _ _ h => h) ?_
                                                                      simp only [Act.put, List.setIfInBounds_toArray, List.set_cons_zero, List.set_cons_succ]
                                                                      refine seqI_skip rfl (fun _ _ _ h => h) ?_
                                                                      simp only [Act.put, List.setIfInBounds_toArray, List.set_cons_zero, List.set_cons_succ]
                                                                      refine seqI_skip rfl (fun _ _ _ h => h) ?_
                                                                      simp only [Act.put, List.setIfInBounds_toArray, List.set_cons_zero, List.set_cons_succ]
                                                                      refine seqI_skip rfl (fun _ _ _ h => h) ?_
                                                                      simp only [Act.put, List.setIfInBounds_toArray, List.set_cons_zero, List.set_cons_succ]
                                                                      refine seqI_take (v := .bool false) rfl (fun w9 hS9 => by go_simp) (fun _ _ _ h => h) ?_
                                                                      simp only [Act.put, List.setIfInBounds_toArray, List.set_cons_zero, List.set_cons_succ]
                                                                      refine seqI_take (v := .bool false) rfl (fun w9 hS9 => by go_simp) (fun _ _ _ h => h) ?_
                                                                      simp only [Act.put, List.setIfInBounds_toArray, List.set_cons_zero, List.set_cons_succ]
                                                                      refine seqI_nil ?_
                                                                      go_wp2_with fail
                                                                      go_meet
                                                                      exact ⟨rfl, by rw [hk1]; rfl, rfl⟩
                                                                  · have hk1 : 0 < j := by omega
                                                                    have hk2 : decide (0 < j) = true := decide_eq_true hk1
                                                                    have p0 := HPW.out hk1
                                                                    have kq : ((j : Int) - 1).toNat = j - 1 := by omega
                                                                    have kr : 0 ≤ (j : Int) - 1 := by omega
                                                                    have ks : (j : Int) - 1 < an := by omega
                                                                    have kw : IntKind.i64.wrap ((j : Int) - 1) = (j : Int) - 1 := IntWalk.i64_in _ (by omega)
                                                                    as_aux_lemma =>
                                                                      refine region_seqI (S := (fun (w9 : World) => w9.cell? ⟨wo.heap.size, 3, none⟩ = some (.slice (some ⟨ab, ao, none⟩) an ac) ∧ w9.cell? ⟨wr.heap.size, 0, none⟩ = some (.string ⟨pre.toArray⟩) ∧ w9.cell? ⟨ab, ao + (j - 1) * 3, none⟩ = some (.string ⟨pp.pre.toArray⟩))) [(true, 0), (true, 1), (true, 2), (true, 3), (true, 4), (true, 5), (true, 6), (true, 7), (true, 8), (true, 9), (true, 10), (true, 11), (false, 12), (true, 13), (true, 14)] (by kernel_rfl) (by kernel_rfl) rfl (by kernel_rfl) ⟨M3, N0, p0⟩ ?_
                                                                      simp only [seqOps, List.getD_cons_zero, List.getD_cons_succ]
                                                                      refine seqI_take (v := .int .i64 j) rfl (fun w9 hS9 => by obtain ⟨s0, s1, s2⟩ := hS9; go_simp) (fun _ _ _ h => h) ?_
                                                                      simp only [Act.put, List.setIfInBounds_toArray, List.set_cons_zero, List.set_cons_succ]
                                                                      refine seqI_take (v := .bool true) rfl (fun w9 hS9 => by obtain ⟨s0, s1, s2⟩ := hS9; go_simp) (fun _ _ _ h => h) ?_
                                                                      simp only [Act.put, List.setIfInBounds_toArray, List.set_cons_zero, List.set_cons_succ]
                                                                      refine seqI_take (v := .bool true) rfl (fun w9 hS9 => by obtain ⟨s0, s1, s2⟩ := hS9; go_simp) (fun _ _ _ h => h) ?_
                                                                      simp only [Act.put, List.setIfInBounds_toArray, List.set_cons_zero, List.set_cons_succ]
                                                                      refine seqI_take (v := .pointer (some ⟨wr.heap.size, 0, none⟩)) rfl (fun w9 hS9 => by obtain ⟨s0, s1, s2⟩ := hS9; go_simp) (fun _ _ _ h => h) ?_
                                                                      simp only [Act.put, List.setIfInBounds_toArray, List.set_cons_zero, List.set_cons_succ]
                                                                      refine seqI_take (v := .string ⟨pre.toArray⟩) rfl (fun w9 hS9 => by obtain ⟨s0, s1, s2⟩ := hS9; go_simp) (fun _ _ _ h => h) ?_
                                                                      simp only [Act.put, List.setIfInBounds_toArray, List.set_cons_zero, List.set_cons_succ]
                                                                      refine seqI_take (v := .pointer (some ⟨wo.heap.size, 3, none⟩)) rfl (fun w9 hS9 => by obtain ⟨s0, s1, s2⟩ := hS9; go_simp) (fun _ _ _ h => h) ?_
                                                                      simp only [Act.put, List.setIfInBounds_toArray, List.set_cons_zero, List.set_cons_succ]
                                                                      refine seqI_take (v := .slice (some ⟨ab, ao, none⟩) an ac) rfl (fun w9 hS9 => by obtain ⟨s0, s1, s2⟩ := hS9; go_simp) (fun _ _ _ h => h) ?_
                                                                      simp only [Act.put, List.setIfInBounds_toArray, List.set_cons_zero, List.set_cons_succ]
                                                                      refine seqI_take (v := .int .i64 j) rfl (fun w9 hS9 => by obtain ⟨s0, s1, s2⟩ := hS9; go_simp) (fun _ _ _ h => h) ?_
                                                                      simp only [Act.put, List.setIfInBounds_toArray, List.set_cons_zero, List.set_cons_succ]
                                                                      refine seqI_take (v := .int .i64 ((j : Int) - 1)) rfl (fun w9 hS9 => by obtain ⟨s0, s1, s2⟩ := hS9; go_simp) (fun _ _ _ h => h) ?_
                                                                      simp only [Act.put, List.setIfInBounds_toArray, List.set_cons_zero, List.set_cons_succ]
                                                                      refine seqI_take (v := .pointer (some ⟨ab, ao + (j - 1) * 3, none⟩)) rfl (fun w9 hS9 => by obtain ⟨s0, s1, s2⟩ := hS9; (go_simp; intro h9; exfalso; omega)) (fun _ _ _ h => h) ?_
                                                                      simp only [Act.put, List.setIfInBounds_toArray, List.set_cons_zero, List.set_cons_succ]
                                                                      refine seqI_take (v := .pointer (some ⟨ab, ao + (j - 1) * 3, none⟩)) rfl (fun w9 hS9 => by obtain ⟨s0, s1, s2⟩ := hS9; go_simp) (fun _ _ _ h => h) ?_
                                                                      simp only [Act.put, List.setIfInBounds_toArray, List.set_cons_zero, List.set_cons_succ]
                                                                      refine seqI_take (v := .string ⟨pp.pre.toArray⟩) rfl (fun w9 hS9 => by obtain ⟨s0, s1, s2⟩ := hS9; go_simp) (fun _ _ _ h => h) ?_
                                                                      simp only [Act.put, List.setIfInBounds_toArray, List.set_cons_zero, List.set_cons_succ]
                                                                      refine seqI_call 55 #[.string ⟨pre.toArray⟩, .string ⟨pp.pre.toArray⟩] rfl (by go_simp) (hasPrefix_l pre pp.pre _) ?_
                                                                      rintro e w9 ⟨rfl, rfl⟩
                                                                      refine ⟨_, rfl, ⟨M3, N0, p0⟩, ?_⟩
                                                                      simp only [Act.put, List.setIfInBounds_toArray, List.set_cons_zero, List.set_cons_succ]
                                                                      refine seqI_take (v := .bool (Lib.hasPrefix pre pp.pre)) rfl (fun w9 hS9 => by obtain ⟨s0, s1, s2⟩ := hS9; go_simp) (fun _ _ _ h => h) ?_
                                                                      simp only [Act.put, List.setIfInBounds_toArray, List.set_cons_zero, List.set_cons_succ]
                                                                      refine seqI_take (v := .bool (Lib.hasPrefix pre pp.pre)) rfl (fun w9 hS9 => by obtain ⟨s0, s1, s2⟩ := hS9; go_simp) (fun _ _ _ h => h) ?_
                                                                      simp only [Act.put, List.setIfInBounds_toArray, List.set_cons_zero, List.set_cons_succ]
                                                                      refine seqI_nil ?_
                                                                      go_wp2_with fail
                                                                      go_meet
                                                                      exact ⟨rfl, by rw [hk2]; rfl, rfl⟩
                                                                case rest =>
                                                                  obtain ⟨rfl, rfl, HM⟩ := hcut
                                                                  obtain ⟨W9, rfl⟩ : ∃ W9 : World, W9 = wc := ⟨_, rfl⟩
                                                                  have hW := HM.out
                                                                  have HB9 : Hid (Below W5.heap.size W5 W9) := by show Below _ _ _; rw [hW]; exact ext_drew HBV.out
                                                                  have Q0 : W9.cell? ⟨wo.heap.size, 0, none⟩ = some (.string ⟨code.toArray⟩) := by rw [hW]; exact M0
                                                                  have Q1 : W9.cell? ⟨wo.heap.size, 1, none⟩ = some (.string ⟨abroad.toArray⟩) := by rw [hW]; exact M1
                                                                  have O0 : W9.cell? ⟨wr.heap.size, 0, none⟩ = some (.string ⟨pre.toArray⟩) := by rw [hW]; exact N0
                                                                  have O1 : W9.cell? ⟨wr.heap.size, 1, none⟩ = some (.int .i64 low) := by rw [hW]; exact N1
                                                                  have O2 : W9.cell? ⟨wr.heap.size, 2, none⟩ = some (.int .i64 high) := by rw [hW]; exact N2
                                                                  clear hW HM M0 M1 M3 N0 N1 N2 HBV
                                                                  have HBF : Hid (Below w.heap.size w W9) := ext_trans HB5.out HB9.out
                                                                  as_aux_lemma =>
                                                                    generalize (decide (0 < j) && Lib.hasPrefix pre pp.pre) = g5 at HD5 ⊢
                                                                    cases g5
                                                                    · have HT : Hid (E2 = if (Lib.hasPrefix (trunk ++ pre) abroad || Lib.hasPrefix abroad (trunk ++ pre)) = true then 13 else if areaBad code pre low high = true then 1 else 0) := HD5.out
                                                                      clear HPW HD5
                                                                      as_aux_lemma =>
                                                                        go_wp2_with fail
                                                                        refine (hasPrefix_l (trunk ++ pre) abroad _).mono ?_
                                                                        rintro e w' ⟨rfl, rfl⟩
                                                                        generalize Lib.hasPrefix (trunk ++ pre) abroad = g2 at HT ⊢
                                                                        as_aux_lemma =>
                                                                          cases g2
                                                                          · go_wp2_with fail
                                                                            refine (hasPrefix_l abroad (trunk ++ pre) _).mono ?_
                                                                            rintro e w' ⟨rfl, rfl⟩
                                                                            generalize Lib.hasPrefix abroad (trunk ++ pre) = g3 at HT ⊢
                                                                            as_aux_lemma =>
                                                                              cases g3
                                                                              · have HT2 : Hid (E2 = if areaBad code pre low high = true then 1 else 0) := HT.out
                                                                                clear HT
                                                                                by_cases k1 : low ≤ (pre.length : Int)
                                                                                · have HF : Hid (R = 1) := HFA.out 1 (by rw [HT2.out, if_pos]; unfold areaBad; rw [decide_eq_true k1]; rfl) (by decide)
                                                                                  as_aux_lemma =>
                                                                                    go_wp2_with fail
                                                                                    go_ret
                                                                                    exact ⟨by rw [HF.out]; rfl, HBF.out⟩
                                                                                · have k1' : decide (low ≤ (pre.length : Int)) = false := decide_eq_false k1
                                                                                  by_cases k2 : high < low
                                                                                  · have HF : Hid (R = 1) := HFA.out 1 (by rw [HT2.out, if_pos]; unfold areaBad; rw [k1', decide_eq_true k2]; rfl) (by decide)
                                                                                    as_aux_lemma =>
                                                                                      go_wp2_with fail
                                                                                      go_ret
                                                                                      exact ⟨by rw [HF.out]; rfl, HBF.out⟩
                                                                                  · have k2' : decide (high < low) = false := decide_eq_false k2
                                                                                    by_cases k3 : 15 < high + (code.length : Int)
                                                                                    · have HF : Hid (R = 1) := HFA.out 1 (by rw [HT2.out, if_pos]; unfold areaBad; rw [k1', k2', decide_eq_true (show 15 - (code.length : Int) < high by omega)]; rfl) (by decide)
                                                                                      as_aux_lemma =>
                                                                                        go_wp2_with fail
                                                                                        go_ret
                                                                                        exact ⟨by rw [HF.out]; rfl, HBF.out⟩
                                                                                    · have k3' : decide (15 - (code.length : Int) < high) = false := decide_eq_false (by omega)
                                                                                      by_cases k4 : low + (code.length : Int) < 4
                                                                                      · have HF : Hid (R = 1) := HFA.out 1 (by rw [HT2.out, if_pos]; unfold areaBad; rw [k1', k2', k3', decide_eq_true (show low < 4 - (code.length : Int) by omega)]; rfl) (by decide)
                                                                                        as_aux_lemma =>
                                                                                          go_wp2_with fail
                                                                                          go_ret
                                                                                          exact ⟨by rw [HF.out]; rfl, HBF.out⟩
                                                                                      · have k4' : decide (low < 4 - (code.length : Int)) = false := decide_eq_false (by omega)
                                                                                        have HF : Hid (E2 = 0) := by show _ = _; rw [HT2.out, if_neg]; unfold areaBad; rw [k1', k2', k3', k4']; simp
                                                                                        as_aux_lemma =>
                                                                                          go_wp2_with fail
                                                                                          go_roundw
                                                                                          case rel => exact ⟨j + 1, by omega, by go_num, HB9.out, HSA.out HF.out⟩
                                                                                          case measure => simp [intOf]; omega
                                                                              · have HF : Hid (R = 13) := HFA.out 13 HT.out (by decide)
                                                                                as_aux_lemma =>
                                                                                  go_wp2_with fail
                                                                                  go_ret
                                                                                  exact ⟨by rw [HF.out]; rfl, HBF.out⟩
                                                                          · have HF : Hid (R = 13) := HFA.out 13 HT.out (by decide)
                                                                            as_aux_lemma =>
                                                                              go_wp2_with fail
                                                                              go_ret
                                                                              exact ⟨by rw [HF.out]; rfl, HBF.out⟩
                                                                    · have HF : Hid (R = 13) := HFA.out 13 HD5.out (by decide)
                                                                      as_aux_lemma =>
                                                                        go_wp2_with fail
                                                                        go_ret
                                                                        exact ⟨by rw [HF.out]; rfl, HBF.out⟩
                                                            · have HF : Hid (R = 7) := HFA.out 7 HD3.out (by decide)
                                                              as_aux_lemma =>
                                                                go_wp2_with fail
                                                                go_ret
                                                                exact ⟨by rw [HF.out]; rfl, ext_trans HB5.out HBV.out⟩
                                                · have hjn : j = an := by omega
                                                  have HPZ : Hid (PE = 0) := HPF.out.trans (first_none (fun j9 h9 => HNQ.out j9 (by omega)))
                                                  as_aux_lemma =>
                                                    go_wp2_with fail
                                                    go_roundw
                                                    case rel => exact ⟨i + 1, by omega, by go_num, ext_trans HB5.out HBQ.out, HST.out HPZ.out⟩
                                                    case measure => simp [intOf]; omega
                                      · have HF : Hid (R = 3) := HX.out 3 HD8.out (by decide)
                                        as_aux_lemma =>
                                          go_wp2_with fail
                                          go_ret
                                          exact ⟨by rw [HF.out]; rfl, HB5.out⟩
                        · have HF : Hid (R = 13) := HX.out 13 HD5.out (by decide)
                          as_aux_lemma =>
                            go_wp2_with fail
                            go_ret
                            exact ⟨by rw [HF.out]; rfl, HBR.out⟩
                    · have HF : Hid (R = 7) := HX.out 7 HD4.out (by decide)
                      as_aux_lemma =>
                        go_wp2_with fail
                        go_ret
                        exact ⟨by rw [HF.out]; rfl, HBN.out⟩
    · have hkn : i = n := by omega
      subst hkn
      have HF : Hid (R = 0) := HD.out.trans (first_none HN.out)
      go_wp2_with fail
      go_ret
      exact ⟨by rw [HF.out]; rfl, HB.out⟩
end Go.Proofs.YthajppcmmmkfcaaGreatDoor

set_option linter.unusedVariables false
set_option linter.unusedSimpArgs false
namespace Go.Proofs.YthajppcmmmkfcaaGreatDoor
open Go.RowKit

theorem codeAt_pred (code : List UInt8) (B : Nat) (w : World) (hB : B < w.heap.size) (hcell : w.cell? ⟨B, 0, none⟩ = some (.string ⟨code.toArray⟩)) :
    PredBelow Tryz.prog 95 #[.pointer (some ⟨B, 0, none⟩)] (fun x => .agg (Ctry.cells x).toArray) (fun x => x.code == code) w := fun W x hb => by
  have hc : W.cell? ⟨B, 0, none⟩ = some (.string ⟨code.toArray⟩) := (hb.cell (p := ⟨B, 0, none⟩) hB).trans hcell
  have hBW : B < W.heap.size := Nat.lt_of_lt_of_le hB hb.size
  have hne : B ≠ W.heap.size := by omega
  obtain ⟨code2, abroad, trunk, aa, an, ac, areas⟩ := x
  show Calls Tryz.prog 95 #[.agg #[.string ⟨code2.toArray⟩, .string ⟨abroad.toArray⟩, .string ⟨trunk.toArray⟩, .slice aa an ac], .pointer (some ⟨B, 0, none⟩)] W _
  simp only
  have HB := Lib.hid hb
  clear hb hcell hB
  go_enter Tryz.func95, Tryz.ntmps95
  go_wp2_with fail
  go_ret
  refine ⟨?_, HB.out.trans ((ext_alloc (Below.refl _ _)).mono HB.out.size)⟩
  first | rfl | (simp; done)

theorem areaAt_pred (area : List UInt8) (B : Nat) (w : World) (hB : B < w.heap.size) (hcell : w.cell? ⟨B, 1, none⟩ = some (.string ⟨area.toArray⟩)) :
    PredBelow Tryz.prog 58 #[.pointer (some ⟨B, 0, none⟩)] (fun x => .agg (Area.cells x).toArray) (fun x => x.pre == area) w := fun W x hb => by
  have hc : W.cell? ⟨B, 1, none⟩ = some (.string ⟨area.toArray⟩) := (hb.cell (p := ⟨B, 1, none⟩) hB).trans hcell
  have hBW : B < W.heap.size := Nat.lt_of_lt_of_le hB hb.size
  have hne : B ≠ W.heap.size := by omega
  obtain ⟨pre, low, high⟩ := x
  show Calls Tryz.prog 58 #[.agg #[.string ⟨pre.toArray⟩, .int .i64 low, .int .i64 high], .pointer (some ⟨B, 0, none⟩)] W _
  simp only
  have HB := Lib.hid hb
  clear hb hcell hB
  go_enter Tryz.func58, Tryz.ntmps58
  go_wp2_with fail
  go_ret
  refine ⟨?_, HB.out.trans ((ext_alloc (Below.refl _ _)).mono HB.out.size)⟩
  first | rfl | (simp; done)

/-- Where a country is. -/
def AtPost (l : List Ctry) (code : List UInt8) (w : World) (e : Ending) (w' : World) : Prop :=
  ∃ r : Int, e = .returned (.int .i64 r) ∧ ((r = -1 ∧ (l.find? fun c => c.code == code) = none) ∨ ∃ k : Nat, r = k ∧ k < l.length ∧ (l.find? fun c => c.code == code) = some (l.getD k noCtry)) ∧ Below w.heap.size w w'
set_option maxRecDepth 100000 in
theorem countryAt_any (w : World) (a : Option Addr) (n cap : Nat) (l : List Ctry) (hr : CtryRow w a n l) (hne : 1 ≤ n) (code : List UInt8) : Calls Tryz.prog 56 #[.slice a n cap, .string ⟨code.toArray⟩] w (AtPost l code w) := by
  rcases hr.row with h0 | ⟨b, off, rfl, hb, hcl⟩
  · omega
  have HLEN := Lib.hid hr.len
  have hfew := hr.few
  have HENC := Lib.hid (ctry_enc hr.len hcl)
  clear hr hcl
  go_enter Tryz.func56, Tryz.ntmps56
  go_wp2_with fail
  refine (Tryz.slices_idxC Ctry.cells (fun x => rfl) (fun x => x.code == code) 95 #[.pointer (some ⟨w.heap.size, 0, none⟩)] (fun args w => rfl) b off n cap l _ (codeAt_pred code w.heap.size _ (by simp) (by go_simp)) (by have := HLEN.out; omega) (by omega) (by simp; omega) (fun j hj i v hv => (World.cell?_alloc_lt _ _ _ (by show b < _; omega)).trans (HENC.out j hj i v hv))).mono ?_
  rintro e w1 ⟨rfl, hb1⟩
  have HB1 : Hid (Below w.heap.size w w1) := ext_trans (ext_alloc (Below.refl _ _)) hb1
  have hi := idx_find (fun x => x.code == code) (l.take n)
  rw [List.take_of_length_le (by have := HLEN.out; omega)] at hi ⊢
  have HI := Lib.hid hi
  clear hb1 hi
  generalize Lib.idxBy (fun _ y => y.code == code) l default = r at HI ⊢
  go_wp2_with fail
  go_ret
  refine ⟨r, rfl, ?_, HB1.out⟩
  rcases HI.out with ⟨h1, h2⟩ | ⟨k, hk, h1, h2, _⟩
  · exact Or.inl ⟨h1, h2⟩
  · exact Or.inr ⟨k, h1, hk, by rw [h2]; simp [hk]⟩

def homeErr (l : List Ctry) (code area : List UInt8) : Int := if (homeR l code area).isSome then 0 else 8
end Go.Proofs.YthajppcmmmkfcaaGreatDoor

set_option linter.unusedVariables false
set_option linter.unusedSimpArgs false
namespace Go.Proofs.YthajppcmmmkfcaaGreatDoor
open Go.RowKit

theorem results_cell3 {fn : Func} {t t2 u : Tmp} {T T2 : TypeId} (h : fn.results = #[.cell t T, .cell t2 T2, .tmp u]) (P : Program) (w : World) (tmps : Array Value) {B B2 k k2 : Nat} (hA : ∀ w, (isAgg T).run P w = .ok true w) (hZ : ∀ w, (Go.sizeOf T).run P w = .ok k w) (ht : tmps.getD t undef = .pointer (some ⟨B, 0, none⟩)) (hA2 : ∀ w, (isAgg T2).run P w = .ok true w) (hZ2 : ∀ w, (Go.sizeOf T2).run P w = .ok k2 w) (ht2 : tmps.getD t2 undef = .pointer (some ⟨B2, 0, none⟩)) (cs : List Value) (hk : cs.length = k) (hc : ∀ j v, cs[j]? = some v → w.cell? ⟨B, j, none⟩ = some v) (ds : List Value) (hk2 : ds.length = k2) (hc2 : ∀ j v, ds[j]? = some v → w.cell? ⟨B2, j, none⟩ = some v) :
    (results fn tmps).run P w = .ok (.tuple #[.agg cs.toArray, .agg ds.toArray, tmps.getD u undef]) w := by
  have h9 := load_struct (P := P) cs hk hc
  have h8 := load_struct (P := P) ds hk2 hc2
  have ht' : tmps[t]?.getD undef = .pointer (some ⟨B, 0, none⟩) := by simpa using ht
  have ht2' : tmps[t2]?.getD undef = .pointer (some ⟨B2, 0, none⟩) := by simpa using ht2
  simp [results, h, ht', ht2', h9, h8, hA, hZ, hA2, hZ2, asAddr, go_sem]

def homeX (c : Ctry) (area : List UInt8) : Area := if area = [] then noArea else (c.areas.find? fun a => a.pre == area).getD noArea
def HomePost (r : Option Ctry) (bad : Int) (area : List UInt8) (w : World) (e : Ending) (w' : World) : Prop :=
  (∃ c, r = some c ∧ e = .returned (.tuple #[.agg c.cells.toArray, .agg (homeX c area).cells.toArray, .int .i64 0]) ∨ r = none ∧ e = .returned (.tuple #[.agg noCtry.cells.toArray, .agg noArea.cells.toArray, .int .i64 bad])) ∧ Below w.heap.size w w'

def homeP (code area : List UInt8) (c : Ctry) : Bool := c.code == code && (area == [] || c.areas.any fun a => a.pre == area)
theorem homeC_eq (l : List Ctry) (code area : List UInt8) : homeC l code area = l.find? (homeP code area) := rfl

theorem ctry_size : (Tryz.prog.info? 68).map (·.size) = some 4 := by kernel_rfl
theorem area_size : (Tryz.prog.info? 72).map (·.size) = some 3 := by kernel_rfl
/-- What lies in memory while homes are looked for. -/
structure HomeSet (H : Nat) (w : World) (code area : List UInt8) : Prop where
  h0 : w.cell? ⟨H, 0, none⟩ = some (.string ⟨code.toArray⟩)
  h1 : w.cell? ⟨H, 1, none⟩ = some (.string ⟨area.toArray⟩)
  tc : w.there (H + 1) 0 4
  td : w.there (H + 1 + 1) 0 3
  size : H + 3 ≤ w.heap.size
theorem thereB {w w' : World} {b o n : Nat} (h : w.there b o n) (hb : Below w.heap.size w w') (hl : b < w.heap.size) : w'.there b o n := fun j hj => by
  have := h j hj
  rwa [← hb.cell (p := ⟨b, o + j, none⟩) hl, ← hb.frozen (p := ⟨b, o + j, none⟩) hl] at this
theorem HomeSet.below {H : Nat} {w w' : World} {code area : List UInt8} (h : HomeSet H w code area) (hb : Below w.heap.size w w') : HomeSet H w' code area := by
  have hz := h.size
  exact ⟨(hb.cell (p := ⟨H, 0, none⟩) (by show H < _; omega)).trans h.h0, (hb.cell (p := ⟨H, 1, none⟩) (by show H < _; omega)).trans h.h1, thereB h.tc hb (by omega), thereB h.td hb (by omega), Nat.le_trans hz hb.size⟩
/-- The two results, written. -/
theorem home_end {H : Nat} {w wr : World} {code area : List UInt8} (h : HomeSet H wr code area) (hb : Below w.heap.size w wr) (hH : w.heap.size ≤ H) (cs ds : List Value) (hc : cs.length = 4) (hd : ds.length = 3) :
    wr.there (H + 1) 0 4 ∧ (wr.setCells (H + 1) 0 cs).there (H + 1 + 1) 0 3 ∧
    (∀ j v, cs[j]? = some v → ((wr.setCells (H + 1) 0 cs).setCells (H + 1 + 1) 0 ds).cell? ⟨H + 1, j, none⟩ = some v) ∧ (∀ j v, ds[j]? = some v → ((wr.setCells (H + 1) 0 cs).setCells (H + 1 + 1) 0 ds).cell? ⟨H + 1 + 1, j, none⟩ = some v) ∧ Below w.heap.size w ((wr.setCells (H + 1) 0 cs).setCells (H + 1 + 1) 0 ds) := by
  have t2 : (wr.setCells (H + 1) 0 cs).there (H + 1 + 1) 0 3 := World.there_setCells h.td _ _ _
  have r1 := World.rangeAt_setCells_same wr (H + 1) 0 cs (by rw [hc]; exact h.tc)
  have r2 := World.rangeAt_setCells_same (wr.setCells (H + 1) 0 cs) (H + 1 + 1) 0 ds (by rw [hd]; exact t2)
  refine ⟨h.tc, t2, fun j v hj => ?_, fun j v hj => ?_, setCells_ext (by omega) _ _ _ (setCells_ext (by omega) _ _ _ hb)⟩
  · have := World.rangeAt_setCells_apart r1 (H + 1 + 1) 0 ds (Or.inl (by omega)) j v hj
    rwa [Nat.zero_add] at this
  · have := r2 j v hj
    rwa [Nat.zero_add] at this

theorem home_stores {H : Nat} {w wr : World} {code area : List UInt8} (h : HomeSet H wr code area) (hb : Below w.heap.size w wr) (hH : w.heap.size ≤ H) (t1 t2 : Tmp) (cs ds : List Value) (hc : cs.length = 4) (hd : ds.length = 3) (oc : cs.toArray.all (·.oneCell') = true) (od : ds.toArray.all (·.oneCell') = true) : ∃ W8 W9 : World,
    (∀ (ops : Array Oper) (rest : List Oper) (op : Oper) (a : Act) (Q : Exit → Act → World → Prop), op.guard = none → op.op = .store 68 (.tmp 4) (.tmp t1) → a.eval (.tmp 4) = .pointer (some ⟨H + 1, 0, none⟩) → a.eval (.tmp t1) = .agg cs.toArray → wpList Tryz.prog ops Q rest (a.put op.dst undef) W8 → wpList Tryz.prog ops Q (op :: rest) a wr) ∧
    (∀ (ops : Array Oper) (rest : List Oper) (op : Oper) (a : Act) (Q : Exit → Act → World → Prop), op.guard = none → op.op = .store 72 (.tmp 5) (.tmp t2) → a.eval (.tmp 5) = .pointer (some ⟨H + 1 + 1, 0, none⟩) → a.eval (.tmp t2) = .agg ds.toArray → wpList Tryz.prog ops Q rest (a.put op.dst undef) W9 → wpList Tryz.prog ops Q (op :: rest) a W8) ∧
    (∀ j v, cs[j]? = some v → W9.cell? ⟨H + 1, j, none⟩ = some v) ∧ (∀ j v, ds[j]? = some v → W9.cell? ⟨H + 1 + 1, j, none⟩ = some v) ∧ Below w.heap.size w W9 ∧ (∀ b o, b ≠ H + 1 → W8.cell? ⟨b, o, none⟩ = wr.cell? ⟨b, o, none⟩) ∧
    (∀ (op : Oper) (a : Act) (K : Act → World → Prop) (Q : Exit → Act → World → Prop), op.op = .store 68 (.tmp 4) (.tmp t1) → a.eval (.tmp 4) = .pointer (some ⟨H + 1, 0, none⟩) → a.eval (.tmp t1) = .agg cs.toArray → K (a.put op.dst undef) W8 → Oper.wp Tryz.prog op a wr K Q) ∧
    (∀ (op : Oper) (a : Act) (K : Act → World → Prop) (Q : Exit → Act → World → Prop), op.op = .store 72 (.tmp 5) (.tmp t2) → a.eval (.tmp 5) = .pointer (some ⟨H + 1 + 1, 0, none⟩) → a.eval (.tmp t2) = .agg ds.toArray → K (a.put op.dst undef) W9 → Oper.wp Tryz.prog op a W8 K Q) ∧ (∀ b o, b ≠ H + 1 → b ≠ H + 1 + 1 → W9.cell? ⟨b, o, none⟩ = wr.cell? ⟨b, o, none⟩) := by
  obtain ⟨e1, e2, e3, e4, e5⟩ := home_end h hb hH cs ds hc hd
  have z1 : cs.toArray.size = 4 := by simpa using hc
  have z2 : ds.toArray.size = 3 := by simpa using hd
  refine ⟨_, _, fun ops rest op a Q hg ho hx hy hh => wpList_store_mid hg 68 (.tmp 4) (.tmp t1) ho (H + 1) 0 cs.toArray hx hy (by rw [z1]; exact e1) (by rw [z1]; exact ctry_size) oc (by rw [List.toList_toArray]; exact hh), fun ops rest op a Q hg ho hx hy hh => wpList_store_mid hg 72 (.tmp 5) (.tmp t2) ho (H + 1 + 1) 0 ds.toArray hx hy (by rw [z2]; exact e2) (by rw [z2]; exact area_size) od (by rw [List.toList_toArray]; exact hh), e3, e4, e5, fun b o hb => World.cell?_setCells_out (H + 1) cs 0 wr ⟨b, o, none⟩ (fun e _ => absurd e hb), fun op a K Q ho hx hy hh => wp_store_mid 68 (.tmp 4) (.tmp t1) ho (H + 1) 0 cs.toArray hx hy (by rw [z1]; exact e1) (by rw [z1]; exact ctry_size) oc (by rw [List.toList_toArray]; exact hh), fun op a K Q ho hx hy hh => wp_store_mid 72 (.tmp 5) (.tmp t2) ho (H + 1 + 1) 0 ds.toArray hx hy (by rw [z2]; exact e2) (by rw [z2]; exact area_size) od (by rw [List.toList_toArray]; exact hh), fun b o hb hb2 => (World.cell?_setCells_out (H + 1 + 1) ds 0 _ ⟨b, o, none⟩ (fun e _ => absurd e hb2)).trans (World.cell?_setCells_out (H + 1) cs 0 wr ⟨b, o, none⟩ (fun e _ => absurd e hb))⟩

set_option maxRecDepth 100000 in
set_option maxHeartbeats 4000000 in
theorem home_any (w : World) (a : Option Addr) (n cap : Nat) (l : List Ctry) (hr : CtryRow w a n l) (hcap : n ≤ cap) (hne : 1 ≤ n) (code area : List UInt8) : Calls Tryz.prog 89 #[.slice a n cap, .agg #[.string ⟨code.toArray⟩, .string ⟨area.toArray⟩]] w (HomePost (homeC l code area) 8 area w) := by
  have HR := Lib.hid hr
  have HLEN := Lib.hid hr.len
  have hfew := hr.few
  rcases hr.row with h0 | ⟨b, off, rfl, hbl, _⟩
  · omega
  rw [homeC_eq]
  clear hr
  go_enter Tryz.func89, Tryz.ntmps89
  go_wp2_with fail
  have HS : Hid (HomeSet w.heap.size (((w.alloc (.cells #[.string ⟨code.toArray⟩, .string ⟨area.toArray⟩] 29)).alloc (.cells #[.string ⟨#[]⟩, .string ⟨#[]⟩, .string ⟨#[]⟩, .slice none 0 0] 68)).alloc (.cells #[.string ⟨#[]⟩, .int .i64 0, .int .i64 0] 72)) code area) := by
    refine ⟨by go_simp, by go_simp, fun j hj => ?_, fun j hj => ?_, by simp⟩
    · match j, hj with
      | 0, _ | 1, _ | 2, _ | 3, _ => exact ⟨by go_simp, by go_simp⟩
    · match j, hj with
      | 0, _ | 1, _ | 2, _ => exact ⟨by go_simp, by go_simp⟩
  have HB : Hid (Below w.heap.size w (((w.alloc (.cells #[.string ⟨code.toArray⟩, .string ⟨area.toArray⟩] 29)).alloc (.cells #[.string ⟨#[]⟩, .string ⟨#[]⟩, .string ⟨#[]⟩, .slice none 0 0] 68)).alloc (.cells #[.string ⟨#[]⟩, .int .i64 0, .int .i64 0] 72))) := ext_alloc (ext_alloc (ext_alloc (Below.refl _ _)))
  have HX : Hid (∀ W : World, Below (((w.alloc (.cells #[.string ⟨code.toArray⟩, .string ⟨area.toArray⟩] 29)).alloc (.cells #[.string ⟨#[]⟩, .string ⟨#[]⟩, .string ⟨#[]⟩, .slice none 0 0] 68)).alloc (.cells #[.string ⟨#[]⟩, .int .i64 0, .int .i64 0] 72)).heap.size (((w.alloc (.cells #[.string ⟨code.toArray⟩, .string ⟨area.toArray⟩] 29)).alloc (.cells #[.string ⟨#[]⟩, .string ⟨#[]⟩, .string ⟨#[]⟩, .slice none 0 0] 68)).alloc (.cells #[.string ⟨#[]⟩, .int .i64 0, .int .i64 0] 72)) W → Below w.heap.size w W) := fun W h => ext_trans HB.out h
  have HR := Lib.hid (HR.out.below HB.out)
  clear HB
  generalize (World.alloc (World.alloc (World.alloc w _) _) _) = W3 at *
  generalize hHH : w.heap.size = H at HS ⊢
  have HHQ := Lib.hid hHH
  clear hHH hbl
  go_loopw [13] (fun i wr => ∃ k : Nat, k ≤ n ∧ i = .int .i64 k ∧ Hid (∀ j, j < k → homeP code area (l.getD j noCtry) = false) ∧ Hid (HomeSet H wr code area) ∧ Hid (Below W3.heap.size W3 wr)) (fun i _ => n - (intOf i).toNat)
  case atStart => exact ⟨0, Nat.zero_le _, rfl, fun j hj => by omega, HS, Below.refl _ _⟩
  case round =>
    clear HS
    obtain ⟨k, hk, rfl, HN, HS, HB⟩ := hrel
    by_cases hlt : k < n
    · have hRw := HR.out.below HB.out
      rcases hRw.row with h0 | ⟨b9, off9, ha9, hb9, hcl⟩
      · omega
      injection ha9 with ha9
      injection ha9 with e1 e2
      subst e1 e2
      have k0 := hcl k hlt 0 (by omega)
      have k1 := hcl k hlt 1 (by omega)
      have k2 := hcl k hlt 2 (by omega)
      have k3 := hcl k hlt 3 (by omega)
      have hkl : k < l.length := by have := HLEN.out; omega
      have HFI := Lib.hid (hRw.each k hkl)
      have HFIND : Hid (∀ c, l.getD k noCtry = c → homeP code area c = true → l.find? (homeP code area) = some c) := fun c hc hp => by rw [← hc]; exact find_at _ noCtry l k hkl HN.out (by rw [hc]; exact hp)
      have HNEXT : Hid (∀ c, l.getD k noCtry = c → homeP code area c = false → ∀ j, j < k + 1 → homeP code area (l.getD j noCtry) = false) := fun c hc hp j hj => by
        by_cases h : j < k
        · exact HN.out j h
        · obtain rfl : j = k := by omega
          rw [hc]; exact hp
      clear hcl hRw
      generalize hcc : l.getD k noCtry = c at k0 k1 k2 k3 HFI
      have HCC := Lib.hid hcc
      clear hcc
      obtain ⟨code2, abroad, trunk, aa, an, ac, areas⟩ := c
      simp only [Ctry.cells, List.getElem?_cons_zero, List.getElem?_cons_succ, Nat.add_zero] at k0 k1 k2 k3
      have s0 := HS.out.h0
      have s1 := HS.out.h1
      have hlt4 : H < wr.heap.size := by have := HS.out.size; omega
      have HS2 : Hid (HomeSet H (wr.alloc (.cells #[.string ⟨code2.toArray⟩, .string ⟨abroad.toArray⟩, .string ⟨trunk.toArray⟩, .slice aa an ac] 68)) code area) := HS.out.below (ext_alloc (Below.refl _ _))
      by_cases hcode : code2 = code
      · subst hcode
        by_cases harea : area = []
        · subst harea
          have HF : Hid (l.find? (homeP code2 []) = some ⟨code2, abroad, trunk, aa, an, ac, areas⟩) := HFIND.out _ HCC.out (by simp [homeP])
          obtain ⟨W8, W9, hd1, hd2, he1, he2, he3, -, -, -, -⟩ := home_stores HS2.out (HX.out _ (ext_alloc HB.out)) (Nat.le_of_eq HHQ.out) 25 26  [.string ⟨code2.toArray⟩, .string ⟨abroad.toArray⟩, .string ⟨trunk.toArray⟩, .slice aa an ac] [.string ⟨#[]⟩, .int .i64 0, .int .i64 0] rfl rfl (by simp [Value.oneCell']) (by simp [Value.oneCell'])
          have HD1 := Lib.hid hd1
          have HD2 := Lib.hid hd2
          have HE := Lib.hid (And.intro he1 (And.intro he2 he3))
          clear hd1 hd2 he1 he2 he3
          as_aux_lemma =>
            go_wp2_with (first | (refine HD1.out _ _ _ _ _ (by rfl) (by rfl) (by rfl) (by rfl) ?_) | (refine HD2.out _ _ _ _ _ (by rfl) (by rfl) (by rfl) (by rfl) ?_))
            refine bodyPost_ret (?_ : _ = Result.ok (.tuple #[.agg #[.string ⟨code2.toArray⟩, .string ⟨abroad.toArray⟩, .string ⟨trunk.toArray⟩, .slice aa an ac], .agg #[.string ⟨#[]⟩, .int .i64 0, .int .i64 0], .int .i64 0]) _) rfl ?_
            · exact results_cell3 (t := 4) (t2 := 5) (u := 6) (by rfl) _ _ _ Tryz.isAgg68 Tryz.sizeOf68 (by rfl) Tryz.isAgg72 Tryz.sizeOf72 (by rfl) [.string ⟨code2.toArray⟩, .string ⟨abroad.toArray⟩, .string ⟨trunk.toArray⟩, .slice aa an ac] rfl HE.out.1 [.string ⟨#[]⟩, .int .i64 0, .int .i64 0] rfl HE.out.2.1
            exact ⟨⟨_, Or.inl ⟨HF.out, rfl⟩⟩, HE.out.2.2⟩
        · have hne2 : area.isEmpty = false := by
            cases area with
            | nil => exact absurd rfl harea
            | cons x xs => rfl
          have HAE := Lib.hid harea
          clear harea
          have HRWA : Hid (∀ W, Below wr.heap.size wr W → AreaRow W aa an areas) := fun W h => (HFI.out.row.below h)
          have hman : an ≤ 1000 := HFI.out.many
          have HWA : Hid (Below wr.heap.size wr (wr.alloc (.cells #[.string ⟨code2.toArray⟩, .string ⟨abroad.toArray⟩, .string ⟨trunk.toArray⟩, .slice aa an ac] 68))) := ext_alloc (Below.refl _ _)
          have b0 : (wr.alloc (.cells #[.string ⟨code2.toArray⟩, .string ⟨abroad.toArray⟩, .string ⟨trunk.toArray⟩, .slice aa an ac] 68)).cell? ⟨wr.heap.size, 0, none⟩ = some (.string ⟨code2.toArray⟩) := by go_simp
          have b1 : (wr.alloc (.cells #[.string ⟨code2.toArray⟩, .string ⟨abroad.toArray⟩, .string ⟨trunk.toArray⟩, .slice aa an ac] 68)).cell? ⟨wr.heap.size, 1, none⟩ = some (.string ⟨abroad.toArray⟩) := by go_simp
          have b2 : (wr.alloc (.cells #[.string ⟨code2.toArray⟩, .string ⟨abroad.toArray⟩, .string ⟨trunk.toArray⟩, .slice aa an ac] 68)).cell? ⟨wr.heap.size, 2, none⟩ = some (.string ⟨trunk.toArray⟩) := by go_simp
          have b3 : (wr.alloc (.cells #[.string ⟨code2.toArray⟩, .string ⟨abroad.toArray⟩, .string ⟨trunk.toArray⟩, .slice aa an ac] 68)).cell? ⟨wr.heap.size, 3, none⟩ = some (.slice aa an ac) := by go_simp
          have hGs : wr.heap.size < (wr.alloc (.cells #[.string ⟨code2.toArray⟩, .string ⟨abroad.toArray⟩, .string ⟨trunk.toArray⟩, .slice aa an ac] 68)).heap.size := by simp
          as_aux_lemma =>
            go_wp2_with fail
            generalize World.alloc wr _ = WA at HS2 HWA b0 b1 b2 b3 hGs ⊢
            have HBA : Hid (∀ W, Below WA.heap.size WA W → Below W3.heap.size W3 W) := fun W h => ext_trans (ext_trans HB.out HWA.out) h
            have HRWB : Hid (∀ W, Below WA.heap.size WA W → AreaRow W aa an areas) := fun W h => HRWA.out W (ext_trans HWA.out h)
            have hGH : H < wr.heap.size := hlt4
            have HG3 : Hid (H + 3 ≤ wr.heap.size) := HS.out.size
            clear k0 k1 k2 k3 s0 s1 HS HB HRWA HWA hlt4
            generalize wr.heap.size = G at *
            go_loopw [30] (fun i wr => ∃ q : Nat, q ≤ an ∧ i = .int .i64 q ∧ Hid (∀ j, j < q → ((areas.getD j noArea).pre == area) = false) ∧ Hid (HomeSet H wr code2 area) ∧ Hid (Below WA.heap.size WA wr)) (fun i _ => an - (intOf i).toNat)
            case atStart => exact ⟨0, Nat.zero_le _, rfl, fun j hj => by omega, HS2, Below.refl _ _⟩
            case round =>
              obtain ⟨q, hq, rfl, HNQ, HSQ, HBQ⟩ := hrel
              have g0 := (HBQ.out.cell (p := ⟨G, 0, none⟩) hGs).trans b0
              have g1 := (HBQ.out.cell (p := ⟨G, 1, none⟩) hGs).trans b1
              have g2 := (HBQ.out.cell (p := ⟨G, 2, none⟩) hGs).trans b2
              have g3 := (HBQ.out.cell (p := ⟨G, 3, none⟩) hGs).trans b3
              have hGq : G < wr.heap.size := Nat.lt_of_lt_of_le hGs HBQ.out.size
              have hHq : H < wr.heap.size := by omega
              have s0 := HSQ.out.h0
              have s1 := HSQ.out.h1
              by_cases hql : q < an
              · have hrow := HRWB.out wr HBQ.out
                rcases hrow.row with h0 | ⟨ab, ao, rfl, hab, hac⟩
                · omega
                have a0 := hac q hql 0 (by omega)
                have a1 := hac q hql 1 (by omega)
                have a2 := hac q hql 2 (by omega)
                have hqa : q < areas.length := by have := hrow.len; omega
                have HXF : Hid (∀ x, areas.getD q noArea = x → (x.pre == area) = true → homeX ⟨code2, abroad, trunk, some ⟨ab, ao, none⟩, an, ac, areas⟩ area = x ∧ homeP code2 area ⟨code2, abroad, trunk, some ⟨ab, ao, none⟩, an, ac, areas⟩ = true) := fun x hx hp => by
                  have hf := find_at (fun a : Area => a.pre == area) noArea areas q hqa HNQ.out (by rw [hx]; exact hp)
                  refine ⟨by unfold homeX; rw [if_neg HAE.out]; simp only [hf]; exact hx, ?_⟩
                  have hany : (areas.any fun a => a.pre == area) = true := List.any_eq_true.2 ⟨_, List.mem_of_find?_eq_some hf, by rw [hx]; exact hp⟩
                  simp [homeP, hany]
                have HNX : Hid (∀ x, areas.getD q noArea = x → (x.pre == area) = false → ∀ j, j < q + 1 → ((areas.getD j noArea).pre == area) = false) := fun x hx hp j hj => by
                  by_cases h : j < q
                  · exact HNQ.out j h
                  · obtain rfl : j = q := by omega
                    rw [hx]; exact hp
                clear hac hrow
                generalize hxx : areas.getD q noArea = x at a0 a1 a2
                have HXX := Lib.hid hxx
                clear hxx
                obtain ⟨xp, xl, xh⟩ := x
                simp only [Area.cells, List.getElem?_cons_zero, List.getElem?_cons_succ, Nat.add_zero] at a0 a1 a2
                have HS5 : Hid (HomeSet H (wr.alloc (.cells #[.string ⟨xp.toArray⟩, .int .i64 xl, .int .i64 xh] 72)) code2 area) := HSQ.out.below (ext_alloc (Below.refl _ _))
                by_cases hx : xp = area
                · subst hx
                  obtain ⟨hX, hP⟩ := HXF.out _ HXX.out (by simp)
                  have HF : Hid (l.find? (homeP code2 xp) = some ⟨code2, abroad, trunk, some ⟨ab, ao, none⟩, an, ac, areas⟩) := HFIND.out _ HCC.out hP
                  have HXE := Lib.hid hX
                  have hsz := HSQ.out.size
                  obtain ⟨W8, W9, -, -, he1, he2, he3, he0, hf1, hf2, he9⟩ := home_stores (HS5.out.below (ext_drew (Below.refl _ _))) (HX.out _ (HBA.out _ (ext_drew (ext_alloc HBQ.out)))) (Nat.le_of_eq HHQ.out) 39 40 [.string ⟨code2.toArray⟩, .string ⟨abroad.toArray⟩, .string ⟨trunk.toArray⟩, .slice (some ⟨ab, ao, none⟩) an ac] [.string ⟨xp.toArray⟩, .int .i64 xl, .int .i64 xh] rfl rfl (by simp [Value.oneCell']) (by simp [Value.oneCell'])
                  have hS0 : (fun W => W.cell? ⟨G, 0, none⟩ = some (.string ⟨code2.toArray⟩) ∧ W.cell? ⟨G, 1, none⟩ = some (.string ⟨abroad.toArray⟩) ∧ W.cell? ⟨G, 2, none⟩ = some (.string ⟨trunk.toArray⟩) ∧ W.cell? ⟨G, 3, none⟩ = some (.slice (some ⟨ab, ao, none⟩) an ac) ∧ W.cell? ⟨wr.heap.size, 0, none⟩ = some (.string ⟨xp.toArray⟩) ∧ W.cell? ⟨wr.heap.size, 1, none⟩ = some (.int .i64 xl) ∧ W.cell? ⟨wr.heap.size, 2, none⟩ = some (.int .i64 xh)) ((wr.alloc (.cells #[.string ⟨xp.toArray⟩, .int .i64 xl, .int .i64 xh] 72)).drew) := ⟨by go_simp, by go_simp, by go_simp, by go_simp, by go_simp, by go_simp, by go_simp⟩
                  have hGn : G ≠ H + 1 ∧ G ≠ H + 1 + 1 := by have := HG3.out; omega
                  have hS8 : (fun W => W.cell? ⟨G, 0, none⟩ = some (.string ⟨code2.toArray⟩) ∧ W.cell? ⟨G, 1, none⟩ = some (.string ⟨abroad.toArray⟩) ∧ W.cell? ⟨G, 2, none⟩ = some (.string ⟨trunk.toArray⟩) ∧ W.cell? ⟨G, 3, none⟩ = some (.slice (some ⟨ab, ao, none⟩) an ac) ∧ W.cell? ⟨wr.heap.size, 0, none⟩ = some (.string ⟨xp.toArray⟩) ∧ W.cell? ⟨wr.heap.size, 1, none⟩ = some (.int .i64 xl) ∧ W.cell? ⟨wr.heap.size, 2, none⟩ = some (.int .i64 xh)) W8 := by
                    obtain ⟨m0, m1, m2, m3, m4, m5, m6⟩ := hS0
                    exact ⟨(he0 _ _ hGn.1).trans m0, (he0 _ _ hGn.1).trans m1, (he0 _ _ hGn.1).trans m2, (he0 _ _ hGn.1).trans m3, (he0 _ _ (by omega)).trans m4, (he0 _ _ (by omega)).trans m5, (he0 _ _ (by omega)).trans m6⟩
                  have hS9 : (fun W => W.cell? ⟨G, 0, none⟩ = some (.string ⟨code2.toArray⟩) ∧ W.cell? ⟨G, 1, none⟩ = some (.string ⟨abroad.toArray⟩) ∧ W.cell? ⟨G, 2, none⟩ = some (.string ⟨trunk.toArray⟩) ∧ W.cell? ⟨G, 3, none⟩ = some (.slice (some ⟨ab, ao, none⟩) an ac) ∧ W.cell? ⟨wr.heap.size, 0, none⟩ = some (.string ⟨xp.toArray⟩) ∧ W.cell? ⟨wr.heap.size, 1, none⟩ = some (.int .i64 xl) ∧ W.cell? ⟨wr.heap.size, 2, none⟩ = some (.int .i64 xh)) W9 := by
                    obtain ⟨m0, m1, m2, m3, m4, m5, m6⟩ := hS0
                    exact ⟨(he9 _ _ hGn.1 hGn.2).trans m0, (he9 _ _ hGn.1 hGn.2).trans m1, (he9 _ _ hGn.1 hGn.2).trans m2, (he9 _ _ hGn.1 hGn.2).trans m3, (he9 _ _ (by omega) (by omega)).trans m4, (he9 _ _ (by omega) (by omega)).trans m5, (he9 _ _ (by omega) (by omega)).trans m6⟩
                  have HD1 := Lib.hid hf1
                  have HD2 := Lib.hid hf2
                  have HS0 := Lib.hid hS0
                  have HS8 := Lib.hid hS8
                  have HS9 := Lib.hid hS9
                  have HE := Lib.hid (And.intro he1 (And.intro he2 he3))
                  clear he1 he2 he3 he0 hf1 hf2 hsz hX hP hS0 hS8 hS9 he9
                  as_aux_lemma =>
                    go_upto_region 11 with (fail)
                    refine region_seqI (S := fun W => W.cell? ⟨G, 0, none⟩ = some (.string ⟨code2.toArray⟩) ∧ W.cell? ⟨G, 1, none⟩ = some (.string ⟨abroad.toArray⟩) ∧ W.cell? ⟨G, 2, none⟩ = some (.string ⟨trunk.toArray⟩) ∧ W.cell? ⟨G, 3, none⟩ = some (.slice (some ⟨ab, ao, none⟩) an ac) ∧ W.cell? ⟨wr.heap.size, 0, none⟩ = some (.string ⟨xp.toArray⟩) ∧ W.cell? ⟨wr.heap.size, 1, none⟩ = some (.int .i64 xl) ∧ W.cell? ⟨wr.heap.size, 2, none⟩ = some (.int .i64 xh)) [(true, 0), (true, 1), (false, 2), (false, 3), (true, 4)] (by kernel_rfl) (by kernel_rfl) rfl (by kernel_rfl) HS0.out ?_
                    simp only [seqOps, List.getD_cons_zero, List.getD_cons_succ]
                    refine seqI_take (v := .agg #[.string ⟨code2.toArray⟩, .string ⟨abroad.toArray⟩, .string ⟨trunk.toArray⟩, .slice (some ⟨ab, ao, none⟩) an ac]) rfl (fun W hW => by obtain ⟨m0, m1, m2, m3, m4, m5, m6⟩ := hW; go_simp) (fun _ _ _ h => h) ?_
                    simp only [Act.put, List.setIfInBounds_toArray, List.set_cons_zero, List.set_cons_succ]
                    refine seqI_take (v := .agg #[.string ⟨xp.toArray⟩, .int .i64 xl, .int .i64 xh]) rfl (fun W hW => by obtain ⟨m0, m1, m2, m3, m4, m5, m6⟩ := hW; go_simp) (fun _ _ _ h => h) ?_
                    simp only [Act.put, List.setIfInBounds_toArray, List.set_cons_zero, List.set_cons_succ]
                    refine seqI_do rfl (HD1.out _ _ _ _ (by rfl) (by rfl) (by rfl) ⟨HS8.out, ?_⟩)
                    simp only [Act.put, List.setIfInBounds_toArray, List.set_cons_zero, List.set_cons_succ]
                    refine seqI_do rfl (HD2.out _ _ _ _ (by rfl) (by rfl) (by rfl) ⟨HS9.out, ?_⟩)
                    simp only [Act.put, List.setIfInBounds_toArray, List.set_cons_zero, List.set_cons_succ]
                    refine seqI_take (v := .int .i64 0) rfl (fun W hW => by clear hW; go_simp) (fun _ _ _ h => h) ?_
                    simp only [Act.put, List.setIfInBounds_toArray, List.set_cons_zero, List.set_cons_succ]
                    refine seqI_nil ?_
                    clear HS0 HS8 HS9 HD1 HD2
                    go_wp2_with fail
                    refine bodyPost_ret (?_ : _ = Result.ok (.tuple #[.agg #[.string ⟨code2.toArray⟩, .string ⟨abroad.toArray⟩, .string ⟨trunk.toArray⟩, .slice (some ⟨ab, ao, none⟩) an ac], .agg #[.string ⟨xp.toArray⟩, .int .i64 xl, .int .i64 xh], .int .i64 0]) _) rfl ?_
                    · exact results_cell3 (t := 4) (t2 := 5) (u := 6) (by rfl) _ _ _ Tryz.isAgg68 Tryz.sizeOf68 (by rfl) Tryz.isAgg72 Tryz.sizeOf72 (by rfl) [.string ⟨code2.toArray⟩, .string ⟨abroad.toArray⟩, .string ⟨trunk.toArray⟩, .slice (some ⟨ab, ao, none⟩) an ac] rfl HE.out.1 [.string ⟨xp.toArray⟩, .int .i64 xl, .int .i64 xh] rfl HE.out.2.1
                    exact ⟨⟨_, Or.inl ⟨HF.out, by rw [HXE.out]; rfl⟩⟩, HE.out.2.2⟩
                · have hne2' : (xp == area) = false := by simpa using hx
                  have HNX2 := Lib.hid (HNX.out _ HXX.out hne2')
                  as_aux_lemma =>
                    go_wp2_with fail
                    go_roundw
                    case rel => exact ⟨q + 1, by omega, by go_num, HNX2, HS5, ext_alloc HBQ.out⟩
                    case measure => simp [intOf]; omega
              · obtain rfl : q = an := by omega
                have HALL : Hid (∀ j, j < k + 1 → homeP code2 area (l.getD j noCtry) = false) := HNEXT.out _ HCC.out (by
                  have hlen : q = areas.length := (HRWB.out wr HBQ.out).len
                  have hany : (areas.any fun a => a.pre == area) = false := by
                    rw [List.any_eq_false]
                    intro y hy
                    obtain ⟨i, hi, rfl⟩ := List.getElem_of_mem hy
                    have := HNQ.out i (by omega)
                    simpa [hi] using this
                  have he : (area == []) = false := by
                    cases area with
                    | nil => exact absurd rfl HAE.out
                    | cons _ _ => rfl
                  simp [homeP, hany, he])
                as_aux_lemma =>
                  go_wp2_with fail
                  go_roundw
                  case rel => exact ⟨k + 1, by omega, by go_num, HALL, HSQ, HBA.out _ HBQ.out⟩
                  case measure => simp [intOf]; omega
      · have hne2 : (code2 == code) = false := by simpa using hcode
        have HNX := Lib.hid (HNEXT.out _ HCC.out (by unfold homeP; simp only [hne2, Bool.false_and]))
        have hne3 : ¬ (code2 = code) := hcode
        as_aux_lemma =>
          go_wp2_with fail
          go_roundw
          case rel => exact ⟨k + 1, by omega, by go_num, HNX, HS2, ext_alloc HB.out⟩
          case measure => simp [intOf]; omega
    · obtain rfl : k = n := by omega
      have HF : Hid (l.find? (homeP code area) = none) := by
        show _ = _
        rw [List.find?_eq_none]
        intro x hx
        obtain ⟨i, hi, rfl⟩ := List.getElem_of_mem hx
        have := HN.out i (by rw [HLEN.out]; exact hi)
        simpa [hi] using this
      obtain ⟨W8, W9, hd1, hd2, he1, he2, he3, -, -, -, -⟩ := home_stores HS.out (HX.out _ HB.out) (Nat.le_of_eq HHQ.out) 43 44  [.string ⟨#[]⟩, .string ⟨#[]⟩, .string ⟨#[]⟩, .slice none 0 0] [.string ⟨#[]⟩, .int .i64 0, .int .i64 0] rfl rfl (by simp [Value.oneCell']) (by simp [Value.oneCell'])
      have HD1 := Lib.hid hd1
      have HD2 := Lib.hid hd2
      have HE := Lib.hid (And.intro he1 (And.intro he2 he3))
      clear hd1 hd2 he1 he2 he3
      as_aux_lemma =>
        go_wp2_with (first | (refine HD1.out _ _ _ _ _ (by rfl) (by rfl) (by rfl) (by rfl) ?_) | (refine HD2.out _ _ _ _ _ (by rfl) (by rfl) (by rfl) (by rfl) ?_))
        refine bodyPost_ret (?_ : _ = Result.ok (.tuple #[.agg #[.string ⟨#[]⟩, .string ⟨#[]⟩, .string ⟨#[]⟩, .slice none 0 0], .agg #[.string ⟨#[]⟩, .int .i64 0, .int .i64 0], .int .i64 8]) _) rfl ?_
        · exact results_cell3 (t := 4) (t2 := 5) (u := 6) (by rfl) _ _ _ Tryz.isAgg68 Tryz.sizeOf68 (by rfl) Tryz.isAgg72 Tryz.sizeOf72 (by rfl) [.string ⟨#[]⟩, .string ⟨#[]⟩, .string ⟨#[]⟩, .slice none 0 0] rfl HE.out.1 [.string ⟨#[]⟩, .int .i64 0, .int .i64 0] rfl HE.out.2.1
        exact ⟨⟨noCtry, Or.inr ⟨HF.out, rfl⟩⟩, HE.out.2.2⟩
end Go.Proofs.YthajppcmmmkfcaaGreatDoor

set_option linter.unusedVariables false
set_option linter.unusedSimpArgs false
namespace Go.Proofs.YthajppcmmmkfcaaGreatDoor
open Go.RowKit

def cmpS (s d : List UInt8) : Bool := Lib.hasPrefix s d || Lib.hasPrefix d s
def goesP (d first : List UInt8) (lo hi : Int) : Bool := cmpS first d && decide (max ((first.length : Int) + lo) ((d.length : Int) + 1) ≤ min ((first.length : Int) + hi) 30)
def areaP (d first : List UInt8) (y : Area) : Bool := goesP d first (y.low - (y.pre.length : Int)) (y.high - (y.pre.length : Int))
def longer1 (l : List Ctry) (c : Ctry) (d : List UInt8) : Bool := l.any fun x => x.areas.any fun y => areaP d ((c.abroad ++ x.code) ++ y.pre) y
def longer2 (c : Ctry) (d : List UInt8) : Bool := c.areas.any fun y => areaP d (c.trunk ++ y.pre) y
def longer3 (c : Ctry) (a : Area) (d : List UInt8) : Bool := if a.pre = [] ∨ c.trunk = [] ∨ Lib.hasPrefix d c.abroad = true ∨ Lib.hasPrefix d c.trunk = true then false else areaP d [] a
def longerP (l : List Ctry) (c : Ctry) (a : Area) (d : List UInt8) : Bool := longer1 l c d || (longer2 c d || longer3 c a d)
def Ext (l : List Ctry) (c : Ctry) (area d : List UInt8) : Prop := ∃ t, d <+: t ∧ d.length < t.length ∧ Goes l c area t

theorem cmp_iff (s d : List UInt8) : cmpS s d = true ↔ d <+: s ∨ s <+: d := by unfold cmpS; rw [Bool.or_eq_true, pre_iff, pre_iff]
theorem digs_rep (k : Nat) (x : Nat) (hx : x < 10) : digs (List.replicate k (UInt8.ofNat (48 + x))) = true := by
  unfold digs
  rw [List.all_eq_true]
  intro y hy
  obtain ⟨_, rfl⟩ := List.mem_replicate.1 hy
  have : (UInt8.ofNat (48 + x)).toNat = 48 + x := by simp; omega
  simp [this]; omega
/-- The longer of two, of which one begins with the other. -/
def longOf (s d : List UInt8) : List UInt8 := if s.length < d.length then d else s
theorem long_pre {s d : List UInt8} (h : cmpS s d = true) : s <+: longOf s d ∧ d <+: longOf s d := by
  unfold longOf
  rcases (cmp_iff s d).1 h with h1 | h1
  · have := h1.length_le
    rw [if_neg (by omega)]
    exact ⟨List.prefix_refl _, h1⟩
  · have := h1.length_le
    split
    · exact ⟨h1, List.prefix_refl _⟩
    · have : s = d := h1.eq_of_length (by omega)
      subst this
      exact ⟨List.prefix_refl _, List.prefix_refl _⟩
theorem long_digs {s d : List UInt8} (h1 : digs s = true) (h2 : digs d = true) : digs (longOf s d) = true := by unfold longOf; split <;> assumption
/-- A string of a length that begins with both. -/
theorem pad_ex {s d : List UInt8} (h : cmpS s d = true) (h1 : digs s = true) (h2 : digs d = true) {L : Nat} (hs : s.length ≤ L) (hd : d.length ≤ L) (x : Nat) (hx : x < 10) : ∃ r, longOf s d ++ List.replicate (L - (longOf s d).length) (UInt8.ofNat (48 + x)) = s ++ r ∧ s.length + r.length = L ∧ d <+: s ++ r ∧ digs (s ++ r) = true := by
  obtain ⟨p1, p2⟩ := long_pre h
  have hl : (longOf s d).length ≤ L := by unfold longOf; split <;> omega
  obtain ⟨q, hq⟩ := p1
  refine ⟨q ++ List.replicate (L - (longOf s d).length) (UInt8.ofNat (48 + x)), by rw [← List.append_assoc, hq], ?_, ?_, ?_⟩
  · have := congrArg List.length hq
    rw [List.length_append] at this
    rw [List.length_append, List.length_replicate]
    omega
  · rw [← List.append_assoc, hq]
    exact p2.trans (List.prefix_append _ _)
  · rw [← List.append_assoc, hq, digs_app, long_digs h1 h2, digs_rep _ _ hx]
    rfl

/-! ### A digit that leads neither abroad nor to the trunk -/
theorem bad_one {p d : List UInt8} {m x y : Nat} (hp : ¬ p <+: d) (hx : x < 10) (hy : y < 10) (h1 : p <+: d ++ List.replicate (m + 1) (UInt8.ofNat (48 + x))) (h2 : p <+: d ++ List.replicate (m + 1) (UInt8.ofNat (48 + y))) : x = y := by
  have hd : d <+: p := by
    rcases List.prefix_or_prefix_of_prefix h1 (List.prefix_append d _) with h | h
    · exact absurd h hp
    · exact h
  obtain ⟨q, rfl⟩ := hd
  rw [List.prefix_append_right_inj] at h1 h2
  cases q with
  | nil => exact absurd (by simp) hp
  | cons a q =>
    rw [List.replicate_succ, List.cons_prefix_cons] at h1 h2
    have h3 := congrArg UInt8.toNat (h1.1.symm.trans h2.1)
    simp at h3
    omega
theorem good_digit {p1 p2 d : List UInt8} {m : Nat} (h1 : ¬ p1 <+: d) (h2 : ¬ p2 <+: d) : ∃ x, x < 10 ∧ ¬ p1 <+: d ++ List.replicate (m + 1) (UInt8.ofNat (48 + x)) ∧ ¬ p2 <+: d ++ List.replicate (m + 1) (UInt8.ofNat (48 + x)) := by
  apply Classical.byContradiction
  intro hno
  have hall : ∀ x, x < 10 → p1 <+: d ++ List.replicate (m + 1) (UInt8.ofNat (48 + x)) ∨ p2 <+: d ++ List.replicate (m + 1) (UInt8.ofNat (48 + x)) := by
    intro x hx
    apply Classical.byContradiction
    intro h
    exact hno ⟨x, hx, fun h9 => h (Or.inl h9), fun h9 => h (Or.inr h9)⟩
  rcases hall 0 (by omega) with a0 | a0 <;> rcases hall 1 (by omega) with a1 | a1 <;> rcases hall 2 (by omega) with a2 | a2
  · have := bad_one h1 (by omega) (by omega) a0 a1; omega
  · have := bad_one h1 (by omega) (by omega) a0 a1; omega
  · have := bad_one h1 (by omega) (by omega) a0 a2; omega
  · have := bad_one h2 (by omega) (by omega) a1 a2; omega
  · have := bad_one h1 (by omega) (by omega) a1 a2; omega
  · have := bad_one h2 (by omega) (by omega) a0 a2; omega
  · have := bad_one h2 (by omega) (by omega) a0 a1; omega
  · have := bad_one h2 (by omega) (by omega) a0 a1; omega
end Go.Proofs.YthajppcmmmkfcaaGreatDoor
