/- What is proved here: lemmas and contracts for the statement, put together out of smaller texts (PlanFault, PlanDraw). No condition beyond those stated. -/
import Derived.Test.YtbbbaeenngjldaaGreatDoorSmPkC
import Derived.Test.YtbbbaeenngjldaaGreatDoorSmPkA
import Derived.Test.YtbbbaeenngjldaaGreatDoorSmPkB
import Derived.Test.YtbbbaeenngjldaaGreatDoorSmPkD
set_option linter.unusedVariables false
set_option linter.unusedSimpArgs false
namespace Go.Proofs.YtbbbaeenngjldaaGreatDoor
open Go.RowKit

theorem any_of_take {α : Type} (f g : α → Bool) (l : List α) (k n : Nat) (hn : k ≤ n) (h : f = g) : ((l.take k).any f) = ((l.take k).any g) := by rw [h]

set_option maxRecDepth 100000 in
set_option maxHeartbeats 2000000 in
theorem planFault_any (w : World) (a : Option Addr) (n cap : Nat) (l : List Ctry) (hr : CtryRow w a n l) (hcap : n ≤ cap) : Calls Tryz.prog 20 #[.slice a n cap] w (ErrPost (planErr l) w) := by
  have hfew := hr.few
  have hlen := hr.len
  have HR := Lib.hid hr
  have HDEF : Hid (planErr l = if 100 < l.length then 2 else firstErr (partErr l) l.length) := rfl
  generalize planErr l = R at HDEF ⊢
  clear hr
  by_cases h100 : 100 < n
  · have HF : Hid (R = 2) := by show _ = _; rw [HDEF.out, if_pos (by omega)]
    go_enter Tryz.func20, Tryz.ntmps20
    go_wp2_with fail
    go_ret
    exact ⟨by rw [HF.out]; rfl, Below.refl _ _⟩
  have HD : Hid (R = firstErr (partErr l) n) := by show _ = _; rw [HDEF.out, if_neg (by omega), ← hlen]
  have HLEN := Lib.hid hlen
  clear HDEF hlen
  go_enter Tryz.func20, Tryz.ntmps20
  go_wp2_with fail
  go_loopw [13] (fun it wr => ∃ k : Nat, k ≤ n ∧ it = .int .i64 k ∧ Hid (Below w.heap.size w wr) ∧ Hid (∀ j, j < k → partErr l j = 0)) (fun it _ => n - (intOf it).toNat)
  case atStart => exact ⟨0, Nat.zero_le _, rfl, Below.refl _ _, fun j hj => absurd hj (by omega)⟩
  case round =>
    obtain ⟨wo, rfl⟩ : ∃ wo : World, wo = wr := ⟨_, rfl⟩
    obtain ⟨i, hk, rfl, HB, HN⟩ := hrel
    by_cases hlt : i < n
    · have HRK := Lib.hid (HR.out.below HB.out)
      rcases HRK.out.row with h0 | ⟨b, off, rfl, hb, hcl⟩
      · omega
      have hil : i < l.length := by rw [← HLEN.out]; exact hlt
      obtain ⟨c0, c1, c2, c3⟩ := ctry_cells (hcl i hlt)
      have HENC := Lib.hid (ctry_enc HLEN.out hcl)
      have HPV : Hid (0 < i → wo.cell? ⟨b, off + (i - 1) * 4, none⟩ = some (.string ⟨(l.getD (i - 1) noCtry).code.toArray⟩)) := fun h9 => (ctry_cells (hcl (i - 1) (by omega))).1
      have HFI := Lib.hid (HRK.out.each i hil)
      obtain ⟨hcode, habr, htr, hmany, -, -⟩ := HRK.out.each i hil
      have HPE : Hid (partErr l i = if ctryErr l i ≠ 0 then ctryErr l i else firstErr (areaErr (l.getD i noCtry)) (l.getD i noCtry).areas.length) := rfl
      have HFE : Hid (partErr l i ≠ 0 → R = partErr l i) := fun h9 => HD.out.trans (first_some HN.out hlt h9)
      have HST : Hid (partErr l i = 0 → ∀ j, j < i + 1 → partErr l j = 0) := fun h9 j hj => by
        rcases Nat.lt_or_eq_of_le (Nat.lt_succ_iff.1 hj) with h | h
        · exact HN.out j h
        · subst h; exact h9
      have HDEF : Hid (ctryErr l i = ctryErrOf l i (l.getD i noCtry) (l.getD (i - 1) noCtry)) := rfl
      generalize partErr l i = PE at HPE HFE HST
      have HX : Hid (∀ v, ctryErr l i = v → v ≠ 0 → R = v) := fun v h1 h2 => by
        have h3 : PE = v := by rw [HPE.out, if_pos (by rw [h1]; exact h2), h1]
        rw [HFE.out (by rw [h3]; exact h2), h3]
      have HZ : Hid (ctryErr l i = 0 → PE = firstErr (areaErr (l.getD i noCtry)) (l.getD i noCtry).areas.length) := fun h1 => by rw [HPE.out, if_neg (by simpa using h1)]
      generalize ctryErr l i = E1 at HDEF HX HZ
      generalize l.getD i noCtry = c at c0 c1 c2 c3 HDEF hcode habr htr hmany HFI HZ
      generalize l.getD (i - 1) noCtry = p at HPV HDEF
      obtain ⟨code, abroad, trunk, aa, an, ac, areas⟩ := c
      simp only at hcode habr htr hmany c0 c1 c2 c3
      clear hcl hil HPE
      as_aux_lemma =>
        go_wp2_with fail
        refine (digital_l code 1 3 _ (by omega)).mono ?_
        rintro e w2 ⟨rfl, hb2⟩
        have HBO2 : Hid (Below wo.heap.size wo w2) := ext_trans (ext_alloc (Below.refl _ _)) hb2
        have HB2 : Hid (Below w.heap.size w w2) := ext_trans HB.out HBO2.out
        have hzz : wo.heap.size < w2.heap.size := by have := hb2.size; simp at this; omega
        obtain ⟨qc, qf⟩ := bcell hb2
        have D0 : w2.cell? ⟨wo.heap.size, 0, none⟩ = some (.string ⟨code.toArray⟩) := (qc _ 0 (by simp)).trans (by go_simp)
        have D1 : w2.cell? ⟨wo.heap.size, 1, none⟩ = some (.string ⟨abroad.toArray⟩) := (qc _ 1 (by simp)).trans (by go_simp)
        have D2 : w2.cell? ⟨wo.heap.size, 2, none⟩ = some (.string ⟨trunk.toArray⟩) := (qc _ 2 (by simp)).trans (by go_simp)
        have D3 : w2.cell? ⟨wo.heap.size, 3, none⟩ = some (.slice aa an ac) := (qc _ 3 (by simp)).trans (by go_simp)
        have hzb : b < w2.heap.size := Nat.lt_of_lt_of_le hb HBO2.out.size
        have HPV2 : Hid (0 < i → w2.cell? ⟨b, off + (i - 1) * 4, none⟩ = some (.string ⟨p.code.toArray⟩)) := fun h9 => (HBO2.out.cell (p := ⟨b, off + (i - 1) * 4, none⟩) hb).trans (HPV.out h9)
        have HD2 : Hid (E1 = if digitsB code 1 3 = false then 3 else if (code.headD 0 == 48) = true then 3 else if (decide (0 < i) && leS code p.code) = true then 7 else if ((l.take i).any fun d => Lib.hasPrefix code d.code) = true then 13 else if digitsB abroad 1 4 = false then 3 else if digitsB trunk 0 2 = false then 3 else if Lib.hasPrefix trunk abroad = true then 3 else if 300 < an then 2 else 0) := HDEF.out
        have hne : digitsB code 1 3 = true → 1 ≤ code.length := by intro h; unfold digitsB at h; simp at h; omega
        clear qc qf hb2 c0 c1 c2 c3 HPV HDEF
        generalize digitsB code 1 3 = g1 at HD2 hne ⊢
        as_aux_lemma =>
          cases g1
          · have HF : Hid (R = 3) := HX.out 3 HD2.out (by decide)
            go_wp2_with fail
            go_ret
            exact ⟨by rw [HF.out]; rfl, HB2.out⟩
          · have hlen := hne rfl
            clear hne
            rcases code with _ | ⟨x, xs⟩
            · simp at hlen
            have HD3 : Hid (E1 = if (x == 48) = true then 3 else if (decide (0 < i) && leS (x :: xs) p.code) = true then 7 else if ((l.take i).any fun d => Lib.hasPrefix (x :: xs) d.code) = true then 13 else if digitsB abroad 1 4 = false then 3 else if digitsB trunk 0 2 = false then 3 else if Lib.hasPrefix trunk abroad = true then 3 else if 300 < an then 2 else 0) := HD2.out
            clear HD2
            have q0 : 0 < (⟨(x :: xs).toArray⟩ : ByteArray).size := by show 0 < (x :: xs).length; simp
            have y0 : ((⟨(x :: xs).toArray⟩ : ByteArray)[0]'q0).toNat = x.toNat := rfl
            by_cases hx : x = 48
            · have HF : Hid (R = 3) := HX.out 3 (by rw [HD3.out, hx]; rfl) (by decide)
              have y1 : ((⟨(x :: xs).toArray⟩ : ByteArray)[0]'q0).toNat = 48 := by rw [y0, hx]; rfl
              clear y0 hx
              as_aux_lemma =>
                go_wp2_with fail
                go_ret
                exact ⟨by rw [HF.out]; rfl, HB2.out⟩
            · have HD4 : Hid (E1 = if (decide (0 < i) && leS (x :: xs) p.code) = true then 7 else if ((l.take i).any fun d => Lib.hasPrefix (x :: xs) d.code) = true then 13 else if digitsB abroad 1 4 = false then 3 else if digitsB trunk 0 2 = false then 3 else if Lib.hasPrefix trunk abroad = true then 3 else if 300 < an then 2 else 0) := by show _ = _; rw [HD3.out, if_neg (by simpa using hx)]
              have y1 : ((((⟨(x :: xs).toArray⟩ : ByteArray)[0]'q0).toNat : Int) == 48) = false := by
                rw [y0, beq_eq_false_iff_ne]
                intro h
                exact hx (UInt8.toNat_inj.1 (by have : (48 : UInt8).toNat = 48 := rfl; omega))
              clear HD3 y0 hx
              as_aux_lemma =>
                go_upto_region 8 with (fail)
                go_cut [13, 29] from 13 to 161 (fun s13 s29 wx => s13 = .int .i64 i ∧ s29 = .bool (decide (0 < i) && leS (x :: xs) p.code) ∧ Hid (wx = w2.drew))
                case first =>
                  by_cases hi0 : i = 0
                  · have hk1 : decide (0 < i) = false := decide_eq_false (by omega)
                    clear hi0
                    as_aux_lemma =>
                      refine region_seqI (S := (fun _ => True)) [(true, 0), (true, 1), (true, 2), (true, 3), (true, 4), (true, 5), (true, 6), (true, 7), (true, 8), (true, 9), (true, 10), (true, 11), (true, 12), (true, 13)] (by kernel_rfl) (by kernel_rfl) rfl (by kernel_rfl) trivial ?_
                      simp only [seqOps, List.getD_cons_zero, List.getD_cons_succ]
                      refine seqI_take (v := .int .i64 i) rfl (fun w9 hS9 => by go_simp) (fun _ _ _ h => h) ?_
                      simp only [Act.put, List.setIfInBounds_toArray, List.set_cons_zero, List.set_cons_succ]
                      refine seqI_take (v := .bool false) rfl (fun w9 hS9 => by go_simp) (fun _ _ _ h => h) ?_
                      simp only [Act.put, List.setIfInBounds_toArray, List.set_cons_zero, List.set_cons_succ]
                      refine seqI_take (v := .bool false) rfl (fun w9 hS9 => by go_simp) (fun _ _ _ h => h) ?_
                      simp only [Act.put, List.setIfInBounds_toArray, List.set_cons_zero, List.set_cons_succ]
                      refine seqI_skip rfl (fun _ _ _ h => h) ?_
                      simp only [Act.put, List.setIfInBounds_toArray, List.set_cons_zero, List.set_cons_succ]
                      refine seqI_skip rfl (fun _ _ _ h => h) ?_
                      simp only [Act.put, List.setIfInBounds_toArray, List.set_cons_zero, List.set_cons_succ]
                      refine seqI_skip rfl (fun _ _ _ h => h) ?_
                      simp only [Act.put, List.setIfInBounds_toArray, List.set_cons_zero, List.set_cons_succ]
                      refine seqI_skip rfl (fun _ _ _ h => h) ?_
                      simp only [Act.put, List.setIfInBounds_toArray, List.set_cons_zero, List.set_cons_succ]
                      refine seqI_skip rfl (fun _ _ _ h => h) ?_
                      simp only [Act.put, List.setIfInBounds_toArray, List.set_cons_zero, List.set_cons_succ]
                      refine seqI_skip rfl (fun _ _ _ h => h) ?_
                      simp only [Act.put, List.setIfInBounds_toArray, List.set_cons_zero, List.set_cons_succ]
                      refine seqI_skip rfl (fun _ _ _ h => h) ?_
                      simp only [Act.put, List.setIfInBounds_toArray, List.set_cons_zero, List.set_cons_succ]
                      refine seqI_skip rfl (fun _ _ _ h => h) ?_
                      simp only [Act.put, List.setIfInBounds_toArray, List.set_cons_zero, List.set_cons_succ]
                      refine seqI_skip rfl (fun _ _ _ h => h) ?_
                      simp only [Act.put, List.setIfInBounds_toArray, List.set_cons_zero, List.set_cons_succ]
                      refine seqI_take (v := .bool false) rfl (fun w9 hS9 => by go_simp) (fun _ _ _ h => h) ?_
                      simp only [Act.put, List.setIfInBounds_toArray, List.set_cons_zero, List.set_cons_succ]
                      refine seqI_take (v := .bool false) rfl (fun w9 hS9 => by go_simp) (fun _ _ _ h => h) ?_
                      simp only [Act.put, List.setIfInBounds_toArray, List.set_cons_zero, List.set_cons_succ]
                      refine seqI_nil ?_
                      go_wp2_with fail
                      go_meet
                      exact ⟨rfl, by rw [hk1]; rfl, rfl⟩
                  · have hk1 : 0 < i := by omega
                    have hk2 : decide (0 < i) = true := decide_eq_true hk1
                    have p0 := HPV2.out hk1
                    have kq : ((i : Int) - 1).toNat = i - 1 := by omega
                    have kr : 0 ≤ (i : Int) - 1 := by omega
                    have ks : (i : Int) - 1 < n := by omega
                    have kw : IntKind.i64.wrap ((i : Int) - 1) = (i : Int) - 1 := IntWalk.i64_in _ (by omega)
                    as_aux_lemma =>
                      refine region_seqI (S := (fun (w9 : World) => w9.cell? ⟨wo.heap.size, 0, none⟩ = some (.string ⟨(x :: xs).toArray⟩) ∧ w9.cell? ⟨b, off + (i - 1) * 4, none⟩ = some (.string ⟨p.code.toArray⟩))) [(true, 0), (true, 1), (true, 2), (true, 3), (true, 4), (true, 5), (true, 6), (true, 7), (true, 8), (true, 9), (true, 10), (true, 11), (true, 12), (true, 13)] (by kernel_rfl) (by kernel_rfl) rfl (by kernel_rfl) ⟨D0, p0⟩ ?_
                      simp only [seqOps, List.getD_cons_zero, List.getD_cons_succ]
                      refine seqI_take (v := .int .i64 i) rfl (fun w9 hS9 => by obtain ⟨s0, s1⟩ := hS9; go_simp) (fun _ _ _ h => h) ?_
                      simp only [Act.put, List.setIfInBounds_toArray, List.set_cons_zero, List.set_cons_succ]
                      refine seqI_take (v := .bool true) rfl (fun w9 hS9 => by obtain ⟨s0, s1⟩ := hS9; go_simp) (fun _ _ _ h => h) ?_
                      simp only [Act.put, List.setIfInBounds_toArray, List.set_cons_zero, List.set_cons_succ]
                      refine seqI_take (v := .bool true) rfl (fun w9 hS9 => by obtain ⟨s0, s1⟩ := hS9; go_simp) (fun _ _ _ h => h) ?_
                      simp only [Act.put, List.setIfInBounds_toArray, List.set_cons_zero, List.set_cons_succ]
                      refine seqI_take (v := .pointer (some ⟨wo.heap.size, 0, none⟩)) rfl (fun w9 hS9 => by obtain ⟨s0, s1⟩ := hS9; go_simp) (fun _ _ _ h => h) ?_
                      simp only [Act.put, List.setIfInBounds_toArray, List.set_cons_zero, List.set_cons_succ]
                      refine seqI_take (v := .string ⟨(x :: xs).toArray⟩) rfl (fun w9 hS9 => by obtain ⟨s0, s1⟩ := hS9; go_simp) (fun _ _ _ h => h) ?_
                      simp only [Act.put, List.setIfInBounds_toArray, List.set_cons_zero, List.set_cons_succ]
                      refine seqI_take (v := .slice (some ⟨b, off, none⟩) n cap) rfl (fun w9 hS9 => by obtain ⟨s0, s1⟩ := hS9; go_simp) (fun _ _ _ h => h) ?_
                      simp only [Act.put, List.setIfInBounds_toArray, List.set_cons_zero, List.set_cons_succ]
                      refine seqI_take (v := .int .i64 i) rfl (fun w9 hS9 => by obtain ⟨s0, s1⟩ := hS9; go_simp) (fun _ _ _ h => h) ?_
                      simp only [Act.put, List.setIfInBounds_toArray, List.set_cons_zero, List.set_cons_succ]
                      refine seqI_take (v := .int .i64 ((i : Int) - 1)) rfl (fun w9 hS9 => by obtain ⟨s0, s1⟩ := hS9; go_simp) (fun _ _ _ h => h) ?_
                      simp only [Act.put, List.setIfInBounds_toArray, List.set_cons_zero, List.set_cons_succ]
                      refine seqI_take (v := .pointer (some ⟨b, off + (i - 1) * 4, none⟩)) rfl (fun w9 hS9 => by obtain ⟨s0, s1⟩ := hS9; (go_simp; intro h9; exfalso; omega)) (fun _ _ _ h => h) ?_
                      simp only [Act.put, List.setIfInBounds_toArray, List.set_cons_zero, List.set_cons_succ]
                      refine seqI_take (v := .pointer (some ⟨b, off + (i - 1) * 4, none⟩)) rfl (fun w9 hS9 => by obtain ⟨s0, s1⟩ := hS9; go_simp) (fun _ _ _ h => h) ?_
                      simp only [Act.put, List.setIfInBounds_toArray, List.set_cons_zero, List.set_cons_succ]
                      refine seqI_take (v := .string ⟨p.code.toArray⟩) rfl (fun w9 hS9 => by obtain ⟨s0, s1⟩ := hS9; go_simp) (fun _ _ _ h => h) ?_
                      simp only [Act.put, List.setIfInBounds_toArray, List.set_cons_zero, List.set_cons_succ]
                      refine seqI_take (v := .bool (leS (x :: xs) p.code)) rfl (fun w9 hS9 => by obtain ⟨s0, s1⟩ := hS9; (go_simp; rfl)) (fun _ _ _ h => h) ?_
                      simp only [Act.put, List.setIfInBounds_toArray, List.set_cons_zero, List.set_cons_succ]
                      refine seqI_take (v := .bool (leS (x :: xs) p.code)) rfl (fun w9 hS9 => by obtain ⟨s0, s1⟩ := hS9; go_simp) (fun _ _ _ h => h) ?_
                      simp only [Act.put, List.setIfInBounds_toArray, List.set_cons_zero, List.set_cons_succ]
                      refine seqI_take (v := .bool (leS (x :: xs) p.code)) rfl (fun w9 hS9 => by obtain ⟨s0, s1⟩ := hS9; go_simp) (fun _ _ _ h => h) ?_
                      simp only [Act.put, List.setIfInBounds_toArray, List.set_cons_zero, List.set_cons_succ]
                      refine seqI_nil ?_
                      go_wp2_with fail
                      go_meet
                      exact ⟨rfl, by rw [hk2]; rfl, rfl⟩
                case rest =>
                  obtain ⟨rfl, rfl, HM⟩ := hcut
                  obtain ⟨W, rfl⟩ : ∃ W : World, W = wc := ⟨_, rfl⟩
                  have hW := HM.out
                  have HBN : Hid (Below w.heap.size w W) := by show Below _ _ _; rw [hW]; exact ext_drew HB2.out
                  have HBO : Hid (Below wo.heap.size wo W) := by show Below _ _ _; rw [hW]; exact ext_drew HBO2.out
                  have hzW : wo.heap.size < W.heap.size := by rw [hW]; exact hzz
                  have D0' : W.cell? ⟨wo.heap.size, 0, none⟩ = some (.string ⟨(x :: xs).toArray⟩) := by rw [hW]; exact D0
                  have D1' : W.cell? ⟨wo.heap.size, 1, none⟩ = some (.string ⟨abroad.toArray⟩) := by rw [hW]; exact D1
                  have D2' : W.cell? ⟨wo.heap.size, 2, none⟩ = some (.string ⟨trunk.toArray⟩) := by rw [hW]; exact D2
                  have D3' : W.cell? ⟨wo.heap.size, 3, none⟩ = some (.slice aa an ac) := by rw [hW]; exact D3
                  clear hW HM D0 D1 D2 D3 HPV2 HB2 HBO2 hzz hzb y1 q0
                  generalize (decide (0 < i) && leS (x :: xs) p.code) = g4 at HD4 ⊢
                  as_aux_lemma =>
                    cases g4
                    · have HD5 : Hid (E1 = if ((l.take i).any fun d => Lib.hasPrefix (x :: xs) d.code) = true then 13 else if digitsB abroad 1 4 = false then 3 else if digitsB trunk 0 2 = false then 3 else if Lib.hasPrefix trunk abroad = true then 3 else if 300 < an then 2 else 0) := HD4.out
                      clear HD4
                      have kc : (i : Int) ≤ cap := by omega
                      have HCON := Lib.hid (Tryz.slices_hasC Ctry.cells (fun _ => rfl) (fun y => Lib.hasPrefix (x :: xs) y.code) 120 #[.pointer (some ⟨wo.heap.size, 0, none⟩)] (enters_of Tryz.func120 (by kernel_rfl) rfl) b off i cap l W (fault1_pred (x :: xs) wo.heap.size W hzW D0') (by have := HLEN.out; omega) (by omega) (Nat.lt_of_lt_of_le hb HBO.out.size) (fun j hj q v hv => (HBO.out.cell (p := ⟨b, off + j * 4 + q, none⟩) hb).trans (HENC.out j hj q v hv)))
                      generalize ((l.take i).any fun d => Lib.hasPrefix (x :: xs) d.code) = g5 at HD5 HCON
                      as_aux_lemma =>
                        go_wp2_with fail
                        refine HCON.out.mono ?_
                        rintro e W3 ⟨rfl, hb3⟩
                        have HBR : Hid (Below w.heap.size w W3) := ext_trans HBN.out hb3
                        have HBO3 : Hid (Below wo.heap.size wo W3) := ext_trans HBO.out hb3
                        have hzr : wo.heap.size < W3.heap.size := Nat.lt_of_lt_of_le hzW hb3.size
                        have E0 := (hb3.cell (p := ⟨wo.heap.size, 0, none⟩) hzW).trans D0'
                        have E1' := (hb3.cell (p := ⟨wo.heap.size, 1, none⟩) hzW).trans D1'
                        have E2 := (hb3.cell (p := ⟨wo.heap.size, 2, none⟩) hzW).trans D2'
                        have E3 := (hb3.cell (p := ⟨wo.heap.size, 3, none⟩) hzW).trans D3'
                        clear D0' D1' D2' D3' hb3 HCON HBN HBO
                        cases g5
                        · have HD6 : Hid (E1 = if digitsB abroad 1 4 = false then 3 else if digitsB trunk 0 2 = false then 3 else if Lib.hasPrefix trunk abroad = true then 3 else if 300 < an then 2 else 0) := HD5.out
                          clear HD5
                          as_aux_lemma =>
                            go_wp2_with fail
                            refine (digital_l abroad 1 4 _ (by omega)).mono ?_
                            rintro e W4 ⟨rfl, hb4⟩
                            have HB4 : Hid (Below w.heap.size w W4) := ext_trans HBR.out hb4
                            have HBO4 : Hid (Below wo.heap.size wo W4) := ext_trans HBO3.out hb4
                            have hz4 : wo.heap.size < W4.heap.size := Nat.lt_of_lt_of_le hzr hb4.size
                            have F0 := (hb4.cell (p := ⟨wo.heap.size, 0, none⟩) hzr).trans E0
                            have F1 := (hb4.cell (p := ⟨wo.heap.size, 1, none⟩) hzr).trans E1'
                            have F2 := (hb4.cell (p := ⟨wo.heap.size, 2, none⟩) hzr).trans E2
                            have F3 := (hb4.cell (p := ⟨wo.heap.size, 3, none⟩) hzr).trans E3
                            clear E0 E1' E2 E3 hb4 HBR HBO3
                            generalize digitsB abroad 1 4 = g5 at HD6 ⊢
                            as_aux_lemma =>
                              cases g5
                              · have HF : Hid (R = 3) := HX.out 3 HD6.out (by decide)
                                go_wp2_with fail
                                go_ret
                                exact ⟨by rw [HF.out]; rfl, HB4.out⟩
                              · have HD7 : Hid (E1 = if digitsB trunk 0 2 = false then 3 else if Lib.hasPrefix trunk abroad = true then 3 else if 300 < an then 2 else 0) := HD6.out
                                clear HD6
                                as_aux_lemma =>
                                  go_wp2_with fail
                                  refine (digital_l trunk 0 2 _ (by omega)).mono ?_
                                  rintro e W5 ⟨rfl, hb5⟩
                                  have HB5 : Hid (Below w.heap.size w W5) := ext_trans HB4.out hb5
                                  have HBO5 : Hid (Below wo.heap.size wo W5) := ext_trans HBO4.out hb5
                                  have hz5 : wo.heap.size < W5.heap.size := Nat.lt_of_lt_of_le hz4 hb5.size
                                  have G0 := (hb5.cell (p := ⟨wo.heap.size, 0, none⟩) hz4).trans F0
                                  have G1 := (hb5.cell (p := ⟨wo.heap.size, 1, none⟩) hz4).trans F1
                                  have G2 := (hb5.cell (p := ⟨wo.heap.size, 2, none⟩) hz4).trans F2
                                  have G3 := (hb5.cell (p := ⟨wo.heap.size, 3, none⟩) hz4).trans F3
                                  clear F0 F1 F2 F3 hb5 HB4 HBO4
                                  generalize digitsB trunk 0 2 = g6 at HD7 ⊢
                                  cases g6
                                  · have HF : Hid (R = 3) := HX.out 3 HD7.out (by decide)
                                    as_aux_lemma =>
                                      go_wp2_with fail
                                      go_ret
                                      exact ⟨by rw [HF.out]; rfl, HB5.out⟩
                                  · have HD8 : Hid (E1 = if Lib.hasPrefix trunk abroad = true then 3 else if 300 < an then 2 else 0) := HD7.out
                                    clear HD7
                                    as_aux_lemma =>
                                      go_wp2_with fail
                                      refine (hasPrefix_l trunk abroad _).mono ?_
                                      rintro e w' ⟨rfl, rfl⟩
                                      generalize Lib.hasPrefix trunk abroad = g7 at HD8 ⊢
                                      cases g7
                                      · by_cases h300 : 300 < an
                                        · have HF : Hid (R = 2) := HX.out 2 (by rw [HD8.out]; exact if_pos h300) (by decide)
                                          as_aux_lemma =>
                                            go_wp2_with fail
                                            go_ret
                                            exact ⟨by rw [HF.out]; rfl, HB5.out⟩
                                        · have HPF : Hid (PE = firstErr (areaErr ⟨x :: xs, abroad, trunk, aa, an, ac, areas⟩) an) := by
                                            show _ = _
                                            rw [HZ.out (by rw [HD8.out]; exact if_neg h300)]
                                            show firstErr _ areas.length = _
                                            rw [show an = areas.length from HFI.out.row.len]
                                          clear HD8 HX HZ
                                          have HF5 : Hid (CtryFine W5 ⟨x :: xs, abroad, trunk, aa, an, ac, areas⟩) := HFI.out.below HBO5.out
                                          clear HFI HENC HBO5 hlen
                                          generalize x :: xs = code at HPF HF5 G0 hcode ⊢
                                          as_aux_lemma =>
                                            go_wp2_with fail
                                            go_loopw [75] (fun it wq => ∃ j : Nat, j ≤ an ∧ it = .int .i64 j ∧ Hid (Below W5.heap.size W5 wq) ∧ Hid (∀ j9, j9 < j → areaErr ⟨code, abroad, trunk, aa, an, ac, areas⟩ j9 = 0)) (fun it _ => an - (intOf it).toNat)
                                            case atStart => exact ⟨0, Nat.zero_le _, rfl, Below.refl _ _, fun j hj => absurd hj (by omega)⟩
                                            case round =>
                                              obtain ⟨j, hj, rfl, HBQ, HNQ⟩ := hrel
                                              have hzq : wo.heap.size < wr.heap.size := Nat.lt_of_lt_of_le hz5 HBQ.out.size
                                              have e0 := (HBQ.out.cell (p := ⟨wo.heap.size, 0, none⟩) hz5).trans G0
                                              have e1 := (HBQ.out.cell (p := ⟨wo.heap.size, 1, none⟩) hz5).trans G1
                                              have e2 := (HBQ.out.cell (p := ⟨wo.heap.size, 2, none⟩) hz5).trans G2
                                              have e3 := (HBQ.out.cell (p := ⟨wo.heap.size, 3, none⟩) hz5).trans G3
                                              clear G0 G1 G2 G3
                                              as_aux_lemma =>
                                                by_cases hlj : j < an
                                                · rcases HF5.out.row.row with h0 | ⟨ab, ao, haa, hab, hac⟩
                                                  · have h1 : an = 0 := h0
                                                    omega
                                                  have haa' : aa = some ⟨ab, ao, none⟩ := haa
                                                  subst haa'
                                                  have hjl : j < areas.length := by rw [← show an = areas.length from HF5.out.row.len]; exact hlj
                                                  obtain ⟨a0, a1, a2⟩ := area_cells (fun q hq => (HBQ.out.cell (p := ⟨ab, ao + j * 3 + q, none⟩) hab).trans (hac j hlj q hq))
                                                  have HPV : Hid (0 < j → wr.cell? ⟨ab, ao + (j - 1) * 3, none⟩ = some (.string ⟨(areas.getD (j - 1) noArea).pre.toArray⟩)) := fun h9 => (HBQ.out.cell (p := ⟨ab, ao + (j - 1) * 3, none⟩) hab).trans (area_cells (hac (j - 1) (show j - 1 < an by omega))).1
                                                  have HAF : AreaFine (areas.getD j noArea) := HF5.out.each j hjl
                                                  have HDEF : Hid (areaErr ⟨code, abroad, trunk, some ⟨ab, ao, none⟩, an, ac, areas⟩ j = areaErrOf ⟨code, abroad, trunk, some ⟨ab, ao, none⟩, an, ac, areas⟩ j (areas.getD j noArea) (areas.getD (j - 1) noArea)) := rfl
                                                  have HFA : Hid (∀ v, areaErr ⟨code, abroad, trunk, some ⟨ab, ao, none⟩, an, ac, areas⟩ j = v → v ≠ 0 → R = v) := fun v h1 h2 => by
                                                    have h3 : PE = v := by rw [HPF.out, first_some HNQ.out hlj (by rw [h1]; exact h2), h1]
                                                    rw [HFE.out (by rw [h3]; exact h2), h3]
                                                  have HSA : Hid (areaErr ⟨code, abroad, trunk, some ⟨ab, ao, none⟩, an, ac, areas⟩ j = 0 → ∀ j9, j9 < j + 1 → areaErr ⟨code, abroad, trunk, some ⟨ab, ao, none⟩, an, ac, areas⟩ j9 = 0) := fun h9 j9 hj9 => by
                                                    rcases Nat.lt_or_eq_of_le (Nat.lt_succ_iff.1 hj9) with h | h
                                                    · exact HNQ.out j9 h
                                                    · subst h; exact h9
                                                  generalize areaErr ⟨code, abroad, trunk, some ⟨ab, ao, none⟩, an, ac, areas⟩ j = E2 at HDEF HFA HSA
                                                  generalize areas.getD j noArea = y at a0 a1 a2 HAF HDEF
                                                  generalize areas.getD (j - 1) noArea = pp at HPV HDEF
                                                  obtain ⟨pre, low, high⟩ := y
                                                  obtain ⟨f1, f2, f3, f4, f5⟩ := HAF
                                                  simp only at a0 a1 a2 f1 f2 f3 f4 f5
                                                  have hzab : ab < wr.heap.size := Nat.lt_of_lt_of_le hab HBQ.out.size
                                                  clear hac hjl haa HPF HFE HST
                                                  as_aux_lemma =>
                                                    go_wp2_with fail
                                                    rw [cat_str]
                                                    refine (digital_l pre 1 8 _ (by omega)).mono ?_
                                                    rintro e w2 ⟨rfl, hb2⟩
                                                    obtain ⟨qc, qf⟩ := bcell hb2
                                                    have HBQ2 : Hid (Below W5.heap.size W5 w2) := ext_trans (ext_alloc HBQ.out) hb2
                                                    have hzA : wr.heap.size < w2.heap.size := by have := hb2.size; simp at this; omega
                                                    have K0 : w2.cell? ⟨wo.heap.size, 0, none⟩ = some (.string ⟨code.toArray⟩) := (qc _ 0 (by simp; omega)).trans (by go_simp)
                                                    have K1 : w2.cell? ⟨wo.heap.size, 1, none⟩ = some (.string ⟨abroad.toArray⟩) := (qc _ 1 (by simp; omega)).trans (by go_simp)
                                                    have K3 : w2.cell? ⟨wo.heap.size, 3, none⟩ = some (.slice (some ⟨ab, ao, none⟩) an ac) := (qc _ 3 (by simp; omega)).trans (by go_simp)
                                                    have L0 : w2.cell? ⟨wr.heap.size, 0, none⟩ = some (.string ⟨pre.toArray⟩) := (qc _ 0 (by simp)).trans (by go_simp)
                                                    have L1 : w2.cell? ⟨wr.heap.size, 1, none⟩ = some (.int .i64 low) := (qc _ 1 (by simp)).trans (by go_simp)
                                                    have L2 : w2.cell? ⟨wr.heap.size, 2, none⟩ = some (.int .i64 high) := (qc _ 2 (by simp)).trans (by go_simp)
                                                    have HPV2 : Hid (0 < j → w2.cell? ⟨ab, ao + (j - 1) * 3, none⟩ = some (.string ⟨pp.pre.toArray⟩)) := fun h9 => ((ext_trans (ext_alloc (Below.refl _ _)) hb2).cell (p := ⟨ab, ao + (j - 1) * 3, none⟩) hzab).trans (HPV.out h9)
                                                    have HD2 : Hid (E2 = if digitsB pre 1 8 = false then 3 else if (decide (0 < j) && leS pre pp.pre) = true then 7 else if ((decide (0 < j) && Lib.hasPrefix pre pp.pre) || (Lib.hasPrefix (trunk ++ pre) abroad || Lib.hasPrefix abroad (trunk ++ pre))) = true then 13 else if areaBad code pre low high = true then 1 else 0) := HDEF.out
                                                    clear qc qf hb2 e0 e1 e2 e3 a0 a1 a2 HPV HDEF HBQ
                                                    generalize digitsB pre 1 8 = g1 at HD2 ⊢
                                                    as_aux_lemma =>
                                                      cases g1
                                                      · have HF : Hid (R = 3) := HFA.out 3 HD2.out (by decide)
                                                        as_aux_lemma =>
                                                          go_wp2_with fail
                                                          go_ret
                                                          exact ⟨by rw [HF.out]; rfl, ext_trans HB5.out HBQ2.out⟩
                                                      · have HD3 : Hid (E2 = if (decide (0 < j) && leS pre pp.pre) = true then 7 else if ((decide (0 < j) && Lib.hasPrefix pre pp.pre) || (Lib.hasPrefix (trunk ++ pre) abroad || Lib.hasPrefix abroad (trunk ++ pre))) = true then 13 else if areaBad code pre low high = true then 1 else 0) := HD2.out
                                                        clear HD2
                                                        go_upto_region 22 with (fail)
                                                        go_cut [75, 90] from 75 to 160 (fun s75 s90 wx => s75 = .int .i64 j ∧ s90 = .bool (decide (0 < j) && leS pre pp.pre) ∧ Hid (wx = w2.drew))
                                                        case first =>
                                                          by_cases hi0 : j = 0
                                                          · have hk1 : decide (0 < j) = false := decide_eq_false (by omega)
                                                            clear hi0
                                                            as_aux_lemma =>
                                                              refine region_seqI (S := (fun _ => True)) [(true, 0), (true, 1), (true, 2), (true, 3), (true, 4), (true, 5), (true, 6), (true, 7), (true, 8), (true, 9), (true, 10), (true, 11), (true, 12), (true, 13), (true, 14)] (by kernel_rfl) (by kernel_rfl) rfl (by kernel_rfl) trivial ?_
                                                              simp only [seqOps, List.getD_cons_zero, List.getD_cons_succ]
                                                              refine seqI_take (v := .int .i64 j) rfl (fun w9 hS9 => by go_simp) (fun _ _ _ h => h) ?_
                                                              simp only [Act.put, List.setIfInBounds_toArray, List.set_cons_zero, List.set_cons_succ]
                                                              refine seqI_take (v := .bool false) rfl (fun w9 hS9 => by go_simp) (fun _ _ _ h => h) ?_
                                                              simp only [Act.put, List.setIfInBounds_toArray, List.set_cons_zero, List.set_cons_succ]
                                                              refine seqI_take (v := .bool false) rfl (fun w9 hS9 => by go_simp) (fun _ _ _ h => h) ?_
                                                              simp only [Act.put, List.setIfInBounds_toArray, List.set_cons_zero, List.set_cons_succ]
                                                              refine seqI_skip rfl (fun _ _ _ h => h) ?_
                                                              simp only [Act.put, List.setIfInBounds_toArray, List.set_cons_zero, List.set_cons_succ]
                                                              refine seqI_skip rfl (fun _ _ _ h => h) ?_
                                                              simp only [Act.put, List.setIfInBounds_toArray, List.set_cons_zero, List.set_cons_succ]
                                                              refine seqI_skip rfl (fun _ _ _ h => h) ?_
                                                              simp only [Act.put, List.setIfInBounds_toArray, List.set_cons_zero, List.set_cons_succ]
                                                              refine seqI_skip rfl (fun _ _ _ h => h) ?_
                                                              simp only [Act.put, List.setIfInBounds_toArray, List.set_cons_zero, List.set_cons_succ]
                                                              refine seqI_skip rfl (fun _ _ _ h => h) ?_
                                                              simp only [Act.put, List.setIfInBounds_toArray, List.set_cons_zero, List.set_cons_succ]
                                                              refine seqI_skip rfl (fun _ _ _ h => h) ?_
                                                              simp only [Act.put, List.setIfInBounds_toArray, List.set_cons_zero, List.set_cons_succ]
                                                              refine seqI_skip rfl (fun _ _ _ h => h) ?_
                                                              simp only [Act.put, List.setIfInBounds_toArray, List.set_cons_zero, List.set_cons_succ]
                                                              refine seqI_skip rfl (fun _ _ _ h => h) ?_
                                                              simp only [Act.put, List.setIfInBounds_toArray, List.set_cons_zero, List.set_cons_succ]
                                                              refine seqI_skip rfl (fun _ _ _ h => h) ?_
                                                              simp only [Act.put, List.setIfInBounds_toArray, List.set_cons_zero, List.set_cons_succ]
                                                              refine seqI_skip rfl (fun _ _ _ h => h) ?_
                                                              simp only [Act.put, List.setIfInBounds_toArray, List.set_cons_zero, List.set_cons_succ]
                                                              refine seqI_take (v := .bool false) rfl (fun w9 hS9 => by go_simp) (fun _ _ _ h => h) ?_
                                                              simp only [Act.put, List.setIfInBounds_toArray, List.set_cons_zero, List.set_cons_succ]
                                                              refine seqI_take (v := .bool false) rfl (fun w9 hS9 => by go_simp) (fun _ _ _ h => h) ?_
                                                              simp only [Act.put, List.setIfInBounds_toArray, List.set_cons_zero, List.set_cons_succ]
                                                              refine seqI_nil ?_
                                                              go_wp2_with fail
                                                              go_meet
                                                              exact ⟨rfl, by rw [hk1]; rfl, rfl⟩
                                                          · have hk1 : 0 < j := by omega
                                                            have hk2 : decide (0 < j) = true := decide_eq_true hk1
                                                            have p0 := HPV2.out hk1
                                                            have kq : ((j : Int) - 1).toNat = j - 1 := by omega
                                                            have kr : 0 ≤ (j : Int) - 1 := by omega
                                                            have ks : (j : Int) - 1 < an := by omega
                                                            have kw : IntKind.i64.wrap ((j : Int) - 1) = (j : Int) - 1 := IntWalk.i64_in _ (by omega)
                                                            as_aux_lemma =>
                                                              refine region_seqI (S := (fun (w9 : World) => w9.cell? ⟨wo.heap.size, 3, none⟩ = some (.slice (some ⟨ab, ao, none⟩) an ac) ∧ w9.cell? ⟨wr.heap.size, 0, none⟩ = some (.string ⟨pre.toArray⟩) ∧ w9.cell? ⟨ab, ao + (j - 1) * 3, none⟩ = some (.string ⟨pp.pre.toArray⟩))) [(true, 0), (true, 1), (true, 2), (true, 3), (true, 4), (true, 5), (true, 6), (true, 7), (true, 8), (true, 9), (true, 10), (true, 11), (true, 12), (true, 13), (true, 14)] (by kernel_rfl) (by kernel_rfl) rfl (by kernel_rfl) ⟨K3, L0, p0⟩ ?_
                                                              simp only [seqOps, List.getD_cons_zero, List.getD_cons_succ]
                                                              refine seqI_take (v := .int .i64 j) rfl (fun w9 hS9 => by obtain ⟨s0, s1, s2⟩ := hS9; go_simp) (fun _ _ _ h => h) ?_
                                                              simp only [Act.put, List.setIfInBounds_toArray, List.set_cons_zero, List.set_cons_succ]
                                                              refine seqI_take (v := .bool true) rfl (fun w9 hS9 => by obtain ⟨s0, s1, s2⟩ := hS9; go_simp) (fun _ _ _ h => h) ?_
                                                              simp only [Act.put, List.setIfInBounds_toArray, List.set_cons_zero, List.set_cons_succ]
                                                              refine seqI_take (v := .bool true) rfl (fun w9 hS9 => by obtain ⟨s0, s1, s2⟩ := hS9; go_simp) (fun _ _ _ h => h) ?_
                                                              simp only [Act.put, List.setIfInBounds_toArray, List.set_cons_zero, List.set_cons_succ]
                                                              refine seqI_take (v := .pointer (some ⟨wr.heap.size, 0, none⟩)) rfl (fun w9 hS9 => by obtain ⟨s0, s1, s2⟩ := hS9; go_simp) (fun _ _ _ h => h) ?_
                                                              simp only [Act.put, List.setIfInBounds_toArray, List.set_cons_zero, List.set_cons_succ]
                                                              refine seqI_take (v := .string ⟨pre.toArray⟩) rfl (fun w9 hS9 => by obtain ⟨s0, s1, s2⟩ := hS9; go_simp) (fun _ _ _ h => h) ?_
                                                              simp only [Act.put, List.setIfInBounds_toArray, List.set_cons_zero, List.set_cons_succ]
                                                              refine seqI_take (v := .pointer (some ⟨wo.heap.size, 3, none⟩)) rfl (fun w9 hS9 => by obtain ⟨s0, s1, s2⟩ := hS9; go_simp) (fun _ _ _ h => h) ?_
                                                              simp only [Act.put, List.setIfInBounds_toArray, List.set_cons_zero, List.set_cons_succ]
                                                              refine seqI_take (v := .slice (some ⟨ab, ao, none⟩) an ac) rfl (fun w9 hS9 => by obtain ⟨s0, s1, s2⟩ := hS9; go_simp) (fun _ _ _ h => h) ?_
                                                              simp only [Act.put, List.setIfInBounds_toArray, List.set_cons_zero, List.set_cons_succ]
                                                              refine seqI_take (v := .int .i64 j) rfl (fun w9 hS9 => by obtain ⟨s0, s1, s2⟩ := hS9; go_simp) (fun _ _ _ h => h) ?_
                                                              simp only [Act.put, List.setIfInBounds_toArray, List.set_cons_zero, List.set_cons_succ]
                                                              refine seqI_take (v := .int .i64 ((j : Int) - 1)) rfl (fun w9 hS9 => by obtain ⟨s0, s1, s2⟩ := hS9; go_simp) (fun _ _ _ h => h) ?_
                                                              simp only [Act.put, List.setIfInBounds_toArray, List.set_cons_zero, List.set_cons_succ]
                                                              refine seqI_take (v := .pointer (some ⟨ab, ao + (j - 1) * 3, none⟩)) rfl (fun w9 hS9 => by obtain ⟨s0, s1, s2⟩ := hS9; (go_simp; intro h9; exfalso; omega)) (fun _ _ _ h => h) ?_
                                                              simp only [Act.put, List.setIfInBounds_toArray, List.set_cons_zero, List.set_cons_succ]
                                                              refine seqI_take (v := .pointer (some ⟨ab, ao + (j - 1) * 3, none⟩)) rfl (fun w9 hS9 => by obtain ⟨s0, s1, s2⟩ := hS9; go_simp) (fun _ _ _ h => h) ?_
                                                              simp only [Act.put, List.setIfInBounds_toArray, List.set_cons_zero, List.set_cons_succ]
                                                              refine seqI_take (v := .string ⟨pp.pre.toArray⟩) rfl (fun w9 hS9 => by obtain ⟨s0, s1, s2⟩ := hS9; go_simp) (fun _ _ _ h => h) ?_
                                                              simp only [Act.put, List.setIfInBounds_toArray, List.set_cons_zero, List.set_cons_succ]
                                                              refine seqI_take (v := .bool (leS pre pp.pre)) rfl (fun w9 hS9 => by obtain ⟨s0, s1, s2⟩ := hS9; (go_simp; rfl)) (fun _ _ _ h => h) ?_
                                                              simp only [Act.put, List.setIfInBounds_toArray, List.set_cons_zero, List.set_cons_succ]
                                                              refine seqI_take (v := .bool (leS pre pp.pre)) rfl (fun w9 hS9 => by obtain ⟨s0, s1, s2⟩ := hS9; go_simp) (fun _ _ _ h => h) ?_
                                                              simp only [Act.put, List.setIfInBounds_toArray, List.set_cons_zero, List.set_cons_succ]
                                                              refine seqI_take (v := .bool (leS pre pp.pre)) rfl (fun w9 hS9 => by obtain ⟨s0, s1, s2⟩ := hS9; go_simp) (fun _ _ _ h => h) ?_
                                                              simp only [Act.put, List.setIfInBounds_toArray, List.set_cons_zero, List.set_cons_succ]
                                                              refine seqI_nil ?_
                                                              go_wp2_with fail
                                                              go_meet
                                                              exact ⟨rfl, by rw [hk2]; rfl, rfl⟩
                                                        case rest =>
                                                          obtain ⟨rfl, rfl, HM⟩ := hcut
                                                          obtain ⟨V, rfl⟩ : ∃ V : World, V = wc := ⟨_, rfl⟩
                                                          have hW := HM.out
                                                          have HBV : Hid (Below W5.heap.size W5 V) := by show Below _ _ _; rw [hW]; exact ext_drew HBQ2.out
                                                          have M0 : V.cell? ⟨wo.heap.size, 0, none⟩ = some (.string ⟨code.toArray⟩) := by rw [hW]; exact K0
                                                          have M1 : V.cell? ⟨wo.heap.size, 1, none⟩ = some (.string ⟨abroad.toArray⟩) := by rw [hW]; exact K1
                                                          have M3 : V.cell? ⟨wo.heap.size, 3, none⟩ = some (.slice (some ⟨ab, ao, none⟩) an ac) := by rw [hW]; exact K3
                                                          have N0 : V.cell? ⟨wr.heap.size, 0, none⟩ = some (.string ⟨pre.toArray⟩) := by rw [hW]; exact L0
                                                          have N1 : V.cell? ⟨wr.heap.size, 1, none⟩ = some (.int .i64 low) := by rw [hW]; exact L1
                                                          have N2 : V.cell? ⟨wr.heap.size, 2, none⟩ = some (.int .i64 high) := by rw [hW]; exact L2
                                                          have HPW : Hid (0 < j → V.cell? ⟨ab, ao + (j - 1) * 3, none⟩ = some (.string ⟨pp.pre.toArray⟩)) := fun h9 => by rw [hW]; exact HPV2.out h9
                                                          clear hW HM K0 K1 K3 L0 L1 L2 HBQ2 HPV2 hzA
                                                          as_aux_lemma =>
                                                            generalize (decide (0 < j) && leS pre pp.pre) = g4 at HD3 ⊢
                                                            cases g4
                                                            · have HD5 : Hid (E2 = if ((decide (0 < j) && Lib.hasPrefix pre pp.pre) || (Lib.hasPrefix (trunk ++ pre) abroad || Lib.hasPrefix abroad (trunk ++ pre))) = true then 13 else if areaBad code pre low high = true then 1 else 0) := HD3.out
                                                              clear HD3
                                                              as_aux_lemma =>
                                                                go_upto_region 24 with (fail)
                                                                go_cut [75, 105] from 75 to 160 (fun s75 s105 wx => s75 = .int .i64 j ∧ s105 = .bool (decide (0 < j) && Lib.hasPrefix pre pp.pre) ∧ Hid (wx = V.drew))
                                                                case first =>
                                                                  by_cases hi0 : j = 0
                                                                  · have hk1 : decide (0 < j) = false := decide_eq_false (by omega)
                                                                    clear hi0
                                                                    as_aux_lemma =>
                                                                      refine region_seqI (S := (fun _ => True)) [(true, 0), (true, 1), (true, 2), (true, 3), (true, 4), (true, 5), (true, 6), (true, 7), (true, 8), (true, 9), (true, 10), (true, 11), (true, 12), (true, 13), (true, 14)] (by kernel_rfl) (by kernel_rfl) rfl (by kernel_rfl) trivial ?_
                                                                      simp only [seqOps, List.getD_cons_zero, List.getD_cons_succ]
                                                                      refine seqI_take (v := .int .i64 j) rfl (fun w9 hS9 => by go_simp) (fun _ _ _ h => h) ?_
                                                                      simp only [Act.put, List.setIfInBounds_toArray, List.set_cons_zero, List.set_cons_succ]
                                                                      refine seqI_take (v := .bool false) rfl (fun w9 hS9 => by go_simp) (fun _ _ _ h => h) ?_
                                                                      simp only [Act.put, List.setIfInBounds_toArray, List.set_cons_zero, List.set_cons_succ]
                                                                      refine seqI_take (v := .bool false) rfl (fun w9 hS9 => by go_simp) (fun _ _ _ h => h) ?_
                                                                      simp only [Act.put, List.setIfInBounds_toArray, List.set_cons_zero, List.set_cons_succ]
                                                                      refine seqI_skip rfl (fun _ _ _ h => h) ?_
                                                                      simp only [Act.put, List.setIfInBounds_toArray, List.set_cons_zero, List.set_cons_succ]
                                                                      refine seqI_skip rfl (fun _ _ _ h => h) ?_
                                                                      simp only [Act.put, List.setIfInBounds_toArray, List.set_cons_zero, List.set_cons_succ]
                                                                      refine seqI_skip rfl (fun _ _ _ h => h) ?_
                                                                      simp only [Act.put, List.setIfInBounds_toArray, List.set_cons_zero, List.set_cons_succ]
                                                                      refine seqI_skip rfl (fun _ _ _ h => h) ?_
                                                                      simp only [Act.put, List.setIfInBounds_toArray, List.set_cons_zero, List.set_cons_succ]
                                                                      refine seqI_skip rfl (fun _ _ _ h => h) ?_
                                                                      simp only [Act.put, List.setIfInBounds_toArray, List.set_cons_zero, List.set_cons_succ]
                                                                      refine seqI_skip rfl (fun _ _ _ h => h) ?_
                                                                      simp only [Act.put, List.setIfInBounds_toArray, List.set_cons_zero, List.set_cons_succ]
                                                                      refine seqI_skip rfl (fun _ _ _ h => h) ?_
                                                                      simp only [Act.put, List.setIfInBounds_toArray, List.set_cons_zero, List.set_cons_succ]
                                                                      refine seqI_skip rfl (fun _ _ _ h => h) ?_
                                                                      simp only [Act.put, List.setIfInBounds_toArray, List.set_cons_zero, List.set_cons_succ]
                                                                      refine seqI_skip rfl (fun _ _ _ h => h) ?_
                                                                      simp only [Act.put, List.setIfInBounds_toArray, List.set_cons_zero, List.set_cons_succ]
                                                                      refine seqI_skip rfl (fun _ _ _ h => h) ?_
                                                                      simp only [Act.put, List.setIfInBounds_toArray, List.set_cons_zero, List.set_cons_succ]
                                                                      refine seqI_take (v := .bool false) rfl (fun w9 hS9 => by go_simp) (fun _ _ _ h => h) ?_
                                                                      simp only [Act.put, List.setIfInBounds_toArray, List.set_cons_zero, List.set_cons_succ]
                                                                      refine seqI_take (v := .bool false) rfl (fun w9 hS9 => by go_simp) (fun _ _ _ h => h) ?_
                                                                      simp only [Act.put, List.setIfInBounds_toArray, List.set_cons_zero, List.set_cons_succ]
                                                                      refine seqI_nil ?_
                                                                      go_wp2_with fail
                                                                      go_meet
                                                                      exact ⟨rfl, by rw [hk1]; rfl, rfl⟩
                                                                  · have hk1 : 0 < j := by omega
                                                                    have hk2 : decide (0 < j) = true := decide_eq_true hk1
                                                                    have p0 := HPW.out hk1
                                                                    have kq : ((j : Int) - 1).toNat = j - 1 := by omega
                                                                    have kr : 0 ≤ (j : Int) - 1 := by omega
                                                                    have ks : (j : Int) - 1 < an := by omega
                                                                    have kw : IntKind.i64.wrap ((j : Int) - 1) = (j : Int) - 1 := IntWalk.i64_in _ (by omega)
                                                                    as_aux_lemma =>
                                                                      refine region_seqI (S := (fun (w9 : World) => w9.cell? ⟨wo.heap.size, 3, none⟩ = some (.slice (some ⟨ab, ao, none⟩) an ac) ∧ w9.cell? ⟨wr.heap.size, 0, none⟩ = some (.string ⟨pre.toArray⟩) ∧ w9.cell? ⟨ab, ao + (j - 1) * 3, none⟩ = some (.string ⟨pp.pre.toArray⟩))) [(true, 0), (true, 1), (true, 2), (true, 3), (true, 4), (true, 5), (true, 6), (true, 7), (true, 8), (true, 9), (true, 10), (true, 11), (false, 12), (true, 13), (true, 14)] (by kernel_rfl) (by kernel_rfl) rfl (by kernel_rfl) ⟨M3, N0, p0⟩ ?_
                                                                      simp only [seqOps, List.getD_cons_zero, List.getD_cons_succ]
                                                                      refine seqI_take (v := .int .i64 j) rfl (fun w9 hS9 => by obtain ⟨s0, s1, s2⟩ := hS9; go_simp) (fun _ _ _ h => h) ?_
                                                                      simp only [Act.put, List.setIfInBounds_toArray, List.set_cons_zero, List.set_cons_succ]
                                                                      refine seqI_take (v := .bool true) rfl (fun w9 hS9 => by obtain ⟨s0, s1, s2⟩ := hS9; go_simp) (fun _ _ _ h => h) ?_
                                                                      simp only [Act.put, List.setIfInBounds_toArray, List.set_cons_zero, List.set_cons_succ]
                                                                      refine seqI_take (v := .bool true) rfl (fun w9 hS9 => by obtain ⟨s0, s1, s2⟩ := hS9; go_simp) (fun _ _ _ h => h) ?_
                                                                      simp only [Act.put, List.setIfInBounds_toArray, List.set_cons_zero, List.set_cons_succ]
                                                                      refine seqI_take (v := .pointer (some ⟨wr.heap.size, 0, none⟩)) rfl (fun w9 hS9 => by obtain ⟨s0, s1, s2⟩ := hS9; go_simp) (fun _ _ _ h => h) ?_
                                                                      simp only [Act.put, List.setIfInBounds_toArray, List.set_cons_zero, List.set_cons_succ]
                                                                      refine seqI_take (v := .string ⟨pre.toArray⟩) rfl (fun w9 hS9 => by obtain ⟨s0, s1, s2⟩ := hS9; go_simp) (fun _ _ _ h => h) ?_
                                                                      simp only [Act.put, List.setIfInBounds_toArray, List.set_cons_zero, List.set_cons_succ]
                                                                      refine seqI_take (v := .pointer (some ⟨wo.heap.size, 3, none⟩)) rfl (fun w9 hS9 => by obtain ⟨s0, s1, s2⟩ := hS9; go_simp) (fun _ _ _ h => h) ?_
                                                                      simp only [Act.put, List.setIfInBounds_toArray, List.set_cons_zero, List.set_cons_succ]
                                                                      refine seqI_take (v := .slice (some ⟨ab, ao, none⟩) an ac) rfl (fun w9 hS9 => by obtain ⟨s0, s1, s2⟩ := hS9; go_simp) (fun _ _ _ h => h) ?_
                                                                      simp only [Act.put, List.setIfInBounds_toArray, List.set_cons_zero, List.set_cons_succ]
                                                                      refine seqI_take (v := .int .i64 j) rfl (fun w9 hS9 => by obtain ⟨s0, s1, s2⟩ := hS9; go_simp) (fun _ _ _ h => h) ?_
                                                                      simp only [Act.put, List.setIfInBounds_toArray, List.set_cons_zero, List.set_cons_succ]
                                                                      refine seqI_take (v := .int .i64 ((j : Int) - 1)) rfl (fun w9 hS9 => by obtain ⟨s0, s1, s2⟩ := hS9; go_simp) (fun _ _ _ h => h) ?_
                                                                      simp only [Act.put, List.setIfInBounds_toArray, List.set_cons_zero, List.set_cons_succ]
                                                                      refine seqI_take (v := .pointer (some ⟨ab, ao + (j - 1) * 3, none⟩)) rfl (fun w9 hS9 => by obtain ⟨s0, s1, s2⟩ := hS9; (go_simp; intro h9; exfalso; omega)) (fun _ _ _ h => h) ?_
                                                                      simp only [Act.put, List.setIfInBounds_toArray, List.set_cons_zero, List.set_cons_succ]
                                                                      refine seqI_take (v := .pointer (some ⟨ab, ao + (j - 1) * 3, none⟩)) rfl (fun w9 hS9 => by obtain ⟨s0, s1, s2⟩ := hS9; go_simp) (fun _ _ _ h => h) ?_
                                                                      simp only [Act.put, List.setIfInBounds_toArray, List.set_cons_zero, List.set_cons_succ]
                                                                      refine seqI_take (v := .string ⟨pp.pre.toArray⟩) rfl (fun w9 hS9 => by obtain ⟨s0, s1, s2⟩ := hS9; go_simp) (fun _ _ _ h => h) ?_
                                                                      simp only [Act.put, List.setIfInBounds_toArray, List.set_cons_zero, List.set_cons_succ]
                                                                      refine seqI_call 121 #[.string ⟨pre.toArray⟩, .string ⟨pp.pre.toArray⟩] rfl (by go_simp) (hasPrefix_l pre pp.pre _) ?_
                                                                      rintro e w9 ⟨rfl, rfl⟩
                                                                      refine ⟨_, rfl, ⟨M3, N0, p0⟩, ?_⟩
                                                                      simp only [Act.put, List.setIfInBounds_toArray, List.set_cons_zero, List.set_cons_succ]
                                                                      refine seqI_take (v := .bool (Lib.hasPrefix pre pp.pre)) rfl (fun w9 hS9 => by obtain ⟨s0, s1, s2⟩ := hS9; go_simp) (fun _ _ _ h => h) ?_
                                                                      simp only [Act.put, List.setIfInBounds_toArray, List.set_cons_zero, List.set_cons_succ]
                                                                      refine seqI_take (v := .bool (Lib.hasPrefix pre pp.pre)) rfl (fun w9 hS9 => by obtain ⟨s0, s1, s2⟩ := hS9; go_simp) (fun _ _ _ h => h) ?_
                                                                      simp only [Act.put, List.setIfInBounds_toArray, List.set_cons_zero, List.set_cons_succ]
                                                                      refine seqI_nil ?_
                                                                      go_wp2_with fail
                                                                      go_meet
                                                                      exact ⟨rfl, by rw [hk2]; rfl, rfl⟩
                                                                case rest =>
                                                                  obtain ⟨rfl, rfl, HM⟩ := hcut
                                                                  obtain ⟨W9, rfl⟩ : ∃ W9 : World, W9 = wc := ⟨_, rfl⟩
                                                                  have hW := HM.out
                                                                  have HB9 : Hid (Below W5.heap.size W5 W9) := by show Below _ _ _; rw [hW]; exact ext_drew HBV.out
                                                                  have Q0 : W9.cell? ⟨wo.heap.size, 0, none⟩ = some (.string ⟨code.toArray⟩) := by rw [hW]; exact M0
                                                                  have Q1 : W9.cell? ⟨wo.heap.size, 1, none⟩ = some (.string ⟨abroad.toArray⟩) := by rw [hW]; exact M1
                                                                  have O0 : W9.cell? ⟨wr.heap.size, 0, none⟩ = some (.string ⟨pre.toArray⟩) := by rw [hW]; exact N0
                                                                  have O1 : W9.cell? ⟨wr.heap.size, 1, none⟩ = some (.int .i64 low) := by rw [hW]; exact N1
                                                                  have O2 : W9.cell? ⟨wr.heap.size, 2, none⟩ = some (.int .i64 high) := by rw [hW]; exact N2
                                                                  clear hW HM M0 M1 M3 N0 N1 N2 HBV
                                                                  have HBF : Hid (Below w.heap.size w W9) := ext_trans HB5.out HB9.out
                                                                  as_aux_lemma =>
                                                                    generalize (decide (0 < j) && Lib.hasPrefix pre pp.pre) = g5 at HD5 ⊢
                                                                    cases g5
                                                                    · have HT : Hid (E2 = if (Lib.hasPrefix (trunk ++ pre) abroad || Lib.hasPrefix abroad (trunk ++ pre)) = true then 13 else if areaBad code pre low high = true then 1 else 0) := HD5.out
                                                                      clear HPW HD5
                                                                      as_aux_lemma =>
                                                                        go_wp2_with fail
                                                                        refine (hasPrefix_l (trunk ++ pre) abroad _).mono ?_
                                                                        rintro e w' ⟨rfl, rfl⟩
                                                                        generalize Lib.hasPrefix (trunk ++ pre) abroad = g2 at HT ⊢
                                                                        as_aux_lemma =>
                                                                          cases g2
                                                                          · go_wp2_with fail
                                                                            refine (hasPrefix_l abroad (trunk ++ pre) _).mono ?_
                                                                            rintro e w' ⟨rfl, rfl⟩
                                                                            generalize Lib.hasPrefix abroad (trunk ++ pre) = g3 at HT ⊢
                                                                            as_aux_lemma =>
                                                                              cases g3
                                                                              · have HT2 : Hid (E2 = if areaBad code pre low high = true then 1 else 0) := HT.out
                                                                                clear HT
                                                                                by_cases k1 : low ≤ (pre.length : Int)
                                                                                · have HF : Hid (R = 1) := HFA.out 1 (by rw [HT2.out, if_pos]; unfold areaBad; rw [decide_eq_true k1]; rfl) (by decide)
                                                                                  as_aux_lemma =>
                                                                                    go_wp2_with fail
                                                                                    go_ret
                                                                                    exact ⟨by rw [HF.out]; rfl, HBF.out⟩
                                                                                · have k1' : decide (low ≤ (pre.length : Int)) = false := decide_eq_false k1
                                                                                  by_cases k2 : high < low
                                                                                  · have HF : Hid (R = 1) := HFA.out 1 (by rw [HT2.out, if_pos]; unfold areaBad; rw [k1', decide_eq_true k2]; rfl) (by decide)
                                                                                    as_aux_lemma =>
                                                                                      go_wp2_with fail
                                                                                      go_ret
                                                                                      exact ⟨by rw [HF.out]; rfl, HBF.out⟩
                                                                                  · have k2' : decide (high < low) = false := decide_eq_false k2
                                                                                    by_cases k3 : 15 < high + (code.length : Int)
                                                                                    · have HF : Hid (R = 1) := HFA.out 1 (by rw [HT2.out, if_pos]; unfold areaBad; rw [k1', k2', decide_eq_true (show 15 - (code.length : Int) < high by omega)]; rfl) (by decide)
                                                                                      as_aux_lemma =>
                                                                                        go_wp2_with fail
                                                                                        go_ret
                                                                                        exact ⟨by rw [HF.out]; rfl, HBF.out⟩
                                                                                    · have k3' : decide (15 - (code.length : Int) < high) = false := decide_eq_false (by omega)
                                                                                      by_cases k4 : low + (code.length : Int) < 4
                                                                                      · have HF : Hid (R = 1) := HFA.out 1 (by rw [HT2.out, if_pos]; unfold areaBad; rw [k1', k2', k3', decide_eq_true (show low < 4 - (code.length : Int) by omega)]; rfl) (by decide)
                                                                                        as_aux_lemma =>
                                                                                          go_wp2_with fail
                                                                                          go_ret
                                                                                          exact ⟨by rw [HF.out]; rfl, HBF.out⟩
                                                                                      · have k4' : decide (low < 4 - (code.length : Int)) = false := decide_eq_false (by omega)
                                                                                        have HF : Hid (E2 = 0) := by show _ = _; rw [HT2.out, if_neg]; unfold areaBad; rw [k1', k2', k3', k4']; simp
                                                                                        as_aux_lemma =>
                                                                                          go_wp2_with fail
                                                                                          go_roundw
                                                                                          case rel => exact ⟨j + 1, by omega, by go_num, HB9.out, HSA.out HF.out⟩
                                                                                          case measure => simp [intOf]; omega
                                                                              · have HF : Hid (R = 13) := HFA.out 13 HT.out (by decide)
                                                                                as_aux_lemma =>
                                                                                  go_wp2_with fail
                                                                                  go_ret
                                                                                  exact ⟨by rw [HF.out]; rfl, HBF.out⟩
                                                                          · have HF : Hid (R = 13) := HFA.out 13 HT.out (by decide)
                                                                            as_aux_lemma =>
                                                                              go_wp2_with fail
                                                                              go_ret
                                                                              exact ⟨by rw [HF.out]; rfl, HBF.out⟩
                                                                    · have HF : Hid (R = 13) := HFA.out 13 HD5.out (by decide)
                                                                      as_aux_lemma =>
                                                                        go_wp2_with fail
                                                                        go_ret
                                                                        exact ⟨by rw [HF.out]; rfl, HBF.out⟩
                                                            · have HF : Hid (R = 7) := HFA.out 7 HD3.out (by decide)
                                                              as_aux_lemma =>
                                                                go_wp2_with fail
                                                                go_ret
                                                                exact ⟨by rw [HF.out]; rfl, ext_trans HB5.out HBV.out⟩
                                                · have hjn : j = an := by omega
                                                  have HPZ : Hid (PE = 0) := HPF.out.trans (first_none (fun j9 h9 => HNQ.out j9 (by omega)))
                                                  as_aux_lemma =>
                                                    go_wp2_with fail
                                                    go_roundw
                                                    case rel => exact ⟨i + 1, by omega, by go_num, ext_trans HB5.out HBQ.out, HST.out HPZ.out⟩
                                                    case measure => simp [intOf]; omega
                                      · have HF : Hid (R = 3) := HX.out 3 HD8.out (by decide)
                                        as_aux_lemma =>
                                          go_wp2_with fail
                                          go_ret
                                          exact ⟨by rw [HF.out]; rfl, HB5.out⟩
                        · have HF : Hid (R = 13) := HX.out 13 HD5.out (by decide)
                          as_aux_lemma =>
                            go_wp2_with fail
                            go_ret
                            exact ⟨by rw [HF.out]; rfl, HBR.out⟩
                    · have HF : Hid (R = 7) := HX.out 7 HD4.out (by decide)
                      as_aux_lemma =>
                        go_wp2_with fail
                        go_ret
                        exact ⟨by rw [HF.out]; rfl, HBN.out⟩
    · have hkn : i = n := by omega
      subst hkn
      have HF : Hid (R = 0) := HD.out.trans (first_none HN.out)
      go_wp2_with fail
      go_ret
      exact ⟨by rw [HF.out]; rfl, HB.out⟩
end Go.Proofs.YtbbbaeenngjldaaGreatDoor

set_option linter.unusedVariables false
set_option linter.unusedSimpArgs false
namespace Go.Proofs.YtbbbaeenngjldaaGreatDoor
open Go.RowKit

theorem range_gen (S k : Nat) (lo hi : Int) (w : World) (h : StreamOk w S k) (hk : k ≤ 1000000000) (h2 : -4611686018427387904 ≤ lo) (h3 : hi ≤ 4611686018427387000) :
    Calls Tryz.prog 38 #[.pointer (some ⟨S, 0, none⟩), .int .i64 lo, .int .i64 hi] w (PickPost S (k + 1) (fun r => lo ≤ r ∧ (r ≤ lo ∨ r ≤ hi)) w) := by
  by_cases hlt : hi < lo
  · have HS := Lib.hid (h.mono (Nat.le_succ _))
    clear h
    go_enter Tryz.func38, Tryz.ntmps38
    go_wp2_with fail
    go_ret
    exact ⟨lo, rfl, ⟨Int.le_refl _, Or.inl (Int.le_refl _)⟩, HS.out, Keeps.refl _ _⟩
  · refine (range_any S k lo hi w h hk (by omega) h2 h3).mono ?_
    rintro e w' ⟨r, rfl, r0, r1, hst, hkp⟩
    exact ⟨r, rfl, ⟨r0, Or.inr r1⟩, hst, hkp⟩

set_option maxRecDepth 100000 in
theorem odd_any (S k : Nat) (lo hi : Int) (w : World) (h : StreamOk w S k) (hk : k ≤ 100000000) (h0 : 0 ≤ lo) (h1 : lo ≤ hi) (h2 : hi ≤ 1000) :
    Calls Tryz.prog 103 #[.pointer (some ⟨S, 0, none⟩), .int .i64 lo, .int .i64 hi] w (PickPost S (k + 2) (fun r => -1099511627776 ≤ r ∧ r ≤ 1099511627776) w) := by
  have HS := Lib.hid h
  have hlt := h.lt
  clear h
  go_enter Tryz.func103, Tryz.ntmps103
  go_wp2_with fail
  refine (flip_any S k 12 _ HS.out (by omega) (by decide) (by decide)).mono ?_
  rintro e w1 ⟨r, rfl, hst, hkp⟩
  have HS1 := Lib.hid hst
  have HK1 := Lib.hid hkp
  have hl1 := hst.lt
  clear hst hkp
  cases r
  · go_wp2_with fail
    refine (range_any S (k + 1) lo hi _ HS1.out (by omega) h1 (by omega) (by omega)).mono ?_
    rintro e w2 ⟨r, rfl, r0, r1, hst2, hkp2⟩
    have HK2 := Lib.hid (HK1.out.trans hkp2)
    have HS2 := Lib.hid hst2
    clear hst2 hkp2
    go_wp2_with fail
    go_ret
    exact ⟨r, rfl, ⟨by omega, by omega⟩, HS2.out, HK2.out⟩
  · go_wp2_with fail
    refine (pick_any S (k + 1) w1.heap.size 6 6 [lo - 1, hi + 1, lo, hi, -1099511627776, 1099511627776] (fun r => -1099511627776 ≤ r ∧ r ≤ 1099511627776) _ (HS1.out.below (ext_alloc (Below.refl _ _))) (by omega) (by simp) (by omega) (by omega) (by omega) (fun i h9 => by match i, h9 with | 0, _ | 1, _ | 2, _ | 3, _ | 4, _ | 5, _ => go_simp) (fun i h9 => by match i, h9 with | 0, _ => exact ⟨by show _ ≤ lo - 1; omega, by show lo - 1 ≤ _; omega⟩ | 1, _ => exact ⟨by show _ ≤ hi + 1; omega, by show hi + 1 ≤ _; omega⟩ | 2, _ => exact ⟨by show _ ≤ lo; omega, by show lo ≤ _; omega⟩ | 3, _ => exact ⟨by show _ ≤ hi; omega, by show hi ≤ _; omega⟩ | 4, _ => exact ⟨by show (-1099511627776 : Int) ≤ -1099511627776; decide, by show (-1099511627776 : Int) ≤ 1099511627776; decide⟩ | 5, _ => exact ⟨by show (-1099511627776 : Int) ≤ 1099511627776; decide, by show (1099511627776 : Int) ≤ 1099511627776; decide⟩)).mono ?_
    rintro e w2 ⟨r, rfl, hr, hst2, hkp2⟩
    have HK2 := Lib.hid ((HK1.out.alloc _).trans hkp2)
    have HS2 := Lib.hid hst2
    have HR := Lib.hid hr
    clear hst2 hkp2 hr
    go_wp2_with fail
    go_ret
    exact ⟨r, rfl, HR.out, HS2.out, HK2.out⟩

set_option maxRecDepth 100000 in
theorem digitRow_any (S k n : Nat) (w : World) (h : StreamOk w S k) (hk : k ≤ 100000000) (hn : n ≤ 1000) :
    Calls Tryz.prog 107 #[.pointer (some ⟨S, 0, none⟩), .int .i64 n] w (SomePost S (k + 1000) (fun r => r.length ≤ n) w) := by
  have HS := Lib.hid h
  clear h
  go_enter Tryz.func107, Tryz.ntmps107
  go_wp2_with fail
  go_loopw [5, 7] (fun v it wr => ∃ (j : Nat) (x : List UInt8), j ≤ n ∧ x.length ≤ j ∧ v = .string ⟨x.toArray⟩ ∧ it = .int .i64 j ∧ Hid (StreamOk wr S (k + j)) ∧ Hid (Keeps S w wr)) (fun _ it _ => n - (intOf it).toNat)
  case atStart => exact ⟨0, [], Nat.zero_le _, Nat.le_refl _, rfl, rfl, HS, Keeps.refl _ _⟩
  case round =>
    obtain ⟨j, x, hj, hx, rfl, rfl, HO, HK⟩ := hrel
    by_cases hlt : j < n
    · have hl := HO.out.lt
      go_wp2_with fail
      refine (some_any S (k + j) wr.heap.size 7 7 [[48], [49], [50], [51], [48], [57], [53]] (fun r => r.length ≤ 1) _ (HO.out.below (ext_alloc (Below.refl _ _))) (by omega) (by simp) (by omega) (by omega) (by omega) (fun i hi => by match i, hi with | 0, _ | 1, _ | 2, _ | 3, _ | 4, _ | 5, _ | 6, _ => go_simp) (fun i hi => by match i, hi with | 0, _ | 1, _ | 2, _ | 3, _ | 4, _ | 5, _ | 6, _ => decide)).mono ?_
      rintro e w2 ⟨r, rfl, hr, hst2, hkp2⟩
      have HK2 := Lib.hid ((HK.out.alloc _).trans hkp2)
      have HS2 := Lib.hid hst2
      clear hst2 hkp2
      go_wp2_with fail
      go_roundw
      case rel => exact ⟨j + 1, x ++ r, by omega, by rw [List.length_append]; omega, by rw [cat_str], by go_num, HS2.out, HK2.out⟩
      case measure => simp [intOf]; omega
    · have hf : Hid (x.length ≤ n) := by show _ ≤ _; omega
      have HS2 := Lib.hid (HO.out.mono (show k + j ≤ k + 1000 by omega))
      go_wp2_with fail
      go_ret
      exact ⟨x, rfl, hf.out, HS2.out, HK.out⟩

/-! ### Plans in memory that may be written -/
/-- Country i of a plan in block P, with its areas in a block of their own. -/
structure CtryAt (S P : Nat) (base : Nat) (w : World) (i : Nat) (c : Ctry) (b : Nat) : Prop where
  cells : ∀ j, j < 4 → w.cell? ⟨P, i * 4 + j, none⟩ = c.cells[j]?
  fine : CtryFine w c
  some : 1 ≤ c.an
  at_ : c.aa = Option.some ⟨b, 0, none⟩
  off : b ≠ S
  offP : b ≠ P
  lt : b < w.heap.size
  new : base ≤ b
  fro : ∀ j, w.frozen? ⟨b, j, none⟩ = false
structure PlanAt (S P : Nat) (base : Nat) (w : World) (l : List Ctry) (bs : List Nat) : Prop where
  len : l.length = 3
  each : ∀ i, i < 3 → CtryAt S P base w i (l.getD i noCtry) (bs.getD i 0)
  offS : P ≠ S
  lt : P < w.heap.size
  new : base ≤ P
  fro : ∀ j, w.frozen? ⟨P, j, none⟩ = false

def areaCells (l : List Area) : List Value := l.flatMap Area.cells
/-- The areas lie in blocks of the call's own, each alone. -/
structure PlanOwn (base : Nat) (w : World) (l : List Ctry) (bs : List Nat) : Prop where
  own : ∀ i, i < 3 → w.ownsRow base 182 3 (.slice (some ⟨bs.getD i 0, 0, none⟩) (l.getD i noCtry).an (l.getD i noCtry).an) (l.getD i noCtry).an (areaCells (l.getD i noCtry).areas)
  alone : ∀ i j, i < 3 → j < 3 → i ≠ j → bs.getD i 0 ≠ bs.getD j 0
  cap : ∀ i, i < 3 → (l.getD i noCtry).ac = (l.getD i noCtry).an
  few : ∀ i, i < 3 → (l.getD i noCtry).an ≤ 3
theorem PlanOwn.keeps {S base : Nat} {w w' : World} {l : List Ctry} {bs : List Nat} (h : PlanOwn base w l bs) (hS : S < base) (hk : Keeps S w w') : PlanOwn base w' l bs :=
  ⟨fun i hi => own_keeps (h.own i hi) hk hS, h.alone, h.cap, h.few⟩

/-- A plan that a stream has handed out. -/
def PlanPost (S k : Nat) (w : World) (e : Ending) (w' : World) : Prop :=
  ∃ (P : Nat) (l : List Ctry), e = .returned (.slice (some ⟨P, 0, none⟩) 3 3) ∧ (∀ w9, Keeps S w' w9 → CtryRow w9 (some ⟨P, 0, none⟩) 3 l) ∧ (∀ i, i < l.length → 1 ≤ (l.getD i noCtry).an) ∧ StreamOk w' S k ∧ Keeps S w w'

theorem AreaRow.keeps {S : Nat} {w w' : World} {b n : Nat} {l : List Area} (h : AreaRow w (some ⟨b, 0, none⟩) n l) (hb : b ≠ S) (hk : Keeps S w w') : AreaRow w' (some ⟨b, 0, none⟩) n l := by
  refine ⟨h.len, h.row.imp id ?_⟩
  rintro ⟨b9, off, ha, hl, hc⟩
  injection ha with ha
  injection ha with e1 e2
  subst e1 e2
  exact ⟨b, 0, rfl, Nat.lt_of_lt_of_le hl hk.size, fun i hi j hj => (hk.cell (p := ⟨b, 0 + i * 3 + j, none⟩) hl hb).trans (hc i hi j hj)⟩
theorem CtryAt.keeps {S P base : Nat} {w w' : World} {i : Nat} {c : Ctry} {b : Nat} (h : CtryAt S P base w i c b) (hP : P < w.heap.size) (hS : P ≠ S) (hk : Keeps S w w') : CtryAt S P base w' i c b :=
  ⟨fun j hj => (hk.cell (p := ⟨P, i * 4 + j, none⟩) hP hS).trans (h.cells j hj), ⟨h.fine.code, h.fine.abroad, h.fine.trunk, h.fine.many, by have := h.fine.row; rw [h.at_] at this ⊢; exact this.keeps h.off hk, h.fine.each⟩, h.some, h.at_, h.off, h.offP, Nat.lt_of_lt_of_le h.lt hk.size, h.new, fun j => (hk.frozen (p := ⟨b, j, none⟩) h.lt h.off).trans (h.fro j)⟩
theorem PlanAt.keeps {S P base : Nat} {w w' : World} {l : List Ctry} {bs : List Nat} (h : PlanAt S P base w l bs) (hk : Keeps S w w') : PlanAt S P base w' l bs :=
  ⟨h.len, fun i hi => (h.each i hi).keeps h.lt h.offS hk, h.offS, Nat.lt_of_lt_of_le h.lt hk.size, h.new, fun j => (hk.frozen (p := ⟨P, j, none⟩) h.lt h.offS).trans (h.fro j)⟩
theorem PlanAt.row {S P base : Nat} {w : World} {l : List Ctry} {bs : List Nat} (h : PlanAt S P base w l bs) : CtryRow w (some ⟨P, 0, none⟩) 3 l :=
  ⟨h.len.symm, by omega, Or.inr ⟨P, 0, rfl, h.lt, fun i hi j hj => by rw [Nat.zero_add]; exact (h.each i hi).cells j hj⟩, fun i hi => (h.each i (by rw [h.len] at hi; exact hi)).fine⟩
theorem PlanAt.post {S P k : Nat} {w w' : World} {l : List Ctry} {bs : List Nat} {base : Nat} (h : PlanAt S P base w' l bs) (hs : StreamOk w' S k) (hk : Keeps S w w') : PlanPost S k w (.returned (.slice (some ⟨P, 0, none⟩) 3 3)) w' :=
  ⟨P, l, rfl, fun w9 h9 => (h.keeps h9).row, fun i hi => (h.each i (by rw [h.len] at hi; exact hi)).some, hs, hk⟩

/-- One area, written out. -/
def ar (p : List UInt8) (lo hi : Int) : Area := ⟨p, lo, hi⟩
theorem area_row2 {w : World} {b : Nat} {x y : Area} (hb : b < w.heap.size) (h : ∀ j v, ((x.cells ++ y.cells) : List Value)[j]? = some v → w.cell? ⟨b, j, none⟩ = some v) : AreaRow w (some ⟨b, 0, none⟩) 2 [x, y] := by
  refine ⟨rfl, Or.inr ⟨b, 0, rfl, hb, fun i hi j hj => ?_⟩⟩
  match i, hi, j, hj with
  | 0, _, 0, _ => exact h 0 _ rfl
  | 0, _, 1, _ => exact h 1 _ rfl
  | 0, _, 2, _ => exact h 2 _ rfl
  | 1, _, 0, _ => exact h 3 _ rfl
  | 1, _, 1, _ => exact h 4 _ rfl
  | 1, _, 2, _ => exact h 5 _ rfl
theorem area_row3 {w : World} {b : Nat} {x y z : Area} (hb : b < w.heap.size) (h : ∀ j v, ((x.cells ++ y.cells ++ z.cells) : List Value)[j]? = some v → w.cell? ⟨b, j, none⟩ = some v) : AreaRow w (some ⟨b, 0, none⟩) 3 [x, y, z] := by
  refine ⟨rfl, Or.inr ⟨b, 0, rfl, hb, fun i hi j hj => ?_⟩⟩
  match i, hi, j, hj with
  | 0, _, 0, _ => exact h 0 _ rfl
  | 0, _, 1, _ => exact h 1 _ rfl
  | 0, _, 2, _ => exact h 2 _ rfl
  | 1, _, 0, _ => exact h 3 _ rfl
  | 1, _, 1, _ => exact h 4 _ rfl
  | 1, _, 2, _ => exact h 5 _ rfl
  | 2, _, 0, _ => exact h 6 _ rfl
  | 2, _, 1, _ => exact h 7 _ rfl
  | 2, _, 2, _ => exact h 8 _ rfl

theorem heap_new (w : World) (o : Obj) : (w.alloc o).heap[w.heap.size]? = some o := by unfold World.alloc; simp
theorem block_cell {w : World} {b : Nat} {cs : Array Value} {t : TypeId} (h : w.heap[b]? = some (.cells cs t)) (j : Nat) : w.cell? ⟨b, j, none⟩ = cs[j]? := by simp [World.cell?, h]
theorem block_fro {w : World} {b : Nat} {cs : Array Value} {t : TypeId} (h : w.heap[b]? = some (.cells cs t)) (j : Nat) : w.frozen? ⟨b, j, none⟩ = false := by simp [World.frozen?, h]

set_option maxRecDepth 100000 in
set_option maxHeartbeats 2000000 in
theorem rightCountries_any (S k : Nat) (w : World) (h : StreamOk w S k) (hk : k ≤ 100000000) :
    Calls Tryz.prog 101 #[.pointer (some ⟨S, 0, none⟩)] w fun e w' => ∃ (P : Nat) (l : List Ctry) (bs : List Nat), e = .returned (.slice (some ⟨P, 0, none⟩) 3 3) ∧ PlanAt S P w.heap.size w' l bs ∧ StreamOk w' S (k + 2) ∧ Keeps S w w' ∧ PlanOwn w.heap.size w' l bs := by
  have HS := Lib.hid h
  have hlt := h.lt
  clear h
  go_enter Tryz.func101, Tryz.ntmps101
  go_wp2_with fail
  refine (some_any S k w.heap.size 3 3 [[49], [49], []] (fun r => r.length ≤ 100) _ (HS.out.below (ext_alloc (Below.refl _ _))) (by omega) (by simp) (by omega) (by omega) (by omega) (fun i hi => by match i, hi with | 0, _ | 1, _ | 2, _ => go_simp) (fun i hi => by match i, hi with | 0, _ | 1, _ | 2, _ => decide)).mono ?_
  rintro e w1 ⟨t1, rfl, hr1, hst1, hkp1⟩
  have HK1 := Lib.hid (((Keeps.refl S w).alloc _).trans hkp1)
  have hlt1 := hst1.lt
  have HS1 := Lib.hid hst1
  have HZ1 : Hid (w.heap.size ≤ w1.heap.size) := HK1.out.size
  clear hst1 hkp1
  as_aux_lemma =>
    go_wp2_with (first | (refine wpList_val rfl (bs_area2 _ _ _ 6 7 rfl _ _ _ _ _ _ rfl rfl) ?_) | (refine wpList_val rfl (bs_area3 _ _ _ 10 11 12 rfl _ _ _ _ _ _ _ _ _ rfl rfl rfl) ?_))
    refine (some_any S (k + 1) (w1.heap.size + 1 + 1) 2 2 [[48, 48], [48]] (fun r => r.length ≤ 100) _ (HS1.out.below (ext_alloc (ext_alloc (ext_alloc (Below.refl _ _))))) (by omega) (by simp) (by omega) (by omega) (by omega) (fun i hi => by match i, hi with | 0, _ | 1, _ => go_simp) (fun i hi => by match i, hi with | 0, _ | 1, _ => decide)).mono ?_
    rintro e w2 ⟨t2, rfl, hr2, hst2, hkp2⟩
    have HK2 := Lib.hid ((((HK1.out.alloc _).alloc _).alloc _).trans hkp2)
    have hz2 : w1.heap.size + 3 ≤ w2.heap.size := by have := hkp2.size; simp at this; omega
    have HA0 : Hid (w2.heap[w1.heap.size]? = some (.cells #[.string ⟨#[50, 48]⟩, .int .i64 3, .int .i64 5, .string ⟨#[57]⟩, .int .i64 4, .int .i64 4] 182)) := (hkp2.block _ (by simp; omega) (by omega)).trans ((Below.heap_alloc _ _ _ (by simp; omega)).trans ((Below.heap_alloc _ _ _ (by simp)).trans (heap_new _ _)))
    have HA1 : Hid (w2.heap[w1.heap.size + 1]? = some (.cells #[.string ⟨#[51, 48]⟩, .int .i64 3, .int .i64 7, .string ⟨#[52]⟩, .int .i64 3, .int .i64 6, .string ⟨#[56, 57]⟩, .int .i64 5, .int .i64 5] 182)) := (hkp2.block _ (by simp) (by omega)).trans ((Below.heap_alloc _ _ _ (by simp)).trans ((show w1.heap.size + 1 = (w1.alloc _).heap.size by simp) ▸ heap_new _ _))
    have HS2 := Lib.hid hst2
    have hlt2 := hst2.lt
    clear hst2 hkp2
    as_aux_lemma =>
      go_wp2_with (first | (refine wpList_val rfl (bs_area2 _ _ _ 18 19 rfl _ _ _ _ _ _ rfl rfl) ?_) | (refine wpList_val rfl (bs_ctry3 _ _ _ 9 14 21 rfl _ _ _ _ _ _ _ _ _ _ _ _ _ _ _ _ _ _ rfl rfl rfl) ?_))
      go_ret
      have hP : (w2.alloc (.cells #[.string ⟨#[49]⟩, .int .i64 2, .int .i64 4, .string ⟨#[50]⟩, .int .i64 5, .int .i64 13] 182)).heap.size = w2.heap.size + 1 := by simp
      refine ⟨w2.heap.size + 1, [⟨[49], [48, 49, 49], t1, some ⟨w1.heap.size, 0, none⟩, 2, 2, [⟨[50, 48], 3, 5⟩, ⟨[57], 4, 4⟩]⟩, ⟨[52, 57], [48, 48], [48], some ⟨w1.heap.size + 1, 0, none⟩, 3, 3, [⟨[51, 48], 3, 7⟩, ⟨[52], 3, 6⟩, ⟨[56, 57], 5, 5⟩]⟩, ⟨[53, 53], t2, [], some ⟨w2.heap.size, 0, none⟩, 2, 2, [⟨[49], 2, 4⟩, ⟨[50], 5, 13⟩]⟩], [w1.heap.size, w1.heap.size + 1, w2.heap.size], rfl, ?_, HS2.out.below (ext_alloc (ext_alloc (Below.refl _ _))), (HK2.out.alloc _).alloc _, ?_⟩
      · skip
        generalize hW9 : (World.alloc (w2.alloc _) _) = W9
        have HP9 : W9.heap[w2.heap.size + 1]? = some (.cells #[.string ⟨#[49]⟩, .string ⟨#[48, 49, 49]⟩, .string ⟨t1.toArray⟩, .slice (some ⟨w1.heap.size, 0, none⟩) 2 2, .string ⟨#[52, 57]⟩, .string ⟨#[48, 48]⟩, .string ⟨#[48]⟩, .slice (some ⟨w1.heap.size + 1, 0, none⟩) 3 3, .string ⟨#[53, 53]⟩, .string ⟨t2.toArray⟩, .string ⟨#[]⟩, .slice (some ⟨w2.heap.size, 0, none⟩) 2 2] 179) := by rw [← hW9, ← hP]; exact heap_new _ _
        have HA0' := (show W9.heap[w1.heap.size]? = _ by rw [← hW9]; exact (Below.heap_alloc _ _ _ (by simp; omega)).trans (Below.heap_alloc _ _ _ (by omega))).trans HA0.out
        have HA1' := (show W9.heap[w1.heap.size + 1]? = _ by rw [← hW9]; exact (Below.heap_alloc _ _ _ (by simp; omega)).trans (Below.heap_alloc _ _ _ (by omega))).trans HA1.out
        have HA2' : W9.heap[w2.heap.size]? = some (.cells #[.string ⟨#[49]⟩, .int .i64 2, .int .i64 4, .string ⟨#[50]⟩, .int .i64 5, .int .i64 13] 182) := by rw [← hW9]; exact (Below.heap_alloc _ _ _ (by simp)).trans (heap_new _ _)
        have hz9 : W9.heap.size = w2.heap.size + 2 := by rw [← hW9]; simp
        have hzw := HZ1.out
        clear hW9
        refine ⟨rfl, fun i hi => ?_, by omega, by omega, by omega, block_fro HP9⟩
        match i, hi with
        | 0, _ =>
          show CtryAt S (w2.heap.size + 1) w.heap.size W9 0 ⟨[49], [48, 49, 49], t1, some ⟨w1.heap.size, 0, none⟩, 2, 2, [⟨[50, 48], 3, 5⟩, ⟨[57], 4, 4⟩]⟩ w1.heap.size
          exact ⟨fun j hj => by match j, hj with | 0, _ => exact block_cell HP9 0 | 1, _ => exact block_cell HP9 1 | 2, _ => exact block_cell HP9 2 | 3, _ => exact block_cell HP9 3, ⟨by dsimp only; decide, by dsimp only; decide, hr1, by dsimp only; decide, area_row2 (by omega) (fun j v hj => by rw [block_cell HA0' j, List.getElem?_toArray]; exact hj), fun i hi => by match i, hi with | 0, _ => exact ⟨by dsimp; decide, by dsimp; decide, by dsimp; decide, by dsimp; decide, by dsimp; decide⟩ | 1, _ => exact ⟨by dsimp; decide, by dsimp; decide, by dsimp; decide, by dsimp; decide, by dsimp; decide⟩⟩, by dsimp only; decide, rfl, by show w1.heap.size ≠ S; omega, by show w1.heap.size ≠ w2.heap.size + 1; omega, by show w1.heap.size < _; omega, by show _ ≤ w1.heap.size; omega, block_fro HA0'⟩
        | 1, _ =>
          show CtryAt S (w2.heap.size + 1) w.heap.size W9 1 ⟨[52, 57], [48, 48], [48], some ⟨w1.heap.size + 1, 0, none⟩, 3, 3, [⟨[51, 48], 3, 7⟩, ⟨[52], 3, 6⟩, ⟨[56, 57], 5, 5⟩]⟩ (w1.heap.size + 1)
          exact ⟨fun j hj => by match j, hj with | 0, _ => exact block_cell HP9 4 | 1, _ => exact block_cell HP9 5 | 2, _ => exact block_cell HP9 6 | 3, _ => exact block_cell HP9 7, ⟨by dsimp only; decide, by dsimp only; decide, by dsimp only; decide, by dsimp only; decide, area_row3 (by omega) (fun j v hj => by rw [block_cell HA1' j, List.getElem?_toArray]; exact hj), fun i hi => by match i, hi with | 0, _ => exact ⟨by dsimp; decide, by dsimp; decide, by dsimp; decide, by dsimp; decide, by dsimp; decide⟩ | 1, _ => exact ⟨by dsimp; decide, by dsimp; decide, by dsimp; decide, by dsimp; decide, by dsimp; decide⟩ | 2, _ => exact ⟨by dsimp; decide, by dsimp; decide, by dsimp; decide, by dsimp; decide, by dsimp; decide⟩⟩, by dsimp only; decide, rfl, by show w1.heap.size + 1 ≠ S; omega, by show w1.heap.size + 1 ≠ w2.heap.size + 1; omega, by show w1.heap.size + 1 < _; omega, by show _ ≤ w1.heap.size + 1; omega, block_fro HA1'⟩
        | 2, _ =>
          show CtryAt S (w2.heap.size + 1) w.heap.size W9 2 ⟨[53, 53], t2, [], some ⟨w2.heap.size, 0, none⟩, 2, 2, [⟨[49], 2, 4⟩, ⟨[50], 5, 13⟩]⟩ w2.heap.size
          exact ⟨fun j hj => by match j, hj with | 0, _ => exact block_cell HP9 8 | 1, _ => exact block_cell HP9 9 | 2, _ => exact block_cell HP9 10 | 3, _ => exact block_cell HP9 11, ⟨by dsimp only; decide, hr2, by dsimp only; decide, by dsimp only; decide, area_row2 (by omega) (fun j v hj => by rw [block_cell HA2' j, List.getElem?_toArray]; exact hj), fun i hi => by match i, hi with | 0, _ => exact ⟨by dsimp; decide, by dsimp; decide, by dsimp; decide, by dsimp; decide, by dsimp; decide⟩ | 1, _ => exact ⟨by dsimp; decide, by dsimp; decide, by dsimp; decide, by dsimp; decide, by dsimp; decide⟩⟩, by dsimp only; decide, rfl, by show w2.heap.size ≠ S; omega, by show w2.heap.size ≠ w2.heap.size + 1; omega, by show w2.heap.size < _; omega, by show _ ≤ w2.heap.size; omega, block_fro HA2'⟩
      · skip
        generalize hW9 : (World.alloc (w2.alloc _) _) = W9
        have HP9 : W9.heap[w2.heap.size + 1]? = some (.cells #[.string ⟨#[49]⟩, .string ⟨#[48, 49, 49]⟩, .string ⟨t1.toArray⟩, .slice (some ⟨w1.heap.size, 0, none⟩) 2 2, .string ⟨#[52, 57]⟩, .string ⟨#[48, 48]⟩, .string ⟨#[48]⟩, .slice (some ⟨w1.heap.size + 1, 0, none⟩) 3 3, .string ⟨#[53, 53]⟩, .string ⟨t2.toArray⟩, .string ⟨#[]⟩, .slice (some ⟨w2.heap.size, 0, none⟩) 2 2] 179) := by rw [← hW9, ← hP]; exact heap_new _ _
        have HA0' := (show W9.heap[w1.heap.size]? = _ by rw [← hW9]; exact (Below.heap_alloc _ _ _ (by simp; omega)).trans (Below.heap_alloc _ _ _ (by omega))).trans HA0.out
        have HA1' := (show W9.heap[w1.heap.size + 1]? = _ by rw [← hW9]; exact (Below.heap_alloc _ _ _ (by simp; omega)).trans (Below.heap_alloc _ _ _ (by omega))).trans HA1.out
        have HA2' : W9.heap[w2.heap.size]? = some (.cells #[.string ⟨#[49]⟩, .int .i64 2, .int .i64 4, .string ⟨#[50]⟩, .int .i64 5, .int .i64 13] 182) := by rw [← hW9]; exact (Below.heap_alloc _ _ _ (by simp)).trans (heap_new _ _)
        have hz9 : W9.heap.size = w2.heap.size + 2 := by rw [← hW9]; simp
        have hzw := HZ1.out
        clear hW9
        refine ⟨fun i hi => ?_, fun i j hi hj hn => ?_, fun i hi => ?_, fun i hi => ?_⟩
        · match i, hi with
          | 0, _ => exact ⟨rfl, Or.inr ⟨w1.heap.size, 2, _, rfl, by omega, HA0', Nat.le_refl _, by unfold maxLen; omega, rfl, rfl⟩⟩
          | 1, _ => exact ⟨rfl, Or.inr ⟨w1.heap.size + 1, 3, _, rfl, by omega, HA1', Nat.le_refl _, by unfold maxLen; omega, rfl, rfl⟩⟩
          | 2, _ => exact ⟨rfl, Or.inr ⟨w2.heap.size, 2, _, rfl, by omega, HA2', Nat.le_refl _, by unfold maxLen; omega, rfl, rfl⟩⟩
        · match i, hi, j, hj with
          | 0, _, 0, _ | 1, _, 1, _ | 2, _, 2, _ => exact absurd rfl hn
          | 0, _, 1, _ => show w1.heap.size ≠ w1.heap.size + 1; omega
          | 0, _, 2, _ => show w1.heap.size ≠ w2.heap.size; omega
          | 1, _, 0, _ => show w1.heap.size + 1 ≠ w1.heap.size; omega
          | 1, _, 2, _ => show w1.heap.size + 1 ≠ w2.heap.size; omega
          | 2, _, 0, _ => show w2.heap.size ≠ w1.heap.size; omega
          | 2, _, 1, _ => show w2.heap.size ≠ w1.heap.size + 1; omega
        · match i, hi with
          | 0, _ | 1, _ | 2, _ => rfl
        · match i, hi with
          | 0, _ => exact (show 2 ≤ 3 by decide)
          | 1, _ => exact (show 3 ≤ 3 by decide)
          | 2, _ => exact (show 2 ≤ 3 by decide)
end Go.Proofs.YtbbbaeenngjldaaGreatDoor
