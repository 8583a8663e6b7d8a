/- What is proved here: what checkCountry of package number answers. Condition: the plan lies in memory as stated. -/
import Derived.Test.YtbimecknmojnoaaGreatDoorPlanCheck
set_option linter.unusedVariables false
set_option linter.unusedSimpArgs false
namespace Go.Proofs.YtbimecknmojnoaaGreatDoor
open Go.RowKit

theorem any_take {α : Type} (f : α → Bool) (d : α) (l : List α) (k : Nat) (hk : k < l.length) (h : f (l.getD k d) = true) (n : Nat) (hn : k < n) : (l.take n).any f = true := by
  rw [List.any_eq_true]
  refine ⟨l.getD k d, ?_, h⟩
  rw [List.getD_eq_getElem?_getD, List.getElem?_eq_getElem hk]
  exact List.mem_take_iff_getElem.2 ⟨k, by omega, rfl⟩
theorem not_any_take {α : Type} (f : α → Bool) (d : α) (l : List α) (n : Nat) (hn : n ≤ l.length) (h : ∀ k, k < n → f (l.getD k d) = false) : (l.take n).any f = false := by
  rw [List.any_eq_false]
  intro y hy
  obtain ⟨k, hk, rfl⟩ := List.mem_take_iff_getElem.1 hy
  have := h k (by omega)
  rw [List.getD_eq_getElem?_getD, List.getElem?_eq_getElem (by omega)] at this
  simpa using this

set_option maxRecDepth 100000 in
set_option maxHeartbeats 2000000 in
theorem checkCountry_any (w : World) (a : Option Addr) (n cap : Nat) (l : List Ctry) (hr : CtryRow w a n l) (hcap : n ≤ cap) (i : Nat) (hi : i < n) : Calls Tryz.prog 211 #[.slice a n cap, .int .i64 i] w (ErrPost (ctryErr l i) w) := by
  have hil : i < l.length := by rw [← hr.len]; exact hi
  have hfew := hr.few
  rcases hr.row with h0 | ⟨b, off, haa, hb, hcl⟩
  · omega
  subst haa
  obtain ⟨a0, a1, a2, a3⟩ := ctry_cells (hcl i hi)
  have HPV : Hid (0 < i → w.cell? ⟨b, off + (i - 1) * 4, none⟩ = some (.string ⟨(l.getD (i - 1) noCtry).code.toArray⟩)) := fun h9 => (ctry_cells (hcl (i - 1) (by omega))).1
  have HCL : Hid (∀ k, k < i → w.cell? ⟨b, off + k * 4, none⟩ = some (.string ⟨(l.getD k noCtry).code.toArray⟩) ∧ w.cell? ⟨b, off + k * 4 + 1, none⟩ = some (.string ⟨(l.getD k noCtry).abroad.toArray⟩) ∧ w.cell? ⟨b, off + k * 4 + 2, none⟩ = some (.string ⟨(l.getD k noCtry).trunk.toArray⟩) ∧ w.cell? ⟨b, off + k * 4 + 3, none⟩ = some (.slice (l.getD k noCtry).aa (l.getD k noCtry).an (l.getD k noCtry).ac)) := fun k hk => ctry_cells (hcl k (by omega))
  have HIL := Lib.hid (Nat.le_of_lt hil)
  obtain ⟨hcode, habr, htr, hmany, -, -⟩ := hr.each i hil
  have HDEF : Hid (ctryErr l i = ctryErrOf l i (l.getD i noCtry) (l.getD (i - 1) noCtry)) := rfl
  generalize ctryErr l i = R at HDEF ⊢
  generalize l.getD i noCtry = c at a0 a1 a2 a3 HDEF hcode habr htr hmany
  generalize l.getD (i - 1) noCtry = p at HPV HDEF
  obtain ⟨code, abroad, trunk, aa, an, ac, areas⟩ := c
  simp only at hcode habr htr hmany a0 a1 a2 a3
  clear hcl hil hr
  go_enter Tryz.func211, Tryz.ntmps211
  go_wp2_with fail
  refine (digitsOf_l code 1 3 _ (by omega)).mono ?_
  rintro e w2 ⟨rfl, hb2⟩
  have HB2 : Hid (Below w.heap.size w w2) := ext_trans (ext_alloc (Below.refl _ _)) hb2
  have hzz : w.heap.size < w2.heap.size := by have := hb2.size; simp at this; omega
  obtain ⟨qc, qf⟩ := bcell hb2
  have D0 : w2.cell? ⟨w.heap.size, 0, none⟩ = some (.string ⟨code.toArray⟩) := (qc _ 0 (by simp)).trans (by go_simp)
  have D1 : w2.cell? ⟨w.heap.size, 1, none⟩ = some (.string ⟨abroad.toArray⟩) := (qc _ 1 (by simp)).trans (by go_simp)
  have D2 : w2.cell? ⟨w.heap.size, 2, none⟩ = some (.string ⟨trunk.toArray⟩) := (qc _ 2 (by simp)).trans (by go_simp)
  have D3 : w2.cell? ⟨w.heap.size, 3, none⟩ = some (.slice aa an ac) := (qc _ 3 (by simp)).trans (by go_simp)
  have hzb : b < w2.heap.size := Nat.lt_of_lt_of_le hb HB2.out.size
  have HPV2 : Hid (0 < i → w2.cell? ⟨b, off + (i - 1) * 4, none⟩ = some (.string ⟨p.code.toArray⟩)) := fun h9 => (HB2.out.cell (p := ⟨b, off + (i - 1) * 4, none⟩) hb).trans (HPV.out h9)
  have HD2 : Hid (R = if digitsB code 1 3 = false then 3 else if (code.headD 0 == 48) = true then 3 else if (decide (0 < i) && leS code p.code) = true then 7 else if ((l.take i).any fun d => Lib.hasPrefix code d.code) = true then 13 else if digitsB abroad 1 4 = false then 3 else if digitsB trunk 0 2 = false then 3 else if Lib.hasPrefix trunk abroad = true then 3 else if 300 < an then 2 else 0) := HDEF.out
  have hne : digitsB code 1 3 = true → 1 ≤ code.length := by intro h; unfold digitsB at h; simp at h; omega
  clear qc qf hb2 a0 a1 a2 a3 HPV HDEF
  generalize digitsB code 1 3 = g1 at HD2 hne ⊢
  as_aux_lemma =>
    cases g1
    · have HF : Hid (R = 3) := HD2.out
      go_wp2_with fail
      go_ret
      exact ⟨by rw [HF.out]; rfl, HB2.out⟩
    · have hlen := hne rfl
      clear hne
      rcases code with _ | ⟨x, xs⟩
      · simp at hlen
      have HD3 : Hid (R = if (x == 48) = true then 3 else if (decide (0 < i) && leS (x :: xs) p.code) = true then 7 else if ((l.take i).any fun d => Lib.hasPrefix (x :: xs) d.code) = true then 13 else if digitsB abroad 1 4 = false then 3 else if digitsB trunk 0 2 = false then 3 else if Lib.hasPrefix trunk abroad = true then 3 else if 300 < an then 2 else 0) := HD2.out
      clear HD2
      have q0 : 0 < (⟨(x :: xs).toArray⟩ : ByteArray).size := by show 0 < (x :: xs).length; simp
      have y0 : ((⟨(x :: xs).toArray⟩ : ByteArray)[0]'q0).toNat = x.toNat := rfl
      by_cases hx : x = 48
      · have HF : Hid (R = 3) := by show _ = _; rw [HD3.out, hx]; rfl
        have y1 : ((⟨(x :: xs).toArray⟩ : ByteArray)[0]'q0).toNat = 48 := by rw [y0, hx]; rfl
        clear y0 hx
        as_aux_lemma =>
          go_wp2_with fail
          go_ret
          exact ⟨by rw [HF.out]; rfl, HB2.out⟩
      · have HD4 : Hid (R = if (decide (0 < i) && leS (x :: xs) p.code) = true then 7 else if ((l.take i).any fun d => Lib.hasPrefix (x :: xs) d.code) = true then 13 else if digitsB abroad 1 4 = false then 3 else if digitsB trunk 0 2 = false then 3 else if Lib.hasPrefix trunk abroad = true then 3 else if 300 < an then 2 else 0) := by show _ = _; rw [HD3.out, if_neg]; simpa using hx
        have y1 : ((((⟨(x :: xs).toArray⟩ : ByteArray)[0]'q0).toNat : Int) == 48) = false := by
          rw [y0, beq_eq_false_iff_ne]
          intro h
          exact hx (UInt8.toNat_inj.1 (by have : (48 : UInt8).toNat = 48 := rfl; omega))
        clear HD3 y0 hx
        as_aux_lemma =>
          go_upto_region 4 with (fail)
          go_cut [23] (fun s23 wx => s23 = .bool (decide (0 < i) && leS (x :: xs) p.code) ∧ Hid (wx = w2.drew))
          case first =>
            by_cases hi0 : i = 0
            · have hk1 : decide (0 < i) = false := decide_eq_false (by omega)
              clear hi0
              as_aux_lemma =>
                refine region_seqI (S := (fun _ => True)) [(true, 0), (true, 1), (true, 2), (true, 3), (true, 4), (true, 5), (true, 6), (true, 7), (true, 8), (true, 9), (true, 10), (true, 11), (true, 12), (true, 13)] (by kernel_rfl) (by kernel_rfl) rfl (by kernel_rfl) trivial ?_
                simp only [seqOps, List.getD_cons_zero, List.getD_cons_succ]
                refine seqI_take (v := .int .i64 i) rfl (fun w9 hS9 => by go_simp) (fun _ _ _ h => h) ?_
                simp only [Act.put, List.setIfInBounds_toArray, List.set_cons_zero, List.set_cons_succ]
                refine seqI_take (v := .bool false) rfl (fun w9 hS9 => by go_simp) (fun _ _ _ h => h) ?_
                simp only [Act.put, List.setIfInBounds_toArray, List.set_cons_zero, List.set_cons_succ]
                refine seqI_take (v := .bool false) rfl (fun w9 hS9 => by go_simp) (fun _ _ _ h => h) ?_
                simp only [Act.put, List.setIfInBounds_toArray, List.set_cons_zero, List.set_cons_succ]
                refine seqI_skip rfl (fun _ _ _ h => h) ?_
                simp only [Act.put, List.setIfInBounds_toArray, List.set_cons_zero, List.set_cons_succ]
                refine seqI_skip rfl (fun _ _ _ h => h) ?_
                simp only [Act.put, List.setIfInBounds_toArray, List.set_cons_zero, List.set_cons_succ]
                refine seqI_skip rfl (fun _ _ _ h => h) ?_
                simp only [Act.put, List.setIfInBounds_toArray, List.set_cons_zero, List.set_cons_succ]
                refine seqI_skip rfl (fun _ _ _ h => h) ?_
                simp only [Act.put, List.setIfInBounds_toArray, List.set_cons_zero, List.set_cons_succ]
                refine seqI_skip rfl (fun _ _ _ h => h) ?_
                simp only [Act.put, List.setIfInBounds_toArray, List.set_cons_zero, List.set_cons_succ]
                refine seqI_skip rfl (fun _ _ _ h => h) ?_
                simp only [Act.put, List.setIfInBounds_toArray, List.set_cons_zero, List.set_cons_succ]
                refine seqI_skip rfl (fun _ _ _ h => h) ?_
                simp only [Act.put, List.setIfInBounds_toArray, List.set_cons_zero, List.set_cons_succ]
                refine seqI_skip rfl (fun _ _ _ h => h) ?_
                simp only [Act.put, List.setIfInBounds_toArray, List.set_cons_zero, List.set_cons_succ]
                refine seqI_skip rfl (fun _ _ _ h => h) ?_
                simp only [Act.put, List.setIfInBounds_toArray, List.set_cons_zero, List.set_cons_succ]
                refine seqI_take (v := .bool false) rfl (fun w9 hS9 => by go_simp) (fun _ _ _ h => h) ?_
                simp only [Act.put, List.setIfInBounds_toArray, List.set_cons_zero, List.set_cons_succ]
                refine seqI_take (v := .bool false) rfl (fun w9 hS9 => by go_simp) (fun _ _ _ h => h) ?_
                simp only [Act.put, List.setIfInBounds_toArray, List.set_cons_zero, List.set_cons_succ]
                refine seqI_nil ?_
                go_wp2_with fail
                go_meet
                exact ⟨by rw [hk1]; rfl, rfl⟩
            · have hk1 : 0 < i := by omega
              have hk2 : decide (0 < i) = true := decide_eq_true hk1
              have p0 := HPV2.out hk1
              have kq : ((i : Int) - 1).toNat = i - 1 := by omega
              have kr : 0 ≤ (i : Int) - 1 := by omega
              have ks : (i : Int) - 1 < n := by omega
              have kw : IntKind.i64.wrap ((i : Int) - 1) = (i : Int) - 1 := IntWalk.i64_in _ (by omega)
              as_aux_lemma =>
                refine region_seqI (S := (fun (w9 : World) => w9.cell? ⟨w.heap.size, 0, none⟩ = some (.string ⟨(x :: xs).toArray⟩) ∧ w9.cell? ⟨b, off + (i - 1) * 4, none⟩ = some (.string ⟨p.code.toArray⟩))) [(true, 0), (true, 1), (true, 2), (true, 3), (true, 4), (true, 5), (true, 6), (true, 7), (true, 8), (true, 9), (true, 10), (true, 11), (true, 12), (true, 13)] (by kernel_rfl) (by kernel_rfl) rfl (by kernel_rfl) ⟨D0, p0⟩ ?_
                simp only [seqOps, List.getD_cons_zero, List.getD_cons_succ]
                refine seqI_take (v := .int .i64 i) rfl (fun w9 hS9 => by obtain ⟨s0, s1⟩ := hS9; go_simp) (fun _ _ _ h => h) ?_
                simp only [Act.put, List.setIfInBounds_toArray, List.set_cons_zero, List.set_cons_succ]
                refine seqI_take (v := .bool true) rfl (fun w9 hS9 => by obtain ⟨s0, s1⟩ := hS9; go_simp) (fun _ _ _ h => h) ?_
                simp only [Act.put, List.setIfInBounds_toArray, List.set_cons_zero, List.set_cons_succ]
                refine seqI_take (v := .bool true) rfl (fun w9 hS9 => by obtain ⟨s0, s1⟩ := hS9; go_simp) (fun _ _ _ h => h) ?_
                simp only [Act.put, List.setIfInBounds_toArray, List.set_cons_zero, List.set_cons_succ]
                refine seqI_take (v := .pointer (some ⟨w.heap.size, 0, none⟩)) rfl (fun w9 hS9 => by obtain ⟨s0, s1⟩ := hS9; go_simp) (fun _ _ _ h => h) ?_
                simp only [Act.put, List.setIfInBounds_toArray, List.set_cons_zero, List.set_cons_succ]
                refine seqI_take (v := .string ⟨(x :: xs).toArray⟩) rfl (fun w9 hS9 => by obtain ⟨s0, s1⟩ := hS9; go_simp) (fun _ _ _ h => h) ?_
                simp only [Act.put, List.setIfInBounds_toArray, List.set_cons_zero, List.set_cons_succ]
                refine seqI_take (v := .slice (some ⟨b, off, none⟩) n cap) rfl (fun w9 hS9 => by obtain ⟨s0, s1⟩ := hS9; go_simp) (fun _ _ _ h => h) ?_
                simp only [Act.put, List.setIfInBounds_toArray, List.set_cons_zero, List.set_cons_succ]
                refine seqI_take (v := .int .i64 i) rfl (fun w9 hS9 => by obtain ⟨s0, s1⟩ := hS9; go_simp) (fun _ _ _ h => h) ?_
                simp only [Act.put, List.setIfInBounds_toArray, List.set_cons_zero, List.set_cons_succ]
                refine seqI_take (v := .int .i64 ((i : Int) - 1)) rfl (fun w9 hS9 => by obtain ⟨s0, s1⟩ := hS9; go_simp) (fun _ _ _ h => h) ?_
                simp only [Act.put, List.setIfInBounds_toArray, List.set_cons_zero, List.set_cons_succ]
                refine seqI_take (v := .pointer (some ⟨b, off + (i - 1) * 4, none⟩)) rfl (fun w9 hS9 => by obtain ⟨s0, s1⟩ := hS9; (go_simp; intro h9; exfalso; omega)) (fun _ _ _ h => h) ?_
                simp only [Act.put, List.setIfInBounds_toArray, List.set_cons_zero, List.set_cons_succ]
                refine seqI_take (v := .pointer (some ⟨b, off + (i - 1) * 4, none⟩)) rfl (fun w9 hS9 => by obtain ⟨s0, s1⟩ := hS9; go_simp) (fun _ _ _ h => h) ?_
                simp only [Act.put, List.setIfInBounds_toArray, List.set_cons_zero, List.set_cons_succ]
                refine seqI_take (v := .string ⟨p.code.toArray⟩) rfl (fun w9 hS9 => by obtain ⟨s0, s1⟩ := hS9; go_simp) (fun _ _ _ h => h) ?_
                simp only [Act.put, List.setIfInBounds_toArray, List.set_cons_zero, List.set_cons_succ]
                refine seqI_take (v := .bool (leS (x :: xs) p.code)) rfl (fun w9 hS9 => by obtain ⟨s0, s1⟩ := hS9; (go_simp; rfl)) (fun _ _ _ h => h) ?_
                simp only [Act.put, List.setIfInBounds_toArray, List.set_cons_zero, List.set_cons_succ]
                refine seqI_take (v := .bool (leS (x :: xs) p.code)) rfl (fun w9 hS9 => by obtain ⟨s0, s1⟩ := hS9; go_simp) (fun _ _ _ h => h) ?_
                simp only [Act.put, List.setIfInBounds_toArray, List.set_cons_zero, List.set_cons_succ]
                refine seqI_take (v := .bool (leS (x :: xs) p.code)) rfl (fun w9 hS9 => by obtain ⟨s0, s1⟩ := hS9; go_simp) (fun _ _ _ h => h) ?_
                simp only [Act.put, List.setIfInBounds_toArray, List.set_cons_zero, List.set_cons_succ]
                refine seqI_nil ?_
                go_wp2_with fail
                go_meet
                exact ⟨by rw [hk2]; rfl, rfl⟩
          case rest =>
            obtain ⟨rfl, HM⟩ := hcut
            obtain ⟨W, rfl⟩ : ∃ W : World, W = wc := ⟨_, rfl⟩
            have hW := HM.out
            have HBN : Hid (Below w.heap.size w W) := by show Below _ _ _; rw [hW]; exact ext_drew HB2.out
            have hzW : w.heap.size < W.heap.size := by rw [hW]; exact hzz
            have D0' : W.cell? ⟨w.heap.size, 0, none⟩ = some (.string ⟨(x :: xs).toArray⟩) := by rw [hW]; exact D0
            have D1' : W.cell? ⟨w.heap.size, 1, none⟩ = some (.string ⟨abroad.toArray⟩) := by rw [hW]; exact D1
            have D2' : W.cell? ⟨w.heap.size, 2, none⟩ = some (.string ⟨trunk.toArray⟩) := by rw [hW]; exact D2
            have D3' : W.cell? ⟨w.heap.size, 3, none⟩ = some (.slice aa an ac) := by rw [hW]; exact D3
            clear hW HM D0 D1 D2 D3 HPV2 HB2 hzz hzb y1 q0
            generalize (decide (0 < i) && leS (x :: xs) p.code) = g4 at HD4 ⊢
            as_aux_lemma =>
              cases g4
              · have HD5 : Hid (R = if ((l.take i).any fun d => Lib.hasPrefix (x :: xs) d.code) = true then 13 else if digitsB abroad 1 4 = false then 3 else if digitsB trunk 0 2 = false then 3 else if Lib.hasPrefix trunk abroad = true then 3 else if 300 < an then 2 else 0) := HD4.out
                clear HD4
                have kc : (i : Int) ≤ cap := by omega
                as_aux_lemma =>
                  go_wp2_with fail
                  go_loopw [41] (fun it wr => ∃ k : Nat, k ≤ i ∧ it = .int .i64 k ∧ Hid (Below W.heap.size W wr) ∧ Hid (∀ j, j < k → Lib.hasPrefix (x :: xs) (l.getD j noCtry).code = false)) (fun it _ => i - (intOf it).toNat)
                  case atStart => exact ⟨0, Nat.zero_le _, rfl, Below.refl _ _, fun j hj => absurd hj (by omega)⟩
                  case round =>
                    obtain ⟨k, hk, rfl, HB, HN⟩ := hrel
                    have hzr : w.heap.size < wr.heap.size := Nat.lt_of_lt_of_le hzW HB.out.size
                    have HBR : Hid (Below w.heap.size w wr) := ext_trans HBN.out HB.out
                    have E0 := (HB.out.cell (p := ⟨w.heap.size, 0, none⟩) hzW).trans D0'
                    have E1 := (HB.out.cell (p := ⟨w.heap.size, 1, none⟩) hzW).trans D1'
                    have E2 := (HB.out.cell (p := ⟨w.heap.size, 2, none⟩) hzW).trans D2'
                    have E3 := (HB.out.cell (p := ⟨w.heap.size, 3, none⟩) hzW).trans D3'
                    by_cases hlt : k < i
                    · obtain ⟨c0, c1, c2, c3⟩ := HCL.out k hlt
                      have c0' := (HBR.out.cell (p := ⟨b, off + k * 4, none⟩) hb).trans c0
                      have c1' := (HBR.out.cell (p := ⟨b, off + k * 4 + 1, none⟩) hb).trans c1
                      have c2' := (HBR.out.cell (p := ⟨b, off + k * 4 + 2, none⟩) hb).trans c2
                      have c3' := (HBR.out.cell (p := ⟨b, off + k * 4 + 3, none⟩) hb).trans c3
                      have HAN : Hid (∀ v, Lib.hasPrefix (x :: xs) (l.getD k noCtry).code = v → v = true → R = 13) := fun v h1 h2 => by rw [HD5.out, if_pos]; exact any_take _ noCtry l k (by have := HIL.out; omega) (h1.trans h2) i hlt
                      have HST : Hid (Lib.hasPrefix (x :: xs) (l.getD k noCtry).code = false → ∀ j, j < k + 1 → Lib.hasPrefix (x :: xs) (l.getD j noCtry).code = false) := fun h9 j hj => by
                        rcases Nat.lt_or_eq_of_le (Nat.lt_succ_iff.1 hj) with h | h
                        · exact HN.out j h
                        · subst h; exact h9
                      clear c0 c1 c2 c3 D0' D1' D2' D3' E1 E2 E3
                      generalize l.getD k noCtry = d at c0' c1' c2' c3' HAN HST
                      as_aux_lemma =>
                        go_wp2_with fail
                        refine (hasPrefix_l (x :: xs) d.code _).mono ?_
                        rintro e w' ⟨rfl, rfl⟩
                        generalize Lib.hasPrefix (x :: xs) d.code = g at HAN HST ⊢
                        cases g
                        · go_wp2_with fail
                          go_roundw
                          case rel => exact ⟨k + 1, by omega, by go_num, ext_alloc HB.out, HST.out trivial⟩
                          case measure => simp [intOf]; omega
                        · have HF : Hid (R = 13) := HAN.out _ rfl rfl
                          go_wp2_with fail
                          go_ret
                          exact ⟨by rw [HF.out]; rfl, ext_alloc HBR.out⟩
                    · obtain ⟨W3, rfl⟩ : ∃ W3 : World, W3 = wr := ⟨_, rfl⟩
                      have hki : k = i := by omega
                      subst hki
                      have HD6 : Hid (R = if digitsB abroad 1 4 = false then 3 else if digitsB trunk 0 2 = false then 3 else if Lib.hasPrefix trunk abroad = true then 3 else if 300 < an then 2 else 0) := by
                        show _ = _
                        rw [HD5.out, not_any_take _ noCtry l k HIL.out HN.out]; rfl
                      clear HD5 HN HCL HIL D0' D1' D2' D3' HB E0
                      as_aux_lemma =>
                        go_wp2_with fail
                        refine (digitsOf_l abroad 1 4 _ (by omega)).mono ?_
                        rintro e W4 ⟨rfl, hb4⟩
                        have HB4 : Hid (Below w.heap.size w W4) := ext_trans HBR.out hb4
                        have hz4 : w.heap.size < W4.heap.size := Nat.lt_of_lt_of_le hzr hb4.size
                        have F1 := (hb4.cell (p := ⟨w.heap.size, 1, none⟩) hzr).trans E1
                        have F2 := (hb4.cell (p := ⟨w.heap.size, 2, none⟩) hzr).trans E2
                        have F3 := (hb4.cell (p := ⟨w.heap.size, 3, none⟩) hzr).trans E3
                        clear E1 E2 E3 hb4
                        generalize digitsB abroad 1 4 = g5 at HD6 ⊢
                        as_aux_lemma =>
                          cases g5
                          · have HF : Hid (R = 3) := HD6.out
                            go_wp2_with fail
                            go_ret
                            exact ⟨by rw [HF.out]; rfl, HB4.out⟩
                          · have HD7 : Hid (R = if digitsB trunk 0 2 = false then 3 else if Lib.hasPrefix trunk abroad = true then 3 else if 300 < an then 2 else 0) := HD6.out
                            clear HD6
                            as_aux_lemma =>
                              go_wp2_with fail
                              refine (digitsOf_l trunk 0 2 _ (by omega)).mono ?_
                              rintro e W5 ⟨rfl, hb5⟩
                              have HB5 : Hid (Below w.heap.size w W5) := ext_trans HB4.out hb5
                              have hz5 : w.heap.size < W5.heap.size := Nat.lt_of_lt_of_le hz4 hb5.size
                              have G1 := (hb5.cell (p := ⟨w.heap.size, 1, none⟩) hz4).trans F1
                              have G2 := (hb5.cell (p := ⟨w.heap.size, 2, none⟩) hz4).trans F2
                              have G3 := (hb5.cell (p := ⟨w.heap.size, 3, none⟩) hz4).trans F3
                              clear F1 F2 F3 hb5
                              generalize digitsB trunk 0 2 = g6 at HD7 ⊢
                              cases g6
                              · have HF : Hid (R = 3) := HD7.out
                                as_aux_lemma =>
                                  go_wp2_with fail
                                  go_ret
                                  exact ⟨by rw [HF.out]; rfl, HB5.out⟩
                              · have HD8 : Hid (R = if Lib.hasPrefix trunk abroad = true then 3 else if 300 < an then 2 else 0) := HD7.out
                                clear HD7
                                as_aux_lemma =>
                                  go_wp2_with fail
                                  refine (hasPrefix_l trunk abroad _).mono ?_
                                  rintro e w' ⟨rfl, rfl⟩
                                  generalize Lib.hasPrefix trunk abroad = g7 at HD8 ⊢
                                  cases g7
                                  · have HD9 : Hid (R = if 300 < an then 2 else 0) := HD8.out
                                    by_cases h3 : 300 < an
                                    · have HF : Hid (R = 2) := by show _ = _; rw [HD9.out, if_pos h3]
                                      go_wp2_with fail
                                      go_ret
                                      exact ⟨by rw [HF.out]; rfl, HB5.out⟩
                                    · have HF : Hid (R = 0) := by show _ = _; rw [HD9.out, if_neg h3]
                                      go_wp2_with fail
                                      go_ret
                                      exact ⟨by rw [HF.out]; rfl, HB5.out⟩
                                  · have HF : Hid (R = 3) := HD8.out
                                    go_wp2_with fail
                                    go_ret
                                    exact ⟨by rw [HF.out]; rfl, HB5.out⟩
              · have HF : Hid (R = 7) := HD4.out
                as_aux_lemma =>
                  go_wp2_with fail
                  go_ret
                  exact ⟨by rw [HF.out]; rfl, HBN.out⟩
end Go.Proofs.YtbimecknmojnoaaGreatDoor
