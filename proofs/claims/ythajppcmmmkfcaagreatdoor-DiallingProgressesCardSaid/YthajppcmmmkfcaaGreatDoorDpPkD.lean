/- What is proved here: lemmas and contracts for the statement, put together out of smaller texts (PlanCtry, PlanAll, ResCell, SplitWalk, RefSmall, SplitPost, RefSplit, WayRight, ProgMath). No condition beyond those stated. -/
import Derived.Test.YthajppcmmmkfcaaGreatDoorDpPkA
import Derived.Shelf.SlicesQ.Load
import Derived.Test.YthajppcmmmkfcaaGreatDoorDpPkB
import Derived.Deep.MidRow
import Derived.Test.YthajppcmmmkfcaaGreatDoorDpPkC
set_option linter.unusedVariables false
set_option linter.unusedSimpArgs false
namespace Go.Proofs.YthajppcmmmkfcaaGreatDoor
open Go.RowKit

theorem any_take {α : Type} (f : α → Bool) (d : α) (l : List α) (k : Nat) (hk : k < l.length) (h : f (l.getD k d) = true) (n : Nat) (hn : k < n) : (l.take n).any f = true := by
  rw [List.any_eq_true]
  refine ⟨l.getD k d, ?_, h⟩
  rw [List.getD_eq_getElem?_getD, List.getElem?_eq_getElem hk]
  exact List.mem_take_iff_getElem.2 ⟨k, by omega, rfl⟩
theorem not_any_take {α : Type} (f : α → Bool) (d : α) (l : List α) (n : Nat) (hn : n ≤ l.length) (h : ∀ k, k < n → f (l.getD k d) = false) : (l.take n).any f = false := by
  rw [List.any_eq_false]
  intro y hy
  obtain ⟨k, hk, rfl⟩ := List.mem_take_iff_getElem.1 hy
  have := h k (by omega)
  rw [List.getD_eq_getElem?_getD, List.getElem?_eq_getElem (by omega)] at this
  simpa using this

set_option maxRecDepth 100000 in
set_option maxHeartbeats 2000000 in
theorem checkCountry_any (w : World) (a : Option Addr) (n cap : Nat) (l : List Ctry) (hr : CtryRow w a n l) (hcap : n ≤ cap) (i : Nat) (hi : i < n) : Calls Tryz.prog 120 #[.slice a n cap, .int .i64 i] w (ErrPost (ctryErr l i) w) := by
  have hil : i < l.length := by rw [← hr.len]; exact hi
  have hfew := hr.few
  rcases hr.row with h0 | ⟨b, off, haa, hb, hcl⟩
  · omega
  subst haa
  obtain ⟨a0, a1, a2, a3⟩ := ctry_cells (hcl i hi)
  have HPV : Hid (0 < i → w.cell? ⟨b, off + (i - 1) * 4, none⟩ = some (.string ⟨(l.getD (i - 1) noCtry).code.toArray⟩)) := fun h9 => (ctry_cells (hcl (i - 1) (by omega))).1
  have HCL : Hid (∀ k, k < i → w.cell? ⟨b, off + k * 4, none⟩ = some (.string ⟨(l.getD k noCtry).code.toArray⟩) ∧ w.cell? ⟨b, off + k * 4 + 1, none⟩ = some (.string ⟨(l.getD k noCtry).abroad.toArray⟩) ∧ w.cell? ⟨b, off + k * 4 + 2, none⟩ = some (.string ⟨(l.getD k noCtry).trunk.toArray⟩) ∧ w.cell? ⟨b, off + k * 4 + 3, none⟩ = some (.slice (l.getD k noCtry).aa (l.getD k noCtry).an (l.getD k noCtry).ac)) := fun k hk => ctry_cells (hcl k (by omega))
  have HIL := Lib.hid (Nat.le_of_lt hil)
  obtain ⟨hcode, habr, htr, hmany, -, -⟩ := hr.each i hil
  have HDEF : Hid (ctryErr l i = ctryErrOf l i (l.getD i noCtry) (l.getD (i - 1) noCtry)) := rfl
  generalize ctryErr l i = R at HDEF ⊢
  generalize l.getD i noCtry = c at a0 a1 a2 a3 HDEF hcode habr htr hmany
  generalize l.getD (i - 1) noCtry = p at HPV HDEF
  obtain ⟨code, abroad, trunk, aa, an, ac, areas⟩ := c
  simp only at hcode habr htr hmany a0 a1 a2 a3
  clear hcl hil hr
  go_enter Tryz.func120, Tryz.ntmps120
  go_wp2_with fail
  refine (digitsOf_l code 1 3 _ (by omega)).mono ?_
  rintro e w2 ⟨rfl, hb2⟩
  have HB2 : Hid (Below w.heap.size w w2) := ext_trans (ext_alloc (Below.refl _ _)) hb2
  have hzz : w.heap.size < w2.heap.size := by have := hb2.size; simp at this; omega
  obtain ⟨qc, qf⟩ := bcell hb2
  have D0 : w2.cell? ⟨w.heap.size, 0, none⟩ = some (.string ⟨code.toArray⟩) := (qc _ 0 (by simp)).trans (by go_simp)
  have D1 : w2.cell? ⟨w.heap.size, 1, none⟩ = some (.string ⟨abroad.toArray⟩) := (qc _ 1 (by simp)).trans (by go_simp)
  have D2 : w2.cell? ⟨w.heap.size, 2, none⟩ = some (.string ⟨trunk.toArray⟩) := (qc _ 2 (by simp)).trans (by go_simp)
  have D3 : w2.cell? ⟨w.heap.size, 3, none⟩ = some (.slice aa an ac) := (qc _ 3 (by simp)).trans (by go_simp)
  have hzb : b < w2.heap.size := Nat.lt_of_lt_of_le hb HB2.out.size
  have HPV2 : Hid (0 < i → w2.cell? ⟨b, off + (i - 1) * 4, none⟩ = some (.string ⟨p.code.toArray⟩)) := fun h9 => (HB2.out.cell (p := ⟨b, off + (i - 1) * 4, none⟩) hb).trans (HPV.out h9)
  have HD2 : Hid (R = if digitsB code 1 3 = false then 3 else if (code.headD 0 == 48) = true then 3 else if (decide (0 < i) && leS code p.code) = true then 7 else if ((l.take i).any fun d => Lib.hasPrefix code d.code) = true then 13 else if digitsB abroad 1 4 = false then 3 else if digitsB trunk 0 2 = false then 3 else if Lib.hasPrefix trunk abroad = true then 3 else if 300 < an then 2 else 0) := HDEF.out
  have hne : digitsB code 1 3 = true → 1 ≤ code.length := by intro h; unfold digitsB at h; simp at h; omega
  clear qc qf hb2 a0 a1 a2 a3 HPV HDEF
  generalize digitsB code 1 3 = g1 at HD2 hne ⊢
  as_aux_lemma =>
    cases g1
    · have HF : Hid (R = 3) := HD2.out
      go_wp2_with fail
      go_ret
      exact ⟨by rw [HF.out]; rfl, HB2.out⟩
    · have hlen := hne rfl
      clear hne
      rcases code with _ | ⟨x, xs⟩
      · simp at hlen
      have HD3 : Hid (R = if (x == 48) = true then 3 else if (decide (0 < i) && leS (x :: xs) p.code) = true then 7 else if ((l.take i).any fun d => Lib.hasPrefix (x :: xs) d.code) = true then 13 else if digitsB abroad 1 4 = false then 3 else if digitsB trunk 0 2 = false then 3 else if Lib.hasPrefix trunk abroad = true then 3 else if 300 < an then 2 else 0) := HD2.out
      clear HD2
      have q0 : 0 < (⟨(x :: xs).toArray⟩ : ByteArray).size := by show 0 < (x :: xs).length; simp
      have y0 : ((⟨(x :: xs).toArray⟩ : ByteArray)[0]'q0).toNat = x.toNat := rfl
      by_cases hx : x = 48
      · have HF : Hid (R = 3) := by show _ = _; rw [HD3.out, hx]; rfl
        have y1 : ((⟨(x :: xs).toArray⟩ : ByteArray)[0]'q0).toNat = 48 := by rw [y0, hx]; rfl
        clear y0 hx
        as_aux_lemma =>
          go_wp2_with fail
          go_ret
          exact ⟨by rw [HF.out]; rfl, HB2.out⟩
      · have HD4 : Hid (R = if (decide (0 < i) && leS (x :: xs) p.code) = true then 7 else if ((l.take i).any fun d => Lib.hasPrefix (x :: xs) d.code) = true then 13 else if digitsB abroad 1 4 = false then 3 else if digitsB trunk 0 2 = false then 3 else if Lib.hasPrefix trunk abroad = true then 3 else if 300 < an then 2 else 0) := by show _ = _; rw [HD3.out, if_neg]; simpa using hx
        have y1 : ((((⟨(x :: xs).toArray⟩ : ByteArray)[0]'q0).toNat : Int) == 48) = false := by
          rw [y0, beq_eq_false_iff_ne]
          intro h
          exact hx (UInt8.toNat_inj.1 (by have : (48 : UInt8).toNat = 48 := rfl; omega))
        clear HD3 y0 hx
        as_aux_lemma =>
          go_upto_region 4 with (fail)
          go_cut [23] (fun s23 wx => s23 = .bool (decide (0 < i) && leS (x :: xs) p.code) ∧ Hid (wx = w2.drew))
          case first =>
            by_cases hi0 : i = 0
            · have hk1 : decide (0 < i) = false := decide_eq_false (by omega)
              clear hi0
              as_aux_lemma =>
                refine region_seqI (S := (fun _ => True)) [(true, 0), (true, 1), (true, 2), (true, 3), (true, 4), (true, 5), (true, 6), (true, 7), (true, 8), (true, 9), (true, 10), (true, 11), (true, 12), (true, 13)] (by kernel_rfl) (by kernel_rfl) rfl (by kernel_rfl) trivial ?_
                simp only [seqOps, List.getD_cons_zero, List.getD_cons_succ]
                refine seqI_take (v := .int .i64 i) rfl (fun w9 hS9 => by go_simp) (fun _ _ _ h => h) ?_
                simp only [Act.put, List.setIfInBounds_toArray, List.set_cons_zero, List.set_cons_succ]
                refine seqI_take (v := .bool false) rfl (fun w9 hS9 => by go_simp) (fun _ _ _ h => h) ?_
                simp only [Act.put, List.setIfInBounds_toArray, List.set_cons_zero, List.set_cons_succ]
                refine seqI_take (v := .bool false) rfl (fun w9 hS9 => by go_simp) (fun _ _ _ h => h) ?_
                simp only [Act.put, List.setIfInBounds_toArray, List.set_cons_zero, List.set_cons_succ]
                refine seqI_skip rfl (fun _ _ _ h => h) ?_
                simp only [Act.put, List.setIfInBounds_toArray, List.set_cons_zero, List.set_cons_succ]
                refine seqI_skip rfl (fun _ _ _ h => h) ?_
                simp only [Act.put, List.setIfInBounds_toArray, List.set_cons_zero, List.set_cons_succ]
                refine seqI_skip rfl (fun _ _ _ h => h) ?_
                simp only [Act.put, List.setIfInBounds_toArray, List.set_cons_zero, List.set_cons_succ]
                refine seqI_skip rfl (fun _ _ _ h => h) ?_
                simp only [Act.put, List.setIfInBounds_toArray, List.set_cons_zero, List.set_cons_succ]
                refine seqI_skip rfl (fun _ _ _ h => h) ?_
                simp only [Act.put, List.setIfInBounds_toArray, List.set_cons_zero, List.set_cons_succ]
                refine seqI_skip rfl (fun _ _ _ h => h) ?_
                simp only [Act.put, List.setIfInBounds_toArray, List.set_cons_zero, List.set_cons_succ]
                refine seqI_skip rfl (fun _ _ _ h => h) ?_
                simp only [Act.put, List.setIfInBounds_toArray, List.set_cons_zero, List.set_cons_succ]
                refine seqI_skip rfl (fun _ _ _ h => h) ?_
                simp only [Act.put, List.setIfInBounds_toArray, List.set_cons_zero, List.set_cons_succ]
                refine seqI_skip rfl (fun _ _ _ h => h) ?_
                simp only [Act.put, List.setIfInBounds_toArray, List.set_cons_zero, List.set_cons_succ]
                refine seqI_take (v := .bool false) rfl (fun w9 hS9 => by go_simp) (fun _ _ _ h => h) ?_
                simp only [Act.put, List.setIfInBounds_toArray, List.set_cons_zero, List.set_cons_succ]
                refine seqI_take (v := .bool false) rfl (fun w9 hS9 => by go_simp) (fun _ _ _ h => h) ?_
                simp only [Act.put, List.setIfInBounds_toArray, List.set_cons_zero, List.set_cons_succ]
                refine seqI_nil ?_
                go_wp2_with fail
                go_meet
                exact ⟨by rw [hk1]; rfl, rfl⟩
            · have hk1 : 0 < i := by omega
              have hk2 : decide (0 < i) = true := decide_eq_true hk1
              have p0 := HPV2.out hk1
              have kq : ((i : Int) - 1).toNat = i - 1 := by omega
              have kr : 0 ≤ (i : Int) - 1 := by omega
              have ks : (i : Int) - 1 < n := by omega
              have kw : IntKind.i64.wrap ((i : Int) - 1) = (i : Int) - 1 := IntWalk.i64_in _ (by omega)
              as_aux_lemma =>
                refine region_seqI (S := (fun (w9 : World) => w9.cell? ⟨w.heap.size, 0, none⟩ = some (.string ⟨(x :: xs).toArray⟩) ∧ w9.cell? ⟨b, off + (i - 1) * 4, none⟩ = some (.string ⟨p.code.toArray⟩))) [(true, 0), (true, 1), (true, 2), (true, 3), (true, 4), (true, 5), (true, 6), (true, 7), (true, 8), (true, 9), (true, 10), (true, 11), (true, 12), (true, 13)] (by kernel_rfl) (by kernel_rfl) rfl (by kernel_rfl) ⟨D0, p0⟩ ?_
                simp only [seqOps, List.getD_cons_zero, List.getD_cons_succ]
                refine seqI_take (v := .int .i64 i) rfl (fun w9 hS9 => by obtain ⟨s0, s1⟩ := hS9; go_simp) (fun _ _ _ h => h) ?_
                simp only [Act.put, List.setIfInBounds_toArray, List.set_cons_zero, List.set_cons_succ]
                refine seqI_take (v := .bool true) rfl (fun w9 hS9 => by obtain ⟨s0, s1⟩ := hS9; go_simp) (fun _ _ _ h => h) ?_
                simp only [Act.put, List.setIfInBounds_toArray, List.set_cons_zero, List.set_cons_succ]
                refine seqI_take (v := .bool true) rfl (fun w9 hS9 => by obtain ⟨s0, s1⟩ := hS9; go_simp) (fun _ _ _ h => h) ?_
                simp only [Act.put, List.setIfInBounds_toArray, List.set_cons_zero, List.set_cons_succ]
                refine seqI_take (v := .pointer (some ⟨w.heap.size, 0, none⟩)) rfl (fun w9 hS9 => by obtain ⟨s0, s1⟩ := hS9; go_simp) (fun _ _ _ h => h) ?_
                simp only [Act.put, List.setIfInBounds_toArray, List.set_cons_zero, List.set_cons_succ]
                refine seqI_take (v := .string ⟨(x :: xs).toArray⟩) rfl (fun w9 hS9 => by obtain ⟨s0, s1⟩ := hS9; go_simp) (fun _ _ _ h => h) ?_
                simp only [Act.put, List.setIfInBounds_toArray, List.set_cons_zero, List.set_cons_succ]
                refine seqI_take (v := .slice (some ⟨b, off, none⟩) n cap) rfl (fun w9 hS9 => by obtain ⟨s0, s1⟩ := hS9; go_simp) (fun _ _ _ h => h) ?_
                simp only [Act.put, List.setIfInBounds_toArray, List.set_cons_zero, List.set_cons_succ]
                refine seqI_take (v := .int .i64 i) rfl (fun w9 hS9 => by obtain ⟨s0, s1⟩ := hS9; go_simp) (fun _ _ _ h => h) ?_
                simp only [Act.put, List.setIfInBounds_toArray, List.set_cons_zero, List.set_cons_succ]
                refine seqI_take (v := .int .i64 ((i : Int) - 1)) rfl (fun w9 hS9 => by obtain ⟨s0, s1⟩ := hS9; go_simp) (fun _ _ _ h => h) ?_
                simp only [Act.put, List.setIfInBounds_toArray, List.set_cons_zero, List.set_cons_succ]
                refine seqI_take (v := .pointer (some ⟨b, off + (i - 1) * 4, none⟩)) rfl (fun w9 hS9 => by obtain ⟨s0, s1⟩ := hS9; (go_simp; intro h9; exfalso; omega)) (fun _ _ _ h => h) ?_
                simp only [Act.put, List.setIfInBounds_toArray, List.set_cons_zero, List.set_cons_succ]
                refine seqI_take (v := .pointer (some ⟨b, off + (i - 1) * 4, none⟩)) rfl (fun w9 hS9 => by obtain ⟨s0, s1⟩ := hS9; go_simp) (fun _ _ _ h => h) ?_
                simp only [Act.put, List.setIfInBounds_toArray, List.set_cons_zero, List.set_cons_succ]
                refine seqI_take (v := .string ⟨p.code.toArray⟩) rfl (fun w9 hS9 => by obtain ⟨s0, s1⟩ := hS9; go_simp) (fun _ _ _ h => h) ?_
                simp only [Act.put, List.setIfInBounds_toArray, List.set_cons_zero, List.set_cons_succ]
                refine seqI_take (v := .bool (leS (x :: xs) p.code)) rfl (fun w9 hS9 => by obtain ⟨s0, s1⟩ := hS9; (go_simp; rfl)) (fun _ _ _ h => h) ?_
                simp only [Act.put, List.setIfInBounds_toArray, List.set_cons_zero, List.set_cons_succ]
                refine seqI_take (v := .bool (leS (x :: xs) p.code)) rfl (fun w9 hS9 => by obtain ⟨s0, s1⟩ := hS9; go_simp) (fun _ _ _ h => h) ?_
                simp only [Act.put, List.setIfInBounds_toArray, List.set_cons_zero, List.set_cons_succ]
                refine seqI_take (v := .bool (leS (x :: xs) p.code)) rfl (fun w9 hS9 => by obtain ⟨s0, s1⟩ := hS9; go_simp) (fun _ _ _ h => h) ?_
                simp only [Act.put, List.setIfInBounds_toArray, List.set_cons_zero, List.set_cons_succ]
                refine seqI_nil ?_
                go_wp2_with fail
                go_meet
                exact ⟨by rw [hk2]; rfl, rfl⟩
          case rest =>
            obtain ⟨rfl, HM⟩ := hcut
            obtain ⟨W, rfl⟩ : ∃ W : World, W = wc := ⟨_, rfl⟩
            have hW := HM.out
            have HBN : Hid (Below w.heap.size w W) := by show Below _ _ _; rw [hW]; exact ext_drew HB2.out
            have hzW : w.heap.size < W.heap.size := by rw [hW]; exact hzz
            have D0' : W.cell? ⟨w.heap.size, 0, none⟩ = some (.string ⟨(x :: xs).toArray⟩) := by rw [hW]; exact D0
            have D1' : W.cell? ⟨w.heap.size, 1, none⟩ = some (.string ⟨abroad.toArray⟩) := by rw [hW]; exact D1
            have D2' : W.cell? ⟨w.heap.size, 2, none⟩ = some (.string ⟨trunk.toArray⟩) := by rw [hW]; exact D2
            have D3' : W.cell? ⟨w.heap.size, 3, none⟩ = some (.slice aa an ac) := by rw [hW]; exact D3
            clear hW HM D0 D1 D2 D3 HPV2 HB2 hzz hzb y1 q0
            generalize (decide (0 < i) && leS (x :: xs) p.code) = g4 at HD4 ⊢
            as_aux_lemma =>
              cases g4
              · have HD5 : Hid (R = if ((l.take i).any fun d => Lib.hasPrefix (x :: xs) d.code) = true then 13 else if digitsB abroad 1 4 = false then 3 else if digitsB trunk 0 2 = false then 3 else if Lib.hasPrefix trunk abroad = true then 3 else if 300 < an then 2 else 0) := HD4.out
                clear HD4
                have kc : (i : Int) ≤ cap := by omega
                as_aux_lemma =>
                  go_wp2_with fail
                  go_loopw [41] (fun it wr => ∃ k : Nat, k ≤ i ∧ it = .int .i64 k ∧ Hid (Below W.heap.size W wr) ∧ Hid (∀ j, j < k → Lib.hasPrefix (x :: xs) (l.getD j noCtry).code = false)) (fun it _ => i - (intOf it).toNat)
                  case atStart => exact ⟨0, Nat.zero_le _, rfl, Below.refl _ _, fun j hj => absurd hj (by omega)⟩
                  case round =>
                    obtain ⟨k, hk, rfl, HB, HN⟩ := hrel
                    have hzr : w.heap.size < wr.heap.size := Nat.lt_of_lt_of_le hzW HB.out.size
                    have HBR : Hid (Below w.heap.size w wr) := ext_trans HBN.out HB.out
                    have E0 := (HB.out.cell (p := ⟨w.heap.size, 0, none⟩) hzW).trans D0'
                    have E1 := (HB.out.cell (p := ⟨w.heap.size, 1, none⟩) hzW).trans D1'
                    have E2 := (HB.out.cell (p := ⟨w.heap.size, 2, none⟩) hzW).trans D2'
                    have E3 := (HB.out.cell (p := ⟨w.heap.size, 3, none⟩) hzW).trans D3'
                    by_cases hlt : k < i
                    · obtain ⟨c0, c1, c2, c3⟩ := HCL.out k hlt
                      have c0' := (HBR.out.cell (p := ⟨b, off + k * 4, none⟩) hb).trans c0
                      have c1' := (HBR.out.cell (p := ⟨b, off + k * 4 + 1, none⟩) hb).trans c1
                      have c2' := (HBR.out.cell (p := ⟨b, off + k * 4 + 2, none⟩) hb).trans c2
                      have c3' := (HBR.out.cell (p := ⟨b, off + k * 4 + 3, none⟩) hb).trans c3
                      have HAN : Hid (∀ v, Lib.hasPrefix (x :: xs) (l.getD k noCtry).code = v → v = true → R = 13) := fun v h1 h2 => by rw [HD5.out, if_pos]; exact any_take _ noCtry l k (by have := HIL.out; omega) (h1.trans h2) i hlt
                      have HST : Hid (Lib.hasPrefix (x :: xs) (l.getD k noCtry).code = false → ∀ j, j < k + 1 → Lib.hasPrefix (x :: xs) (l.getD j noCtry).code = false) := fun h9 j hj => by
                        rcases Nat.lt_or_eq_of_le (Nat.lt_succ_iff.1 hj) with h | h
                        · exact HN.out j h
                        · subst h; exact h9
                      clear c0 c1 c2 c3 D0' D1' D2' D3' E1 E2 E3
                      generalize l.getD k noCtry = d at c0' c1' c2' c3' HAN HST
                      as_aux_lemma =>
                        go_wp2_with fail
                        refine (hasPrefix_l (x :: xs) d.code _).mono ?_
                        rintro e w' ⟨rfl, rfl⟩
                        generalize Lib.hasPrefix (x :: xs) d.code = g at HAN HST ⊢
                        cases g
                        · go_wp2_with fail
                          go_roundw
                          case rel => exact ⟨k + 1, by omega, by go_num, ext_alloc HB.out, HST.out trivial⟩
                          case measure => simp [intOf]; omega
                        · have HF : Hid (R = 13) := HAN.out _ rfl rfl
                          go_wp2_with fail
                          go_ret
                          exact ⟨by rw [HF.out]; rfl, ext_alloc HBR.out⟩
                    · obtain ⟨W3, rfl⟩ : ∃ W3 : World, W3 = wr := ⟨_, rfl⟩
                      have hki : k = i := by omega
                      subst hki
                      have HD6 : Hid (R = if digitsB abroad 1 4 = false then 3 else if digitsB trunk 0 2 = false then 3 else if Lib.hasPrefix trunk abroad = true then 3 else if 300 < an then 2 else 0) := by
                        show _ = _
                        rw [HD5.out, not_any_take _ noCtry l k HIL.out HN.out]; rfl
                      clear HD5 HN HCL HIL D0' D1' D2' D3' HB E0
                      as_aux_lemma =>
                        go_wp2_with fail
                        refine (digitsOf_l abroad 1 4 _ (by omega)).mono ?_
                        rintro e W4 ⟨rfl, hb4⟩
                        have HB4 : Hid (Below w.heap.size w W4) := ext_trans HBR.out hb4
                        have hz4 : w.heap.size < W4.heap.size := Nat.lt_of_lt_of_le hzr hb4.size
                        have F1 := (hb4.cell (p := ⟨w.heap.size, 1, none⟩) hzr).trans E1
                        have F2 := (hb4.cell (p := ⟨w.heap.size, 2, none⟩) hzr).trans E2
                        have F3 := (hb4.cell (p := ⟨w.heap.size, 3, none⟩) hzr).trans E3
                        clear E1 E2 E3 hb4
                        generalize digitsB abroad 1 4 = g5 at HD6 ⊢
                        as_aux_lemma =>
                          cases g5
                          · have HF : Hid (R = 3) := HD6.out
                            go_wp2_with fail
                            go_ret
                            exact ⟨by rw [HF.out]; rfl, HB4.out⟩
                          · have HD7 : Hid (R = if digitsB trunk 0 2 = false then 3 else if Lib.hasPrefix trunk abroad = true then 3 else if 300 < an then 2 else 0) := HD6.out
                            clear HD6
                            as_aux_lemma =>
                              go_wp2_with fail
                              refine (digitsOf_l trunk 0 2 _ (by omega)).mono ?_
                              rintro e W5 ⟨rfl, hb5⟩
                              have HB5 : Hid (Below w.heap.size w W5) := ext_trans HB4.out hb5
                              have hz5 : w.heap.size < W5.heap.size := Nat.lt_of_lt_of_le hz4 hb5.size
                              have G1 := (hb5.cell (p := ⟨w.heap.size, 1, none⟩) hz4).trans F1
                              have G2 := (hb5.cell (p := ⟨w.heap.size, 2, none⟩) hz4).trans F2
                              have G3 := (hb5.cell (p := ⟨w.heap.size, 3, none⟩) hz4).trans F3
                              clear F1 F2 F3 hb5
                              generalize digitsB trunk 0 2 = g6 at HD7 ⊢
                              cases g6
                              · have HF : Hid (R = 3) := HD7.out
                                as_aux_lemma =>
                                  go_wp2_with fail
                                  go_ret
                                  exact ⟨by rw [HF.out]; rfl, HB5.out⟩
                              · have HD8 : Hid (R = if Lib.hasPrefix trunk abroad = true then 3 else if 300 < an then 2 else 0) := HD7.out
                                clear HD7
                                as_aux_lemma =>
                                  go_wp2_with fail
                                  refine (hasPrefix_l trunk abroad _).mono ?_
                                  rintro e w' ⟨rfl, rfl⟩
                                  generalize Lib.hasPrefix trunk abroad = g7 at HD8 ⊢
                                  cases g7
                                  · have HD9 : Hid (R = if 300 < an then 2 else 0) := HD8.out
                                    by_cases h3 : 300 < an
                                    · have HF : Hid (R = 2) := by show _ = _; rw [HD9.out, if_pos h3]
                                      go_wp2_with fail
                                      go_ret
                                      exact ⟨by rw [HF.out]; rfl, HB5.out⟩
                                    · have HF : Hid (R = 0) := by show _ = _; rw [HD9.out, if_neg h3]
                                      go_wp2_with fail
                                      go_ret
                                      exact ⟨by rw [HF.out]; rfl, HB5.out⟩
                                  · have HF : Hid (R = 3) := HD8.out
                                    go_wp2_with fail
                                    go_ret
                                    exact ⟨by rw [HF.out]; rfl, HB5.out⟩
              · have HF : Hid (R = 7) := HD4.out
                as_aux_lemma =>
                  go_wp2_with fail
                  go_ret
                  exact ⟨by rw [HF.out]; rfl, HBN.out⟩
end Go.Proofs.YthajppcmmmkfcaaGreatDoor

set_option linter.unusedVariables false
set_option linter.unusedSimpArgs false
namespace Go.Proofs.YthajppcmmmkfcaaGreatDoor
open Go.RowKit

set_option maxRecDepth 100000 in
set_option maxHeartbeats 2000000 in
theorem checkPlan_any (w : World) (a : Option Addr) (n cap : Nat) (l : List Ctry) (hr : CtryRow w a n l) (hcap : n ≤ cap) : Calls Tryz.prog 88 #[.slice a n cap] w (ErrPost (planErr l) w) := by
  have hfew := hr.few
  have hlen := hr.len
  have HR := Lib.hid hr
  have HDEF : Hid (planErr l = if 100 < l.length then 2 else firstErr (partErr l) l.length) := rfl
  generalize planErr l = R at HDEF ⊢
  clear hr
  by_cases h100 : 100 < n
  · have HF : Hid (R = 2) := by show _ = _; rw [HDEF.out, if_pos (by omega)]
    go_enter Tryz.func88, Tryz.ntmps88
    go_wp2_with fail
    go_ret
    exact ⟨by rw [HF.out]; rfl, Below.refl _ _⟩
  have HD : Hid (R = firstErr (partErr l) n) := by show _ = _; rw [HDEF.out, if_neg (by omega), ← hlen]
  have HLEN := Lib.hid hlen
  clear HDEF hlen
  go_enter Tryz.func88, Tryz.ntmps88
  go_wp2_with fail
  go_loopw [13] (fun it wr => ∃ k : Nat, k ≤ n ∧ it = .int .i64 k ∧ Hid (Below w.heap.size w wr) ∧ Hid (∀ j, j < k → partErr l j = 0)) (fun it _ => n - (intOf it).toNat)
  case atStart => exact ⟨0, Nat.zero_le _, rfl, Below.refl _ _, fun j hj => absurd hj (by omega)⟩
  case round =>
    obtain ⟨wo, rfl⟩ : ∃ wo : World, wo = wr := ⟨_, rfl⟩
    obtain ⟨k, hk, rfl, HB, HN⟩ := hrel
    by_cases hlt : k < n
    · have HRK := Lib.hid (HR.out.below HB.out)
      rcases HRK.out.row with h0 | ⟨b, off, rfl, hb, hcl⟩
      · omega
      obtain ⟨c0, c1, c2, c3⟩ := ctry_cells (hcl k hlt)
      have HFI := Lib.hid (HRK.out.each k (by rw [← HLEN.out]; exact hlt))
      have HPE : Hid (partErr l k = if ctryErr l k ≠ 0 then ctryErr l k else firstErr (areaErr (l.getD k noCtry)) (l.getD k noCtry).areas.length) := rfl
      have HFE : Hid (partErr l k ≠ 0 → R = partErr l k) := fun h9 => HD.out.trans (first_some HN.out hlt h9)
      have HST : Hid (partErr l k = 0 → ∀ j, j < k + 1 → partErr l j = 0) := fun h9 j hj => by
        rcases Nat.lt_or_eq_of_le (Nat.lt_succ_iff.1 hj) with h | h
        · exact HN.out j h
        · subst h; exact h9
      generalize partErr l k = PE at HPE HFE HST
      generalize hcc : l.getD k noCtry = c at c0 c1 c2 c3 HPE HFI
      have HCC := Lib.hid hcc
      clear hcc hcl
      as_aux_lemma =>
        go_wp2_with fail
        refine Calls.mono (checkCountry_any _ _ n cap l ?_ hcap k hlt) ?_
        · exact HRK.out.below (ext_alloc (Below.refl _ _))
        rintro e w1 ⟨rfl, hb1⟩
        have HB1 : Hid (Below w.heap.size w w1) := ext_trans (ext_alloc HB.out) hb1
        have hz1 : wo.heap.size < w1.heap.size := by have := hb1.size; simp at this; omega
        obtain ⟨qc, qf⟩ := bcell hb1
        have d0 : w1.cell? ⟨wo.heap.size, 0, none⟩ = some (.string ⟨c.code.toArray⟩) := (qc _ 0 (by simp)).trans (by go_simp)
        have d1 : w1.cell? ⟨wo.heap.size, 1, none⟩ = some (.string ⟨c.abroad.toArray⟩) := (qc _ 1 (by simp)).trans (by go_simp)
        have d2 : w1.cell? ⟨wo.heap.size, 2, none⟩ = some (.string ⟨c.trunk.toArray⟩) := (qc _ 2 (by simp)).trans (by go_simp)
        have d3 : w1.cell? ⟨wo.heap.size, 3, none⟩ = some (.slice c.aa c.an c.ac) := (qc _ 3 (by simp)).trans (by go_simp)
        have HF1 : Hid (CtryFine w1 c) := HFI.out.below (ext_trans (ext_alloc (Below.refl _ _)) hb1)
        generalize ctryErr l k = E1 at HPE ⊢
        clear qc qf hb1 c0 c1 c2 c3 HFI
        as_aux_lemma =>
          by_cases he : E1 = 0
          · subst he
            have HPF : Hid (PE = firstErr (areaErr c) c.an) := by show _ = _; rw [HPE.out, HF1.out.row.len]; rfl
            clear HPE
            have hmany := HF1.out.many
            as_aux_lemma =>
              go_wp2_with fail
              go_loopw [27] (fun it wq => ∃ j : Nat, j ≤ c.an ∧ it = .int .i64 j ∧ Hid (Below w1.heap.size w1 wq) ∧ Hid (∀ j9, j9 < j → areaErr c j9 = 0)) (fun it _ => c.an - (intOf it).toNat)
              case atStart => exact ⟨0, Nat.zero_le _, rfl, Below.refl _ _, fun j hj => absurd hj (by omega)⟩
              case round =>
                obtain ⟨j, hj, rfl, HBQ, HNQ⟩ := hrel
                have hzq : wo.heap.size < wr.heap.size := Nat.lt_of_lt_of_le hz1 HBQ.out.size
                have e0 := (HBQ.out.cell (p := ⟨wo.heap.size, 0, none⟩) hz1).trans d0
                have e1 := (HBQ.out.cell (p := ⟨wo.heap.size, 1, none⟩) hz1).trans d1
                have e2 := (HBQ.out.cell (p := ⟨wo.heap.size, 2, none⟩) hz1).trans d2
                have e3 := (HBQ.out.cell (p := ⟨wo.heap.size, 3, none⟩) hz1).trans d3
                clear d0 d1 d2 d3
                as_aux_lemma =>
                  by_cases hlj : j < c.an
                  · go_wp2_with fail
                    refine Calls.mono (checkArea_any _ c ?_ j hlj) ?_
                    · exact HF1.out.below HBQ.out
                    rintro e w3 ⟨rfl, hb3⟩
                    have HBQ3 := Lib.hid (ext_trans HBQ.out hb3)
                    have HFA : Hid (areaErr c j ≠ 0 → R = areaErr c j) := fun h9 => by
                      have h1 : PE = areaErr c j := HPF.out.trans (first_some HNQ.out hlj h9)
                      rw [HFE.out (by rw [h1]; exact h9), h1]
                    have HSA : Hid (areaErr c j = 0 → ∀ j9, j9 < j + 1 → areaErr c j9 = 0) := fun h9 j9 hj9 => by
                      rcases Nat.lt_or_eq_of_le (Nat.lt_succ_iff.1 hj9) with h | h
                      · exact HNQ.out j9 h
                      · subst h; exact h9
                    generalize areaErr c j = E2 at HFA HSA ⊢
                    clear e0 e1 e2 e3 hb3
                    as_aux_lemma =>
                      by_cases he2 : E2 = 0
                      · subst he2
                        go_wp2_with fail
                        go_roundw
                        case rel => exact ⟨j + 1, by omega, by go_num, HBQ3.out, HSA.out trivial⟩
                        case measure => simp [intOf]; omega
                      · have HF : Hid (R = E2) := HFA.out he2
                        go_wp2_with fail
                        go_ret
                        exact ⟨by rw [HF.out]; rfl, ext_trans HB1.out HBQ3.out⟩
                  · have hjn : j = c.an := by omega
                    have HPZ : Hid (PE = 0) := HPF.out.trans (first_none (fun j9 h9 => HNQ.out j9 (by omega)))
                    go_wp2_with fail
                    go_roundw
                    case rel => exact ⟨k + 1, by omega, by go_num, ext_trans HB1.out HBQ.out, HST.out HPZ.out⟩
                    case measure => simp [intOf]; omega
          · have HF : Hid (R = E1) := by
              show _ = _
              have h1 : PE = E1 := by rw [HPE.out, if_pos he]
              rw [HFE.out (by rw [h1]; exact he), h1]
            go_wp2_with fail
            go_ret
            exact ⟨by rw [HF.out]; rfl, HB1.out⟩
    · have hkn : k = n := by omega
      subst hkn
      have HF : Hid (R = 0) := HD.out.trans (first_none HN.out)
      go_wp2_with fail
      go_ret
      exact ⟨by rw [HF.out]; rfl, HB.out⟩
end Go.Proofs.YthajppcmmmkfcaaGreatDoor

namespace Go.Proofs.YthajppcmmmkfcaaGreatDoor
open Go.RowKit

theorem load_struct {P : Program} {w : World} {B k : Nat} (cs : List Value) (hk : cs.length = k) (hc : ∀ j v, cs[j]? = some v → w.cell? ⟨B, j, none⟩ = some v) :
    (loadCellsFrom ⟨B, 0, none⟩ 0 k #[]).run P w = .ok cs.toArray w :=
  run_loadCellsFrom_list P w ⟨B, 0, none⟩ cs k hk (fun j v hj => by
    rw [show (⟨B, 0, none⟩ : Addr).add j = ⟨B, j, none⟩ by unfold Addr.add; split <;> simp_all]; exact hc j v hj)

theorem results_cell2 {fn : Func} {t u : Tmp} {T : TypeId} (h : fn.results = #[.cell t T, .tmp u]) (P : Program) (w : World) (tmps : Array Value) {B k : Nat} (hA : ∀ w, (isAgg T).run P w = .ok true w) (hZ : ∀ w, (Go.sizeOf T).run P w = .ok k w) (ht : tmps.getD t undef = .pointer (some ⟨B, 0, none⟩)) (cs : List Value) (hk : cs.length = k) (hc : ∀ j v, cs[j]? = some v → w.cell? ⟨B, j, none⟩ = some v) :
    (results fn tmps).run P w = .ok (.tuple #[.agg cs.toArray, tmps.getD u undef]) w := by
  have h9 := load_struct (P := P) cs hk hc
  have ht' : tmps[t]?.getD undef = .pointer (some ⟨B, 0, none⟩) := by simpa using ht
  simp [results, h, ht', h9, hA, hZ, asAddr, go_sem]

theorem results_cell1 {fn : Func} {t : Tmp} {T : TypeId} (h : fn.results = #[.cell t T]) (P : Program) (w : World) (tmps : Array Value) {B k : Nat} (hA : ∀ w, (isAgg T).run P w = .ok true w) (hZ : ∀ w, (Go.sizeOf T).run P w = .ok k w) (ht : tmps.getD t undef = .pointer (some ⟨B, 0, none⟩)) (cs : List Value) (hk : cs.length = k) (hc : ∀ j v, cs[j]? = some v → w.cell? ⟨B, j, none⟩ = some v) :
    (results fn tmps).run P w = .ok (.agg cs.toArray) w := by
  have h9 := load_struct (P := P) cs hk hc
  have ht' : tmps[t]?.getD undef = .pointer (some ⟨B, 0, none⟩) := by simpa using ht
  simp [results, h, ht', h9, hA, hZ, asAddr, go_sem]

/-- Values that are stored one behind the other. -/
def setRow (w : World) (B : Nat) : Nat → List Value → World
  | _, [] => w
  | k, v :: vs => setRow (w.setCell ⟨B, k, none⟩ v) B (k + 1) vs

theorem setRow_low {B : Nat} : ∀ (vs : List Value) (w : World) (k j : Nat), j < k → (setRow w B k vs).cell? ⟨B, j, none⟩ = w.cell? ⟨B, j, none⟩
  | [], _, _, _, _ => rfl
  | v :: vs, w, k, j, h => by
    rw [setRow, setRow_low vs _ (k + 1) j (by omega)]
    exact World.cell?_setCell_other _ _ _ _ (by intro e; injection e with _ e2 _; omega)
theorem setRow_cell {B n : Nat} : ∀ (vs : List Value) (w : World) (k : Nat), (∀ j, j < n → ∃ u, w.cell? ⟨B, j, none⟩ = some u) → k + vs.length ≤ n → ∀ i v, vs[i]? = some v → (setRow w B k vs).cell? ⟨B, k + i, none⟩ = some v
  | [], _, _, _, _, _, _, h => by simp at h
  | x :: vs, w, k, hu, hn, i, v, h => by
    simp only [List.length_cons] at hn
    obtain ⟨u, hk⟩ := hu k (by omega)
    have hsame := World.cell?_setCell_same w ⟨B, k, none⟩ x hk
    cases i with
    | zero =>
      simp at h
      subst h
      rw [setRow, setRow_low vs _ (k + 1) _ (by omega)]
      exact hsame
    | succ i =>
      have := setRow_cell vs (w.setCell ⟨B, k, none⟩ x) (k + 1) (fun j hj => by
        by_cases e : j = k
        · subst e; exact ⟨x, hsame⟩
        · obtain ⟨u', hu'⟩ := hu j hj
          exact ⟨u', (World.cell?_setCell_other _ _ _ _ (by intro e9; injection e9 with _ e2 _; omega)).trans hu'⟩) (by omega) i v (by simpa using h)
      rw [setRow, show k + (i + 1) = k + 1 + i by omega]
      exact this
theorem setRow_ext {a : World} {B : Nat} (hB : a.heap.size ≤ B) : ∀ (vs : List Value) (w : World) (k : Nat), Below a.heap.size a w → Below a.heap.size a (setRow w B k vs)
  | [], _, _, h => h
  | _ :: vs, _, k, h => setRow_ext hB vs _ (k + 1) (ext_setCell h hB)
end Go.Proofs.YthajppcmmmkfcaaGreatDoor

set_option linter.unusedVariables false
set_option linter.unusedSimpArgs false
namespace Go.Proofs.YthajppcmmmkfcaaGreatDoor
open Go.RowKit

theorem extract_drop (l : List UInt8) (k : Nat) : (⟨l.toArray⟩ : ByteArray).extract k l.length = ⟨(l.drop k).toArray⟩ := by
  rw [Lib.extract_eq]
  simp [List.take_of_length_le]

theorem getD_bang {α : Type} [Inhabited α] (l : List α) (i : Nat) : l[i]! = l.getD i default := by
  rcases Nat.lt_or_ge i l.length with h | h
  · rw [getElem!_pos l i h]; simp [h]
  · rw [getElem!_neg l i (by omega)]; simp [List.getElem?_eq_none h]

theorem ctry_enc {w : World} {b off n : Nat} {l : List Ctry} (hl : n = l.length) (h : ∀ i, i < n → ∀ j, j < 4 → w.cell? ⟨b, off + i * 4 + j, none⟩ = (l.getD i noCtry).cells[j]?) : ∀ j, j < l.length → ∀ i v, (Ctry.cells l[j]!)[i]? = some v → w.cell? ⟨b, off + j * 4 + i, none⟩ = some v := by
  intro j hj i v hv
  have hi : i < 4 := by
    have := (List.getElem?_eq_some_iff.1 hv).1
    simpa [Ctry.cells] using this
  rw [h j (by omega) i hi, ← hv, getD_bang]
  rfl
theorem area_enc {w : World} {b off n : Nat} {l : List Area} (hl : n = l.length) (h : ∀ i, i < n → ∀ j, j < 3 → w.cell? ⟨b, off + i * 3 + j, none⟩ = (l.getD i noArea).cells[j]?) : ∀ j, j < l.length → ∀ i v, (Area.cells l[j]!)[i]? = some v → w.cell? ⟨b, off + j * 3 + i, none⟩ = some v := by
  intro j hj i v hv
  have hi : i < 3 := by
    have := (List.getElem?_eq_some_iff.1 hv).1
    simpa [Area.cells] using this
  rw [h j (by omega) i hi, ← hv, getD_bang]
  rfl

theorem split1_pred (n : List UInt8) (B : Nat) (w : World) (hB : B < w.heap.size) (hcell : w.cell? ⟨B, 0, none⟩ = some (.string ⟨n.toArray⟩)) (h1 : 1 ≤ n.length) (h2 : n.length ≤ 1000) :
    PredBelow Tryz.prog 100 #[.pointer (some ⟨B, 0, none⟩)] (fun x => .agg (Ctry.cells x).toArray) (fun x => Lib.hasPrefix (n.drop 1) x.code) w := fun W x hb => by
  have hc : W.cell? ⟨B, 0, none⟩ = some (.string ⟨n.toArray⟩) := (hb.cell (p := ⟨B, 0, none⟩) hB).trans hcell
  have hBW : B < W.heap.size := Nat.lt_of_lt_of_le hB hb.size
  have hne : B ≠ W.heap.size := by omega
  obtain ⟨code, abroad, trunk, aa, an, ac, areas⟩ := x
  show Calls Tryz.prog 100 #[.agg #[.string ⟨code.toArray⟩, .string ⟨abroad.toArray⟩, .string ⟨trunk.toArray⟩, .slice aa an ac], .pointer (some ⟨B, 0, none⟩)] W _
  simp only
  have hcon := hasPrefix_l (n.drop 1) code
  generalize Lib.hasPrefix (n.drop 1) code = r at hcon ⊢
  have HB := Lib.hid hb
  clear hb hcell hB
  go_enter Tryz.func100, Tryz.ntmps100
  go_wp2_with fail
  go_quiet (first | (go_at_call 55; refine Calls.quiet_of_same (v := .bool r) ((by rw [extract_drop]; exact hcon _ : Calls _ _ _ _ _).mono ?_); rintro e w' ⟨rfl, rfl⟩; exact ⟨rfl, rfl⟩))
  go_wp2_with fail
  go_ret
  exact ⟨rfl, HB.out.trans ((ext_drewN (ext_alloc (Below.refl _ _))).mono HB.out.size)⟩

theorem split2_pred (n : List UInt8) (B : Nat) (w : World) (hB : B < w.heap.size) (hcell : w.cell? ⟨B, 0, none⟩ = some (.string ⟨n.toArray⟩)) :
    PredBelow Tryz.prog 101 #[.pointer (some ⟨B, 0, none⟩)] (fun x => .agg (Area.cells x).toArray) (fun x => Lib.hasPrefix n x.pre) w := fun W x hb => by
  have hc : W.cell? ⟨B, 0, none⟩ = some (.string ⟨n.toArray⟩) := (hb.cell (p := ⟨B, 0, none⟩) hB).trans hcell
  have hBW : B < W.heap.size := Nat.lt_of_lt_of_le hB hb.size
  have hne : B ≠ W.heap.size := by omega
  obtain ⟨pre, low, high⟩ := x
  show Calls Tryz.prog 101 #[.agg #[.string ⟨pre.toArray⟩, .int .i64 low, .int .i64 high], .pointer (some ⟨B, 0, none⟩)] W _
  simp only
  have hcon := hasPrefix_l n pre
  generalize Lib.hasPrefix n pre = r at hcon ⊢
  have HB := Lib.hid hb
  clear hb hcell hB
  go_enter Tryz.func101, Tryz.ntmps101
  go_wp2_with (go_at_call 55; refine (hcon _).mono ?_; rintro e w' ⟨rfl, rfl⟩)
  go_ret
  exact ⟨rfl, HB.out.trans ((ext_alloc (Below.refl _ _)).mono HB.out.size)⟩

/-- The parts of a number, and more. -/
def SplPost (x : Spl) (w : World) (e : Ending) (w' : World) : Prop :=
  ∃ (y0 y1 y2 : ByteArray) (ya : Option Addr) (yn yc : Nat) (y4 : ByteArray) (y5 y6 : Int), e = .returned (.tuple #[.agg #[.string ⟨x.code.toArray⟩, .string ⟨x.area.toArray⟩, .string ⟨x.rest.toArray⟩, .string y0, .string y1, .string y2, .slice ya yn yc, .string y4, .int .i64 y5, .int .i64 y6], .int .i64 x.err]) ∧ Below w.heap.size w w'

theorem isNumber_l (s : List UInt8) (w : World) (hs : s.length ≤ 1000000) : Calls Tryz.prog 99 #[.string ⟨s.toArray⟩] w fun e w' => e = .returned (.bool (isNumB s)) ∧ Below w.heap.size w w' := isNumber_any ⟨s.toArray⟩ w (by show s.length ≤ _; omega)

theorem num_len {n : List UInt8} (h : isNumB n = true) : 5 ≤ n.length ∧ n.length ≤ 16 := by
  obtain ⟨d, rfl, hd⟩ := plus_head h
  unfold digitsB at hd
  simp only [Bool.and_eq_true, decide_eq_true_eq] at hd
  simp only [List.length_cons]
  omega

theorem pre_len {a b : List UInt8} (h : Lib.hasPrefix a b = true) : b.length ≤ a.length := by
  unfold Lib.hasPrefix at h
  rw [List.isPrefixOf_iff_prefix] at h
  exact h.length_le

def zeroParts : Array Value := #[.string ⟨#[]⟩, .string ⟨#[]⟩, .string ⟨#[]⟩, .string ⟨#[]⟩, .string ⟨#[]⟩, .string ⟨#[]⟩, .slice none 0 0, .string ⟨#[]⟩, .int .i64 0, .int .i64 0]

theorem zero_one : zeroParts.all (·.oneCell') = true := by simp [zeroParts, Value.oneCell']
theorem zero_size : (Tryz.prog.info? 97).map (·.size) = some zeroParts.size := by kernel_rfl
theorem there_below {w w' : World} {B o n : Nat} (h : w.there B o n) (hB : B < w.heap.size) (hb : Below w.heap.size w w') : w'.there B o n := fun j hj => by
  obtain ⟨qc, qf⟩ := bcell hb
  exact ⟨by rw [qc B _ hB]; exact (h j hj).1, by rw [qf B _ hB]; exact (h j hj).2⟩
theorem setCells_ext {a : World} {B : Nat} (hB : a.heap.size ≤ B) : ∀ (vs : List Value) (w : World) (k : Nat), Below a.heap.size a w → Below a.heap.size a (w.setCells B k vs)
  | [], _, _, h => h
  | _ :: vs, _, k, h => setCells_ext hB vs _ (k + 1) (ext_setCell h hB)

theorem build_parts (e : Operand → Value) (o : Oper) (w : World) (ho : o.op = .build 97 #[(0, .tmp 65), (1, .tmp 66), (2, .tmp 67)]) (x0 x1 x2 x3 x4 x5 : ByteArray) (x6 : Option Addr) (n c : Nat) (x7 : ByteArray) (x8 x9 : Int)
   (h65 : e (.tmp 65) = .agg #[.string x0, .string x1, .string x2]) (h66 : e (.tmp 66) = .agg #[.string x3, .string x4, .string x5, .slice x6 n c]) (h67 : e (.tmp 67) = .agg #[.string x7, .int .i64 x8, .int .i64 x9]) :
   (execOp e o).run Tryz.prog w = .ok (.value (.agg #[.string x0, .string x1, .string x2, .string x3, .string x4, .string x5, .slice x6 n c, .string x7, .int .i64 x8, .int .i64 x9])) w := by
  unfold execOp
  rw [ho]
  simp only [List.map_toArray, List.map_cons, List.map_nil, h65, h66, h67]

  kernel_rfl

set_option maxRecDepth 100000 in
set_option maxHeartbeats 2000000 in
theorem split_any (w : World) (a : Option Addr) (n cap : Nat) (l : List Ctry) (hr : CtryRow w a n l) (hne : 1 ≤ n) (hna : ∀ i, i < l.length → 1 ≤ (l.getD i noCtry).an) (s : List UInt8) (hs : s.length ≤ 1000) : Calls Tryz.prog 63 #[.slice a n cap, .string ⟨s.toArray⟩] w (SplPost (splitP l s) w) := by
  rcases hr.row with h0 | ⟨b, off, rfl, hb, hcl⟩
  · omega
  have hlen := hr.len
  have hfew := hr.few
  have HR := Lib.hid hr
  have HNA := Lib.hid hna
  have HENC := Lib.hid (ctry_enc hlen hcl)
  have HDEF : Hid (splitP l s = if isNumB s = false then noSpl 3 else splitIn l s) := rfl
  generalize splitP l s = R at HDEF ⊢
  have HLEN := Lib.hid hlen
  clear hr hna hcl hlen
  have HNL : Hid (isNumB s = true → 5 ≤ s.length ∧ s.length ≤ 16) := num_len
  go_enter Tryz.func63, Tryz.ntmps63
  go_wp2_with fail
  refine (isNumber_l s _ (by omega)).mono ?_
  rintro e w1 ⟨rfl, hb1⟩
  obtain ⟨qc, qf⟩ := bcell hb1
  have hz1 : w.heap.size + 1 < w1.heap.size := by have := hb1.size; simp at this; omega
  have hz0 : w.heap.size < w1.heap.size := by omega
  have HB1 : Hid (Below w.heap.size w w1) := ext_trans (ext_alloc (ext_alloc (Below.refl _ _))) hb1
  have c0 : w1.cell? ⟨w.heap.size, 0, none⟩ = some (.string ⟨s.toArray⟩) := (qc _ 0 (by simp; omega)).trans (by go_simp)
  have HTH : Hid (w1.there (w.heap.size + 1) 0 10) := there_below (w := (w.alloc (.cells #[.string ⟨s.toArray⟩] 9)).alloc (.cells zeroParts 97)) (fun j hj => by
    match j, hj with
    | 0, _ | 1, _ | 2, _ | 3, _ | 4, _ | 5, _ | 6, _ | 7, _ | 8, _ | 9, _ => exact ⟨by simp [zeroParts], by simp⟩) (by simp) hb1
  have HR1 := Lib.hid (HR.out.below HB1.out)
  clear qc qf hb1
  generalize isNumB s = g at HDEF HNL ⊢
  as_aux_lemma =>
    cases g
    · have HF : Hid (R = noSpl 3) := HDEF.out
      have HC9 := Lib.hid (World.rangeAt_setCells_same w1 (w.heap.size + 1) 0 zeroParts.toList HTH.out)
      have HB9 := Lib.hid (setCells_ext (B := w.heap.size + 1) (Nat.le_succ _) zeroParts.toList w1 0 HB1.out)
      as_aux_lemma =>
        go_wp2_with (refine wpList_store_mid rfl 97 (.tmp 4) (.tmp 14) rfl (w.heap.size + 1) 0 zeroParts rfl rfl HTH.out zero_size zero_one ?_; generalize World.setCells w1 (w.heap.size + 1) 0 _ = W9 at HC9 HB9 ⊢)
        (try simp only [Exit.inBlock, Exit.then])
        refine bodyPost_ret (?_ : _ = Result.ok (.tuple #[.agg zeroParts, .int .i64 3]) _) rfl ?_
        · exact results_cell2 (t := 4) (u := 5) (by rfl) _ _ _ Tryz.isAgg97 Tryz.sizeOf97 (by rfl) zeroParts.toList rfl (fun j v hj => by have := HC9.out j v hj; rw [Nat.zero_add] at this; exact this)
        exact ⟨_, _, _, _, _, _, _, _, _, by rw [HF.out]; rfl, HB9.out⟩
    · have HD : Hid (R = splitIn l s) := HDEF.out
      obtain ⟨s5, s16⟩ := HNL.out rfl
      clear HDEF HNL
      have hb1 : b < w1.heap.size := Nat.lt_of_lt_of_le hb HB1.out.size
      have hcon := Tryz.slices_idxC Ctry.cells (fun _ => rfl) (fun x => Lib.hasPrefix (s.drop 1) x.code) 100 #[.pointer (some ⟨w.heap.size, 0, none⟩)] (enters_of Tryz.func100 (by kernel_rfl) rfl) b off n cap l w1 (split1_pred s w.heap.size w1 hz0 c0 (by omega) (by omega)) (Nat.le_of_eq HLEN.out) (by omega) hb1 (fun j hj i v hv => (HB1.out.cell (p := ⟨b, off + j * 4 + i, none⟩) hb).trans (HENC.out j hj i v hv))
      rw [show l.take n = l by rw [HLEN.out, List.take_length]] at hcon
      have HIX := Lib.hid (idx_find (fun x : Ctry => Lib.hasPrefix (s.drop 1) x.code) l)
      generalize Lib.idxBy (fun _ (y : Ctry) => Lib.hasPrefix (s.drop 1) y.code) l default = r at hcon HIX
      have HCON := Lib.hid hcon
      clear hcon
      as_aux_lemma =>
        go_wp2_with fail
        refine HCON.out.mono ?_
        rintro e w2 ⟨rfl, hb2⟩
        have HB2 := Lib.hid (ext_trans HB1.out hb2)
        have HTH2 := Lib.hid (there_below HTH.out hz1 hb2)
        have hz2 : w.heap.size + 1 < w2.heap.size := Nat.lt_of_lt_of_le hz1 hb2.size
        have c02 := (hb2.cell (p := ⟨w.heap.size, 0, none⟩) hz0).trans c0
        have HR2 := Lib.hid (HR1.out.below hb2)
        clear c0 hb2 hb1
        rcases HIX.out with ⟨rfl, hf⟩ | ⟨k, hk, rfl, hf, hp⟩
        · have HF : Hid (R = noSpl 8) := by show _ = _; rw [HD.out, splitIn, hf]; rfl
          clear HIX hf HD
          have HC9 := Lib.hid (World.rangeAt_setCells_same w2 (w.heap.size + 1) 0 zeroParts.toList HTH2.out)
          have HB9 := Lib.hid (setCells_ext (B := w.heap.size + 1) (Nat.le_succ _) zeroParts.toList w2 0 HB2.out)
          as_aux_lemma =>
            go_wp2_with (refine wpList_store_mid rfl 97 (.tmp 4) (.tmp 20) rfl (w.heap.size + 1) 0 zeroParts rfl rfl HTH2.out zero_size zero_one ?_; generalize World.setCells w2 (w.heap.size + 1) 0 _ = W9 at HC9 HB9 ⊢)
            (try simp only [Exit.inBlock, Exit.then])
            refine bodyPost_ret (?_ : _ = Result.ok (.tuple #[.agg zeroParts, .int .i64 8]) _) rfl ?_
            · exact results_cell2 (t := 4) (u := 5) (by rfl) _ _ _ Tryz.isAgg97 Tryz.sizeOf97 (by rfl) zeroParts.toList rfl (fun j v hj => by have := HC9.out j v hj; rw [Nat.zero_add] at this; exact this)
            exact ⟨_, _, _, _, _, _, _, _, _, by rw [HF.out]; rfl, HB9.out⟩
        · have HD2 : Hid (R = (inAreas l[k]!.code (s.drop (1 + l[k]!.code.length)) l[k]!.areas).getD (noSpl 8)) := by show _ = _; rw [HD.out, splitIn, hf]; rfl
          have hcl := pre_len hp
          rw [getD_bang, show (default : Ctry) = noCtry from rfl] at hcl
          rw [getD_bang, show (default : Ctry) = noCtry from rfl] at HD2
          have HAN := Lib.hid (HNA.out k hk)
          rcases HR2.out.row with h0 | ⟨b9, off9, hbo, hb9, hcl9⟩
          · omega
          injection hbo with hbo
          injection hbo with e1 e2
          subst e1 e2
          obtain ⟨d0, d1, d2, d3⟩ := ctry_cells (hcl9 k (by rw [HLEN.out]; exact hk))
          have HFI := Lib.hid (HR2.out.each k hk)
          rw [List.length_drop] at hcl
          generalize l.getD k noCtry = c at d0 d1 d2 d3 HD2 hcl HAN HFI
          obtain ⟨code, abroad, trunk, aa, an, ac, areas⟩ := c
          simp only at d0 d1 d2 d3 HD2 hcl HAN
          have hco : code.length + 1 ≤ s.length := by omega
          have hkn : k < n := by rw [HLEN.out]; exact hk
          have hz20 : w.heap.size < w2.heap.size := by omega
          clear hcl9 HIX hf hp HD hcl
          rcases HFI.out.row.row with h0 | ⟨ab, ao, haa, hab, hac⟩
          · have h1 : 1 ≤ an := HAN.out
            have h2 : an = 0 := h0
            omega
          have haa' : aa = some ⟨ab, ao, none⟩ := haa
          subst haa'
          have HAL : Hid (an = areas.length) := HFI.out.row.len
          have hmany : an ≤ 1000 := HFI.out.many
          have HCA : Hid (∀ (W : World) (B : Nat), Below w2.heap.size w2 W → B < W.heap.size → W.cell? ⟨B, 0, none⟩ = some (.string ⟨(s.drop (1 + code.length)).toArray⟩) → Calls Tryz.prog 96 #[.slice (some ⟨ab, ao, none⟩) an ac, .func (.func 101) #[] #[.pointer (some ⟨B, 0, none⟩)]] W fun e w' => e = .returned (.int .i64 (Lib.idxBy (fun _ (y : Area) => Lib.hasPrefix (s.drop (1 + code.length)) y.pre) areas default)) ∧ Below W.heap.size W w') := by
            intro W B hW hB hcB
            have hcon := Tryz.slices_idxA Area.cells (fun _ => rfl) (fun x => Lib.hasPrefix (s.drop (1 + code.length)) x.pre) 101 #[.pointer (some ⟨B, 0, none⟩)] (enters_of Tryz.func101 (by kernel_rfl) rfl) ab ao an ac areas W (split2_pred _ B W hB hcB) (Nat.le_of_eq HAL.out) (by omega) (Nat.lt_of_lt_of_le hab hW.size) (fun j hj i v hv => (hW.cell (p := ⟨ab, ao + j * 3 + i, none⟩) hab).trans (area_enc HAL.out hac j hj i v hv))
            rw [show areas.take an = areas by rw [HAL.out, List.take_length]] at hcon
            exact hcon
          have HIX := Lib.hid (idx_find (fun x : Area => Lib.hasPrefix (s.drop (1 + code.length)) x.pre) areas)
          generalize Lib.idxBy (fun _ (y : Area) => Lib.hasPrefix (s.drop (1 + code.length)) y.pre) areas default = r at HCA HIX
          have HAC := Lib.hid hac
          clear hac haa
          as_aux_lemma =>
            go_wp2_with fail
            rw [extract_drop]
            have hnl : (s.drop (1 + code.length)).length ≤ 16 := by rw [List.length_drop]; omega
            generalize s.drop (1 + code.length) = nat at HCA HIX HD2 hnl ⊢
            refine (HCA.out _ _ (ext_alloc (ext_alloc (Below.refl _ _))) (by simp) (by go_simp)).mono ?_
            rintro e w3 ⟨rfl, hb3⟩
            obtain ⟨qc, qf⟩ := bcell hb3
            have hz3 : w2.heap.size + 1 < w3.heap.size := by have := hb3.size; simp at this; omega
            have HB23 : Hid (Below w2.heap.size w2 w3) := ext_trans (ext_alloc (ext_alloc (Below.refl _ _))) hb3
            have HB3 := Lib.hid (ext_trans HB2.out HB23.out)
            have HTH3 := Lib.hid (there_below HTH2.out hz2 HB23.out)
            have e0 : w3.cell? ⟨w2.heap.size, 0, none⟩ = some (.string ⟨code.toArray⟩) := (qc _ 0 (by simp; omega)).trans (by go_simp)
            have e1 : w3.cell? ⟨w2.heap.size, 1, none⟩ = some (.string ⟨abroad.toArray⟩) := (qc _ 1 (by simp; omega)).trans (by go_simp)
            have e2 : w3.cell? ⟨w2.heap.size, 2, none⟩ = some (.string ⟨trunk.toArray⟩) := (qc _ 2 (by simp; omega)).trans (by go_simp)
            have e3 : w3.cell? ⟨w2.heap.size, 3, none⟩ = some (.slice (some ⟨ab, ao, none⟩) an ac) := (qc _ 3 (by simp; omega)).trans (by go_simp)
            have n0 : w3.cell? ⟨w2.heap.size + 1, 0, none⟩ = some (.string ⟨nat.toArray⟩) := (qc _ 0 (by simp)).trans (by go_simp)
            clear qc qf hb3 c02 d0 d1 d2 d3
            rcases HIX.out with ⟨rfl, hf⟩ | ⟨i, hi, rfl, hf, hp⟩
            · have HF : Hid (R = noSpl 8) := by show _ = _; rw [HD2.out, inAreas, hf]; rfl
              clear HIX hf HD2
              have HC9 := Lib.hid (World.rangeAt_setCells_same w3 (w.heap.size + 1) 0 zeroParts.toList HTH3.out)
              have HB9 := Lib.hid (setCells_ext (B := w.heap.size + 1) (Nat.le_succ _) zeroParts.toList w3 0 HB3.out)
              as_aux_lemma =>
                go_wp2_with (refine wpList_store_mid rfl 97 (.tmp 4) (.tmp 37) rfl (w.heap.size + 1) 0 zeroParts rfl rfl HTH3.out zero_size zero_one ?_; generalize World.setCells w3 (w.heap.size + 1) 0 _ = W9 at HC9 HB9 ⊢)
                (try simp only [Exit.inBlock, Exit.then])
                refine bodyPost_ret (?_ : _ = Result.ok (.tuple #[.agg zeroParts, .int .i64 8]) _) rfl ?_
                · exact results_cell2 (t := 4) (u := 5) (by rfl) _ _ _ Tryz.isAgg97 Tryz.sizeOf97 (by rfl) zeroParts.toList rfl (fun j v hj => by have := HC9.out j v hj; rw [Nat.zero_add] at this; exact this)
                exact ⟨_, _, _, _, _, _, _, _, _, by rw [HF.out]; rfl, HB9.out⟩
            · have HD3 : Hid (R = inArea code nat areas[i]!) := by show _ = _; rw [HD2.out, inAreas, hf]; rfl
              have hcl := pre_len hp
              rw [getD_bang, show (default : Area) = noArea from rfl] at hcl HD3
              have hin : i < an := by rw [HAL.out]; exact hi
              have hA := area_cells (fun j hj => (HB23.out.cell (p := ⟨ab, ao + i * 3 + j, none⟩) hab).trans (HAC.out i hin j hj))
              have HAF := Lib.hid (HFI.out.each i hi)
              simp only at HAF
              clear HIX hf HD2 hp
              generalize areas.getD i noArea = x at hA hcl HD3 HAF
              obtain ⟨pre, low, high⟩ := x
              simp only at hA hcl HD3
              obtain ⟨a0, a1, a2⟩ := hA
              have hz23 : w2.heap.size < w3.heap.size := by omega
              have HB4 : Hid (Below w.heap.size w (w3.alloc (.cells #[.string ⟨pre.toArray⟩, .int .i64 low, .int .i64 high] 72))) := ext_alloc HB3.out
              have HTH4 : Hid ((w3.alloc (.cells #[.string ⟨pre.toArray⟩, .int .i64 low, .int .i64 high] 72)).there (w.heap.size + 1) 0 10) := there_below HTH3.out (by omega) (ext_alloc (Below.refl _ _))
              as_aux_lemma =>
                by_cases k1 : (nat.length : Int) < low
                · have HF : Hid (R = noSpl 1) := by show _ = _; rw [HD3.out, inArea, if_pos]; simp [k1]
                  clear HD3
                  have HC9 := Lib.hid (World.rangeAt_setCells_same (w3.alloc (.cells #[.string ⟨pre.toArray⟩, .int .i64 low, .int .i64 high] 72)) (w.heap.size + 1) 0 zeroParts.toList HTH4.out)
                  have HB9 := Lib.hid (setCells_ext (B := w.heap.size + 1) (Nat.le_succ _) zeroParts.toList (w3.alloc (.cells #[.string ⟨pre.toArray⟩, .int .i64 low, .int .i64 high] 72)) 0 HB4.out)
                  as_aux_lemma =>
                    go_wp2_with (refine wpList_store_mid rfl 97 (.tmp 4) (.tmp 55) rfl (w.heap.size + 1) 0 zeroParts rfl rfl HTH4.out zero_size zero_one ?_; generalize World.setCells (w3.alloc (.cells #[.string ⟨pre.toArray⟩, .int .i64 low, .int .i64 high] 72)) (w.heap.size + 1) 0 _ = W9 at HC9 HB9 ⊢)
                    (try simp only [Exit.inBlock, Exit.then])
                    refine bodyPost_ret (?_ : _ = Result.ok (.tuple #[.agg zeroParts, .int .i64 1]) _) rfl ?_
                    · exact results_cell2 (t := 4) (u := 5) (by rfl) _ _ _ Tryz.isAgg97 Tryz.sizeOf97 (by rfl) zeroParts.toList rfl (fun j v hj => by have := HC9.out j v hj; rw [Nat.zero_add] at this; exact this)
                    exact ⟨_, _, _, _, _, _, _, _, _, by rw [HF.out]; rfl, HB9.out⟩
                · by_cases k2 : high < (nat.length : Int)
                  · have HF : Hid (R = noSpl 1) := by show _ = _; rw [HD3.out, inArea, if_pos]; simp [k2]
                    clear HD3
                    have HC9 := Lib.hid (World.rangeAt_setCells_same (w3.alloc (.cells #[.string ⟨pre.toArray⟩, .int .i64 low, .int .i64 high] 72)) (w.heap.size + 1) 0 zeroParts.toList HTH4.out)
                    have HB9 := Lib.hid (setCells_ext (B := w.heap.size + 1) (Nat.le_succ _) zeroParts.toList (w3.alloc (.cells #[.string ⟨pre.toArray⟩, .int .i64 low, .int .i64 high] 72)) 0 HB4.out)
                    as_aux_lemma =>
                      go_wp2_with (refine wpList_store_mid rfl 97 (.tmp 4) (.tmp 55) rfl (w.heap.size + 1) 0 zeroParts rfl rfl HTH4.out zero_size zero_one ?_; generalize World.setCells (w3.alloc (.cells #[.string ⟨pre.toArray⟩, .int .i64 low, .int .i64 high] 72)) (w.heap.size + 1) 0 _ = W9 at HC9 HB9 ⊢)
                      (try simp only [Exit.inBlock, Exit.then])
                      refine bodyPost_ret (?_ : _ = Result.ok (.tuple #[.agg zeroParts, .int .i64 1]) _) rfl ?_
                      · exact results_cell2 (t := 4) (u := 5) (by rfl) _ _ _ Tryz.isAgg97 Tryz.sizeOf97 (by rfl) zeroParts.toList rfl (fun j v hj => by have := HC9.out j v hj; rw [Nat.zero_add] at this; exact this)
                      exact ⟨_, _, _, _, _, _, _, _, _, by rw [HF.out]; rfl, HB9.out⟩
                  · have HF : Hid (R = ⟨0, code, pre, nat.drop pre.length⟩) := by show _ = _; rw [HD3.out, inArea, if_neg]; simp [k1, k2]
                    clear HD3
                    go_upto_region 14 with (fail)
                    have f0 : (w3.alloc (.cells #[.string ⟨pre.toArray⟩, .int .i64 low, .int .i64 high] 72)).cell? ⟨w2.heap.size, 0, none⟩ = some (.string ⟨code.toArray⟩) := by go_simp
                    have f1 : (w3.alloc (.cells #[.string ⟨pre.toArray⟩, .int .i64 low, .int .i64 high] 72)).cell? ⟨w2.heap.size, 1, none⟩ = some (.string ⟨abroad.toArray⟩) := by go_simp
                    have f2 : (w3.alloc (.cells #[.string ⟨pre.toArray⟩, .int .i64 low, .int .i64 high] 72)).cell? ⟨w2.heap.size, 2, none⟩ = some (.string ⟨trunk.toArray⟩) := by go_simp
                    have f3 : (w3.alloc (.cells #[.string ⟨pre.toArray⟩, .int .i64 low, .int .i64 high] 72)).cell? ⟨w2.heap.size, 3, none⟩ = some (.slice (some ⟨ab, ao, none⟩) an ac) := by go_simp
                    have g0 : (w3.alloc (.cells #[.string ⟨pre.toArray⟩, .int .i64 low, .int .i64 high] 72)).cell? ⟨w2.heap.size + 1, 0, none⟩ = some (.string ⟨nat.toArray⟩) := by go_simp
                    have b0 : (w3.alloc (.cells #[.string ⟨pre.toArray⟩, .int .i64 low, .int .i64 high] 72)).cell? ⟨w3.heap.size, 0, none⟩ = some (.string ⟨pre.toArray⟩) := by go_simp
                    have b1 : (w3.alloc (.cells #[.string ⟨pre.toArray⟩, .int .i64 low, .int .i64 high] 72)).cell? ⟨w3.heap.size, 1, none⟩ = some (.int .i64 low) := by go_simp
                    have b2 : (w3.alloc (.cells #[.string ⟨pre.toArray⟩, .int .i64 low, .int .i64 high] 72)).cell? ⟨w3.heap.size, 2, none⟩ = some (.int .i64 high) := by go_simp
                    generalize w3.alloc (.cells #[.string ⟨pre.toArray⟩, .int .i64 low, .int .i64 high] 72) = W4 at f0 f1 f2 f3 g0 b0 b1 b2 HB4 HTH4 ⊢
                    have HFA : Hid ((fun (w9 : World) => (w9.cell? ⟨w2.heap.size, 0, none⟩ = some (.string ⟨code.toArray⟩) ∧ w9.cell? ⟨w2.heap.size, 1, none⟩ = some (.string ⟨abroad.toArray⟩) ∧ w9.cell? ⟨w2.heap.size, 2, none⟩ = some (.string ⟨trunk.toArray⟩) ∧ w9.cell? ⟨w2.heap.size, 3, none⟩ = some (.slice (some ⟨ab, ao, none⟩) an ac)) ∧ w9.cell? ⟨w2.heap.size + 1, 0, none⟩ = some (.string ⟨nat.toArray⟩) ∧ w9.cell? ⟨w3.heap.size, 0, none⟩ = some (.string ⟨pre.toArray⟩) ∧ w9.cell? ⟨w3.heap.size, 1, none⟩ = some (.int .i64 low) ∧ w9.cell? ⟨w3.heap.size, 2, none⟩ = some (.int .i64 high)) W4) := ⟨⟨f0, f1, f2, f3⟩, g0, b0, b1, b2⟩
                    have hpn : pre.length ≤ nat.length := hcl
                    clear e0 e1 e2 e3 n0 a0 a1 a2 f0 f1 f2 f3 g0 b0 b1 b2
                    as_aux_lemma =>
                      refine region_seqI (S := (fun (w9 : World) => (w9.cell? ⟨w2.heap.size, 0, none⟩ = some (.string ⟨code.toArray⟩) ∧ w9.cell? ⟨w2.heap.size, 1, none⟩ = some (.string ⟨abroad.toArray⟩) ∧ w9.cell? ⟨w2.heap.size, 2, none⟩ = some (.string ⟨trunk.toArray⟩) ∧ w9.cell? ⟨w2.heap.size, 3, none⟩ = some (.slice (some ⟨ab, ao, none⟩) an ac)) ∧ w9.cell? ⟨w2.heap.size + 1, 0, none⟩ = some (.string ⟨nat.toArray⟩) ∧ w9.cell? ⟨w3.heap.size, 0, none⟩ = some (.string ⟨pre.toArray⟩) ∧ w9.cell? ⟨w3.heap.size, 1, none⟩ = some (.int .i64 low) ∧ w9.cell? ⟨w3.heap.size, 2, none⟩ = some (.int .i64 high))) [(true, 0), (true, 1), (true, 2), (true, 3), (true, 4), (true, 5), (true, 6), (true, 7), (true, 8), (true, 9), (true, 10), (true, 11), (true, 12), (false, 13), (true, 14)] (by kernel_rfl) (by kernel_rfl) rfl (by kernel_rfl) HFA.out ?_
                      simp only [seqOps, List.getD_cons_zero, List.getD_cons_succ]
                      refine seqI_take (v := .pointer (some ⟨w2.heap.size, 0, none⟩)) rfl (fun w9 hS9 => by obtain ⟨⟨s0, s1, s2, s3⟩, s4, s5, s6, s7⟩ := hS9; go_simp) (fun _ _ _ h => h) ?_
                      simp only [Act.put, List.setIfInBounds_toArray, List.set_cons_zero, List.set_cons_succ]
                      refine seqI_take (v := .string ⟨code.toArray⟩) rfl (fun w9 hS9 => by obtain ⟨⟨s0, s1, s2, s3⟩, s4, s5, s6, s7⟩ := hS9; go_simp) (fun _ _ _ h => h) ?_
                      simp only [Act.put, List.setIfInBounds_toArray, List.set_cons_zero, List.set_cons_succ]
                      refine seqI_take (v := .pointer (some ⟨w3.heap.size, 0, none⟩)) rfl (fun w9 hS9 => by obtain ⟨⟨s0, s1, s2, s3⟩, s4, s5, s6, s7⟩ := hS9; go_simp) (fun _ _ _ h => h) ?_
                      simp only [Act.put, List.setIfInBounds_toArray, List.set_cons_zero, List.set_cons_succ]
                      refine seqI_take (v := .string ⟨pre.toArray⟩) rfl (fun w9 hS9 => by obtain ⟨⟨s0, s1, s2, s3⟩, s4, s5, s6, s7⟩ := hS9; go_simp) (fun _ _ _ h => h) ?_
                      simp only [Act.put, List.setIfInBounds_toArray, List.set_cons_zero, List.set_cons_succ]
                      refine seqI_take (v := .string ⟨nat.toArray⟩) rfl (fun w9 hS9 => by obtain ⟨⟨s0, s1, s2, s3⟩, s4, s5, s6, s7⟩ := hS9; go_simp) (fun _ _ _ h => h) ?_
                      simp only [Act.put, List.setIfInBounds_toArray, List.set_cons_zero, List.set_cons_succ]
                      refine seqI_take (v := .pointer (some ⟨w3.heap.size, 0, none⟩)) rfl (fun w9 hS9 => by obtain ⟨⟨s0, s1, s2, s3⟩, s4, s5, s6, s7⟩ := hS9; go_simp) (fun _ _ _ h => h) ?_
                      simp only [Act.put, List.setIfInBounds_toArray, List.set_cons_zero, List.set_cons_succ]
                      refine seqI_take (v := .string ⟨pre.toArray⟩) rfl (fun w9 hS9 => by obtain ⟨⟨s0, s1, s2, s3⟩, s4, s5, s6, s7⟩ := hS9; go_simp) (fun _ _ _ h => h) ?_
                      simp only [Act.put, List.setIfInBounds_toArray, List.set_cons_zero, List.set_cons_succ]
                      refine seqI_take (v := .int .i64 pre.length) rfl (fun w9 hS9 => by obtain ⟨⟨s0, s1, s2, s3⟩, s4, s5, s6, s7⟩ := hS9; go_simp) (fun _ _ _ h => h) ?_
                      simp only [Act.put, List.setIfInBounds_toArray, List.set_cons_zero, List.set_cons_succ]
                      refine seqI_take (v := .string ((⟨nat.toArray⟩ : ByteArray).extract pre.length nat.length)) rfl (fun w9 hS9 => by obtain ⟨⟨s0, s1, s2, s3⟩, s4, s5, s6, s7⟩ := hS9; go_simp) (fun _ _ _ h => h) ?_
                      simp only [Act.put, List.setIfInBounds_toArray, List.set_cons_zero, List.set_cons_succ]
                      generalize hrs : (⟨nat.toArray⟩ : ByteArray).extract pre.length nat.length = rs
                      have HRS := Lib.hid hrs
                      clear hrs
                      refine seqI_take (v := .agg #[.string ⟨code.toArray⟩, .string ⟨pre.toArray⟩, .string rs]) rfl (fun w9 hS9 => by obtain ⟨⟨s0, s1, s2, s3⟩, s4, s5, s6, s7⟩ := hS9; go_simp) (fun _ _ _ h => h) ?_
                      simp only [Act.put, List.setIfInBounds_toArray, List.set_cons_zero, List.set_cons_succ]
                      refine seqI_take (v := .agg #[.string ⟨code.toArray⟩, .string ⟨abroad.toArray⟩, .string ⟨trunk.toArray⟩, .slice (some ⟨ab, ao, none⟩) an ac]) rfl (fun w9 hS9 => by obtain ⟨⟨s0, s1, s2, s3⟩, s4, s5, s6, s7⟩ := hS9; go_simp) (fun _ _ _ h => h) ?_
                      simp only [Act.put, List.setIfInBounds_toArray, List.set_cons_zero, List.set_cons_succ]
                      refine seqI_take (v := .agg #[.string ⟨pre.toArray⟩, .int .i64 low, .int .i64 high]) rfl (fun w9 hS9 => by obtain ⟨⟨s0, s1, s2, s3⟩, s4, s5, s6, s7⟩ := hS9; go_simp) (fun _ _ _ h => h) ?_
                      simp only [Act.put, List.setIfInBounds_toArray, List.set_cons_zero, List.set_cons_succ]
                      refine seqI_take (v := .agg #[.string ⟨code.toArray⟩, .string ⟨pre.toArray⟩, .string rs, .string ⟨code.toArray⟩, .string ⟨abroad.toArray⟩, .string ⟨trunk.toArray⟩, .slice (some ⟨ab, ao, none⟩) an ac, .string ⟨pre.toArray⟩, .int .i64 low, .int .i64 high]) rfl (fun w9 hS9 => build_parts _ _ w9 rfl _ _ _ _ _ _ _ _ _ _ _ _ rfl rfl rfl) (fun _ _ _ h => h) ?_
                      simp only [Act.put, List.setIfInBounds_toArray, List.set_cons_zero, List.set_cons_succ]
                      obtain ⟨F, hF9⟩ : ∃ F : List Value, F = [.string ⟨code.toArray⟩, .string ⟨pre.toArray⟩, .string rs, .string ⟨code.toArray⟩, .string ⟨abroad.toArray⟩, .string ⟨trunk.toArray⟩, .slice (some ⟨ab, ao, none⟩) an ac, .string ⟨pre.toArray⟩, .int .i64 low, .int .i64 high] := ⟨_, rfl⟩
                      have HFF := Lib.hid hF9
                      have HTF : Hid (W4.drew.there (w.heap.size + 1) 0 F.toArray.size) := by rw [hF9]; exact HTH4.out
                      have HON : Hid (F.toArray.all (·.oneCell') = true) := by show _ = _; rw [hF9]; simp [Value.oneCell']
                      have HSZ : Hid ((Tryz.prog.info? 97).map (·.size) = some F.toArray.size) := by rw [hF9]; exact zero_size
                      clear hF9
                      have HC9 := Lib.hid (World.rangeAt_setCells_same W4.drew (w.heap.size + 1) 0 F HTF.out)
                      have HB9 := Lib.hid (setCells_ext (B := w.heap.size + 1) (Nat.le_succ _) F W4.drew 0 (ext_drew HB4.out))
                      have HS9 : Hid ((fun (w9 : World) => (w9.cell? ⟨w2.heap.size, 0, none⟩ = some (.string ⟨code.toArray⟩) ∧ w9.cell? ⟨w2.heap.size, 1, none⟩ = some (.string ⟨abroad.toArray⟩) ∧ w9.cell? ⟨w2.heap.size, 2, none⟩ = some (.string ⟨trunk.toArray⟩) ∧ w9.cell? ⟨w2.heap.size, 3, none⟩ = some (.slice (some ⟨ab, ao, none⟩) an ac)) ∧ w9.cell? ⟨w2.heap.size + 1, 0, none⟩ = some (.string ⟨nat.toArray⟩) ∧ w9.cell? ⟨w3.heap.size, 0, none⟩ = some (.string ⟨pre.toArray⟩) ∧ w9.cell? ⟨w3.heap.size, 1, none⟩ = some (.int .i64 low) ∧ w9.cell? ⟨w3.heap.size, 2, none⟩ = some (.int .i64 high)) (W4.drew.setCells (w.heap.size + 1) 0 F)) := by
                        obtain ⟨⟨f0, f1, f2, f3⟩, g0, b0, b1, b2⟩ := HFA.out
                        have out : ∀ (B o : Nat), B ≠ w.heap.size + 1 → (W4.drew.setCells (w.heap.size + 1) 0 F).cell? ⟨B, o, none⟩ = W4.cell? ⟨B, o, none⟩ := fun B o hB => World.cell?_setCells_out _ _ _ _ _ (fun h1 _ => absurd h1 hB)
                        exact ⟨⟨(out _ _ (by omega)).trans f0, (out _ _ (by omega)).trans f1, (out _ _ (by omega)).trans f2, (out _ _ (by omega)).trans f3⟩, (out _ _ (by omega)).trans g0, (out _ _ (by omega)).trans b0, (out _ _ (by omega)).trans b1, (out _ _ (by omega)).trans b2⟩
                      refine seqI_do rfl (wp_store_mid 97 (.tmp 4) (.tmp 68) rfl (w.heap.size + 1) 0 F.toArray rfl (by rw [HFF.out]; rfl) HTF.out HSZ.out HON.out ⟨HS9.out, ?_⟩)
                      simp only [List.toList_toArray]
                      generalize World.setCells W4.drew (w.heap.size + 1) 0 F = W9 at HC9 HB9 HS9 ⊢
                      simp only [Act.put, List.setIfInBounds_toArray, List.set_cons_zero, List.set_cons_succ]
                      refine seqI_take (v := .int .i64 0) rfl (fun w9 hS9 => by go_simp) (fun _ _ _ h => h) ?_
                      simp only [Act.put, List.setIfInBounds_toArray, List.set_cons_zero, List.set_cons_succ]
                      refine seqI_nil ?_
                      clear HFA HTF HON HSZ HS9 HTH4
                      go_wp2_with fail
                      (try simp only [Exit.inBlock, Exit.then])
                      refine bodyPost_ret (?_ : _ = Result.ok (.tuple #[.agg F.toArray, .int .i64 0]) _) rfl ?_
                      · exact results_cell2 (t := 4) (u := 5) (by rfl) _ _ _ Tryz.isAgg97 Tryz.sizeOf97 (by rfl) F (by rw [HFF.out]; rfl) (fun j v hj => by have := HC9.out j v hj; rw [Nat.zero_add] at this; exact this)
                      exact ⟨_, _, _, _, _, _, _, _, _, by rw [HF.out, HFF.out, ← HRS.out, extract_drop], HB9.out⟩
end Go.Proofs.YthajppcmmmkfcaaGreatDoor

set_option linter.unusedVariables false
set_option linter.unusedSimpArgs false
namespace Go.Proofs.YthajppcmmmkfcaaGreatDoor
open Go.RowKit

theorem in_any (n lo hi : Int) (w : World) : Calls Tryz.prog 70 #[.int .i64 n, .int .i64 lo, .int .i64 hi] w fun e w' => e = .returned (.bool (decide (lo ≤ n) && decide (n ≤ hi))) ∧ w = w' := by
  by_cases h1 : lo ≤ n
  · go_enter Tryz.func70, Tryz.ntmps70
    go_wp2
    go_ret
    exact ⟨by rw [decide_eq_true h1]; rfl, rfl⟩
  · go_enter Tryz.func70, Tryz.ntmps70
    go_wp2
    go_ret
    exact ⟨by rw [decide_eq_false (show ¬ lo ≤ n by omega)]; rfl, rfl⟩

theorem digital_l (s : List UInt8) (lo hi : Int) (w : World) (hs : s.length ≤ 1000000) : Calls Tryz.prog 52 #[.string ⟨s.toArray⟩, .int .i64 lo, .int .i64 hi] w fun e w' => e = .returned (.bool (digitsB s lo hi)) ∧ Below w.heap.size w w' := by
  have hcon := trim_digits ⟨s.toArray⟩
  have hd : Hid (digitsB s lo hi = ((decide (lo ≤ (s.length : Int)) && decide ((s.length : Int) ≤ hi)) && (Lib.trimS s digitSet).isEmpty)) := by show _ = _; rw [Bool.and_assoc]; rfl
  have hcon : ∀ w, Calls Tryz.prog 79 #[.string ⟨s.toArray⟩, .string ⟨#[48, 49, 50, 51, 52, 53, 54, 55, 56, 57]⟩] w fun e w' => e = .returned (.string ⟨(Lib.trimS s digitSet).toArray⟩) ∧ Below w.heap.size w w' := fun w => hcon w (by show s.length ≤ _; omega)
  generalize Lib.trimS s digitSet = r at hcon hd
  generalize hg : (decide (lo ≤ (s.length : Int)) && decide ((s.length : Int) ≤ hi)) = g at hd
  have HG := Lib.hid hg
  have HCON := Lib.hid hcon
  clear hg hcon
  go_enter Tryz.func52, Tryz.ntmps52
  go_wp2_with fail
  refine (in_any _ lo hi _).mono ?_
  rintro e w1 ⟨rfl, rfl⟩
  rw [HG.out]
  cases g
  · go_wp2_with fail
    go_ret
    exact ⟨by rw [hd.out]; rfl, Below.refl _ _⟩
  · go_wp2_with fail
    refine (HCON.out _).mono ?_
    rintro e w2 ⟨rfl, hb⟩
    go_wp2_with fail
    go_ret
    exact ⟨by rw [hd.out]; cases r <;> rfl, hb⟩

theorem isNumB_eq (s : List UInt8) : isNumB s = (Lib.hasPrefix s [43] && (digitsB (s.drop 1) 4 15 && ((s.drop 1).headD 0 != 48))) := by
  unfold isNumB Lib.trimPrefix
  cases h : Lib.hasPrefix s [43] with
  | false => rfl
  | true => rfl

theorem form_l (s : List UInt8) (w : World) (hs : s.length ≤ 1000) : Calls Tryz.prog 68 #[.string ⟨s.toArray⟩] w fun e w' => e = .returned (.bool (isNumB s)) ∧ Below w.heap.size w w' := by
  have HD := Lib.hid (isNumB_eq s)
  have HPL : Hid (Lib.hasPrefix s [43] = true → 1 ≤ s.length) := fun h => pre_len h
  have HDL : Hid (digitsB (s.drop 1) 4 15 = true → ∃ c d, s.drop 1 = c :: d) := fun h => by
    unfold digitsB at h
    simp only [Bool.and_eq_true, decide_eq_true_eq] at h
    cases h9 : s.drop 1 with
    | nil => rw [h9] at h; simp at h
    | cons c d => exact ⟨c, d, rfl⟩
  have hcon := fun w => hasPrefix_l s [43] w
  generalize Lib.hasPrefix s [43] = g at HD HPL hcon
  have hcon2 := fun w => digital_l (s.drop 1) 4 15 w (by rw [List.length_drop]; omega)
  generalize hg2 : digitsB (s.drop 1) 4 15 = g2 at HD HDL hcon2
  generalize isNumB s = R at HD ⊢
  go_enter Tryz.func68, Tryz.ntmps68
  go_wp2_with fail
  refine (hcon _).mono ?_
  rintro e w1 ⟨rfl, rfl⟩
  cases g
  · have HF : Hid (R = false) := HD.out
    go_wp2_with fail
    go_ret
    exact ⟨by rw [HF.out]; rfl, Below.refl _ _⟩
  · have h1 := HPL.out rfl
    go_wp2_with fail
    rw [extract_drop]
    refine (hcon2 _).mono ?_
    rintro e w2 ⟨rfl, hb⟩
    have HB := Lib.hid hb
    clear hb
    cases g2
    · have HF : Hid (R = false) := HD.out
      go_wp2_with fail
      go_ret
      exact ⟨by rw [HF.out]; rfl, HB.out⟩
    · obtain ⟨c, d, hcd⟩ := HDL.out rfl
      have HF : Hid (R = (c != 48)) := by show _ = _; rw [HD.out, hcd]; rfl
      obtain ⟨x, rfl⟩ : ∃ x, s = x :: c :: d := by
        cases s with
        | nil => cases hcd
        | cons x t => exact ⟨x, by simpa using hcd⟩
      clear hcd HD hcon hcon2 hg2 HDL HPL
      go_wp2_with fail
      go_ret
      exact ⟨by rw [HF.out, ← byte_bne48]; rfl, HB.out⟩

theorem fault1_pred (code : List UInt8) (B : Nat) (w : World) (hB : B < w.heap.size) (hcell : w.cell? ⟨B, 0, none⟩ = some (.string ⟨code.toArray⟩)) :
    PredBelow Tryz.prog 54 #[.pointer (some ⟨B, 0, none⟩)] (fun x => .agg (Ctry.cells x).toArray) (fun x => Lib.hasPrefix code x.code) w := fun W x hb => by
  have hc : W.cell? ⟨B, 0, none⟩ = some (.string ⟨code.toArray⟩) := (hb.cell (p := ⟨B, 0, none⟩) hB).trans hcell
  have hBW : B < W.heap.size := Nat.lt_of_lt_of_le hB hb.size
  have hne : B ≠ W.heap.size := by omega
  obtain ⟨code2, abroad, trunk, aa, an, ac, areas⟩ := x
  show Calls Tryz.prog 54 #[.agg #[.string ⟨code2.toArray⟩, .string ⟨abroad.toArray⟩, .string ⟨trunk.toArray⟩, .slice aa an ac], .pointer (some ⟨B, 0, none⟩)] W _
  simp only
  have hcon := hasPrefix_l code code2
  generalize Lib.hasPrefix code code2 = r at hcon ⊢
  have HB := Lib.hid hb
  clear hb hcell hB
  go_enter Tryz.func54, Tryz.ntmps54
  go_wp2_with (go_at_call 55; refine (hcon _).mono ?_; rintro e w' ⟨rfl, rfl⟩)
  go_ret
  exact ⟨rfl, HB.out.trans ((ext_alloc (Below.refl _ _)).mono HB.out.size)⟩
end Go.Proofs.YthajppcmmmkfcaaGreatDoor

set_option linter.unusedVariables false
set_option linter.unusedSimpArgs false
namespace Go.Proofs.YthajppcmmmkfcaaGreatDoor
open Go.RowKit

def PartsPost (x : Spl) (w : World) (e : Ending) (w' : World) : Prop := e = .returned (.tuple #[.agg #[.string ⟨x.code.toArray⟩, .string ⟨x.area.toArray⟩, .string ⟨x.rest.toArray⟩], .int .i64 x.err]) ∧ Below w.heap.size w w'
theorem row3 (w : World) (B : Nat) (v0 v1 v2 : Value) : ((w.setCell ⟨B, 0, none⟩ v0).setCell ⟨B, 1, none⟩ v1).setCell ⟨B, 2, none⟩ v2 = w.setCells B 0 [v0, v1, v2] := rfl
theorem there3 {w : World} {B : Nat} {v0 v1 v2 : Value} (h0 : w.cell? ⟨B, 0, none⟩ = some v0) (h1 : w.cell? ⟨B, 1, none⟩ = some v1) (h2 : w.cell? ⟨B, 2, none⟩ = some v2) (hf : ∀ j, w.frozen? ⟨B, j, none⟩ = false) : w.there B 0 3 := fun j hj => by
  match j, hj with
  | 0, _ => exact ⟨by rw [h0]; rfl, hf _⟩
  | 1, _ => exact ⟨by rw [h1]; rfl, hf _⟩
  | 2, _ => exact ⟨by rw [h2]; rfl, hf _⟩

end Go.Proofs.YthajppcmmmkfcaaGreatDoor

set_option linter.unusedVariables false
set_option linter.unusedSimpArgs false
namespace Go.Proofs.YthajppcmmmkfcaaGreatDoor
open Go.RowKit

theorem cutPrefix_l (s p : List UInt8) (w : World) : Calls Tryz.prog 69 #[.string ⟨s.toArray⟩, .string ⟨p.toArray⟩] w fun e w' => e = .returned (.tuple #[.string ⟨(Lib.trimPrefix s p).toArray⟩, .bool (Lib.hasPrefix s p)]) ∧ w = w' := (Tryz.strings_CutPrefix ⟨s.toArray⟩ ⟨p.toArray⟩ w).mono (fun e w' h => ⟨h.1, h.2.symm⟩)

theorem find_at {α : Type} (p : α → Bool) (d : α) (l : List α) (k : Nat) (hk : k < l.length) (h : ∀ j, j < k → p (l.getD j d) = false) (hp : p (l.getD k d) = true) : l.find? p = some (l.getD k d) := by
  rw [List.find?_eq_some_iff_getElem]
  refine ⟨hp, k, hk, by simp [hk], fun j hj => ?_⟩
  have := h j hj
  rw [List.getD_eq_getElem?_getD, List.getElem?_eq_getElem (by omega)] at this
  simpa using this
theorem find_not {α : Type} (p : α → Bool) (d : α) (l : List α) (h : ∀ j, j < l.length → p (l.getD j d) = false) : l.find? p = none := by
  rw [List.find?_eq_none]
  intro x hx
  obtain ⟨j, hj, rfl⟩ := List.getElem_of_mem hx
  have := h j hj
  rw [List.getD_eq_getElem?_getD, List.getElem?_eq_getElem hj] at this
  simpa using this
theorem some_at {α β : Type} (f : α → Option β) (d : α) : ∀ (l : List α) (k : Nat) (x : β), k < l.length → (∀ j, j < k → f (l.getD j d) = none) → f (l.getD k d) = some x → l.findSome? f = some x
  | [], _, _, h, _, _ => by simp at h
  | a :: l, 0, x, _, _, h => by simp at h; simp [List.findSome?_cons, h]
  | a :: l, k + 1, x, hk, h, hx => by
    have h0 : f a = none := by simpa using h 0 (by omega)
    rw [List.findSome?_cons, h0]
    exact some_at f d l k x (by simpa using hk) (fun j hj => by simpa using h (j + 1) (by omega)) (by simpa using hx)
theorem some_not {α β : Type} (f : α → Option β) (d : α) (l : List α) (h : ∀ j, j < l.length → f (l.getD j d) = none) : l.findSome? f = none := by
  rw [List.findSome?_eq_none_iff]
  intro x hx
  obtain ⟨j, hj, rfl⟩ := List.getElem_of_mem hx
  have := h j hj
  rwa [List.getD_eq_getElem?_getD, List.getElem?_eq_getElem hj] at this

def zero3 : Array Value := #[.string ⟨#[]⟩, .string ⟨#[]⟩, .string ⟨#[]⟩]
theorem zero3_one : zero3.all (·.oneCell') = true := by simp [zero3, Value.oneCell']
theorem parts_size : (Tryz.prog.info? 50).map (·.size) = some 3 := by kernel_rfl

set_option maxRecDepth 100000 in
set_option maxHeartbeats 2000000 in
theorem splitOf_any (w : World) (a : Option Addr) (n cap : Nat) (l : List Ctry) (hr : CtryRow w a n l) (hcap : n ≤ cap) (s : List UInt8) (hs : s.length ≤ 1000) : Calls Tryz.prog 23 #[.slice a n cap, .string ⟨s.toArray⟩] w (PartsPost (splitR l s) w) := by
  have hfew := hr.few
  have HLEN := Lib.hid hr.len
  have HR := Lib.hid hr
  have HDEF : Hid (splitR l s = if isNumB s = false then noSpl 3 else (l.findSome? (tryCtry s)).getD (noSpl 8)) := rfl
  generalize splitR l s = R at HDEF ⊢
  clear hr
  go_enter Tryz.func23, Tryz.ntmps23
  go_wp2_with fail
  refine (form_l s _ hs).mono ?_
  rintro e w1 ⟨rfl, hb1⟩
  have hz0 : w.heap.size < w1.heap.size := by have := hb1.size; simp at this; omega
  have HB1 : Hid (Below w.heap.size w w1) := ext_trans (ext_alloc (Below.refl _ _)) hb1
  have HTH : Hid (w1.there w.heap.size 0 3) := there_below (w := w.alloc (.cells zero3 50)) (fun j hj => by
    match j, hj with
    | 0, _ | 1, _ | 2, _ => exact ⟨by simp [zero3], by simp⟩) (by simp) hb1
  clear hb1
  generalize isNumB s = g at HDEF ⊢
  as_aux_lemma =>
    cases g
    · have HF : Hid (R = noSpl 3) := HDEF.out
      have HC9 := Lib.hid (World.rangeAt_setCells_same w1 w.heap.size 0 zero3.toList HTH.out)
      have HB9 := Lib.hid (setCells_ext (B := w.heap.size) (Nat.le_refl _) zero3.toList w1 0 HB1.out)
      as_aux_lemma =>
        go_wp2_with (refine wpList_store_mid rfl 50 (.tmp 4) (.tmp 17) rfl w.heap.size 0 zero3 rfl rfl HTH.out parts_size zero3_one ?_; generalize World.setCells w1 w.heap.size 0 _ = W9 at HC9 HB9 ⊢)
        (try simp only [Exit.inBlock, Exit.then])
        refine bodyPost_ret (?_ : _ = Result.ok (.tuple #[.agg zero3, .int .i64 3]) _) rfl ?_
        · exact results_cell2 (t := 4) (u := 5) (by rfl) _ _ _ Tryz.isAgg50 Tryz.sizeOf50 (by rfl) zero3.toList rfl (fun j v hj => by have := HC9.out j v hj; rw [Nat.zero_add] at this; exact this)
        exact ⟨by rw [HF.out]; rfl, HB9.out⟩
    · have HD : Hid (R = (l.findSome? (tryCtry s)).getD (noSpl 8)) := HDEF.out
      clear HDEF
      as_aux_lemma =>
        go_wp2_with fail
        go_loopw [20] (fun it wr => ∃ k : Nat, k ≤ n ∧ it = .int .i64 k ∧ Hid (Below w1.heap.size w1 wr) ∧ Hid (∀ j, j < k → tryCtry s (l.getD j noCtry) = none)) (fun it _ => n - (intOf it).toNat)
        case atStart => exact ⟨0, Nat.zero_le _, rfl, Below.refl _ _, fun j hj => absurd hj (by omega)⟩
        case round =>
          obtain ⟨wo, rfl⟩ : ∃ wo : World, wo = wr := ⟨_, rfl⟩
          obtain ⟨i, hk, rfl, HB, HN⟩ := hrel
          have HTO := Lib.hid (there_below HTH.out hz0 HB.out)
          have HBO := Lib.hid (ext_trans HB1.out HB.out)
          have hzo : w.heap.size < wo.heap.size := Nat.lt_of_lt_of_le hz0 HB.out.size
          by_cases hlt : i < n
          · have HRK := Lib.hid (HR.out.below HBO.out)
            rcases HRK.out.row with h0 | ⟨b, off, rfl, hb, hcl⟩
            · omega
            have hil : i < l.length := by rw [← HLEN.out]; exact hlt
            obtain ⟨c0, c1, c2, c3⟩ := ctry_cells (hcl i hlt)
            have HFI := Lib.hid (HRK.out.each i hil)
            obtain ⟨hcode, habr, htr, hmany, -, -⟩ := HRK.out.each i hil
            have HX : Hid (∀ x, tryCtry s (l.getD i noCtry) = some x → R = x) := fun x hx => by rw [HD.out, some_at (tryCtry s) noCtry l i x hil HN.out hx]; rfl
            have HST : Hid (tryCtry s (l.getD i noCtry) = none → ∀ j, j < i + 1 → tryCtry s (l.getD j noCtry) = none) := fun h9 j hj => by
              rcases Nat.lt_or_eq_of_le (Nat.lt_succ_iff.1 hj) with h | h
              · exact HN.out j h
              · subst h; exact h9
            generalize l.getD i noCtry = c at c0 c1 c2 c3 hcode habr htr hmany HFI HX HST
            obtain ⟨code, abroad, trunk, aa, an, ac, areas⟩ := c
            simp only at hcode habr htr hmany c0 c1 c2 c3
            clear hcl hil
            have HCP := Lib.hid (fun w => cutPrefix_l s (43 :: code) w)
            have HTP : Hid (Lib.hasPrefix s (43 :: code) = true → Lib.trimPrefix s (43 :: code) = s.drop (1 + code.length)) := fun h => by
              unfold Lib.trimPrefix; rw [if_pos h, List.length_cons, Nat.add_comm]
            have HTC : Hid (tryCtry s ⟨code, abroad, trunk, aa, an, ac, areas⟩ = if Lib.hasPrefix s (43 :: code) = true then inAreas code (s.drop (1 + code.length)) areas else none) := rfl
            have htl : (Lib.trimPrefix s (43 :: code)).length ≤ 1000 := Nat.le_trans (Lib.trimPrefix_le _ _) hs
            as_aux_lemma =>
              go_wp2_with fail
              rw [show (⟨#[43]⟩ : ByteArray) ++ ⟨code.toArray⟩ = ⟨(43 :: code).toArray⟩ from cat_str [43] code]
              refine (HCP.out _).mono ?_
              rintro e w2 ⟨rfl, rfl⟩
              generalize Lib.trimPrefix s (43 :: code) = nat at HTP htl ⊢
              generalize Lib.hasPrefix s (43 :: code) = g at HTP HTC ⊢
              cases g
              · have HNO := Lib.hid (HST.out HTC.out)
                as_aux_lemma =>
                  go_wp2_with fail
                  go_roundw
                  case rel => exact ⟨i + 1, by omega, by go_num, ext_alloc HB.out, HNO.out⟩
                  case measure => simp [intOf]; omega
              · have hnat := HTP.out rfl
                have HT2 : Hid (tryCtry s ⟨code, abroad, trunk, aa, an, ac, areas⟩ = inAreas code nat areas) := by show _ = _; rw [HTC.out, hnat]; rfl
                clear HTP HTC hnat HCP
                generalize tryCtry s ⟨code, abroad, trunk, aa, an, ac, areas⟩ = TR at HT2 HX HST
                have hal : an = areas.length := HFI.out.row.len
                have HAL := Lib.hid hal
                clear hal
                have HBA : Hid (Below w.heap.size w (wo.alloc (.cells #[.string ⟨code.toArray⟩, .string ⟨abroad.toArray⟩, .string ⟨trunk.toArray⟩, .slice aa an ac] 68))) := ext_alloc HBO.out
                have d0 : (wo.alloc (.cells #[.string ⟨code.toArray⟩, .string ⟨abroad.toArray⟩, .string ⟨trunk.toArray⟩, .slice aa an ac] 68)).cell? ⟨wo.heap.size, 0, none⟩ = some (.string ⟨code.toArray⟩) := by go_simp
                have d3 : (wo.alloc (.cells #[.string ⟨code.toArray⟩, .string ⟨abroad.toArray⟩, .string ⟨trunk.toArray⟩, .slice aa an ac] 68)).cell? ⟨wo.heap.size, 3, none⟩ = some (.slice aa an ac) := by go_simp
                have HTA := Lib.hid (there_below HTO.out hzo (ext_alloc (o := .cells #[.string ⟨code.toArray⟩, .string ⟨abroad.toArray⟩, .string ⟨trunk.toArray⟩, .slice aa an ac] 68) (Below.refl _ _)))
                have hza : wo.heap.size < (wo.alloc (.cells #[.string ⟨code.toArray⟩, .string ⟨abroad.toArray⟩, .string ⟨trunk.toArray⟩, .slice aa an ac] 68)).heap.size := by simp
                have HF5 : Hid (CtryFine (wo.alloc (.cells #[.string ⟨code.toArray⟩, .string ⟨abroad.toArray⟩, .string ⟨trunk.toArray⟩, .slice aa an ac] 68)) ⟨code, abroad, trunk, aa, an, ac, areas⟩) := HFI.out.below (ext_alloc (Below.refl _ _))
                have HBW : Hid (Below w1.heap.size w1 (wo.alloc (.cells #[.string ⟨code.toArray⟩, .string ⟨abroad.toArray⟩, .string ⟨trunk.toArray⟩, .slice aa an ac] 68))) := ext_alloc HB.out
                generalize wo.alloc (.cells #[.string ⟨code.toArray⟩, .string ⟨abroad.toArray⟩, .string ⟨trunk.toArray⟩, .slice aa an ac] 68) = W5 at HBA d0 d3 HTA hza HF5 HBW ⊢
                clear c0 c1 c2 c3 HFI HRK HTO
                as_aux_lemma =>
                  go_wp2_with fail
                  go_loopw [37] (fun it wq => ∃ j : Nat, j ≤ an ∧ it = .int .i64 j ∧ Hid (Below W5.heap.size W5 wq) ∧ Hid (∀ j9, j9 < j → Lib.hasPrefix nat (areas.getD j9 noArea).pre = false)) (fun it _ => an - (intOf it).toNat)
                  case atStart => exact ⟨0, Nat.zero_le _, rfl, Below.refl _ _, fun j hj => absurd hj (by omega)⟩
                  case round =>
                    obtain ⟨j, hj, rfl, HBQ, HNQ⟩ := hrel
                    have hzq : wo.heap.size < wr.heap.size := Nat.lt_of_lt_of_le hza HBQ.out.size
                    have hzw : w.heap.size < wr.heap.size := by omega
                    have e0 := (HBQ.out.cell (p := ⟨wo.heap.size, 0, none⟩) hza).trans d0
                    have HTQ := Lib.hid (there_below HTA.out (by omega) HBQ.out)
                    have HBR := Lib.hid (ext_trans HBA.out HBQ.out)
                    clear d0 d3
                    as_aux_lemma =>
                      by_cases hlj : j < an
                      · rcases HF5.out.row.row with h0 | ⟨ab, ao, haa, hab, hac⟩
                        · have h1 : an = 0 := h0
                          omega
                        have haa' : aa = some ⟨ab, ao, none⟩ := haa
                        subst haa'
                        have hjl : j < areas.length := by rw [← HAL.out]; exact hlj
                        obtain ⟨a0, a1, a2⟩ := area_cells (fun q hq => (HBQ.out.cell (p := ⟨ab, ao + j * 3 + q, none⟩) hab).trans (hac j hlj q hq))
                        have HAF : AreaFine (areas.getD j noArea) := HF5.out.each j hjl
                        have HFX : Hid (Lib.hasPrefix nat (areas.getD j noArea).pre = true → R = inArea code nat (areas.getD j noArea)) := fun h => HX.out _ (by rw [HT2.out, inAreas, find_at _ noArea areas j hjl HNQ.out h]; rfl)
                        have HSA : Hid (Lib.hasPrefix nat (areas.getD j noArea).pre = false → ∀ j9, j9 < j + 1 → Lib.hasPrefix nat (areas.getD j9 noArea).pre = false) := fun h9 j9 hj9 => by
                          rcases Nat.lt_or_eq_of_le (Nat.lt_succ_iff.1 hj9) with h | h
                          · exact HNQ.out j9 h
                          · subst h; exact h9
                        generalize areas.getD j noArea = y at a0 a1 a2 HAF HFX HSA
                        obtain ⟨pre, low, high⟩ := y
                        obtain ⟨f1, f2, f3, f4, f5⟩ := HAF
                        simp only at a0 a1 a2 f1 f2 f3 f4 f5
                        have HFX : Hid (Lib.hasPrefix nat pre = true → R = inArea code nat ⟨pre, low, high⟩) := HFX
                        have HSA : Hid (Lib.hasPrefix nat pre = false → ∀ j9, j9 < j + 1 → Lib.hasPrefix nat (areas.getD j9 noArea).pre = false) := HSA
                        have HTP : Hid (Lib.hasPrefix nat pre = true → Lib.trimPrefix nat pre = nat.drop pre.length) := fun h => by unfold Lib.trimPrefix; rw [if_pos h]
                        clear hac hjl haa
                        as_aux_lemma =>
                          go_wp2_with fail
                          refine (cutPrefix_l nat pre _).mono ?_
                          rintro e w2 ⟨rfl, rfl⟩
                          generalize Lib.trimPrefix nat pre = rest at HTP ⊢
                          generalize Lib.hasPrefix nat pre = g2 at HFX HSA HTP ⊢
                          cases g2
                          · have HNO := Lib.hid (HSA.out rfl)
                            as_aux_lemma =>
                              go_wp2_with fail
                              go_roundw
                              case rel => exact ⟨j + 1, by omega, by go_num, ext_alloc HBQ.out, HNO.out⟩
                              case measure => simp [intOf]; omega
                          · have HRR := Lib.hid (HFX.out rfl)
                            have HRE := Lib.hid (HTP.out rfl)
                            clear HFX HSA HTP
                            have HDI : Hid (inArea code nat ⟨pre, low, high⟩ = if (decide (low ≤ (nat.length : Int)) && decide ((nat.length : Int) ≤ high)) = false then noSpl 1 else ⟨0, code, pre, nat.drop pre.length⟩) := by
                              show _ = _
                              unfold inArea
                              by_cases k1 : (nat.length : Int) < low
                              · rw [decide_eq_true k1, decide_eq_false (show ¬ low ≤ (nat.length : Int) by omega)]; rfl
                              · by_cases k2 : high < (nat.length : Int)
                                · rw [decide_eq_true k2, decide_eq_false (show ¬ (nat.length : Int) ≤ high by omega), Bool.and_false, Bool.or_true]; rfl
                                · rw [decide_eq_false k1, decide_eq_false k2, decide_eq_true (show low ≤ (nat.length : Int) by omega), decide_eq_true (show (nat.length : Int) ≤ high by omega)]; rfl
                            as_aux_lemma =>
                              go_wp2_with fail
                              refine (in_any _ low high _).mono ?_
                              rintro e w2 ⟨rfl, rfl⟩
                              generalize (decide (low ≤ (nat.length : Int)) && decide ((nat.length : Int) ≤ high)) = g3 at HDI ⊢
                              have HT4 : Hid ((wr.alloc (.cells #[.string ⟨pre.toArray⟩, .int .i64 low, .int .i64 high] 72)).there w.heap.size 0 3) := there_below HTQ.out hzw (ext_alloc (Below.refl _ _))
                              have HB4 : Hid (Below w.heap.size w (wr.alloc (.cells #[.string ⟨pre.toArray⟩, .int .i64 low, .int .i64 high] 72))) := ext_alloc HBR.out
                              cases g3
                              · have HF : Hid (R = noSpl 1) := HRR.out.trans HDI.out
                                have HC9 := Lib.hid (World.rangeAt_setCells_same (wr.alloc (.cells #[.string ⟨pre.toArray⟩, .int .i64 low, .int .i64 high] 72)) w.heap.size 0 zero3.toList HT4.out)
                                have HB9 := Lib.hid (setCells_ext (B := w.heap.size) (Nat.le_refl _) zero3.toList (wr.alloc (.cells #[.string ⟨pre.toArray⟩, .int .i64 low, .int .i64 high] 72)) 0 HB4.out)
                                as_aux_lemma =>
                                  go_wp2_with (refine wpList_store_mid rfl 50 (.tmp 4) (.tmp 60) rfl w.heap.size 0 zero3 rfl rfl HT4.out parts_size zero3_one ?_; generalize World.setCells (wr.alloc (.cells #[.string ⟨pre.toArray⟩, .int .i64 low, .int .i64 high] 72)) w.heap.size 0 _ = W9 at HC9 HB9 ⊢)
                                  (try simp only [Exit.inBlock, Exit.then])
                                  refine bodyPost_ret (?_ : _ = Result.ok (.tuple #[.agg zero3, .int .i64 1]) _) rfl ?_
                                  · exact results_cell2 (t := 4) (u := 5) (by rfl) _ _ _ Tryz.isAgg50 Tryz.sizeOf50 (by rfl) zero3.toList rfl (fun j v hj => by have := HC9.out j v hj; rw [Nat.zero_add] at this; exact this)
                                  exact ⟨by rw [HF.out]; rfl, HB9.out⟩
                              · have HF : Hid (R = ⟨0, code, pre, rest⟩) := by show _ = _; rw [HRR.out, HDI.out, HRE.out]; rfl
                                clear HRR HDI HRE
                                have HC9 := Lib.hid (World.rangeAt_setCells_same (wr.alloc (.cells #[.string ⟨pre.toArray⟩, .int .i64 low, .int .i64 high] 72)) w.heap.size 0 [.string ⟨code.toArray⟩, .string ⟨pre.toArray⟩, .string ⟨rest.toArray⟩] HT4.out)
                                have HB9 := Lib.hid (setCells_ext (B := w.heap.size) (Nat.le_refl _) [.string ⟨code.toArray⟩, .string ⟨pre.toArray⟩, .string ⟨rest.toArray⟩] (wr.alloc (.cells #[.string ⟨pre.toArray⟩, .int .i64 low, .int .i64 high] 72)) 0 HB4.out)
                                as_aux_lemma =>
                                  go_wp2_with (refine wpList_store_mid rfl 50 (.tmp 4) (.tmp 68) rfl w.heap.size 0 [.string ⟨code.toArray⟩, .string ⟨pre.toArray⟩, .string ⟨rest.toArray⟩].toArray rfl rfl HT4.out parts_size (by simp [Value.oneCell']) ?_; simp only [List.toList_toArray]; generalize World.setCells (wr.alloc (.cells #[.string ⟨pre.toArray⟩, .int .i64 low, .int .i64 high] 72)) w.heap.size 0 _ = W9 at HC9 HB9 ⊢)
                                  (try simp only [Exit.inBlock, Exit.then])
                                  refine bodyPost_ret (?_ : _ = Result.ok (.tuple #[.agg [.string ⟨code.toArray⟩, .string ⟨pre.toArray⟩, .string ⟨rest.toArray⟩].toArray, .int .i64 0]) _) rfl ?_
                                  · exact results_cell2 (t := 4) (u := 5) (by rfl) _ _ _ Tryz.isAgg50 Tryz.sizeOf50 (by rfl) [.string ⟨code.toArray⟩, .string ⟨pre.toArray⟩, .string ⟨rest.toArray⟩] rfl (fun j v hj => by have := HC9.out j v hj; rw [Nat.zero_add] at this; exact this)
                                  exact ⟨by rw [HF.out], HB9.out⟩
                      · have hjn : j = an := by omega
                        have HNO : Hid (∀ j, j < i + 1 → tryCtry s (l.getD j noCtry) = none) := HST.out (by rw [HT2.out, inAreas, find_not _ noArea areas (fun j9 h9 => HNQ.out j9 (by have := HAL.out; omega))]; rfl)
                        as_aux_lemma =>
                          go_wp2_with fail
                          go_roundw
                          case rel => exact ⟨i + 1, by omega, by go_num, ext_trans HBW.out HBQ.out, HNO.out⟩
                          case measure => simp [intOf]; omega
          · have hkn : i = n := by omega
            have HF : Hid (R = noSpl 8) := by show _ = _; rw [HD.out, some_not (tryCtry s) noCtry l (fun j hj => HN.out j (by have := HLEN.out; omega))]; rfl
            have HC9 := Lib.hid (World.rangeAt_setCells_same wo w.heap.size 0 zero3.toList HTO.out)
            have HB9 := Lib.hid (setCells_ext (B := w.heap.size) (Nat.le_refl _) zero3.toList wo 0 HBO.out)
            as_aux_lemma =>
              go_wp2_with (refine wpList_store_mid rfl 50 (.tmp 4) (.tmp 71) rfl w.heap.size 0 zero3 rfl rfl HTO.out parts_size zero3_one ?_; generalize World.setCells wo w.heap.size 0 _ = W9 at HC9 HB9 ⊢)
              (try simp only [Exit.inBlock, Exit.then])
              refine bodyPost_ret (?_ : _ = Result.ok (.tuple #[.agg zero3, .int .i64 8]) _) rfl ?_
              · exact results_cell2 (t := 4) (u := 5) (by rfl) _ _ _ Tryz.isAgg50 Tryz.sizeOf50 (by rfl) zero3.toList rfl (fun j v hj => by have := HC9.out j v hj; rw [Nat.zero_add] at this; exact this)
              exact ⟨by rw [HF.out]; rfl, HB9.out⟩
end Go.Proofs.YthajppcmmmkfcaaGreatDoor

set_option linter.unusedVariables false
set_option linter.unusedSimpArgs false
namespace Go.Proofs.YthajppcmmmkfcaaGreatDoor
open Go.RowKit Go.Sort

theorem set_all {α : Type} {P : α → Prop} {d : Array α} (i : Nat) (v : α) (h : ∀ x ∈ d.toList, P x) (hv : P v) : ∀ x ∈ (d.setIfInBounds i v).toList, P x := by
  intro x hx
  rw [Array.toList_setIfInBounds] at hx
  rcases List.mem_or_eq_of_mem_set hx with h1 | rfl
  · exact h x h1
  · exact hv
theorem get_all {α : Type} [Inhabited α] {P : α → Prop} {d : Array α} (i : Nat) (h : ∀ x ∈ d.toList, P x) (h0 : P default) : P d[i]! := by
  rcases Nat.lt_or_ge i d.size with h1 | h1
  · rw [getElem!_pos d i h1]
    exact h _ (by simp)
  · rw [getElem!_neg d i (by omega)]
    exact h0
theorem swp_all {α : Type} [Inhabited α] {P : α → Prop} {d : Array α} (i j : Nat) (h : ∀ x ∈ d.toList, P x) (h0 : P default) : ∀ x ∈ (swp d i j).toList, P x :=
  set_all _ _ (set_all _ _ h (get_all j h h0)) (get_all i h h0)
theorem insInner_all {α : Type} [Inhabited α] {P : α → Prop} (lt : α → α → Bool) (a : Nat) (h0 : P default) : ∀ (j : Nat) (d : Array α), (∀ x ∈ d.toList, P x) → ∀ x ∈ (insInner lt a j d).toList, P x
  | 0, d, h => by unfold insInner; exact h
  | j + 1, d, h => by
    unfold insInner
    split
    · exact insInner_all lt a h0 j _ (swp_all _ _ h h0)
    · exact h
theorem insOuter_all {α : Type} [Inhabited α] {P : α → Prop} (lt : α → α → Bool) (a b : Nat) (h0 : P default) : ∀ (m i : Nat) (d : Array α), b - i ≤ m → (∀ x ∈ d.toList, P x) → ∀ x ∈ (insOuter lt a b i d).toList, P x := by
  intro m
  induction m with
  | zero =>
    intro i d h hd
    unfold insOuter
    rw [if_neg (by omega)]
    exact hd
  | succ m ih =>
    intro i d h hd
    unfold insOuter
    split
    · exact ih _ _ (by omega) (insInner_all lt a h0 i d hd)
    · exact hd
theorem sortW_all {P : List UInt8 → Prop} (h0 : P []) {l : List (List UInt8)} (h : ∀ x ∈ l, P x) : ∀ x ∈ sortW l, P x := by
  unfold sortW insertionSort
  exact insOuter_all _ _ _ h0 _ _ _ (Nat.le_refl _) (by simpa using h)
theorem ways_len {l : List Ctry} {c : Ctry} {area n : List UInt8} (h1 : c.abroad.length ≤ 100) (h2 : c.trunk.length ≤ 100) (h3 : (splitP l n).area.length ≤ 100) (h4 : (splitP l n).rest.length ≤ n.length) (hn : n.length ≤ 500) : ∀ x ∈ sortW (waysL l c area n), x.length ≤ 900 := by
  refine sortW_all (by simp) ?_
  unfold waysL
  intro x hx
  rcases List.mem_cons.1 hx with rfl | hx
  · rw [List.length_append, List.length_drop]; omega
  · split at hx
    · rcases List.mem_cons.1 hx with rfl | hx
      · simp only [List.length_append]; omega
      · split at hx
        · rcases List.mem_cons.1 hx with rfl | hx
          · omega
          · cases hx
        · cases hx
    · cases hx
theorem ways_one (l : List Ctry) (c : Ctry) (area n : List UInt8) : ∃ q, (sortW (waysL l c area n)).length = q + 1 ∧ q ≤ 2 := by
  refine ⟨(waysL l c area n).length - 1, ?_, ?_⟩
  · rw [sortW_len]; unfold waysL; simp
  · unfold waysL
    split
    · split <;> simp
    · simp

theorem right_split {l : List Ctry} {s : List UInt8} (hE : planErr l = 0) (han : ∀ i, i < l.length → (l.getD i noCtry).an = (l.getD i noCtry).areas.length) (h : RightN l s) : (splitP l s).err = 0 := by
  obtain ⟨r, c, z, d, hr, hrc, hz, hs, ⟨h1, h2⟩, hd⟩ := h
  have hz' : z < c.areas.length := by have := han r hr; rw [hrc] at this; omega
  obtain ⟨g1, -, -, g4, g5, g6, g7⟩ := area_parts (by have := plan_area hE r hr z (by rw [hrc]; exact hz'); rw [hrc] at this; exact this)
  obtain ⟨k1, k2, -, -, -⟩ := ctry_form (plan_ctry hE r hr)
  rw [hrc] at k1 k2
  have hapart : ∀ i j, i < c.areas.length → j < c.areas.length → Lib.hasPrefix (c.areas.getD j noArea).pre (c.areas.getD i noArea).pre = true → i = j := fun i j hi hj hp => areas_apart (by have := plan_area hE r hr; rw [hrc] at this; exact this) hi hj hp
  obtain ⟨a1, a2, a3⟩ := (digitsB_iff _ _ _).1 g1
  obtain ⟨b1, b2, b3⟩ := (digitsB_iff _ _ _).1 k1
  have hs2 : s = 43 :: (c.code ++ ((c.areas.getD z noArea).pre ++ d)) := by rw [hs]; simp
  clear hs
  subst hs2
  generalize hx : c.areas.getD z noArea = x at *
  have hnum : isNumB (43 :: (c.code ++ (x.pre ++ d))) = true := by
    rw [isNumB_eq]
    simp only [List.drop_succ_cons, List.drop_zero, Bool.and_eq_true]
    refine ⟨by rw [pre_iff]; exact List.cons_prefix_cons.2 ⟨rfl, List.nil_prefix⟩, ?_, ?_⟩
    · rw [digitsB_iff, digs_app, digs_app, b3, a3, hd]
      simp only [List.length_append]
      exact ⟨by omega, by omega, rfl⟩
    · cases hco : c.code with
      | nil => rw [hco] at b1; simp at b1
      | cons y t => rw [hco] at k2; simpa using k2
  have hfc : l.find? (fun c' => Lib.hasPrefix ((43 :: (c.code ++ (x.pre ++ d))).drop 1) c'.code) = some c := by
    rw [← hrc]
    refine find_at _ noCtry l r hr (fun j hj => ?_) ?_
    · have hal := plan_alone hE (c.code ++ (x.pre ++ d))
      rw [List.pairwise_iff_getElem] at hal
      have hjl : j < l.length := by omega
      have ej : l.getD j noCtry = l[j] := by simp [hjl]
      have er : l[r] = c := by rw [← hrc]; simp [hr]
      simp only [List.drop_succ_cons, List.drop_zero]
      rw [ej]
      cases hq : Lib.hasPrefix (c.code ++ (x.pre ++ d)) l[j].code with
      | false => rw [hrc]; exact hq
      | true =>
        have := hal j r hjl hr hj hq
        rw [er, pre_append] at this
        cases this
    · simp only [List.drop_succ_cons, List.drop_zero]
      rw [hrc]
      exact pre_append _ _
  have hdr : (43 :: (c.code ++ (x.pre ++ d))).drop (1 + c.code.length) = x.pre ++ d := by
    rw [Nat.add_comm, List.drop_succ_cons, List.drop_left]
  have hfa : c.areas.find? (fun a => Lib.hasPrefix (x.pre ++ d) a.pre) = some x := by
    rw [← hx]
    refine find_at _ noArea c.areas z hz' (fun j hj => ?_) ?_
    · cases hq : Lib.hasPrefix ((c.areas.getD z noArea).pre ++ d) (c.areas.getD j noArea).pre with
      | false => rfl
      | true =>
        exfalso
        rcases pre_or hq with h | h
        · have := hapart j z (by omega) hz' h
          omega
        · have := hapart z j hz' (by omega) h
          omega
    · exact pre_append _ _
  unfold splitP
  rw [if_neg (by rw [hnum]; exact Bool.noConfusion)]
  unfold splitIn
  rw [hfc]
  simp only [Option.bind_some]
  unfold inAreas
  rw [hdr, hfa]
  simp only [Option.map_some, Option.getD_some]
  unfold inArea
  rw [if_neg]
  simp only [Bool.or_eq_true, decide_eq_true_eq, List.length_append]
  omega
end Go.Proofs.YthajppcmmmkfcaaGreatDoor

set_option linter.unusedVariables false
set_option linter.unusedSimpArgs false
namespace Go.Proofs.YthajppcmmmkfcaaGreatDoor
open Go.RowKit

/-- Ways of a string that reaches a number. -/
def Via1 (l : List Ctry) (c : Ctry) (t : List UInt8) : Prop := ∃ i j r, i < l.length ∧ j < (l.getD i noCtry).areas.length ∧ t = c.abroad ++ ((l.getD i noCtry).code ++ (((l.getD i noCtry).areas.getD j noArea).pre ++ r)) ∧ ((l.getD i noCtry).areas.getD j noArea).low ≤ (((l.getD i noCtry).areas.getD j noArea).pre.length : Int) + r.length ∧ (((l.getD i noCtry).areas.getD j noArea).pre.length : Int) + r.length ≤ ((l.getD i noCtry).areas.getD j noArea).high
def Via2 (c : Ctry) (t : List UInt8) : Prop := ∃ j r, j < c.areas.length ∧ t = c.trunk ++ ((c.areas.getD j noArea).pre ++ r) ∧ (c.areas.getD j noArea).low ≤ ((c.areas.getD j noArea).pre.length : Int) + r.length ∧ ((c.areas.getD j noArea).pre.length : Int) + r.length ≤ (c.areas.getD j noArea).high
def Via3 (c : Ctry) (area t : List UInt8) : Prop := ∃ j, j < c.areas.length ∧ (c.areas.getD j noArea).pre = area ∧ Lib.hasPrefix t c.abroad = false ∧ Lib.hasPrefix t c.trunk = false ∧ (c.areas.getD j noArea).low ≤ (area.length : Int) + t.length ∧ (area.length : Int) + t.length ≤ (c.areas.getD j noArea).high
def Goes (l : List Ctry) (c : Ctry) (area t : List UInt8) : Prop := digitsB t 1 30 = true ∧ (Via1 l c t ∨ Via2 c t ∨ Via3 c area t)

theorem code_ne {l : List Ctry} {c : Ctry} {area : List UInt8} (hE : planErr l = 0) (hH : HomeIn l c area) (han : ∀ i, i < l.length → (l.getD i noCtry).an = (l.getD i noCtry).areas.length) : ∀ z, z < c.areas.length → (c.areas.getD z noArea).pre ≠ [] := by
  intro z hz h
  obtain ⟨k, hk, rfl⟩ := hH.here
  obtain ⟨g1, -⟩ := area_parts (plan_area hE k hk z hz)
  obtain ⟨a1, -⟩ := (digitsB_iff _ _ _).1 g1
  rw [h] at a1
  simp at a1
theorem right_of {l : List Ctry} {c : Ctry} {area : List UInt8} (hE : planErr l = 0) (hH : HomeIn l c area) (han : ∀ i, i < l.length → (l.getD i noCtry).an = (l.getD i noCtry).areas.length) {i j : Nat} {r : List UInt8} (hi : i < l.length) (hj : j < (l.getD i noCtry).areas.length) (hd : digs r = true) (h1 : ((l.getD i noCtry).areas.getD j noArea).low ≤ (((l.getD i noCtry).areas.getD j noArea).pre.length : Int) + r.length) (h2 : (((l.getD i noCtry).areas.getD j noArea).pre.length : Int) + r.length ≤ ((l.getD i noCtry).areas.getD j noArea).high) : (splitP l (43 :: ((l.getD i noCtry).code ++ (((l.getD i noCtry).areas.getD j noArea).pre ++ r)))).err = 0 :=
  right_split hE han ⟨i, _, j, r, hi, rfl, by rw [han i hi]; exact hj, by simp, ⟨h1, h2⟩, hd⟩
theorem reach_some {l : List Ctry} {c : Ctry} {area : List UInt8} (hE : planErr l = 0) (hH : HomeIn l c area) (han : ∀ i, i < l.length → (l.getD i noCtry).an = (l.getD i noCtry).areas.length) {t n : List UInt8} (hd : digitsB t 1 30 = true) (hn : reachN c area t = some n) (hs : (splitP l n).err = 0) : (reachP l c area t).1 = 0 := by
  unfold reachP
  rw [if_neg (by rw [hd]; exact Bool.noConfusion), hn]
  simp [hs]
theorem reach_goes {l : List Ctry} {c : Ctry} {area : List UInt8} (hE : planErr l = 0) (hH : HomeIn l c area) (han : ∀ i, i < l.length → (l.getD i noCtry).an = (l.getD i noCtry).areas.length) {t : List UInt8} (h : Goes l c area t) : (reachP l c area t).1 = 0 := by
  obtain ⟨hd, hv⟩ := h
  obtain ⟨d1, d2, d3⟩ := (digitsB_iff _ _ _).1 hd
  rcases hv with ⟨i, j, r, hi, hj, rfl, h1, h2⟩ | ⟨j, r, hj, rfl, h1, h2⟩ | ⟨j, hj, ha, p1, p2, h1, h2⟩
  · simp only [digs_app, Bool.and_eq_true] at d3
    refine reach_some hE hH han hd (n := 43 :: ((l.getD i noCtry).code ++ (((l.getD i noCtry).areas.getD j noArea).pre ++ r))) ?_ (right_of hE hH han hi hj d3.2.2.2 h1 h2)
    unfold reachN
    rw [if_pos (pre_append _ _), List.drop_left]
  · obtain ⟨k, hk, hkc⟩ := hH.here
    simp only [digs_app, Bool.and_eq_true] at d3
    subst hkc
    obtain ⟨-, g2, g3, -⟩ := area_parts (plan_area hE k hk j hj)
    refine reach_some hE hH han hd (n := 43 :: ((l.getD k noCtry).code ++ (((l.getD k noCtry).areas.getD j noArea).pre ++ r))) ?_ (right_of hE hH han hk hj d3.2.2 h1 h2)
    unfold reachN
    rw [if_neg, if_pos (pre_append _ _), List.drop_left]
    intro hq
    rw [← List.append_assoc] at hq
    rcases pre_or hq with h | h
    · rw [g2] at h; cases h
    · rw [g3] at h; cases h
  · obtain ⟨k, hk, hkc⟩ := hH.here
    have hne : area ≠ [] := by rw [← ha]; exact code_ne hE hH han j hj
    subst hkc
    refine reach_some hE hH han hd (n := 43 :: ((l.getD k noCtry).code ++ (((l.getD k noCtry).areas.getD j noArea).pre ++ t))) ?_ (right_of hE hH han hk hj d3 (by rw [ha]; exact h1) (by rw [ha]; exact h2))
    unfold reachN
    rw [if_neg (by rw [p1]; exact Bool.noConfusion), if_neg (by rw [p2]; exact Bool.noConfusion), if_pos hne, ha]
    simp
theorem goes_reach {l : List Ctry} {c : Ctry} {area : List UInt8} (hE : planErr l = 0) (hH : HomeIn l c area) (han : ∀ i, i < l.length → (l.getD i noCtry).an = (l.getD i noCtry).areas.length) {t : List UInt8} (h : (reachP l c area t).1 = 0) : Goes l c area t := by
  unfold reachP at h
  split at h
  · cases h
  rename_i hd
  have hd : digitsB t 1 30 = true := by simpa using hd
  cases hn : reachN c area t with
  | none => rw [hn] at h; cases h
  | some n =>
    rw [hn] at h
    simp only at h
    split at h
    · rename_i h1; exact absurd h h1
    rename_i hs
    have hs : (splitP l n).err = 0 := by simpa using hs
    obtain ⟨i, j, so⟩ := split_ok hs
    refine ⟨hd, ?_⟩
    have hf := so.form
    have hlo := so.low
    have hhi := so.high
    have hlj := so.lj
    have hli := so.li
    have hcode := so.code
    generalize (splitP l n).rest = r at hf hlo hhi
    unfold reachN at hn
    split at hn
    · rename_i hp
      injection hn with hn
      obtain ⟨x, hx⟩ := (pre_iff _ _).1 hp
      subst hx
      rw [List.drop_left] at hn
      rw [← hn] at hf
      injection hf with _ hf
      exact Or.inl ⟨i, j, r, hli, hlj, by rw [hf], hlo, hhi⟩
    · rename_i hp
      have hsame : ∀ y : List UInt8, n = 43 :: (c.code ++ y) → l.getD i noCtry = c ∧ y = ((l.getD i noCtry).areas.getD j noArea).pre ++ r := by
        intro y hy
        have hcc : l.getD i noCtry = c := by
          refine same_ctry hE hH hs so ?_
          have h9 := ref_code hE hH hs
          have h8 : Lib.hasPrefix n (43 :: c.code) = true := by rw [hy, pre_iff]; exact List.cons_prefix_cons.2 ⟨rfl, List.prefix_append _ _⟩
          rw [h8] at h9
          exact of_decide_eq_true h9.symm
        refine ⟨hcc, ?_⟩
        rw [hf, hcc] at hy
        injection hy with _ hy
        rw [hcc]
        exact (List.append_cancel_left hy).symm
      split at hn
      · rename_i hp2
        injection hn with hn
        obtain ⟨x, hx⟩ := (pre_iff _ _).1 hp2
        subst hx
        rw [List.drop_left] at hn
        obtain ⟨hcc, hy⟩ := hsame x hn.symm
        rw [hcc] at hlj hlo hhi hy
        exact Or.inr (Or.inl ⟨j, r, hlj, by rw [hy], hlo, hhi⟩)
      · rename_i hp2
        split at hn
        · rename_i ha
          injection hn with hn
          obtain ⟨hcc, hy⟩ := hsame (area ++ t) (by rw [← hn]; simp)
          rw [hcc] at hlj hlo hhi hy
          rcases hH.area with h0 | ⟨z, hz, hza⟩
          · exact absurd h0 ha
          · have hall : ∀ z, z < c.areas.length → areaErr c z = 0 := by
              obtain ⟨k, hk, rfl⟩ := hH.here
              exact plan_area hE k hk
            have hjz : z = j := by
              have p1 : area <+: area ++ t := List.prefix_append _ _
              have p2 : (c.areas.getD j noArea).pre <+: area ++ t := by rw [hy]; exact List.prefix_append _ _
              rcases List.prefix_or_prefix_of_prefix p1 p2 with h | h
              · exact areas_apart hall hz hlj (by rw [pre_iff, hza]; exact h)
              · exact (areas_apart hall hlj hz (by rw [pre_iff, hza]; exact h)).symm
            subst hjz
            rw [hza] at hy hlo hhi
            have hy := List.append_cancel_left hy
            subst hy
            exact Or.inr (Or.inr ⟨z, hz, hza, by simpa using hp, by simpa using hp2, hlo, hhi⟩)
        · cases hn
end Go.Proofs.YthajppcmmmkfcaaGreatDoor
