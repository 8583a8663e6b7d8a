/- What is proved here: lemmas and contracts for the statement, put together out of smaller texts (ActFlt, ActChk, ActMrg). No condition beyond those stated. -/
import Derived.Test.YtamoclofloijpaaGreatDoorAbPkD
import Derived.Test.YtamoclofloijpaaGreatDoorAbPkA
import Derived.Test.YtamoclofloijpaaGreatDoorAbPkB
import Derived.IntWalk
set_option linter.unusedVariables false
set_option linter.unusedSimpArgs false
namespace Go.Proofs.YtamoclofloijpaaGreatDoor
open Go.RowKit Go.Sort Go.Lib

set_option maxRecDepth 100000 in
set_option maxHeartbeats 16000000 in
theorem actsFault_any (w : World) (base : Nat) (v : Value) (l : List Vact) (h : VactRow w base v l) (hl : l.length ≤ 1000) (hb : ∀ a ∈ l, ActB a) :
    Calls Tryz.prog 33 #[v] w (fun e w' => ∃ E : Int, e = .returned (.int .i64 E) ∧ (E = 0 → ActsOk l) ∧ Below w.heap.size w w') := by
  unfold VactRow at h
  obtain ⟨a, cap, rfl⟩ := own_shape h
  have HO := Lib.hid h
  have HB := Lib.hid hb
  obtain ⟨n, hn⟩ : ∃ n, n = l.length := ⟨_, rfl⟩
  have HN := Lib.hid hn
  rw [← hn] at HO hl ⊢
  clear hn h hb
  have hl0 : ¬ (1000 : Int) < (n : Int) := by omega
  go_enter Tryz.func33, Tryz.ntmps33
  go_wp2_with fail
  clear hl0
  go_loopw [11] (fun it wr => ∃ i : Nat, i ≤ n ∧ it = .int .i64 i ∧ Hid (∀ m, m < i → ActGood (l.getD m default)) ∧ Hid (∀ m, m + 1 < i → (l.getD m default).lt (l.getD (m + 1) default)) ∧ Hid (Below w.heap.size w wr)) (fun it _ => n - (intOf it).toNat)
  case atStart => exact ⟨0, Nat.zero_le _, rfl, (fun m hm => absurd hm (by omega)), (fun m hm => absurd hm (by omega)), Below.refl _ _⟩
  case round =>
    obtain ⟨i, hi, rfl, HG, HLT, HBW⟩ := hrel
    by_cases hlt : i < n
    case neg =>
      obtain rfl : i = n := by omega
      have hin : ¬ ((i : Int) < (i : Int)) := by omega
      have HE : Hid (ActsOk l) := ActsOk.of_steps (fun m hm => HG.out m (by have := HN.out; omega)) (fun m hm => HLT.out m (by have := HN.out; omega))
      as_aux_lemma =>
        go_wp2_with fail
        go_ret
        exact ⟨0, rfl, (fun _ => HE.out), HBW.out⟩
    have hin : (i : Int) < (n : Int) := by omega
    have hil : i < l.length := by have := HN.out; omega
    have hO := own_keep HO.out HBW.out
    obtain ⟨g, rfl, hg0, hgw⟩ := own_pos hO (by omega)
    have HBX := Lib.hid (HB.out _ (getD_mem hil))
    have HPREV : Hid (∀ i1, i = i1 + 1 → ∀ W9, Below w.heap.size w W9 → W9.cell? ⟨g, i1 * 6, none⟩ = some (.int .i64 (l.getD i1 default).at_) ∧ W9.cell? ⟨g, i1 * 6 + 1, none⟩ = some (.string ⟨(l.getD i1 default).box.toArray⟩) ∧ W9.cell? ⟨g, i1 * 6 + 2, none⟩ = some (.string ⟨(l.getD i1 default).id.toArray⟩) ∧ W9.cell? ⟨g, i1 * 6 + 3, none⟩ = some (.int .i64 (l.getD i1 default).kind) ∧ W9.cell? ⟨g, i1 * 6 + 4, none⟩ = some (.int .i64 (l.getD i1 default).long) ∧ W9.cell? ⟨g, i1 * 6 + 5, none⟩ = some (.string ⟨(l.getD i1 default).frm.toArray⟩)) := fun i1 e W9 hW => ⟨own_field Vact.cells (fun _ => rfl) (own_keep HO.out hW) i1 0 default (by omega) (by omega) rfl, own_field Vact.cells (fun _ => rfl) (own_keep HO.out hW) i1 1 default (by omega) (by omega) rfl, own_field Vact.cells (fun _ => rfl) (own_keep HO.out hW) i1 2 default (by omega) (by omega) rfl, own_field Vact.cells (fun _ => rfl) (own_keep HO.out hW) i1 3 default (by omega) (by omega) rfl, own_field Vact.cells (fun _ => rfl) (own_keep HO.out hW) i1 4 default (by omega) (by omega) rfl, own_field Vact.cells (fun _ => rfl) (own_keep HO.out hW) i1 5 default (by omega) (by omega) rfl⟩
    have HCM : Hid (∀ i1, i = i1 + 1 → ∀ W, Calls Tryz.prog 82 #[(l.getD i1 default).val, (l.getD i default).val] W fun e w' => e = .returned (.int .i64 (actOrd (l.getD i1 default) (l.getD i default))) ∧ Below W.heap.size W w') := fun i1 _ W => (actOrd_any _ _ W).mono fun e w' h => ⟨h.1, Grown.below h.2⟩
    have d0 := own_field Vact.cells (fun _ => rfl) hO i 0 default hil (by omega) rfl
    have d1 := own_field Vact.cells (fun _ => rfl) hO i 1 default hil (by omega) rfl
    have d2 := own_field Vact.cells (fun _ => rfl) hO i 2 default hil (by omega) rfl
    have d3 := own_field Vact.cells (fun _ => rfl) hO i 3 default hil (by omega) rfl
    have d4 := own_field Vact.cells (fun _ => rfl) hO i 4 default hil (by omega) rfl
    have d5 := own_field Vact.cells (fun _ => rfl) hO i 5 default hil (by omega) rfl
    have hXV : (l.getD i default).val = .agg #[.int .i64 (l.getD i default).at_, .string ⟨(l.getD i default).box.toArray⟩, .string ⟨(l.getD i default).id.toArray⟩, .int .i64 (l.getD i default).kind, .int .i64 (l.getD i default).long, .string ⟨(l.getD i default).frm.toArray⟩] := rfl
    rw [hXV] at HCM
    clear hXV hO
    obtain ⟨x, hx⟩ : ∃ x, x = l.getD i default := ⟨_, rfl⟩
    rw [← hx] at d0 d1 d2 d3 d4 d5 HCM HBX
    have HX := Lib.hid hx
    clear hx
    have HMO : Hid (∀ W, Calls Tryz.prog 60 #[.int .i64 x.at_] W (BoolP (isMomB x.at_) W)) := fun W => ((moment2_any _ W).mono (fun e w2 h => ⟨h.1, by rw [← h.2]; exact Below.refl _ _⟩))
    have HK1 : Hid (∀ W, Calls Tryz.prog 58 #[.string ⟨x.box.toArray⟩] W (BoolP (isKeyB x.box) W)) := fun W => ((key2_any _ W (by have := HBX.out.box; omega)).mono (fun e w2 h => ⟨h.1, by rw [← h.2]; exact Below.refl _ _⟩))
    have HK2 : Hid (∀ W, Calls Tryz.prog 58 #[.string ⟨x.id.toArray⟩] W (BoolP (isKeyB x.id) W)) := fun W => ((key2_any _ W (by have := HBX.out.id; omega)).mono (fun e w2 h => ⟨h.1, by rw [← h.2]; exact Below.refl _ _⟩))
    have HIN : Hid (∀ z lo hi W, Calls Tryz.prog 59 #[.int .i64 z, .int .i64 lo, .int .i64 hi] W (BoolP (decide (lo ≤ z) && decide (z ≤ hi)) W)) := fun z lo hi W => ((in2_any z lo hi W).mono (fun e w2 h => ⟨h.1, by rw [← h.2]; exact Below.refl _ _⟩))
    have HFR : Hid (∀ W, Calls Tryz.prog 85 #[.string ⟨x.frm.toArray⟩] W (BoolP (fromB x.frm) W)) := fun W => callerId_any _ W (by have := HBX.out.frm; omega)
    have HGOOD : Hid (isMomB x.at_ = true → isKeyB x.box = true → isKeyB x.id = true → (decide (1 ≤ x.kind) && decide (x.kind ≤ 5)) = true → (x.kind = 1 → (decide (1 ≤ x.long) && decide (x.long ≤ 86400000)) = true ∧ fromB x.frm = true) → (x.kind ≠ 1 → x.long = 0 ∧ x.frm = []) → ActGood x) := fun h1 h2 h3 h4 h5 h6 => by
      simp only [Bool.and_eq_true, decide_eq_true_eq] at h4 h5
      exact ⟨h1, h2, h3, h4.1, h4.2, fun e => ⟨(h5 e).1.1, (h5 e).1.2, (h5 e).2⟩, h6⟩
    obtain ⟨bM, hbM⟩ : ∃ b, b = isMomB x.at_ := ⟨_, rfl⟩
    obtain ⟨bK1, hbK1⟩ : ∃ b, b = isKeyB x.box := ⟨_, rfl⟩
    obtain ⟨bK2, hbK2⟩ : ∃ b, b = isKeyB x.id := ⟨_, rfl⟩
    obtain ⟨bF, hbF⟩ : ∃ b, b = fromB x.frm := ⟨_, rfl⟩
    rw [← hbM] at HMO
    have HEbM := Lib.hid hbM
    rw [← hbK1] at HK1
    have HEbK1 := Lib.hid hbK1
    rw [← hbK2] at HK2
    have HEbK2 := Lib.hid hbK2
    rw [← hbF] at HFR
    have HEbF := Lib.hid hbF
    obtain ⟨bI, hbI⟩ : ∃ b, b = (decide ((1 : Int) ≤ x.kind) && decide (x.kind ≤ 5)) := ⟨_, rfl⟩
    obtain ⟨bL, hbL⟩ : ∃ b, b = (decide ((1 : Int) ≤ x.long) && decide (x.long ≤ 86400000)) := ⟨_, rfl⟩
    have HEbI := Lib.hid hbI
    have HEbL := Lib.hid hbL
    have HINK := HIN.out x.kind 1 5
    rw [← hbI] at HINK
    have HINL := HIN.out x.long 1 86400000
    rw [← hbL] at HINL
    have HINK := Lib.hid HINK
    have HINL := Lib.hid HINL
    clear hbM hbK1 hbK2 hbF hbI hbL HIN
    obtain ⟨f5, hf5⟩ : ∃ f, f = x.frm := ⟨_, rfl⟩
    have HF5 := Lib.hid hf5
    clear hf5
    have HKD : Hid (x.kind = x.kind) := rfl
    obtain ⟨x0, hx0⟩ : ∃ z, z = x.at_ := ⟨_, rfl⟩
    obtain ⟨x3, hx3⟩ : ∃ z, z = x.kind := ⟨_, rfl⟩
    obtain ⟨x4, hx4⟩ : ∃ z, z = x.long := ⟨_, rfl⟩
    obtain ⟨b1, hb1⟩ : ∃ z : ByteArray, z = ⟨x.box.toArray⟩ := ⟨_, rfl⟩
    obtain ⟨b2, hb2⟩ : ∃ z : ByteArray, z = ⟨x.id.toArray⟩ := ⟨_, rfl⟩
    rw [← HF5.out] at d5 HFR HCM
    rw [← hx0] at d0 HMO HCM
    rw [← hx3] at d3 HINK HCM
    rw [← hx4] at d4 HINL HCM
    rw [← hb1] at d1 HK1 HCM
    rw [← hb2] at d2 HK2 HCM
    have HX3 := Lib.hid hx3
    have HX4 := Lib.hid hx4
    rw [Nat.add_zero] at d0
    clear hx0 hx3 hx4 hb1 hb2 HKD
    have X1 : Hid (Blk (wr.alloc (.cells #[.int .i64 x0, .string b1, .string b2, .int .i64 x3, .int .i64 x4, .string ⟨f5.toArray⟩] 45)) wr.heap.size [.int .i64 x0, .string b1, .string b2, .int .i64 x3, .int .i64 x4, .string ⟨f5.toArray⟩] 45) := Blk.new _ _ _
    have HB1 : Hid (Below w.heap.size w (wr.alloc (.cells #[.int .i64 x0, .string b1, .string b2, .int .i64 x3, .int .i64 x4, .string ⟨f5.toArray⟩] 45))) := ext_alloc HBW.out
    as_aux_lemma =>
      go_upto_region 6 with (fail)
      clear d0 d1 d2 d3 d4 d5 HBW
      generalize (wr.alloc (.cells #[.int .i64 x0, .string b1, .string b2, .int .i64 x3, .int .i64 x4, .string ⟨f5.toArray⟩] 45)) = w1 at X1 HB1 ⊢
      generalize wr.heap.size = B at X1 ⊢
      by_cases hk3 : x3 = 1
      case neg =>
        have hk3b : (x3 == 1) = false := beq_eq_false_iff_ne.2 hk3
        have HK3 : Hid (x.kind ≠ 1) := by show _ ≠ _; rw [← HX3.out]; exact hk3
        clear hk3
        have c0 := X1.out.cell 0 rfl
        have c1 := X1.out.cell 1 rfl
        have c2 := X1.out.cell 2 rfl
        have c3 := X1.out.cell 3 rfl
        have c4 := X1.out.cell 4 rfl
        have c5 := X1.out.cell 5 rfl
        as_aux_lemma =>
          go_wp2_with fail
          refine (HMO.out _).mono ?_
          rintro e w2 ⟨rfl, hb⟩
          have X2 := Lib.hid (X1.out.below hb)
          have HB2 := Lib.hid (ext_trans HB1.out hb)
          clear hb c0 c1 c2 c3 c4 c5 X1 HB1
          have c0 := X2.out.cell 0 rfl
          have c1 := X2.out.cell 1 rfl
          have c2 := X2.out.cell 2 rfl
          have c3 := X2.out.cell 3 rfl
          have c4 := X2.out.cell 4 rfl
          have c5 := X2.out.cell 5 rfl
          cases bM
          case false =>
            as_aux_lemma =>
              go_wp2_with fail
              go_ret
              exact ⟨_, rfl, (fun h => absurd h (by decide)), HB2.out⟩
          as_aux_lemma =>
            go_wp2_with fail
            refine (HK1.out _).mono ?_
            rintro e w3 ⟨rfl, hb⟩
            have X3 := Lib.hid (X2.out.below hb)
            have HB3 := Lib.hid (ext_trans HB2.out hb)
            clear hb c0 c1 c2 c3 c4 c5 X2 HB2
            have c0 := X3.out.cell 0 rfl
            have c1 := X3.out.cell 1 rfl
            have c2 := X3.out.cell 2 rfl
            have c3 := X3.out.cell 3 rfl
            have c4 := X3.out.cell 4 rfl
            have c5 := X3.out.cell 5 rfl
            cases bK1
            case false =>
              as_aux_lemma =>
                go_wp2_with fail
                go_ret
                exact ⟨_, rfl, (fun h => absurd h (by decide)), HB3.out⟩
            as_aux_lemma =>
              go_wp2_with fail
              refine (HK2.out _).mono ?_
              rintro e w4 ⟨rfl, hb⟩
              have X4 := Lib.hid (X3.out.below hb)
              have HB4 := Lib.hid (ext_trans HB3.out hb)
              clear hb c0 c1 c2 c3 c4 c5 X3 HB3
              have c0 := X4.out.cell 0 rfl
              have c1 := X4.out.cell 1 rfl
              have c2 := X4.out.cell 2 rfl
              have c3 := X4.out.cell 3 rfl
              have c4 := X4.out.cell 4 rfl
              have c5 := X4.out.cell 5 rfl
              cases bK2
              case false =>
                as_aux_lemma =>
                  go_wp2_with fail
                  go_ret
                  exact ⟨_, rfl, (fun h => absurd h (by decide)), HB4.out⟩
              as_aux_lemma =>
                go_wp2_with fail
                refine (HINK.out _).mono ?_
                rintro e w5 ⟨rfl, hb⟩
                have X5 := Lib.hid (X4.out.below hb)
                have HB5 := Lib.hid (ext_trans HB4.out hb)
                clear hb c0 c1 c2 c3 c4 c5 X4 HB4
                have c0 := X5.out.cell 0 rfl
                have c1 := X5.out.cell 1 rfl
                have c2 := X5.out.cell 2 rfl
                have c3 := X5.out.cell 3 rfl
                have c4 := X5.out.cell 4 rfl
                have c5 := X5.out.cell 5 rfl
                cases bI
                case false =>
                  as_aux_lemma =>
                    go_wp2_with fail
                    go_ret
                    exact ⟨_, rfl, (fun h => absurd h (by decide)), HB5.out⟩
                by_cases hx4z : x4 = 0
                case neg =>
                  have hx4b : (x4 != 0) = true := bne_iff_ne.2 hx4z
                  as_aux_lemma =>
                    go_wp2_with fail
                    go_ret
                    exact ⟨_, rfl, (fun h => absurd h (by decide)), HB5.out⟩
                have HX4Z := Lib.hid hx4z
                have hx4b : (x4 != 0) = false := by simpa using hx4z
                clear hx4z
                by_cases hf5z : f5 = []
                case neg =>
                  have hf5b : (f5 == []) = false := beq_eq_false_iff_ne.2 hf5z
                  have HFZ := Lib.hid hf5z
                  clear hf5z
                  as_aux_lemma =>
                    go_wp2_with fail
                    go_ret
                    exact ⟨_, rfl, (fun h => absurd h (by decide)), HB5.out⟩
                have HFZ := Lib.hid hf5z
                have hf5b : (f5 == []) = true := by rw [hf5z]; rfl
                clear hf5z
                have HGX : Hid (ActGood x) := HGOOD.out (by first | exact HEbM.out.symm | exact HEbM.out) (by first | exact HEbK1.out.symm | exact HEbK1.out) (by first | exact HEbK2.out.symm | exact HEbK2.out) (by first | exact HEbI.out.symm | exact HEbI.out) (fun h => absurd h HK3.out) (fun _ => ⟨HX4.out.symm.trans HX4Z.out, HF5.out.symm.trans HFZ.out⟩)
                as_aux_lemma =>
                  go_upto_region 19 with (fail)
                  have hd : Below w5.heap.size w5 w5.drew := ext_drew (Below.refl _ _)
                  have XD := Lib.hid (X5.out.below hd)
                  have HBD := Lib.hid (ext_trans HB5.out hd)
                  clear hd X5 HB5 c0 c1 c2 c3 c4 c5
                  by_cases hiz : i = 0
                  case pos =>
                    have HIZ := Lib.hid hiz
                    clear hiz HCM HPREV
                    as_aux_lemma =>
                      refine region_seqI (S := fun W9 => Below w5.drew.heap.size w5.drew W9) [(true, 0), (true, 1), (true, 2), (true, 3), (true, 4), (true, 5), (true, 6), (true, 7), (true, 8), (true, 9), (true, 10), (true, 11), (true, 12)] (by kernel_rfl) (by kernel_rfl) rfl (by kernel_rfl) (Below.refl _ _) ?_
                      generalize w5.drew = wd at XD HBD ⊢
                      simp only [seqOps, List.getD_cons_zero, List.getD_cons_succ]
                      refine seqI_take (v := .int .i64 i) rfl (fun W9 hW => by clear hW; go_simp) (fun _ _ _ h => h) ?_
                      simp only [Act.put, List.setIfInBounds_toArray, List.set_cons_zero, List.set_cons_succ]
                      refine seqI_take (v := .bool false) rfl (fun W9 hW => by clear hW; go_simp; exact HIZ.out) (fun _ _ _ h => h) ?_
                      simp only [Act.put, List.setIfInBounds_toArray, List.set_cons_zero, List.set_cons_succ]
                      refine seqI_take (v := .bool false) rfl (fun W9 hW => by clear hW; go_simp) (fun _ _ _ h => h) ?_
                      simp only [Act.put, List.setIfInBounds_toArray, List.set_cons_zero, List.set_cons_succ]
                      refine seqI_skip rfl (fun _ _ _ h => h) ?_
                      simp only [Act.put, List.setIfInBounds_toArray, List.set_cons_zero, List.set_cons_succ]
                      refine seqI_skip rfl (fun _ _ _ h => h) ?_
                      simp only [Act.put, List.setIfInBounds_toArray, List.set_cons_zero, List.set_cons_succ]
                      refine seqI_skip rfl (fun _ _ _ h => h) ?_
                      simp only [Act.put, List.setIfInBounds_toArray, List.set_cons_zero, List.set_cons_succ]
                      refine seqI_skip rfl (fun _ _ _ h => h) ?_
                      simp only [Act.put, List.setIfInBounds_toArray, List.set_cons_zero, List.set_cons_succ]
                      refine seqI_skip rfl (fun _ _ _ h => h) ?_
                      simp only [Act.put, List.setIfInBounds_toArray, List.set_cons_zero, List.set_cons_succ]
                      refine seqI_skip rfl (fun _ _ _ h => h) ?_
                      simp only [Act.put, List.setIfInBounds_toArray, List.set_cons_zero, List.set_cons_succ]
                      refine seqI_skip rfl (fun _ _ _ h => h) ?_
                      simp only [Act.put, List.setIfInBounds_toArray, List.set_cons_zero, List.set_cons_succ]
                      refine seqI_skip rfl (fun _ _ _ h => h) ?_
                      simp only [Act.put, List.setIfInBounds_toArray, List.set_cons_zero, List.set_cons_succ]
                      refine seqI_take (v := .bool false) rfl (fun W9 hW => by clear hW; go_simp) (fun _ _ _ h => h) ?_
                      simp only [Act.put, List.setIfInBounds_toArray, List.set_cons_zero, List.set_cons_succ]
                      refine seqI_take (v := .bool false) rfl (fun W9 hW => by clear hW; go_simp) (fun _ _ _ h => h) ?_
                      simp only [Act.put, List.setIfInBounds_toArray, List.set_cons_zero, List.set_cons_succ]
                      refine seqI_nil ?_
                      as_aux_lemma =>
                        go_wp2_with fail
                        go_roundw
                        case rel => exact ⟨i + 1, by omega, by go_num, (fun m hm => (by
                          by_cases e : m = i
                          · rw [e, ← HX.out]; exact HGX.out
                          · exact HG.out m (by omega))), (fun m hm => absurd hm (by have := HIZ.out; omega)), HBD.out⟩
                        case measure => simp [intOf]; omega
                  obtain ⟨i1, hi1⟩ : ∃ i1, i = i1 + 1 := ⟨i - 1, by omega⟩
                  have HI1 := Lib.hid hi1
                  have hip : 0 < i := by omega
                  have HIP := Lib.hid hip
                  have hw1 : IntKind.i64.wrap ((i : Int) - 1) = (i1 : Int) := by rw [show (i : Int) - 1 = (i1 : Int) by omega]; exact IntWalk.i64_in _ (by omega)
                  have h1n : (i1 : Int) < (n : Int) := by omega
                  have h10 : ¬ ((i1 : Int) < 0) := by omega
                  have HC1 := Lib.hid (HCM.out i1 hi1)
                  have HP1 := Lib.hid (HPREV.out i1 hi1)
                  clear hiz hi1 hip HCM HPREV
                  obtain ⟨r, hr⟩ : ∃ r, r = actOrd (l.getD i1 default) x := ⟨_, rfl⟩
                  have HR := Lib.hid hr
                  rw [← hr] at HC1
                  have HC2 : Hid (∀ W, Calls Tryz.prog 82 #[.agg #[.int .i64 (l.getD i1 default).at_, .string ⟨(l.getD i1 default).box.toArray⟩, .string ⟨(l.getD i1 default).id.toArray⟩, .int .i64 (l.getD i1 default).kind, .int .i64 (l.getD i1 default).long, .string ⟨(l.getD i1 default).frm.toArray⟩], .agg #[.int .i64 x0, .string b1, .string b2, .int .i64 x3, .int .i64 x4, .string ⟨f5.toArray⟩]] W fun e w' => e = .returned (.int .i64 r) ∧ Below W.heap.size W w') := HC1.out
                  clear hr HC1
                  generalize (l.getD i1 default).at_ = z0 at HP1 HC2
                  generalize (⟨(l.getD i1 default).box.toArray⟩ : ByteArray) = z1 at HP1 HC2
                  generalize (⟨(l.getD i1 default).id.toArray⟩ : ByteArray) = z2 at HP1 HC2
                  generalize (l.getD i1 default).kind = z3 at HP1 HC2
                  generalize (l.getD i1 default).long = z4 at HP1 HC2
                  generalize (⟨(l.getD i1 default).frm.toArray⟩ : ByteArray) = z5 at HP1 HC2
                  have HCE : Hid (∀ W9, Below w5.drew.heap.size w5.drew W9 → (W9.cell? ⟨g, i1 * 6, none⟩ = some (.int .i64 z0) ∧ W9.cell? ⟨g, i1 * 6 + 1, none⟩ = some (.string z1) ∧ W9.cell? ⟨g, i1 * 6 + 2, none⟩ = some (.string z2) ∧ W9.cell? ⟨g, i1 * 6 + 3, none⟩ = some (.int .i64 z3) ∧ W9.cell? ⟨g, i1 * 6 + 4, none⟩ = some (.int .i64 z4) ∧ W9.cell? ⟨g, i1 * 6 + 5, none⟩ = some (.string z5)) ∧ (W9.cell? ⟨B, 0, none⟩ = some (.int .i64 x0) ∧ W9.cell? ⟨B, 1, none⟩ = some (.string b1) ∧ W9.cell? ⟨B, 2, none⟩ = some (.string b2) ∧ W9.cell? ⟨B, 3, none⟩ = some (.int .i64 x3) ∧ W9.cell? ⟨B, 4, none⟩ = some (.int .i64 x4) ∧ W9.cell? ⟨B, 5, none⟩ = some (.string ⟨f5.toArray⟩))) := fun W9 hW => ⟨HP1.out W9 (ext_trans HBD.out hW), ⟨(XD.out.below hW).cell 0 rfl, (XD.out.below hW).cell 1 rfl, (XD.out.below hW).cell 2 rfl, (XD.out.below hW).cell 3 rfl, (XD.out.below hW).cell 4 rfl, (XD.out.below hW).cell 5 rfl⟩⟩
                  clear HP1
                  as_aux_lemma =>
                    refine region_seqI (S := fun W9 => Below w5.drew.heap.size w5.drew W9) [(true, 0), (true, 1), (true, 2), (true, 3), (true, 4), (true, 5), (true, 6), (true, 7), (true, 8), (false, 9), (true, 10), (true, 11), (true, 12)] (by kernel_rfl) (by kernel_rfl) rfl (by kernel_rfl) (Below.refl _ _) ?_
                    generalize w5.drew = wd at XD HBD HCE ⊢
                    simp only [seqOps, List.getD_cons_zero, List.getD_cons_succ]
                    refine seqI_take (v := .int .i64 i) rfl (fun W9 hW => by clear hW; go_simp) (fun _ _ _ h => h) ?_
                    simp only [Act.put, List.setIfInBounds_toArray, List.set_cons_zero, List.set_cons_succ]
                    refine seqI_take (v := .bool true) rfl (fun W9 hW => by clear hW; go_simp; exact HIP.out) (fun _ _ _ h => h) ?_
                    simp only [Act.put, List.setIfInBounds_toArray, List.set_cons_zero, List.set_cons_succ]
                    refine seqI_take (v := .bool true) rfl (fun W9 hW => by clear hW; go_simp) (fun _ _ _ h => h) ?_
                    simp only [Act.put, List.setIfInBounds_toArray, List.set_cons_zero, List.set_cons_succ]
                    refine seqI_take (v := .slice (some ⟨g, 0, none⟩) n cap) rfl (fun W9 hW => by clear hW; go_simp) (fun _ _ _ h => h) ?_
                    simp only [Act.put, List.setIfInBounds_toArray, List.set_cons_zero, List.set_cons_succ]
                    refine seqI_take (v := .int .i64 i) rfl (fun W9 hW => by clear hW; go_simp) (fun _ _ _ h => h) ?_
                    simp only [Act.put, List.setIfInBounds_toArray, List.set_cons_zero, List.set_cons_succ]
                    refine seqI_take (v := .int .i64 i1) rfl (fun W9 hW => by clear hW; go_simp) (fun _ _ _ h => h) ?_
                    simp only [Act.put, List.setIfInBounds_toArray, List.set_cons_zero, List.set_cons_succ]
                    refine seqI_take (v := .pointer (some ⟨g, i1 * 6, none⟩)) rfl (fun W9 hW => by clear hW; go_simp) (fun _ _ _ h => h) ?_
                    simp only [Act.put, List.setIfInBounds_toArray, List.set_cons_zero, List.set_cons_succ]
                    refine seqI_take (v := .agg #[.int .i64 z0, .string z1, .string z2, .int .i64 z3, .int .i64 z4, .string z5]) rfl (fun W9 hW => by obtain ⟨⟨p0, p1, p2, p3, p4, p5⟩, ⟨q0, q1, q2, q3, q4, q5⟩⟩ := HCE.out W9 hW; clear hW; go_simp) (fun _ _ _ h => h) ?_
                    simp only [Act.put, List.setIfInBounds_toArray, List.set_cons_zero, List.set_cons_succ]
                    refine seqI_take (v := .agg #[.int .i64 x0, .string b1, .string b2, .int .i64 x3, .int .i64 x4, .string ⟨f5.toArray⟩]) rfl (fun W9 hW => by obtain ⟨⟨p0, p1, p2, p3, p4, p5⟩, ⟨q0, q1, q2, q3, q4, q5⟩⟩ := HCE.out W9 hW; clear hW; go_simp) (fun _ _ _ h => h) ?_
                    simp only [Act.put, List.setIfInBounds_toArray, List.set_cons_zero, List.set_cons_succ]
                    refine seqI_call _ _ rfl (by go_simp) (HC2.out wd) ?_
                    rintro e w9 ⟨rfl, hb⟩
                    have HB9 := Lib.hid (ext_trans HBD.out hb)
                    refine ⟨_, rfl, hb, ?_⟩
                    simp only [Act.put, List.setIfInBounds_toArray, List.set_cons_zero, List.set_cons_succ]
                    clear hb HCE XD HBD HC2
                    by_cases hr0 : r < 0
                    case neg =>
                      have hr1 : 0 ≤ r := by omega
                      refine seqI_take (v := .bool true) rfl (fun W9 hW => by clear hW; go_simp) (fun _ _ _ h => h) ?_
                      simp only [Act.put, List.setIfInBounds_toArray, List.set_cons_zero, List.set_cons_succ]
                      refine seqI_take (v := .bool true) rfl (fun W9 hW => by clear hW; go_simp) (fun _ _ _ h => h) ?_
                      simp only [Act.put, List.setIfInBounds_toArray, List.set_cons_zero, List.set_cons_succ]
                      refine seqI_take (v := .bool true) rfl (fun W9 hW => by clear hW; go_simp) (fun _ _ _ h => h) ?_
                      simp only [Act.put, List.setIfInBounds_toArray, List.set_cons_zero, List.set_cons_succ]
                      refine seqI_nil ?_
                      as_aux_lemma =>
                        go_wp2_with fail
                        go_ret
                        exact ⟨_, rfl, (fun h => absurd h (by decide)), HB9.out⟩
                    have HLR : Hid ((l.getD i1 default).lt x) := actOrd_neg (HB.out _ (getD_mem (by have := HN.out; have := HI1.out; omega))) HBX.out (by rw [← HR.out]; exact hr0)
                    have hr1 : ¬ (0 ≤ r) := by omega
                    refine seqI_take (v := .bool false) rfl (fun W9 hW => by clear hW; go_simp) (fun _ _ _ h => h) ?_
                    simp only [Act.put, List.setIfInBounds_toArray, List.set_cons_zero, List.set_cons_succ]
                    refine seqI_take (v := .bool false) rfl (fun W9 hW => by clear hW; go_simp) (fun _ _ _ h => h) ?_
                    simp only [Act.put, List.setIfInBounds_toArray, List.set_cons_zero, List.set_cons_succ]
                    refine seqI_take (v := .bool false) rfl (fun W9 hW => by clear hW; go_simp) (fun _ _ _ h => h) ?_
                    simp only [Act.put, List.setIfInBounds_toArray, List.set_cons_zero, List.set_cons_succ]
                    refine seqI_nil ?_
                    as_aux_lemma =>
                      go_wp2_with fail
                      go_roundw
                      case rel => exact ⟨i + 1, by omega, by go_num, (fun m hm => (by
                        by_cases e : m = i
                        · rw [e, ← HX.out]; exact HGX.out
                        · exact HG.out m (by omega))), (fun m hm => (by
                        by_cases e : m + 1 = i
                        · rw [e, ← HX.out, show m = i1 by have := HI1.out; omega]; exact HLR.out
                        · exact HLT.out m (by omega))), HB9.out⟩
                      case measure => simp [intOf]; omega
      subst hk3
      have c0 := X1.out.cell 0 rfl
      have c1 := X1.out.cell 1 rfl
      have c2 := X1.out.cell 2 rfl
      have c3 := X1.out.cell 3 rfl
      have c4 := X1.out.cell 4 rfl
      have c5 := X1.out.cell 5 rfl
      as_aux_lemma =>
        go_wp2_with fail
        refine (HMO.out _).mono ?_
        rintro e w2 ⟨rfl, hb⟩
        have X2 := Lib.hid (X1.out.below hb)
        have HB2 := Lib.hid (ext_trans HB1.out hb)
        clear hb c0 c1 c2 c3 c4 c5 X1 HB1
        have c0 := X2.out.cell 0 rfl
        have c1 := X2.out.cell 1 rfl
        have c2 := X2.out.cell 2 rfl
        have c3 := X2.out.cell 3 rfl
        have c4 := X2.out.cell 4 rfl
        have c5 := X2.out.cell 5 rfl
        cases bM
        case false =>
          as_aux_lemma =>
            go_wp2_with fail
            go_ret
            exact ⟨_, rfl, (fun h => absurd h (by decide)), HB2.out⟩
        as_aux_lemma =>
          go_wp2_with fail
          refine (HK1.out _).mono ?_
          rintro e w3 ⟨rfl, hb⟩
          have X3 := Lib.hid (X2.out.below hb)
          have HB3 := Lib.hid (ext_trans HB2.out hb)
          clear hb c0 c1 c2 c3 c4 c5 X2 HB2
          have c0 := X3.out.cell 0 rfl
          have c1 := X3.out.cell 1 rfl
          have c2 := X3.out.cell 2 rfl
          have c3 := X3.out.cell 3 rfl
          have c4 := X3.out.cell 4 rfl
          have c5 := X3.out.cell 5 rfl
          cases bK1
          case false =>
            as_aux_lemma =>
              go_wp2_with fail
              go_ret
              exact ⟨_, rfl, (fun h => absurd h (by decide)), HB3.out⟩
          as_aux_lemma =>
            go_wp2_with fail
            refine (HK2.out _).mono ?_
            rintro e w4 ⟨rfl, hb⟩
            have X4 := Lib.hid (X3.out.below hb)
            have HB4 := Lib.hid (ext_trans HB3.out hb)
            clear hb c0 c1 c2 c3 c4 c5 X3 HB3
            have c0 := X4.out.cell 0 rfl
            have c1 := X4.out.cell 1 rfl
            have c2 := X4.out.cell 2 rfl
            have c3 := X4.out.cell 3 rfl
            have c4 := X4.out.cell 4 rfl
            have c5 := X4.out.cell 5 rfl
            cases bK2
            case false =>
              as_aux_lemma =>
                go_wp2_with fail
                go_ret
                exact ⟨_, rfl, (fun h => absurd h (by decide)), HB4.out⟩
            as_aux_lemma =>
              go_wp2_with fail
              refine (HINK.out _).mono ?_
              rintro e w5 ⟨rfl, hb⟩
              have X5 := Lib.hid (X4.out.below hb)
              have HB5 := Lib.hid (ext_trans HB4.out hb)
              clear hb c0 c1 c2 c3 c4 c5 X4 HB4
              have c0 := X5.out.cell 0 rfl
              have c1 := X5.out.cell 1 rfl
              have c2 := X5.out.cell 2 rfl
              have c3 := X5.out.cell 3 rfl
              have c4 := X5.out.cell 4 rfl
              have c5 := X5.out.cell 5 rfl
              cases bI
              case false =>
                as_aux_lemma =>
                  go_wp2_with fail
                  go_ret
                  exact ⟨_, rfl, (fun h => absurd h (by decide)), HB5.out⟩
              as_aux_lemma =>
                go_wp2_with fail
                refine (HINL.out _).mono ?_
                rintro e w6 ⟨rfl, hb⟩
                have X6 := Lib.hid (X5.out.below hb)
                have HB6 := Lib.hid (ext_trans HB5.out hb)
                clear hb c0 c1 c2 c3 c4 c5 X5 HB5
                have c0 := X6.out.cell 0 rfl
                have c1 := X6.out.cell 1 rfl
                have c2 := X6.out.cell 2 rfl
                have c3 := X6.out.cell 3 rfl
                have c4 := X6.out.cell 4 rfl
                have c5 := X6.out.cell 5 rfl
                cases bL
                case false =>
                  as_aux_lemma =>
                    go_wp2_with fail
                    go_ret
                    exact ⟨_, rfl, (fun h => absurd h (by decide)), HB6.out⟩
                as_aux_lemma =>
                  go_wp2_with fail
                  refine (HFR.out _).mono ?_
                  rintro e w7 ⟨rfl, hb⟩
                  have X7 := Lib.hid (X6.out.below hb)
                  have HB7 := Lib.hid (ext_trans HB6.out hb)
                  clear hb c0 c1 c2 c3 c4 c5 X6 HB6
                  have c0 := X7.out.cell 0 rfl
                  have c1 := X7.out.cell 1 rfl
                  have c2 := X7.out.cell 2 rfl
                  have c3 := X7.out.cell 3 rfl
                  have c4 := X7.out.cell 4 rfl
                  have c5 := X7.out.cell 5 rfl
                  cases bF
                  case false =>
                    as_aux_lemma =>
                      go_wp2_with fail
                      go_ret
                      exact ⟨_, rfl, (fun h => absurd h (by decide)), HB7.out⟩
                  have HGX : Hid (ActGood x) := HGOOD.out (by first | exact HEbM.out.symm | exact HEbM.out) (by first | exact HEbK1.out.symm | exact HEbK1.out) (by first | exact HEbK2.out.symm | exact HEbK2.out) (by first | exact HEbI.out.symm | exact HEbI.out) (fun _ => ⟨(by first | exact HEbL.out.symm | exact HEbL.out), (by first | exact HEbF.out.symm | exact HEbF.out)⟩) (fun h => absurd (by first | exact HX3.out.symm | exact HX3.out) h)
                  as_aux_lemma =>
                    go_upto_region 19 with (fail)
                    have hd : Below w7.heap.size w7 w7.drew := ext_drew (Below.refl _ _)
                    have XD := Lib.hid (X7.out.below hd)
                    have HBD := Lib.hid (ext_trans HB7.out hd)
                    clear hd X7 HB7 c0 c1 c2 c3 c4 c5
                    by_cases hiz : i = 0
                    case pos =>
                      have HIZ := Lib.hid hiz
                      clear hiz HCM HPREV
                      as_aux_lemma =>
                        refine region_seqI (S := fun W9 => Below w7.drew.heap.size w7.drew W9) [(true, 0), (true, 1), (true, 2), (true, 3), (true, 4), (true, 5), (true, 6), (true, 7), (true, 8), (true, 9), (true, 10), (true, 11), (true, 12)] (by kernel_rfl) (by kernel_rfl) rfl (by kernel_rfl) (Below.refl _ _) ?_
                        generalize w7.drew = wd at XD HBD ⊢
                        simp only [seqOps, List.getD_cons_zero, List.getD_cons_succ]
                        refine seqI_take (v := .int .i64 i) rfl (fun W9 hW => by clear hW; go_simp) (fun _ _ _ h => h) ?_
                        simp only [Act.put, List.setIfInBounds_toArray, List.set_cons_zero, List.set_cons_succ]
                        refine seqI_take (v := .bool false) rfl (fun W9 hW => by clear hW; go_simp; exact HIZ.out) (fun _ _ _ h => h) ?_
                        simp only [Act.put, List.setIfInBounds_toArray, List.set_cons_zero, List.set_cons_succ]
                        refine seqI_take (v := .bool false) rfl (fun W9 hW => by clear hW; go_simp) (fun _ _ _ h => h) ?_
                        simp only [Act.put, List.setIfInBounds_toArray, List.set_cons_zero, List.set_cons_succ]
                        refine seqI_skip rfl (fun _ _ _ h => h) ?_
                        simp only [Act.put, List.setIfInBounds_toArray, List.set_cons_zero, List.set_cons_succ]
                        refine seqI_skip rfl (fun _ _ _ h => h) ?_
                        simp only [Act.put, List.setIfInBounds_toArray, List.set_cons_zero, List.set_cons_succ]
                        refine seqI_skip rfl (fun _ _ _ h => h) ?_
                        simp only [Act.put, List.setIfInBounds_toArray, List.set_cons_zero, List.set_cons_succ]
                        refine seqI_skip rfl (fun _ _ _ h => h) ?_
                        simp only [Act.put, List.setIfInBounds_toArray, List.set_cons_zero, List.set_cons_succ]
                        refine seqI_skip rfl (fun _ _ _ h => h) ?_
                        simp only [Act.put, List.setIfInBounds_toArray, List.set_cons_zero, List.set_cons_succ]
                        refine seqI_skip rfl (fun _ _ _ h => h) ?_
                        simp only [Act.put, List.setIfInBounds_toArray, List.set_cons_zero, List.set_cons_succ]
                        refine seqI_skip rfl (fun _ _ _ h => h) ?_
                        simp only [Act.put, List.setIfInBounds_toArray, List.set_cons_zero, List.set_cons_succ]
                        refine seqI_skip rfl (fun _ _ _ h => h) ?_
                        simp only [Act.put, List.setIfInBounds_toArray, List.set_cons_zero, List.set_cons_succ]
                        refine seqI_take (v := .bool false) rfl (fun W9 hW => by clear hW; go_simp) (fun _ _ _ h => h) ?_
                        simp only [Act.put, List.setIfInBounds_toArray, List.set_cons_zero, List.set_cons_succ]
                        refine seqI_take (v := .bool false) rfl (fun W9 hW => by clear hW; go_simp) (fun _ _ _ h => h) ?_
                        simp only [Act.put, List.setIfInBounds_toArray, List.set_cons_zero, List.set_cons_succ]
                        refine seqI_nil ?_
                        as_aux_lemma =>
                          go_wp2_with fail
                          go_roundw
                          case rel => exact ⟨i + 1, by omega, by go_num, (fun m hm => (by
                            by_cases e : m = i
                            · rw [e, ← HX.out]; exact HGX.out
                            · exact HG.out m (by omega))), (fun m hm => absurd hm (by have := HIZ.out; omega)), HBD.out⟩
                          case measure => simp [intOf]; omega
                    obtain ⟨i1, hi1⟩ : ∃ i1, i = i1 + 1 := ⟨i - 1, by omega⟩
                    have HI1 := Lib.hid hi1
                    have hip : 0 < i := by omega
                    have HIP := Lib.hid hip
                    have hw1 : IntKind.i64.wrap ((i : Int) - 1) = (i1 : Int) := by rw [show (i : Int) - 1 = (i1 : Int) by omega]; exact IntWalk.i64_in _ (by omega)
                    have h1n : (i1 : Int) < (n : Int) := by omega
                    have h10 : ¬ ((i1 : Int) < 0) := by omega
                    have HC1 := Lib.hid (HCM.out i1 hi1)
                    have HP1 := Lib.hid (HPREV.out i1 hi1)
                    clear hiz hi1 hip HCM HPREV
                    obtain ⟨r, hr⟩ : ∃ r, r = actOrd (l.getD i1 default) x := ⟨_, rfl⟩
                    have HR := Lib.hid hr
                    rw [← hr] at HC1
                    have HC2 : Hid (∀ W, Calls Tryz.prog 82 #[.agg #[.int .i64 (l.getD i1 default).at_, .string ⟨(l.getD i1 default).box.toArray⟩, .string ⟨(l.getD i1 default).id.toArray⟩, .int .i64 (l.getD i1 default).kind, .int .i64 (l.getD i1 default).long, .string ⟨(l.getD i1 default).frm.toArray⟩], .agg #[.int .i64 x0, .string b1, .string b2, .int .i64 1, .int .i64 x4, .string ⟨f5.toArray⟩]] W fun e w' => e = .returned (.int .i64 r) ∧ Below W.heap.size W w') := HC1.out
                    clear hr HC1
                    generalize (l.getD i1 default).at_ = z0 at HP1 HC2
                    generalize (⟨(l.getD i1 default).box.toArray⟩ : ByteArray) = z1 at HP1 HC2
                    generalize (⟨(l.getD i1 default).id.toArray⟩ : ByteArray) = z2 at HP1 HC2
                    generalize (l.getD i1 default).kind = z3 at HP1 HC2
                    generalize (l.getD i1 default).long = z4 at HP1 HC2
                    generalize (⟨(l.getD i1 default).frm.toArray⟩ : ByteArray) = z5 at HP1 HC2
                    have HCE : Hid (∀ W9, Below w7.drew.heap.size w7.drew W9 → (W9.cell? ⟨g, i1 * 6, none⟩ = some (.int .i64 z0) ∧ W9.cell? ⟨g, i1 * 6 + 1, none⟩ = some (.string z1) ∧ W9.cell? ⟨g, i1 * 6 + 2, none⟩ = some (.string z2) ∧ W9.cell? ⟨g, i1 * 6 + 3, none⟩ = some (.int .i64 z3) ∧ W9.cell? ⟨g, i1 * 6 + 4, none⟩ = some (.int .i64 z4) ∧ W9.cell? ⟨g, i1 * 6 + 5, none⟩ = some (.string z5)) ∧ (W9.cell? ⟨B, 0, none⟩ = some (.int .i64 x0) ∧ W9.cell? ⟨B, 1, none⟩ = some (.string b1) ∧ W9.cell? ⟨B, 2, none⟩ = some (.string b2) ∧ W9.cell? ⟨B, 3, none⟩ = some (.int .i64 1) ∧ W9.cell? ⟨B, 4, none⟩ = some (.int .i64 x4) ∧ W9.cell? ⟨B, 5, none⟩ = some (.string ⟨f5.toArray⟩))) := fun W9 hW => ⟨HP1.out W9 (ext_trans HBD.out hW), ⟨(XD.out.below hW).cell 0 rfl, (XD.out.below hW).cell 1 rfl, (XD.out.below hW).cell 2 rfl, (XD.out.below hW).cell 3 rfl, (XD.out.below hW).cell 4 rfl, (XD.out.below hW).cell 5 rfl⟩⟩
                    clear HP1
                    as_aux_lemma =>
                      refine region_seqI (S := fun W9 => Below w7.drew.heap.size w7.drew W9) [(true, 0), (true, 1), (true, 2), (true, 3), (true, 4), (true, 5), (true, 6), (true, 7), (true, 8), (false, 9), (true, 10), (true, 11), (true, 12)] (by kernel_rfl) (by kernel_rfl) rfl (by kernel_rfl) (Below.refl _ _) ?_
                      generalize w7.drew = wd at XD HBD HCE ⊢
                      simp only [seqOps, List.getD_cons_zero, List.getD_cons_succ]
                      refine seqI_take (v := .int .i64 i) rfl (fun W9 hW => by clear hW; go_simp) (fun _ _ _ h => h) ?_
                      simp only [Act.put, List.setIfInBounds_toArray, List.set_cons_zero, List.set_cons_succ]
                      refine seqI_take (v := .bool true) rfl (fun W9 hW => by clear hW; go_simp; exact HIP.out) (fun _ _ _ h => h) ?_
                      simp only [Act.put, List.setIfInBounds_toArray, List.set_cons_zero, List.set_cons_succ]
                      refine seqI_take (v := .bool true) rfl (fun W9 hW => by clear hW; go_simp) (fun _ _ _ h => h) ?_
                      simp only [Act.put, List.setIfInBounds_toArray, List.set_cons_zero, List.set_cons_succ]
                      refine seqI_take (v := .slice (some ⟨g, 0, none⟩) n cap) rfl (fun W9 hW => by clear hW; go_simp) (fun _ _ _ h => h) ?_
                      simp only [Act.put, List.setIfInBounds_toArray, List.set_cons_zero, List.set_cons_succ]
                      refine seqI_take (v := .int .i64 i) rfl (fun W9 hW => by clear hW; go_simp) (fun _ _ _ h => h) ?_
                      simp only [Act.put, List.setIfInBounds_toArray, List.set_cons_zero, List.set_cons_succ]
                      refine seqI_take (v := .int .i64 i1) rfl (fun W9 hW => by clear hW; go_simp) (fun _ _ _ h => h) ?_
                      simp only [Act.put, List.setIfInBounds_toArray, List.set_cons_zero, List.set_cons_succ]
                      refine seqI_take (v := .pointer (some ⟨g, i1 * 6, none⟩)) rfl (fun W9 hW => by clear hW; go_simp) (fun _ _ _ h => h) ?_
                      simp only [Act.put, List.setIfInBounds_toArray, List.set_cons_zero, List.set_cons_succ]
                      refine seqI_take (v := .agg #[.int .i64 z0, .string z1, .string z2, .int .i64 z3, .int .i64 z4, .string z5]) rfl (fun W9 hW => by obtain ⟨⟨p0, p1, p2, p3, p4, p5⟩, ⟨q0, q1, q2, q3, q4, q5⟩⟩ := HCE.out W9 hW; clear hW; go_simp) (fun _ _ _ h => h) ?_
                      simp only [Act.put, List.setIfInBounds_toArray, List.set_cons_zero, List.set_cons_succ]
                      refine seqI_take (v := .agg #[.int .i64 x0, .string b1, .string b2, .int .i64 1, .int .i64 x4, .string ⟨f5.toArray⟩]) rfl (fun W9 hW => by obtain ⟨⟨p0, p1, p2, p3, p4, p5⟩, ⟨q0, q1, q2, q3, q4, q5⟩⟩ := HCE.out W9 hW; clear hW; go_simp) (fun _ _ _ h => h) ?_
                      simp only [Act.put, List.setIfInBounds_toArray, List.set_cons_zero, List.set_cons_succ]
                      refine seqI_call _ _ rfl (by go_simp) (HC2.out wd) ?_
                      rintro e w9 ⟨rfl, hb⟩
                      have HB9 := Lib.hid (ext_trans HBD.out hb)
                      refine ⟨_, rfl, hb, ?_⟩
                      simp only [Act.put, List.setIfInBounds_toArray, List.set_cons_zero, List.set_cons_succ]
                      clear hb HCE XD HBD HC2
                      by_cases hr0 : r < 0
                      case neg =>
                        have hr1 : 0 ≤ r := by omega
                        refine seqI_take (v := .bool true) rfl (fun W9 hW => by clear hW; go_simp) (fun _ _ _ h => h) ?_
                        simp only [Act.put, List.setIfInBounds_toArray, List.set_cons_zero, List.set_cons_succ]
                        refine seqI_take (v := .bool true) rfl (fun W9 hW => by clear hW; go_simp) (fun _ _ _ h => h) ?_
                        simp only [Act.put, List.setIfInBounds_toArray, List.set_cons_zero, List.set_cons_succ]
                        refine seqI_take (v := .bool true) rfl (fun W9 hW => by clear hW; go_simp) (fun _ _ _ h => h) ?_
                        simp only [Act.put, List.setIfInBounds_toArray, List.set_cons_zero, List.set_cons_succ]
                        refine seqI_nil ?_
                        as_aux_lemma =>
                          go_wp2_with fail
                          go_ret
                          exact ⟨_, rfl, (fun h => absurd h (by decide)), HB9.out⟩
                      have HLR : Hid ((l.getD i1 default).lt x) := actOrd_neg (HB.out _ (getD_mem (by have := HN.out; have := HI1.out; omega))) HBX.out (by rw [← HR.out]; exact hr0)
                      have hr1 : ¬ (0 ≤ r) := by omega
                      refine seqI_take (v := .bool false) rfl (fun W9 hW => by clear hW; go_simp) (fun _ _ _ h => h) ?_
                      simp only [Act.put, List.setIfInBounds_toArray, List.set_cons_zero, List.set_cons_succ]
                      refine seqI_take (v := .bool false) rfl (fun W9 hW => by clear hW; go_simp) (fun _ _ _ h => h) ?_
                      simp only [Act.put, List.setIfInBounds_toArray, List.set_cons_zero, List.set_cons_succ]
                      refine seqI_take (v := .bool false) rfl (fun W9 hW => by clear hW; go_simp) (fun _ _ _ h => h) ?_
                      simp only [Act.put, List.setIfInBounds_toArray, List.set_cons_zero, List.set_cons_succ]
                      refine seqI_nil ?_
                      as_aux_lemma =>
                        go_wp2_with fail
                        go_roundw
                        case rel => exact ⟨i + 1, by omega, by go_num, (fun m hm => (by
                          by_cases e : m = i
                          · rw [e, ← HX.out]; exact HGX.out
                          · exact HG.out m (by omega))), (fun m hm => (by
                          by_cases e : m + 1 = i
                          · rw [e, ← HX.out, show m = i1 by have := HI1.out; omega]; exact HLR.out
                          · exact HLT.out m (by omega))), HB9.out⟩
                        case measure => simp [intOf]; omega
end Go.Proofs.YtamoclofloijpaaGreatDoor

set_option linter.unusedVariables false
set_option linter.unusedSimpArgs false
namespace Go.Proofs.YtamoclofloijpaaGreatDoor
open Go.RowKit Go.Sort Go.Lib

set_option maxRecDepth 100000 in
set_option maxHeartbeats 16000000 in
theorem checkActs_any (w : World) (base : Nat) (v : Value) (l : List Vact) (h : VactRow w base v l) (hl : l.length ≤ 1000) (hok : ActsOk l) (hb : ∀ a ∈ l, a.frm.length ≤ 1000 ∧ a.box.length ≤ 1000 ∧ a.id.length ≤ 1000) :
    Calls Tryz.prog 35 #[v] w ((IntP 0 w)) := by
  unfold VactRow at h
  obtain ⟨a, cap, rfl⟩ := own_shape h
  have HO := Lib.hid h
  have HB := Lib.hid hb
  have HOK := Lib.hid hok
  obtain ⟨n, hn⟩ : ∃ n, n = l.length := ⟨_, rfl⟩
  have HN := Lib.hid hn
  rw [← hn] at HO hl ⊢
  clear hn h hb hok
  have hl0 : ¬ (1000 : Int) < (n : Int) := by omega
  go_enter Tryz.func35, Tryz.ntmps35
  go_wp2_with fail
  clear hl0
  go_loopw [11] (fun it wr => ∃ i : Nat, i ≤ n ∧ it = .int .i64 i ∧ Hid (Below w.heap.size w wr)) (fun it _ => n - (intOf it).toNat)
  case atStart => exact ⟨0, Nat.zero_le _, rfl, Below.refl _ _⟩
  case round =>
    obtain ⟨i, hi, rfl, HBW⟩ := hrel
    by_cases hlt : i < n
    case neg =>
      obtain rfl : i = n := by omega
      have hin : ¬ ((i : Int) < (i : Int)) := by omega
      as_aux_lemma =>
        go_wp2_with fail
        go_ret
        exact ⟨rfl, HBW.out⟩
    have hin : (i : Int) < (n : Int) := by omega
    have hil : i < l.length := by have := HN.out; omega
    have hO := own_keep HO.out HBW.out
    obtain ⟨g, rfl, hg0, hgw⟩ := own_pos hO (by omega)
    have HBX := Lib.hid (HB.out _ (getD_mem hil))
    have HPREV : Hid (∀ i1, i = i1 + 1 → ∀ W9, Below w.heap.size w W9 → W9.cell? ⟨g, i1 * 6, none⟩ = some (.int .i64 (l.getD i1 default).at_) ∧ W9.cell? ⟨g, i1 * 6 + 1, none⟩ = some (.string ⟨(l.getD i1 default).box.toArray⟩) ∧ W9.cell? ⟨g, i1 * 6 + 2, none⟩ = some (.string ⟨(l.getD i1 default).id.toArray⟩) ∧ W9.cell? ⟨g, i1 * 6 + 3, none⟩ = some (.int .i64 (l.getD i1 default).kind) ∧ W9.cell? ⟨g, i1 * 6 + 4, none⟩ = some (.int .i64 (l.getD i1 default).long) ∧ W9.cell? ⟨g, i1 * 6 + 5, none⟩ = some (.string ⟨(l.getD i1 default).frm.toArray⟩)) := fun i1 e W9 hW => ⟨own_field Vact.cells (fun _ => rfl) (own_keep HO.out hW) i1 0 default (by omega) (by omega) rfl, own_field Vact.cells (fun _ => rfl) (own_keep HO.out hW) i1 1 default (by omega) (by omega) rfl, own_field Vact.cells (fun _ => rfl) (own_keep HO.out hW) i1 2 default (by omega) (by omega) rfl, own_field Vact.cells (fun _ => rfl) (own_keep HO.out hW) i1 3 default (by omega) (by omega) rfl, own_field Vact.cells (fun _ => rfl) (own_keep HO.out hW) i1 4 default (by omega) (by omega) rfl, own_field Vact.cells (fun _ => rfl) (own_keep HO.out hW) i1 5 default (by omega) (by omega) rfl⟩
    have HCM : Hid (∀ i1, i = i1 + 1 → ∀ W, Calls Tryz.prog 38 #[(l.getD i1 default).val, (l.getD i default).val] W fun e w' => e = .returned (.int .i64 (actCmp (l.getD i1 default) (l.getD i default))) ∧ Below W.heap.size W w') := fun i1 _ W => (cmpActs_any _ _ W).mono fun e w' h => ⟨h.1, Grown.below h.2⟩
    have d0 := own_field Vact.cells (fun _ => rfl) hO i 0 default hil (by omega) rfl
    have d1 := own_field Vact.cells (fun _ => rfl) hO i 1 default hil (by omega) rfl
    have d2 := own_field Vact.cells (fun _ => rfl) hO i 2 default hil (by omega) rfl
    have d3 := own_field Vact.cells (fun _ => rfl) hO i 3 default hil (by omega) rfl
    have d4 := own_field Vact.cells (fun _ => rfl) hO i 4 default hil (by omega) rfl
    have d5 := own_field Vact.cells (fun _ => rfl) hO i 5 default hil (by omega) rfl
    have hXV : (l.getD i default).val = .agg #[.int .i64 (l.getD i default).at_, .string ⟨(l.getD i default).box.toArray⟩, .string ⟨(l.getD i default).id.toArray⟩, .int .i64 (l.getD i default).kind, .int .i64 (l.getD i default).long, .string ⟨(l.getD i default).frm.toArray⟩] := rfl
    rw [hXV] at HCM
    clear hXV hO
    have HGD := Lib.hid (HOK.out.good _ (getD_mem hil))
    obtain ⟨x, hx⟩ : ∃ x, x = l.getD i default := ⟨_, rfl⟩
    rw [← hx] at d0 d1 d2 d3 d4 d5 HCM HBX HGD
    have HX := Lib.hid hx
    clear hx
    have HMO : Hid (∀ W, Calls Tryz.prog 26 #[.int .i64 x.at_] W (BoolP true W)) := fun W => by rw [← HGD.out.mom]; exact ((isMoment_any _ W).mono (fun e w2 h => ⟨h.1, by rw [← h.2]; exact Below.refl _ _⟩))
    have HK1 : Hid (∀ W, Calls Tryz.prog 22 #[.string ⟨x.box.toArray⟩] W (BoolP true W)) := fun W => by rw [← HGD.out.box]; exact isKey_any _ W (by have := HBX.out.2.1; omega)
    have HK2 : Hid (∀ W, Calls Tryz.prog 22 #[.string ⟨x.id.toArray⟩] W (BoolP true W)) := fun W => by rw [← HGD.out.id]; exact isKey_any _ W (by have := HBX.out.2.2; omega)
    have HIN : Hid (∀ z lo hi W, Calls Tryz.prog 62 #[.int .i64 z, .int .i64 lo, .int .i64 hi] W (BoolP (decide (lo ≤ z) && decide (z ≤ hi)) W)) := fun z lo hi W => ((within_voi z lo hi W).mono (fun e w2 h => ⟨h.1, by rw [← h.2]; exact Below.refl _ _⟩))
    have HFR : Hid (∀ W, Calls Tryz.prog 86 #[.string ⟨x.frm.toArray⟩] W (BoolP (fromB x.frm) W)) := fun W => isFrom_any _ W (by have := HBX.out.1; omega)
    have HINK := HIN.out x.kind 1 5
    rw [decide_eq_true HGD.out.kind0, decide_eq_true HGD.out.kind1] at HINK
    have HINK := Lib.hid HINK
    have HINL := Lib.hid (HIN.out x.long 1 86400000)
    clear HIN
    obtain ⟨f5, hf5⟩ : ∃ f, f = x.frm := ⟨_, rfl⟩
    have HF5 := Lib.hid hf5
    clear hf5
    have HKD : Hid (x.kind = x.kind) := rfl
    obtain ⟨x0, hx0⟩ : ∃ z, z = x.at_ := ⟨_, rfl⟩
    obtain ⟨x3, hx3⟩ : ∃ z, z = x.kind := ⟨_, rfl⟩
    obtain ⟨x4, hx4⟩ : ∃ z, z = x.long := ⟨_, rfl⟩
    obtain ⟨b1, hb1⟩ : ∃ z : ByteArray, z = ⟨x.box.toArray⟩ := ⟨_, rfl⟩
    obtain ⟨b2, hb2⟩ : ∃ z : ByteArray, z = ⟨x.id.toArray⟩ := ⟨_, rfl⟩
    rw [← HF5.out] at d5 HFR HCM
    rw [← hx0] at d0 HMO HCM
    rw [← hx3] at d3 HINK HCM
    rw [← hx4] at d4 HINL HCM
    rw [← hb1] at d1 HK1 HCM
    rw [← hb2] at d2 HK2 HCM
    have HX3 := Lib.hid hx3
    have HX4 := Lib.hid hx4
    rw [Nat.add_zero] at d0
    clear hx0 hx3 hx4 hb1 hb2 HKD
    have X1 : Hid (Blk (wr.alloc (.cells #[.int .i64 x0, .string b1, .string b2, .int .i64 x3, .int .i64 x4, .string ⟨f5.toArray⟩] 45)) wr.heap.size [.int .i64 x0, .string b1, .string b2, .int .i64 x3, .int .i64 x4, .string ⟨f5.toArray⟩] 45) := Blk.new _ _ _
    have HB1 : Hid (Below w.heap.size w (wr.alloc (.cells #[.int .i64 x0, .string b1, .string b2, .int .i64 x3, .int .i64 x4, .string ⟨f5.toArray⟩] 45))) := ext_alloc HBW.out
    as_aux_lemma =>
      go_upto_region 6 with (fail)
      clear d0 d1 d2 d3 d4 d5 HBW
      generalize (wr.alloc (.cells #[.int .i64 x0, .string b1, .string b2, .int .i64 x3, .int .i64 x4, .string ⟨f5.toArray⟩] 45)) = w1 at X1 HB1 ⊢
      generalize wr.heap.size = B at X1 ⊢
      by_cases hk3 : x3 = 1
      case neg =>
        have hk3b : (x3 == 1) = false := beq_eq_false_iff_ne.2 hk3
        have HK3 : Hid (x.kind ≠ 1) := by show _ ≠ _; rw [← HX3.out]; exact hk3
        clear hk3
        have c0 := X1.out.cell 0 rfl
        have c1 := X1.out.cell 1 rfl
        have c2 := X1.out.cell 2 rfl
        have c3 := X1.out.cell 3 rfl
        have c4 := X1.out.cell 4 rfl
        have c5 := X1.out.cell 5 rfl
        as_aux_lemma =>
          go_wp2_with fail
          refine (HMO.out _).mono ?_
          rintro e w2 ⟨rfl, hb⟩
          have X2 := Lib.hid (X1.out.below hb)
          have HB2 := Lib.hid (ext_trans HB1.out hb)
          clear hb c0 c1 c2 c3 c4 c5 X1 HB1
          have c0 := X2.out.cell 0 rfl
          have c1 := X2.out.cell 1 rfl
          have c2 := X2.out.cell 2 rfl
          have c3 := X2.out.cell 3 rfl
          have c4 := X2.out.cell 4 rfl
          have c5 := X2.out.cell 5 rfl
          as_aux_lemma =>
            go_wp2_with fail
            refine (HK1.out _).mono ?_
            rintro e w3 ⟨rfl, hb⟩
            have X3 := Lib.hid (X2.out.below hb)
            have HB3 := Lib.hid (ext_trans HB2.out hb)
            clear hb c0 c1 c2 c3 c4 c5 X2 HB2
            have c0 := X3.out.cell 0 rfl
            have c1 := X3.out.cell 1 rfl
            have c2 := X3.out.cell 2 rfl
            have c3 := X3.out.cell 3 rfl
            have c4 := X3.out.cell 4 rfl
            have c5 := X3.out.cell 5 rfl
            as_aux_lemma =>
              go_wp2_with fail
              refine (HK2.out _).mono ?_
              rintro e w4 ⟨rfl, hb⟩
              have X4 := Lib.hid (X3.out.below hb)
              have HB4 := Lib.hid (ext_trans HB3.out hb)
              clear hb c0 c1 c2 c3 c4 c5 X3 HB3
              have c0 := X4.out.cell 0 rfl
              have c1 := X4.out.cell 1 rfl
              have c2 := X4.out.cell 2 rfl
              have c3 := X4.out.cell 3 rfl
              have c4 := X4.out.cell 4 rfl
              have c5 := X4.out.cell 5 rfl
              as_aux_lemma =>
                go_wp2_with fail
                refine (HINK.out _).mono ?_
                rintro e w5 ⟨rfl, hb⟩
                have X5 := Lib.hid (X4.out.below hb)
                have HB5 := Lib.hid (ext_trans HB4.out hb)
                clear hb c0 c1 c2 c3 c4 c5 X4 HB4
                have c0 := X5.out.cell 0 rfl
                have c1 := X5.out.cell 1 rfl
                have c2 := X5.out.cell 2 rfl
                have c3 := X5.out.cell 3 rfl
                have c4 := X5.out.cell 4 rfl
                have c5 := X5.out.cell 5 rfl
                have HLG := HGD.out.other HK3.out
                have hx4b : (x4 != 0) = false := by rw [HX4.out, HLG.1]; rfl
                have hf5b : (f5 == []) = true := by rw [HF5.out, HLG.2]; rfl
                clear HLG
                as_aux_lemma =>
                  go_upto_region 19 with (fail)
                  have hd : Below w5.heap.size w5 w5.drew := ext_drew (Below.refl _ _)
                  have XD := Lib.hid (X5.out.below hd)
                  have HBD := Lib.hid (ext_trans HB5.out hd)
                  clear hd X5 HB5 c0 c1 c2 c3 c4 c5
                  by_cases hiz : i = 0
                  case pos =>
                    have HIZ := Lib.hid hiz
                    clear hiz HCM HPREV
                    as_aux_lemma =>
                      refine region_seqI (S := fun W9 => Below w5.drew.heap.size w5.drew W9) [(true, 0), (true, 1), (true, 2), (true, 3), (true, 4), (true, 5), (true, 6), (true, 7), (true, 8), (true, 9), (true, 10), (true, 11), (true, 12)] (by kernel_rfl) (by kernel_rfl) rfl (by kernel_rfl) (Below.refl _ _) ?_
                      generalize w5.drew = wd at XD HBD ⊢
                      simp only [seqOps, List.getD_cons_zero, List.getD_cons_succ]
                      refine seqI_take (v := .int .i64 i) rfl (fun W9 hW => by clear hW; go_simp) (fun _ _ _ h => h) ?_
                      simp only [Act.put, List.setIfInBounds_toArray, List.set_cons_zero, List.set_cons_succ]
                      refine seqI_take (v := .bool false) rfl (fun W9 hW => by clear hW; go_simp; exact HIZ.out) (fun _ _ _ h => h) ?_
                      simp only [Act.put, List.setIfInBounds_toArray, List.set_cons_zero, List.set_cons_succ]
                      refine seqI_take (v := .bool false) rfl (fun W9 hW => by clear hW; go_simp) (fun _ _ _ h => h) ?_
                      simp only [Act.put, List.setIfInBounds_toArray, List.set_cons_zero, List.set_cons_succ]
                      refine seqI_skip rfl (fun _ _ _ h => h) ?_
                      simp only [Act.put, List.setIfInBounds_toArray, List.set_cons_zero, List.set_cons_succ]
                      refine seqI_skip rfl (fun _ _ _ h => h) ?_
                      simp only [Act.put, List.setIfInBounds_toArray, List.set_cons_zero, List.set_cons_succ]
                      refine seqI_skip rfl (fun _ _ _ h => h) ?_
                      simp only [Act.put, List.setIfInBounds_toArray, List.set_cons_zero, List.set_cons_succ]
                      refine seqI_skip rfl (fun _ _ _ h => h) ?_
                      simp only [Act.put, List.setIfInBounds_toArray, List.set_cons_zero, List.set_cons_succ]
                      refine seqI_skip rfl (fun _ _ _ h => h) ?_
                      simp only [Act.put, List.setIfInBounds_toArray, List.set_cons_zero, List.set_cons_succ]
                      refine seqI_skip rfl (fun _ _ _ h => h) ?_
                      simp only [Act.put, List.setIfInBounds_toArray, List.set_cons_zero, List.set_cons_succ]
                      refine seqI_skip rfl (fun _ _ _ h => h) ?_
                      simp only [Act.put, List.setIfInBounds_toArray, List.set_cons_zero, List.set_cons_succ]
                      refine seqI_skip rfl (fun _ _ _ h => h) ?_
                      simp only [Act.put, List.setIfInBounds_toArray, List.set_cons_zero, List.set_cons_succ]
                      refine seqI_take (v := .bool false) rfl (fun W9 hW => by clear hW; go_simp) (fun _ _ _ h => h) ?_
                      simp only [Act.put, List.setIfInBounds_toArray, List.set_cons_zero, List.set_cons_succ]
                      refine seqI_take (v := .bool false) rfl (fun W9 hW => by clear hW; go_simp) (fun _ _ _ h => h) ?_
                      simp only [Act.put, List.setIfInBounds_toArray, List.set_cons_zero, List.set_cons_succ]
                      refine seqI_nil ?_
                      as_aux_lemma =>
                        go_wp2_with fail
                        go_roundw
                        case rel => exact ⟨i + 1, by omega, by go_num, HBD.out⟩
                        case measure => simp [intOf]; omega
                  obtain ⟨i1, hi1⟩ : ∃ i1, i = i1 + 1 := ⟨i - 1, by omega⟩
                  have HI1 := Lib.hid hi1
                  have hip : 0 < i := by omega
                  have HIP := Lib.hid hip
                  have hw1 : IntKind.i64.wrap ((i : Int) - 1) = (i1 : Int) := by rw [show (i : Int) - 1 = (i1 : Int) by omega]; exact IntWalk.i64_in _ (by omega)
                  have h1n : (i1 : Int) < (n : Int) := by omega
                  have h10 : ¬ ((i1 : Int) < 0) := by omega
                  have HC1 := Lib.hid (HCM.out i1 hi1)
                  have HP1 := Lib.hid (HPREV.out i1 hi1)
                  clear hiz hi1 hip HCM HPREV
                  obtain ⟨r, hr⟩ : ∃ r, r = actCmp (l.getD i1 default) x := ⟨_, rfl⟩
                  have HR := Lib.hid hr
                  rw [← hr] at HC1
                  have HC2 : Hid (∀ W, Calls Tryz.prog 38 #[.agg #[.int .i64 (l.getD i1 default).at_, .string ⟨(l.getD i1 default).box.toArray⟩, .string ⟨(l.getD i1 default).id.toArray⟩, .int .i64 (l.getD i1 default).kind, .int .i64 (l.getD i1 default).long, .string ⟨(l.getD i1 default).frm.toArray⟩], .agg #[.int .i64 x0, .string b1, .string b2, .int .i64 x3, .int .i64 x4, .string ⟨f5.toArray⟩]] W fun e w' => e = .returned (.int .i64 r) ∧ Below W.heap.size W w') := HC1.out
                  clear hr HC1
                  generalize (l.getD i1 default).at_ = z0 at HP1 HC2
                  generalize (⟨(l.getD i1 default).box.toArray⟩ : ByteArray) = z1 at HP1 HC2
                  generalize (⟨(l.getD i1 default).id.toArray⟩ : ByteArray) = z2 at HP1 HC2
                  generalize (l.getD i1 default).kind = z3 at HP1 HC2
                  generalize (l.getD i1 default).long = z4 at HP1 HC2
                  generalize (⟨(l.getD i1 default).frm.toArray⟩ : ByteArray) = z5 at HP1 HC2
                  have HCE : Hid (∀ W9, Below w5.drew.heap.size w5.drew W9 → (W9.cell? ⟨g, i1 * 6, none⟩ = some (.int .i64 z0) ∧ W9.cell? ⟨g, i1 * 6 + 1, none⟩ = some (.string z1) ∧ W9.cell? ⟨g, i1 * 6 + 2, none⟩ = some (.string z2) ∧ W9.cell? ⟨g, i1 * 6 + 3, none⟩ = some (.int .i64 z3) ∧ W9.cell? ⟨g, i1 * 6 + 4, none⟩ = some (.int .i64 z4) ∧ W9.cell? ⟨g, i1 * 6 + 5, none⟩ = some (.string z5)) ∧ (W9.cell? ⟨B, 0, none⟩ = some (.int .i64 x0) ∧ W9.cell? ⟨B, 1, none⟩ = some (.string b1) ∧ W9.cell? ⟨B, 2, none⟩ = some (.string b2) ∧ W9.cell? ⟨B, 3, none⟩ = some (.int .i64 x3) ∧ W9.cell? ⟨B, 4, none⟩ = some (.int .i64 x4) ∧ W9.cell? ⟨B, 5, none⟩ = some (.string ⟨f5.toArray⟩))) := fun W9 hW => ⟨HP1.out W9 (ext_trans HBD.out hW), ⟨(XD.out.below hW).cell 0 rfl, (XD.out.below hW).cell 1 rfl, (XD.out.below hW).cell 2 rfl, (XD.out.below hW).cell 3 rfl, (XD.out.below hW).cell 4 rfl, (XD.out.below hW).cell 5 rfl⟩⟩
                  clear HP1
                  as_aux_lemma =>
                    refine region_seqI (S := fun W9 => Below w5.drew.heap.size w5.drew W9) [(true, 0), (true, 1), (true, 2), (true, 3), (true, 4), (true, 5), (true, 6), (true, 7), (true, 8), (false, 9), (true, 10), (true, 11), (true, 12)] (by kernel_rfl) (by kernel_rfl) rfl (by kernel_rfl) (Below.refl _ _) ?_
                    generalize w5.drew = wd at XD HBD HCE ⊢
                    simp only [seqOps, List.getD_cons_zero, List.getD_cons_succ]
                    refine seqI_take (v := .int .i64 i) rfl (fun W9 hW => by clear hW; go_simp) (fun _ _ _ h => h) ?_
                    simp only [Act.put, List.setIfInBounds_toArray, List.set_cons_zero, List.set_cons_succ]
                    refine seqI_take (v := .bool true) rfl (fun W9 hW => by clear hW; go_simp; exact HIP.out) (fun _ _ _ h => h) ?_
                    simp only [Act.put, List.setIfInBounds_toArray, List.set_cons_zero, List.set_cons_succ]
                    refine seqI_take (v := .bool true) rfl (fun W9 hW => by clear hW; go_simp) (fun _ _ _ h => h) ?_
                    simp only [Act.put, List.setIfInBounds_toArray, List.set_cons_zero, List.set_cons_succ]
                    refine seqI_take (v := .slice (some ⟨g, 0, none⟩) n cap) rfl (fun W9 hW => by clear hW; go_simp) (fun _ _ _ h => h) ?_
                    simp only [Act.put, List.setIfInBounds_toArray, List.set_cons_zero, List.set_cons_succ]
                    refine seqI_take (v := .int .i64 i) rfl (fun W9 hW => by clear hW; go_simp) (fun _ _ _ h => h) ?_
                    simp only [Act.put, List.setIfInBounds_toArray, List.set_cons_zero, List.set_cons_succ]
                    refine seqI_take (v := .int .i64 i1) rfl (fun W9 hW => by clear hW; go_simp) (fun _ _ _ h => h) ?_
                    simp only [Act.put, List.setIfInBounds_toArray, List.set_cons_zero, List.set_cons_succ]
                    refine seqI_take (v := .pointer (some ⟨g, i1 * 6, none⟩)) rfl (fun W9 hW => by clear hW; go_simp) (fun _ _ _ h => h) ?_
                    simp only [Act.put, List.setIfInBounds_toArray, List.set_cons_zero, List.set_cons_succ]
                    refine seqI_take (v := .agg #[.int .i64 z0, .string z1, .string z2, .int .i64 z3, .int .i64 z4, .string z5]) rfl (fun W9 hW => by obtain ⟨⟨p0, p1, p2, p3, p4, p5⟩, ⟨q0, q1, q2, q3, q4, q5⟩⟩ := HCE.out W9 hW; clear hW; go_simp) (fun _ _ _ h => h) ?_
                    simp only [Act.put, List.setIfInBounds_toArray, List.set_cons_zero, List.set_cons_succ]
                    refine seqI_take (v := .agg #[.int .i64 x0, .string b1, .string b2, .int .i64 x3, .int .i64 x4, .string ⟨f5.toArray⟩]) rfl (fun W9 hW => by obtain ⟨⟨p0, p1, p2, p3, p4, p5⟩, ⟨q0, q1, q2, q3, q4, q5⟩⟩ := HCE.out W9 hW; clear hW; go_simp) (fun _ _ _ h => h) ?_
                    simp only [Act.put, List.setIfInBounds_toArray, List.set_cons_zero, List.set_cons_succ]
                    refine seqI_call _ _ rfl (by go_simp) (HC2.out wd) ?_
                    rintro e w9 ⟨rfl, hb⟩
                    have HB9 := Lib.hid (ext_trans HBD.out hb)
                    refine ⟨_, rfl, hb, ?_⟩
                    simp only [Act.put, List.setIfInBounds_toArray, List.set_cons_zero, List.set_cons_succ]
                    clear hb HCE XD HBD HC2
                    have hr0 : r < 0 := by
                      rw [HR.out, actCmp_neg, HX.out, HI1.out]
                      exact HOK.out.asc.at_ (by omega) (by have := HN.out; have := HI1.out; omega)
                    have hr1 : ¬ (0 ≤ r) := by omega
                    refine seqI_take (v := .bool false) rfl (fun W9 hW => by clear hW; go_simp) (fun _ _ _ h => h) ?_
                    simp only [Act.put, List.setIfInBounds_toArray, List.set_cons_zero, List.set_cons_succ]
                    refine seqI_take (v := .bool false) rfl (fun W9 hW => by clear hW; go_simp) (fun _ _ _ h => h) ?_
                    simp only [Act.put, List.setIfInBounds_toArray, List.set_cons_zero, List.set_cons_succ]
                    refine seqI_take (v := .bool false) rfl (fun W9 hW => by clear hW; go_simp) (fun _ _ _ h => h) ?_
                    simp only [Act.put, List.setIfInBounds_toArray, List.set_cons_zero, List.set_cons_succ]
                    refine seqI_nil ?_
                    as_aux_lemma =>
                      go_wp2_with fail
                      go_roundw
                      case rel => exact ⟨i + 1, by omega, by go_num, HB9.out⟩
                      case measure => simp [intOf]; omega
      subst hk3
      have c0 := X1.out.cell 0 rfl
      have c1 := X1.out.cell 1 rfl
      have c2 := X1.out.cell 2 rfl
      have c3 := X1.out.cell 3 rfl
      have c4 := X1.out.cell 4 rfl
      have c5 := X1.out.cell 5 rfl
      as_aux_lemma =>
        go_wp2_with fail
        refine (HMO.out _).mono ?_
        rintro e w2 ⟨rfl, hb⟩
        have X2 := Lib.hid (X1.out.below hb)
        have HB2 := Lib.hid (ext_trans HB1.out hb)
        clear hb c0 c1 c2 c3 c4 c5 X1 HB1
        have c0 := X2.out.cell 0 rfl
        have c1 := X2.out.cell 1 rfl
        have c2 := X2.out.cell 2 rfl
        have c3 := X2.out.cell 3 rfl
        have c4 := X2.out.cell 4 rfl
        have c5 := X2.out.cell 5 rfl
        as_aux_lemma =>
          go_wp2_with fail
          refine (HK1.out _).mono ?_
          rintro e w3 ⟨rfl, hb⟩
          have X3 := Lib.hid (X2.out.below hb)
          have HB3 := Lib.hid (ext_trans HB2.out hb)
          clear hb c0 c1 c2 c3 c4 c5 X2 HB2
          have c0 := X3.out.cell 0 rfl
          have c1 := X3.out.cell 1 rfl
          have c2 := X3.out.cell 2 rfl
          have c3 := X3.out.cell 3 rfl
          have c4 := X3.out.cell 4 rfl
          have c5 := X3.out.cell 5 rfl
          as_aux_lemma =>
            go_wp2_with fail
            refine (HK2.out _).mono ?_
            rintro e w4 ⟨rfl, hb⟩
            have X4 := Lib.hid (X3.out.below hb)
            have HB4 := Lib.hid (ext_trans HB3.out hb)
            clear hb c0 c1 c2 c3 c4 c5 X3 HB3
            have c0 := X4.out.cell 0 rfl
            have c1 := X4.out.cell 1 rfl
            have c2 := X4.out.cell 2 rfl
            have c3 := X4.out.cell 3 rfl
            have c4 := X4.out.cell 4 rfl
            have c5 := X4.out.cell 5 rfl
            as_aux_lemma =>
              go_wp2_with fail
              refine (HINK.out _).mono ?_
              rintro e w5 ⟨rfl, hb⟩
              have X5 := Lib.hid (X4.out.below hb)
              have HB5 := Lib.hid (ext_trans HB4.out hb)
              clear hb c0 c1 c2 c3 c4 c5 X4 HB4
              have c0 := X5.out.cell 0 rfl
              have c1 := X5.out.cell 1 rfl
              have c2 := X5.out.cell 2 rfl
              have c3 := X5.out.cell 3 rfl
              have c4 := X5.out.cell 4 rfl
              have c5 := X5.out.cell 5 rfl
              have HLG := HGD.out.left (by rw [← HX3.out])
              have HINL2 := HINL.out
              rw [HX4.out, decide_eq_true HLG.1, decide_eq_true HLG.2.1] at HINL2
              have HINL3 := Lib.hid HINL2
              have HFR2 := HFR.out
              rw [HF5.out, HLG.2.2] at HFR2
              rw [← HF5.out] at HFR2
              rw [← HX4.out] at HINL3
              have HFR3 := Lib.hid HFR2
              clear HINL2 HFR2 HLG
              as_aux_lemma =>
                go_wp2_with fail
                refine (HINL3.out _).mono ?_
                rintro e w6 ⟨rfl, hb⟩
                have X6 := Lib.hid (X5.out.below hb)
                have HB6 := Lib.hid (ext_trans HB5.out hb)
                clear hb c0 c1 c2 c3 c4 c5 X5 HB5
                have c0 := X6.out.cell 0 rfl
                have c1 := X6.out.cell 1 rfl
                have c2 := X6.out.cell 2 rfl
                have c3 := X6.out.cell 3 rfl
                have c4 := X6.out.cell 4 rfl
                have c5 := X6.out.cell 5 rfl
                as_aux_lemma =>
                  go_wp2_with fail
                  refine (HFR3.out _).mono ?_
                  rintro e w7 ⟨rfl, hb⟩
                  have X7 := Lib.hid (X6.out.below hb)
                  have HB7 := Lib.hid (ext_trans HB6.out hb)
                  clear hb c0 c1 c2 c3 c4 c5 X6 HB6
                  have c0 := X7.out.cell 0 rfl
                  have c1 := X7.out.cell 1 rfl
                  have c2 := X7.out.cell 2 rfl
                  have c3 := X7.out.cell 3 rfl
                  have c4 := X7.out.cell 4 rfl
                  have c5 := X7.out.cell 5 rfl
                  as_aux_lemma =>
                    go_upto_region 19 with (fail)
                    have hd : Below w7.heap.size w7 w7.drew := ext_drew (Below.refl _ _)
                    have XD := Lib.hid (X7.out.below hd)
                    have HBD := Lib.hid (ext_trans HB7.out hd)
                    clear hd X7 HB7 c0 c1 c2 c3 c4 c5
                    by_cases hiz : i = 0
                    case pos =>
                      have HIZ := Lib.hid hiz
                      clear hiz HCM HPREV
                      as_aux_lemma =>
                        refine region_seqI (S := fun W9 => Below w7.drew.heap.size w7.drew W9) [(true, 0), (true, 1), (true, 2), (true, 3), (true, 4), (true, 5), (true, 6), (true, 7), (true, 8), (true, 9), (true, 10), (true, 11), (true, 12)] (by kernel_rfl) (by kernel_rfl) rfl (by kernel_rfl) (Below.refl _ _) ?_
                        generalize w7.drew = wd at XD HBD ⊢
                        simp only [seqOps, List.getD_cons_zero, List.getD_cons_succ]
                        refine seqI_take (v := .int .i64 i) rfl (fun W9 hW => by clear hW; go_simp) (fun _ _ _ h => h) ?_
                        simp only [Act.put, List.setIfInBounds_toArray, List.set_cons_zero, List.set_cons_succ]
                        refine seqI_take (v := .bool false) rfl (fun W9 hW => by clear hW; go_simp; exact HIZ.out) (fun _ _ _ h => h) ?_
                        simp only [Act.put, List.setIfInBounds_toArray, List.set_cons_zero, List.set_cons_succ]
                        refine seqI_take (v := .bool false) rfl (fun W9 hW => by clear hW; go_simp) (fun _ _ _ h => h) ?_
                        simp only [Act.put, List.setIfInBounds_toArray, List.set_cons_zero, List.set_cons_succ]
                        refine seqI_skip rfl (fun _ _ _ h => h) ?_
                        simp only [Act.put, List.setIfInBounds_toArray, List.set_cons_zero, List.set_cons_succ]
                        refine seqI_skip rfl (fun _ _ _ h => h) ?_
                        simp only [Act.put, List.setIfInBounds_toArray, List.set_cons_zero, List.set_cons_succ]
                        refine seqI_skip rfl (fun _ _ _ h => h) ?_
                        simp only [Act.put, List.setIfInBounds_toArray, List.set_cons_zero, List.set_cons_succ]
                        refine seqI_skip rfl (fun _ _ _ h => h) ?_
                        simp only [Act.put, List.setIfInBounds_toArray, List.set_cons_zero, List.set_cons_succ]
                        refine seqI_skip rfl (fun _ _ _ h => h) ?_
                        simp only [Act.put, List.setIfInBounds_toArray, List.set_cons_zero, List.set_cons_succ]
                        refine seqI_skip rfl (fun _ _ _ h => h) ?_
                        simp only [Act.put, List.setIfInBounds_toArray, List.set_cons_zero, List.set_cons_succ]
                        refine seqI_skip rfl (fun _ _ _ h => h) ?_
                        simp only [Act.put, List.setIfInBounds_toArray, List.set_cons_zero, List.set_cons_succ]
                        refine seqI_skip rfl (fun _ _ _ h => h) ?_
                        simp only [Act.put, List.setIfInBounds_toArray, List.set_cons_zero, List.set_cons_succ]
                        refine seqI_take (v := .bool false) rfl (fun W9 hW => by clear hW; go_simp) (fun _ _ _ h => h) ?_
                        simp only [Act.put, List.setIfInBounds_toArray, List.set_cons_zero, List.set_cons_succ]
                        refine seqI_take (v := .bool false) rfl (fun W9 hW => by clear hW; go_simp) (fun _ _ _ h => h) ?_
                        simp only [Act.put, List.setIfInBounds_toArray, List.set_cons_zero, List.set_cons_succ]
                        refine seqI_nil ?_
                        as_aux_lemma =>
                          go_wp2_with fail
                          go_roundw
                          case rel => exact ⟨i + 1, by omega, by go_num, HBD.out⟩
                          case measure => simp [intOf]; omega
                    obtain ⟨i1, hi1⟩ : ∃ i1, i = i1 + 1 := ⟨i - 1, by omega⟩
                    have HI1 := Lib.hid hi1
                    have hip : 0 < i := by omega
                    have HIP := Lib.hid hip
                    have hw1 : IntKind.i64.wrap ((i : Int) - 1) = (i1 : Int) := by rw [show (i : Int) - 1 = (i1 : Int) by omega]; exact IntWalk.i64_in _ (by omega)
                    have h1n : (i1 : Int) < (n : Int) := by omega
                    have h10 : ¬ ((i1 : Int) < 0) := by omega
                    have HC1 := Lib.hid (HCM.out i1 hi1)
                    have HP1 := Lib.hid (HPREV.out i1 hi1)
                    clear hiz hi1 hip HCM HPREV
                    obtain ⟨r, hr⟩ : ∃ r, r = actCmp (l.getD i1 default) x := ⟨_, rfl⟩
                    have HR := Lib.hid hr
                    rw [← hr] at HC1
                    have HC2 : Hid (∀ W, Calls Tryz.prog 38 #[.agg #[.int .i64 (l.getD i1 default).at_, .string ⟨(l.getD i1 default).box.toArray⟩, .string ⟨(l.getD i1 default).id.toArray⟩, .int .i64 (l.getD i1 default).kind, .int .i64 (l.getD i1 default).long, .string ⟨(l.getD i1 default).frm.toArray⟩], .agg #[.int .i64 x0, .string b1, .string b2, .int .i64 1, .int .i64 x4, .string ⟨f5.toArray⟩]] W fun e w' => e = .returned (.int .i64 r) ∧ Below W.heap.size W w') := HC1.out
                    clear hr HC1
                    generalize (l.getD i1 default).at_ = z0 at HP1 HC2
                    generalize (⟨(l.getD i1 default).box.toArray⟩ : ByteArray) = z1 at HP1 HC2
                    generalize (⟨(l.getD i1 default).id.toArray⟩ : ByteArray) = z2 at HP1 HC2
                    generalize (l.getD i1 default).kind = z3 at HP1 HC2
                    generalize (l.getD i1 default).long = z4 at HP1 HC2
                    generalize (⟨(l.getD i1 default).frm.toArray⟩ : ByteArray) = z5 at HP1 HC2
                    have HCE : Hid (∀ W9, Below w7.drew.heap.size w7.drew W9 → (W9.cell? ⟨g, i1 * 6, none⟩ = some (.int .i64 z0) ∧ W9.cell? ⟨g, i1 * 6 + 1, none⟩ = some (.string z1) ∧ W9.cell? ⟨g, i1 * 6 + 2, none⟩ = some (.string z2) ∧ W9.cell? ⟨g, i1 * 6 + 3, none⟩ = some (.int .i64 z3) ∧ W9.cell? ⟨g, i1 * 6 + 4, none⟩ = some (.int .i64 z4) ∧ W9.cell? ⟨g, i1 * 6 + 5, none⟩ = some (.string z5)) ∧ (W9.cell? ⟨B, 0, none⟩ = some (.int .i64 x0) ∧ W9.cell? ⟨B, 1, none⟩ = some (.string b1) ∧ W9.cell? ⟨B, 2, none⟩ = some (.string b2) ∧ W9.cell? ⟨B, 3, none⟩ = some (.int .i64 1) ∧ W9.cell? ⟨B, 4, none⟩ = some (.int .i64 x4) ∧ W9.cell? ⟨B, 5, none⟩ = some (.string ⟨f5.toArray⟩))) := fun W9 hW => ⟨HP1.out W9 (ext_trans HBD.out hW), ⟨(XD.out.below hW).cell 0 rfl, (XD.out.below hW).cell 1 rfl, (XD.out.below hW).cell 2 rfl, (XD.out.below hW).cell 3 rfl, (XD.out.below hW).cell 4 rfl, (XD.out.below hW).cell 5 rfl⟩⟩
                    clear HP1
                    as_aux_lemma =>
                      refine region_seqI (S := fun W9 => Below w7.drew.heap.size w7.drew W9) [(true, 0), (true, 1), (true, 2), (true, 3), (true, 4), (true, 5), (true, 6), (true, 7), (true, 8), (false, 9), (true, 10), (true, 11), (true, 12)] (by kernel_rfl) (by kernel_rfl) rfl (by kernel_rfl) (Below.refl _ _) ?_
                      generalize w7.drew = wd at XD HBD HCE ⊢
                      simp only [seqOps, List.getD_cons_zero, List.getD_cons_succ]
                      refine seqI_take (v := .int .i64 i) rfl (fun W9 hW => by clear hW; go_simp) (fun _ _ _ h => h) ?_
                      simp only [Act.put, List.setIfInBounds_toArray, List.set_cons_zero, List.set_cons_succ]
                      refine seqI_take (v := .bool true) rfl (fun W9 hW => by clear hW; go_simp; exact HIP.out) (fun _ _ _ h => h) ?_
                      simp only [Act.put, List.setIfInBounds_toArray, List.set_cons_zero, List.set_cons_succ]
                      refine seqI_take (v := .bool true) rfl (fun W9 hW => by clear hW; go_simp) (fun _ _ _ h => h) ?_
                      simp only [Act.put, List.setIfInBounds_toArray, List.set_cons_zero, List.set_cons_succ]
                      refine seqI_take (v := .slice (some ⟨g, 0, none⟩) n cap) rfl (fun W9 hW => by clear hW; go_simp) (fun _ _ _ h => h) ?_
                      simp only [Act.put, List.setIfInBounds_toArray, List.set_cons_zero, List.set_cons_succ]
                      refine seqI_take (v := .int .i64 i) rfl (fun W9 hW => by clear hW; go_simp) (fun _ _ _ h => h) ?_
                      simp only [Act.put, List.setIfInBounds_toArray, List.set_cons_zero, List.set_cons_succ]
                      refine seqI_take (v := .int .i64 i1) rfl (fun W9 hW => by clear hW; go_simp) (fun _ _ _ h => h) ?_
                      simp only [Act.put, List.setIfInBounds_toArray, List.set_cons_zero, List.set_cons_succ]
                      refine seqI_take (v := .pointer (some ⟨g, i1 * 6, none⟩)) rfl (fun W9 hW => by clear hW; go_simp) (fun _ _ _ h => h) ?_
                      simp only [Act.put, List.setIfInBounds_toArray, List.set_cons_zero, List.set_cons_succ]
                      refine seqI_take (v := .agg #[.int .i64 z0, .string z1, .string z2, .int .i64 z3, .int .i64 z4, .string z5]) rfl (fun W9 hW => by obtain ⟨⟨p0, p1, p2, p3, p4, p5⟩, ⟨q0, q1, q2, q3, q4, q5⟩⟩ := HCE.out W9 hW; clear hW; go_simp) (fun _ _ _ h => h) ?_
                      simp only [Act.put, List.setIfInBounds_toArray, List.set_cons_zero, List.set_cons_succ]
                      refine seqI_take (v := .agg #[.int .i64 x0, .string b1, .string b2, .int .i64 1, .int .i64 x4, .string ⟨f5.toArray⟩]) rfl (fun W9 hW => by obtain ⟨⟨p0, p1, p2, p3, p4, p5⟩, ⟨q0, q1, q2, q3, q4, q5⟩⟩ := HCE.out W9 hW; clear hW; go_simp) (fun _ _ _ h => h) ?_
                      simp only [Act.put, List.setIfInBounds_toArray, List.set_cons_zero, List.set_cons_succ]
                      refine seqI_call _ _ rfl (by go_simp) (HC2.out wd) ?_
                      rintro e w9 ⟨rfl, hb⟩
                      have HB9 := Lib.hid (ext_trans HBD.out hb)
                      refine ⟨_, rfl, hb, ?_⟩
                      simp only [Act.put, List.setIfInBounds_toArray, List.set_cons_zero, List.set_cons_succ]
                      clear hb HCE XD HBD HC2
                      have hr0 : r < 0 := by
                        rw [HR.out, actCmp_neg, HX.out, HI1.out]
                        exact HOK.out.asc.at_ (by omega) (by have := HN.out; have := HI1.out; omega)
                      have hr1 : ¬ (0 ≤ r) := by omega
                      refine seqI_take (v := .bool false) rfl (fun W9 hW => by clear hW; go_simp) (fun _ _ _ h => h) ?_
                      simp only [Act.put, List.setIfInBounds_toArray, List.set_cons_zero, List.set_cons_succ]
                      refine seqI_take (v := .bool false) rfl (fun W9 hW => by clear hW; go_simp) (fun _ _ _ h => h) ?_
                      simp only [Act.put, List.setIfInBounds_toArray, List.set_cons_zero, List.set_cons_succ]
                      refine seqI_take (v := .bool false) rfl (fun W9 hW => by clear hW; go_simp) (fun _ _ _ h => h) ?_
                      simp only [Act.put, List.setIfInBounds_toArray, List.set_cons_zero, List.set_cons_succ]
                      refine seqI_nil ?_
                      as_aux_lemma =>
                        go_wp2_with fail
                        go_roundw
                        case rel => exact ⟨i + 1, by omega, by go_num, HB9.out⟩
                        case measure => simp [intOf]; omega
end Go.Proofs.YtamoclofloijpaaGreatDoor

set_option linter.unusedVariables false
set_option linter.unusedSimpArgs false
namespace Go.Proofs.YtamoclofloijpaaGreatDoor
open Go.RowKit Go.Sort Go.Lib

def MergeP (x : List Vact) (w : World) (e : Ending) (w' : World) : Prop := ∃ v, e = .returned (.tuple #[v, .int .i64 0]) ∧ VactRow w' w.heap.size v x ∧ Below w.heap.size w w'
theorem bl_amg0 (e : Operand → Value) (he : ∀ v, e (.const v) = v) (o : Oper) (w : World) (i0 : Nat) (z0_0 : Int) (p0_1 : ByteArray) (p0_2 : ByteArray) (z0_3 : Int) (z0_4 : Int) (p0_5 : ByteArray) (ho : o.op = .buildSlice 42 1 #[(0, .tmp i0)]) (h0 : e (.tmp i0) = .agg #[.int .i64 z0_0, .string p0_1, .string p0_2, .int .i64 z0_3, .int .i64 z0_4, .string p0_5]) :
   (execOp e o).run Tryz.prog w = .ok (.value (.slice (some ⟨w.heap.size, 0, none⟩) 1 1)) (w.alloc (.cells #[.int .i64 z0_0, .string p0_1, .string p0_2, .int .i64 z0_3, .int .i64 z0_4, .string p0_5] 45)) := by
  unfold execOp
  rw [ho]
  simp only [List.map_toArray, List.map_cons, List.map_nil, h0]
  kernel_rfl
set_option maxRecDepth 100000 in
set_option maxHeartbeats 16000000 in
theorem mergeA_any (w : World) (x p q : List Vact) (hok : ActsOk x) (hb : ∀ a ∈ x, a.frm.length ≤ 1000 ∧ a.box.length ≤ 1000 ∧ a.id.length ≤ 1000) (hlen : x.length ≤ 10) (hp : p.Sublist x) (hq : q.Sublist x) (hm : ∀ a ∈ x, a ∈ p ∨ a ∈ q) (base1 base2 : Nat) (v1 v2 : Value) (h1 : VactRow w base1 v1 p) (h2 : VactRow w base2 v2 q) :
    Calls Tryz.prog 14 #[v1, v2] w (MergeP x w) := by
  obtain ⟨i0, hi0, hz0, hz1, hz2⟩ := info_parts Tryz.actInfo
  have hpl := hp.length_le
  have hql := hq.length_le
  have HC1 : Hid (∀ W, Below w.heap.size w W → Calls Tryz.prog 35 #[v1] W (IntP 0 W)) := fun W hW => checkActs_any W base1 v1 p (own_keep h1 hW) (by omega) (hok.sub hp) (fun a ha => hb a (hp.subset ha))
  have HC2 : Hid (∀ W, Below w.heap.size w W → Calls Tryz.prog 35 #[v2] W (IntP 0 W)) := fun W hW => checkActs_any W base2 v2 q (own_keep h2 hW) (by omega) (hok.sub hq) (fun a ha => hb a (hq.subset ha))
  have HCL : Hid (∀ W, Below w.heap.size w W → Calls Tryz.prog 36 #[v1] W (clAPost p W)) := fun W hW => clA_any W base1 v1 p (own_keep h1 hW) (by omega)
  have HBS : Hid (∀ y W, Below w.heap.size w W → Calls Tryz.prog 37 #[v1, .agg #[.int .i64 y.at_, .string ⟨y.box.toArray⟩, .string ⟨y.id.toArray⟩, .int .i64 y.kind, .int .i64 y.long, .string ⟨y.frm.toArray⟩], .func (.func 38) #[] #[]] W (bsAPost p y W)) := fun y W hW => bsA_any W base1 v1 p (own_keep h1 hW) (by omega) y ((hok.sub hp).asc.search y)
  have HR1 : Hid (w.ownsRow base1 45 6 v1 p.length ((p.map Vact.cells).flatten)) := h1
  have HR2 : Hid (w.ownsRow base2 45 6 v2 q.length ((q.map Vact.cells).flatten)) := h2
  have HST := Lib.hid (joinA_step p q)
  have HJS := Lib.hid (joinA_sorted hok.asc hp hq hm)
  have HJL := Lib.hid (joinA_len hok.asc hp hq hm)
  have HSI : Hid (∀ y, y ∈ q → ∀ i, i < p.length → actCmp (p.getD i default) y = 0 → p.getD i default = y) := fun y hy i hi hc => same_in hok.asc hp (hq.subset hy) hi hc
  unfold VactRow at h2
  obtain ⟨a2, c2, rfl⟩ := own_shape h2
  unfold VactRow at h1
  obtain ⟨a1, c1, rfl⟩ := own_shape h1
  clear h1 h2 hp hq hm hok hb
  obtain ⟨n, hn⟩ : ∃ n, n = q.length := ⟨_, rfl⟩
  have HN := Lib.hid hn
  obtain ⟨m, hmm⟩ : ∃ m, m = p.length := ⟨_, rfl⟩
  have HM := Lib.hid hmm
  rw [← hn] at HC2 HR2 hql ⊢
  rw [← hmm] at HC1 HCL HBS HR1 hpl ⊢
  clear hn hmm
  go_enter Tryz.func14, Tryz.ntmps14
  go_wp2_with fail
  refine (HC1.out _ (Below.refl _ _)).mono ?_
  rintro e w2 ⟨rfl, hb⟩
  have HB2 := Lib.hid hb
  clear hb
  as_aux_lemma =>
    go_wp2_with fail
    refine (HC2.out _ HB2.out).mono ?_
    rintro e w3 ⟨rfl, hb⟩
    have HB3 := Lib.hid (ext_trans HB2.out hb)
    clear hb HB2
    as_aux_lemma =>
      go_wp2_with fail
      refine (HCL.out _ HB3.out).mono ?_
      rintro e w4 ⟨v8, rfl, hr, hb⟩
      obtain ⟨bs, hbs⟩ : ∃ bs, bs = w3.heap.size := ⟨_, rfl⟩
      rw [← hbs] at hr
      have hwb : w.heap.size ≤ bs := by have := HB3.out.size; omega
      have O4 : Hid (VactRow w4 bs v8 (joinA p (q.take 0))) := by rw [List.take_zero, joinA_nil]; exact hr
      have HB4 := Lib.hid (ext_trans HB3.out hb)
      have hbs4 : bs ≤ w4.heap.size := by rw [hbs]; exact hb.size
      clear hr hb HB3 HC1 HC2 HCL hbs
      as_aux_lemma =>
        go_wp2_with fail
        go_loopw [8, 27] (fun v8 it wr => ∃ j : Nat, j ≤ n ∧ it = .int .i64 j ∧ bs ≤ wr.heap.size ∧ Hid (VactRow wr bs v8 (joinA p (q.take j))) ∧ Hid (Below w.heap.size w wr)) (fun _ it _ => n - (intOf it).toNat)
        case atStart => exact ⟨0, Nat.zero_le _, rfl, hbs4, O4, HB4⟩
        case round =>
          clear O4 HB4 hbs4
          obtain ⟨j, hj, rfl, hbs1, O1, HB1⟩ := hrel
          obtain ⟨vo, rfl⟩ : ∃ x : Value, x = u8 := ⟨_, rfl⟩
          by_cases hlt : j < n
          case neg =>
            obtain rfl : j = n := by omega
            have hin : ¬ ((j : Int) < (j : Int)) := by omega
            have hjl := HJL.out j
            have HSF := Lib.hid (sfA_any wr bs vo _ O1.out (by omega))
            have hlv : ∃ nn a c, vo = .slice a nn c ∧ nn = (joinA p (q.take j)).length := by
              obtain ⟨a, c, e⟩ := own_shape O1.out
              exact ⟨_, a, c, e, rfl⟩
            obtain ⟨nn, va, vc, rfl, hnn⟩ := hlv
            have hnn0 : ¬ (1000 : Int) < (nn : Int) := by omega
            have HVB := Lib.hid (fun b (hb : (Value.slice va nn vc).ownBlock = some b) => (World.ownsRow.lt O1.out b hb).1)
            have HX : Hid (insL (ltOf actCmp) (joinA p (q.take j)) = x) := by
              show _ = _
              rw [List.take_of_length_le (by have := HN.out; omega)]
              exact HJS.out
            rw [HX.out] at HSF
            clear O1 hjl hnn HX HJS HJL HST HSI HBS
            as_aux_lemma =>
              go_wp2_with fail
              refine HSF.out.mono ?_
              rintro e w9 ⟨rfl, hr, hg⟩
              have HE : Hid (MergeP x w (.returned (.tuple #[.slice va nn vc, .int .i64 0])) w9) := ⟨_, rfl, own_le hr hwb, HB1.out.grown hg HB1.out.size (fun b hb => Nat.le_trans hwb (HVB.out b hb))⟩
              clear hr hg
              as_aux_lemma =>
                go_wp2_with fail
                go_ret2
                exact HE.out
          have hin : (j : Int) < (n : Int) := by omega
          have hjl : j < q.length := by have := HN.out; omega
          have hO2 := own_keep HR2.out HB1.out
          obtain ⟨g, rfl, hg0, hgw⟩ := own_pos hO2 (by omega)
          have d0 := own_field Vact.cells (fun _ => rfl) hO2 j 0 default hjl (by omega) rfl
          have d1 := own_field Vact.cells (fun _ => rfl) hO2 j 1 default hjl (by omega) rfl
          have d2 := own_field Vact.cells (fun _ => rfl) hO2 j 2 default hjl (by omega) rfl
          have d3 := own_field Vact.cells (fun _ => rfl) hO2 j 3 default hjl (by omega) rfl
          have d4 := own_field Vact.cells (fun _ => rfl) hO2 j 4 default hjl (by omega) rfl
          have d5 := own_field Vact.cells (fun _ => rfl) hO2 j 5 default hjl (by omega) rfl
          have HY : Hid (q.getD j default ∈ q) := getD_mem hjl
          have HSJ := Lib.hid (HST.out j hjl)
          obtain ⟨y, hy⟩ : ∃ y, y = q.getD j default := ⟨_, rfl⟩
          rw [← hy] at d0 d1 d2 d3 d4 d5 HY HSJ
          rw [Nat.add_zero] at d0
          clear hy hO2
          have X1 : Hid (Blk (wr.alloc (.cells #[.int .i64 y.at_, .string ⟨y.box.toArray⟩, .string ⟨y.id.toArray⟩, .int .i64 y.kind, .int .i64 y.long, .string ⟨y.frm.toArray⟩] 45)) wr.heap.size [.int .i64 y.at_, .string ⟨y.box.toArray⟩, .string ⟨y.id.toArray⟩, .int .i64 y.kind, .int .i64 y.long, .string ⟨y.frm.toArray⟩] 45) := Blk.new _ _ _
          have hA : Below wr.heap.size wr (wr.alloc (.cells #[.int .i64 y.at_, .string ⟨y.box.toArray⟩, .string ⟨y.id.toArray⟩, .int .i64 y.kind, .int .i64 y.long, .string ⟨y.frm.toArray⟩] 45)) := ext_alloc (Below.refl _ _)
          have HB3 := Lib.hid (ext_trans HB1.out hA)
          have O3 : Hid (VactRow (wr.alloc (.cells #[.int .i64 y.at_, .string ⟨y.box.toArray⟩, .string ⟨y.id.toArray⟩, .int .i64 y.kind, .int .i64 y.long, .string ⟨y.frm.toArray⟩] 45)) bs vo (joinA p (q.take j))) := own_keep O1.out hA
          have hbs3 : bs ≤ (wr.alloc (.cells #[.int .i64 y.at_, .string ⟨y.box.toArray⟩, .string ⟨y.id.toArray⟩, .int .i64 y.kind, .int .i64 y.long, .string ⟨y.frm.toArray⟩] 45)).heap.size := Nat.le_trans hbs1 hA.size
          clear hA HB1 O1
          as_aux_lemma =>
            go_upto_region 11 with (fail)
            clear d0 d1 d2 d3 d4 d5 hgw hbs1
            generalize (wr.alloc (.cells #[.int .i64 y.at_, .string ⟨y.box.toArray⟩, .string ⟨y.id.toArray⟩, .int .i64 y.kind, .int .i64 y.long, .string ⟨y.frm.toArray⟩] 45)) = w3 at X1 HB3 O3 hbs3 ⊢
            generalize wr.heap.size = B at X1 ⊢
            have HRG3 : Hid (w3.rangeAt B 0 [.int .i64 y.at_, .string ⟨y.box.toArray⟩, .string ⟨y.id.toArray⟩, .int .i64 y.kind, .int .i64 y.long, .string ⟨y.frm.toArray⟩]) := fun j v hj => by rw [Nat.zero_add]; exact X1.out.cell j hj
            as_aux_lemma =>
              go_wp2_with (refine wpList_load_mid rfl 45 (.tmp 10) rfl B 0 rfl [.int .i64 y.at_, .string ⟨y.box.toArray⟩, .string ⟨y.id.toArray⟩, .int .i64 y.kind, .int .i64 y.long, .string ⟨y.frm.toArray⟩] _ HRG3.out Tryz.underlying45 rfl Tryz.actSz ?_)
              refine (HBS.out y _ HB3.out).mono ?_
              rintro e w5 ⟨bi, bf, rfl, hft, hff, hb⟩
              have X5 := Lib.hid (X1.out.below hb)
              have HB5 := Lib.hid (ext_trans HB3.out hb)
              have O5 : Hid (VactRow w5 bs vo (joinA p (q.take j))) := own_keep O3.out hb
              have hbs5 : bs ≤ w5.heap.size := Nat.le_trans hbs3 hb.size
              clear hb X1 HB3 O3 hbs3 HRG3
              have HRG5 : Hid (w5.rangeAt B 0 [.int .i64 y.at_, .string ⟨y.box.toArray⟩, .string ⟨y.id.toArray⟩, .int .i64 y.kind, .int .i64 y.long, .string ⟨y.frm.toArray⟩]) := fun j v hj => by rw [Nat.zero_add]; exact X5.out.cell j hj
              cases bf
              case true =>
                obtain ⟨hbil, hbc⟩ := hft rfl
                have heq := HSI.out y HY.out bi hbil hbc
                have hyp : y ∈ p := by rw [← heq]; exact getD_mem hbil
                have O6 : Hid (VactRow w5 bs vo (joinA p (q.take (j + 1)))) := by rw [HSJ.out, if_pos hyp]; exact O5.out
                have hO1 := own_keep HR1.out (ext_trans HB5.out (ext_drew (Below.refl w5.heap.size w5)))
                obtain ⟨g1, rfl, hg10, hg11⟩ := own_pos hO1 (by have := HM.out; omega)
                have HCE : Hid (∀ W9, Below w.heap.size w W9 → W9.cell? ⟨g1, bi * 6, none⟩ = some (.int .i64 y.at_) ∧ W9.cell? ⟨g1, bi * 6 + 1, none⟩ = some (.string ⟨y.box.toArray⟩) ∧ W9.cell? ⟨g1, bi * 6 + 2, none⟩ = some (.string ⟨y.id.toArray⟩) ∧ W9.cell? ⟨g1, bi * 6 + 3, none⟩ = some (.int .i64 y.kind) ∧ W9.cell? ⟨g1, bi * 6 + 4, none⟩ = some (.int .i64 y.long) ∧ W9.cell? ⟨g1, bi * 6 + 5, none⟩ = some (.string ⟨y.frm.toArray⟩)) := fun W9 hW => by
                  have h9 := own_keep HR1.out hW
                  have e0 : ∀ k (hk : k < 6) u, (Vact.cells (p.getD bi default))[k]? = some u → W9.cell? ⟨g1, bi * 6 + k, none⟩ = some u := fun k hk u hu => own_field Vact.cells (fun _ => rfl) h9 bi k default hbil hk hu
                  rw [heq] at e0
                  exact ⟨e0 0 (by omega) _ rfl, e0 1 (by omega) _ rfl, e0 2 (by omega) _ rfl, e0 3 (by omega) _ rfl, e0 4 (by omega) _ rfl, e0 5 (by omega) _ rfl⟩
                have hbm : (bi : Int) < (m : Int) := by have := HM.out; omega
                have hb0 : ¬ ((bi : Int) < 0) := by omega
                have X6 := Lib.hid (X5.out.below (ext_drew (Below.refl w5.heap.size w5)))
                have O7 : Hid (VactRow w5.drew bs vo (joinA p (q.take (j + 1)))) := own_keep O6.out (ext_drew (Below.refl _ _))
                have HB7 := Lib.hid (ext_trans HB5.out (ext_drew (Below.refl w5.heap.size w5)))
                have hbs7 : bs ≤ w5.drew.heap.size := hbs5
                clear hft hff hbil hbc heq hyp hO1 hg10 hg11 O5 O6 HB5 X5 HRG5 hbs5
                as_aux_lemma =>
                  go_upto_region 14 with (fail)
                  refine region_seqI (S := fun W9 => Below w.heap.size w W9 ∧ Blk W9 B [.int .i64 y.at_, .string ⟨y.box.toArray⟩, .string ⟨y.id.toArray⟩, .int .i64 y.kind, .int .i64 y.long, .string ⟨y.frm.toArray⟩] 45) [(true, 0), (true, 1), (true, 2), (true, 3), (true, 4), (true, 5)] (by kernel_rfl) (by kernel_rfl) rfl (by kernel_rfl) ⟨HB7.out, X6.out⟩ ?_
                  generalize w5.drew = wd at X6 O7 HB7 hbs7 ⊢
                  simp only [seqOps, List.getD_cons_zero, List.getD_cons_succ]
                  refine seqI_take (v := .slice (some ⟨g1, 0, none⟩) m c1) rfl (fun W9 hW => by clear hW; go_simp) (fun _ _ _ h => h) ?_
                  simp only [Act.put, List.setIfInBounds_toArray, List.set_cons_zero, List.set_cons_succ]
                  refine seqI_take (v := .int .i64 bi) rfl (fun W9 hW => by clear hW; go_simp) (fun _ _ _ h => h) ?_
                  simp only [Act.put, List.setIfInBounds_toArray, List.set_cons_zero, List.set_cons_succ]
                  refine seqI_take (v := .pointer (some ⟨g1, bi * 6, none⟩)) rfl (fun W9 hW => by clear hW; go_simp) (fun _ _ _ h => h) ?_
                  simp only [Act.put, List.setIfInBounds_toArray, List.set_cons_zero, List.set_cons_succ]
                  refine seqI_take (v := .agg #[.int .i64 y.at_, .string ⟨y.box.toArray⟩, .string ⟨y.id.toArray⟩, .int .i64 y.kind, .int .i64 y.long, .string ⟨y.frm.toArray⟩]) rfl (fun W9 hW => by obtain ⟨p0, p1, p2, p3, p4, p5⟩ := HCE.out W9 hW.1; have HRX := hW.2; clear hW; go_simp) (fun _ _ _ h => h) ?_
                  simp only [Act.put, List.setIfInBounds_toArray, List.set_cons_zero, List.set_cons_succ]
                  refine seqI_take (v := .agg #[.int .i64 y.at_, .string ⟨y.box.toArray⟩, .string ⟨y.id.toArray⟩, .int .i64 y.kind, .int .i64 y.long, .string ⟨y.frm.toArray⟩]) rfl (fun W9 hW => by have HR := hW.2; have q0 := HR.cell 0 rfl; have q1 := HR.cell 1 rfl; have q2 := HR.cell 2 rfl; have q3 := HR.cell 3 rfl; have q4 := HR.cell 4 rfl; have q5 := HR.cell 5 rfl; clear hW HR; go_simp) (fun _ _ _ h => h) ?_
                  simp only [Act.put, List.setIfInBounds_toArray, List.set_cons_zero, List.set_cons_succ]
                  refine seqI_take (v := .bool false) rfl (fun W9 hW => by clear hW; go_simp) (fun _ _ _ h => h) ?_
                  simp only [Act.put, List.setIfInBounds_toArray, List.set_cons_zero, List.set_cons_succ]
                  refine seqI_nil ?_
                  as_aux_lemma =>
                    go_wp2_with fail
                    go_roundw
                    case rel => exact ⟨j + 1, by omega, by go_num, hbs7, O7, HB7⟩
                    case measure => simp [intOf]; omega
              have hyp : y ∉ p := not_in (hff rfl)
              have HJ1 : Hid (joinA p (q.take (j + 1)) = joinA p (q.take j) ++ [y]) := by show _ = _; rw [HSJ.out, if_neg hyp]
              have hJL := HJL.out j
              clear hft hff hyp HSJ
              generalize joinA p (q.take j) = M at O5 HJ1 hJL
              unfold VactRow at O5
              obtain ⟨wn, hwn⟩ : ∃ w', w' = (w5.alloc (.cells #[.int .i64 y.at_, .string ⟨y.box.toArray⟩, .string ⟨y.id.toArray⟩, .int .i64 y.kind, .int .i64 y.long, .string ⟨y.frm.toArray⟩] 45)) := ⟨_, rfl⟩
              have hbn : Below w5.heap.size w5 wn := by rw [hwn]; exact ext_alloc (Below.refl _ _)
              have HZN : Hid (Blk wn w5.heap.size [.int .i64 y.at_, .string ⟨y.box.toArray⟩, .string ⟨y.id.toArray⟩, .int .i64 y.kind, .int .i64 y.long, .string ⟨y.frm.toArray⟩] 45) := by rw [hwn]; exact Blk.new _ _ _
              have HNW : Hid (∀ j u, ([.int .i64 y.at_, .string ⟨y.box.toArray⟩, .string ⟨y.id.toArray⟩, .int .i64 y.kind, .int .i64 y.long, .string ⟨y.frm.toArray⟩] : List Value)[j]? = some u → wn.cell? ((⟨w5.heap.size, 0, none⟩ : Addr).add j) = some u) := fun j u hj => by
                rw [show (⟨w5.heap.size, 0, none⟩ : Addr).add j = ⟨w5.heap.size, j, none⟩ by cases j <;> simp [Addr.add]]
                exact HZN.out.cell j hj
              have HON : Hid (wn.ownsRow bs 45 6 vo M.length ((M.map Vact.cells).flatten)) := own_keep O5.out hbn
              have HBN := Lib.hid (ext_trans HB5.out hbn)
              have HWN := Lib.hid hwn
              have HLM : Hid (M.length + 1 ≤ maxLen ∧ (M.length + 1) * 72 ≤ 140737488355328) := ⟨by unfold maxLen; omega, by omega⟩
              have hbw : bs ≤ wn.heap.size := Nat.le_trans hbs5 hbn.size
              clear hbn hwn O5 HB5 hJL hbs5
              as_aux_lemma =>
                go_upto_region 16 with (first | (refine wpList_load_mid rfl 45 (.tmp 10) rfl B 0 rfl [.int .i64 y.at_, .string ⟨y.box.toArray⟩, .string ⟨y.id.toArray⟩, .int .i64 y.kind, .int .i64 y.long, .string ⟨y.frm.toArray⟩] _ HRG5.out Tryz.underlying45 rfl Tryz.actSz ?_) | ((refine wpList_val rfl (bl_amg0 _ (fun _ => rfl) _ _ 40 y.at_ ⟨y.box.toArray⟩ ⟨y.id.toArray⟩ y.kind y.long ⟨y.frm.toArray⟩ rfl rfl) ?_)) | (at_builtin; rw [← HWN.out]; refine wpList_append_own _ rfl (.tmp 39) (.tmp 41) 42 rfl bs 45 i0 (.agg #[.int .i64 0, .string ⟨#[]⟩, .string ⟨#[]⟩, .int .i64 0, .int .i64 0, .string ⟨#[]⟩]) 6 72 Tryz.underlying42 hi0 hz0 hz1 hz2 rfl (by decide) vo M.length ((M.map Vact.cells).flatten) rfl HON.out ⟨w5.heap.size, 0, none⟩ 1 1 [.int .i64 y.at_, .string ⟨y.box.toArray⟩, .string ⟨y.id.toArray⟩, .int .i64 y.kind, .int .i64 y.long, .string ⟨y.frm.toArray⟩] rfl rfl HNW.out (by intro u hu; simp at hu; rcases hu with rfl | rfl | rfl | rfl | rfl | rfl <;> rfl) HLM.out.1 HLM.out.2 hbw ?_; intro vn wx hon hgn _))
                have HOX : Hid (VactRow wx bs vn (joinA p (q.take (j + 1)))) := by
                  show VactRow _ _ _ _
                  rw [HJ1.out]
                  unfold VactRow
                  rw [List.map_append, List.flatten_append, List.length_append]
                  exact hon
                have HBX : Hid (Below w.heap.size w wx) := HBN.out.grown hgn HBN.out.size (fun b hb => Nat.le_trans hwb (HON.out.lt b hb).1)
                have hbx : bs ≤ wx.heap.size := Nat.le_trans hbw hgn.size
                clear hon hgn HON HBN HWN HNW HZN HRG5 HJ1
                as_aux_lemma =>
                  go_wp2_with fail
                  go_roundw
                  case rel => exact ⟨j + 1, by omega, by go_num, hbx, HOX, HBX⟩
                  case measure => simp [intOf]; omega
end Go.Proofs.YtamoclofloijpaaGreatDoor
