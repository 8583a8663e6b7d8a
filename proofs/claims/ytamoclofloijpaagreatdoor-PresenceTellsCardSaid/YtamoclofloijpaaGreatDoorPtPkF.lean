/- What is proved here: lemmas and contracts for the statement, put together out of smaller texts (ActFlt, GenPick). No condition beyond those stated. -/
import Derived.Test.YtamoclofloijpaaGreatDoorPtPkE
import Derived.Test.YtamoclofloijpaaGreatDoorPtPkD
import Derived.Test.YtamoclofloijpaaGreatDoorPtPkA
import Derived.Test.YtamoclofloijpaaGreatDoorPtPkB
import Derived.IntWalk
set_option linter.unusedVariables false
set_option linter.unusedSimpArgs false
namespace Go.Proofs.YtamoclofloijpaaGreatDoor
open Go.RowKit Go.Sort Go.Lib

set_option maxRecDepth 100000 in
set_option maxHeartbeats 16000000 in
theorem actsFault_any (w : World) (base : Nat) (v : Value) (l : List Vact) (h : VactRow w base v l) (hl : l.length ≤ 1000) (hb : ∀ a ∈ l, ActB a) :
    Calls Tryz.prog 33 #[v] w (fun e w' => ∃ E : Int, e = .returned (.int .i64 E) ∧ (E = 0 → ActsOk l) ∧ Below w.heap.size w w') := by
  unfold VactRow at h
  obtain ⟨a, cap, rfl⟩ := own_shape h
  have HO := Lib.hid h
  have HB := Lib.hid hb
  obtain ⟨n, hn⟩ : ∃ n, n = l.length := ⟨_, rfl⟩
  have HN := Lib.hid hn
  rw [← hn] at HO hl ⊢
  clear hn h hb
  have hl0 : ¬ (1000 : Int) < (n : Int) := by omega
  go_enter Tryz.func33, Tryz.ntmps33
  go_wp2_with fail
  clear hl0
  go_loopw [11] (fun it wr => ∃ i : Nat, i ≤ n ∧ it = .int .i64 i ∧ Hid (∀ m, m < i → ActGood (l.getD m default)) ∧ Hid (∀ m, m + 1 < i → (l.getD m default).lt (l.getD (m + 1) default)) ∧ Hid (Below w.heap.size w wr)) (fun it _ => n - (intOf it).toNat)
  case atStart => exact ⟨0, Nat.zero_le _, rfl, (fun m hm => absurd hm (by omega)), (fun m hm => absurd hm (by omega)), Below.refl _ _⟩
  case round =>
    obtain ⟨i, hi, rfl, HG, HLT, HBW⟩ := hrel
    by_cases hlt : i < n
    case neg =>
      obtain rfl : i = n := by omega
      have hin : ¬ ((i : Int) < (i : Int)) := by omega
      have HE : Hid (ActsOk l) := ActsOk.of_steps (fun m hm => HG.out m (by have := HN.out; omega)) (fun m hm => HLT.out m (by have := HN.out; omega))
      as_aux_lemma =>
        go_wp2_with fail
        go_ret
        exact ⟨0, rfl, (fun _ => HE.out), HBW.out⟩
    have hin : (i : Int) < (n : Int) := by omega
    have hil : i < l.length := by have := HN.out; omega
    have hO := own_keep HO.out HBW.out
    obtain ⟨g, rfl, hg0, hgw⟩ := own_pos hO (by omega)
    have HBX := Lib.hid (HB.out _ (getD_mem hil))
    have HPREV : Hid (∀ i1, i = i1 + 1 → ∀ W9, Below w.heap.size w W9 → W9.cell? ⟨g, i1 * 6, none⟩ = some (.int .i64 (l.getD i1 default).at_) ∧ W9.cell? ⟨g, i1 * 6 + 1, none⟩ = some (.string ⟨(l.getD i1 default).box.toArray⟩) ∧ W9.cell? ⟨g, i1 * 6 + 2, none⟩ = some (.string ⟨(l.getD i1 default).id.toArray⟩) ∧ W9.cell? ⟨g, i1 * 6 + 3, none⟩ = some (.int .i64 (l.getD i1 default).kind) ∧ W9.cell? ⟨g, i1 * 6 + 4, none⟩ = some (.int .i64 (l.getD i1 default).long) ∧ W9.cell? ⟨g, i1 * 6 + 5, none⟩ = some (.string ⟨(l.getD i1 default).frm.toArray⟩)) := fun i1 e W9 hW => ⟨own_field Vact.cells (fun _ => rfl) (own_keep HO.out hW) i1 0 default (by omega) (by omega) rfl, own_field Vact.cells (fun _ => rfl) (own_keep HO.out hW) i1 1 default (by omega) (by omega) rfl, own_field Vact.cells (fun _ => rfl) (own_keep HO.out hW) i1 2 default (by omega) (by omega) rfl, own_field Vact.cells (fun _ => rfl) (own_keep HO.out hW) i1 3 default (by omega) (by omega) rfl, own_field Vact.cells (fun _ => rfl) (own_keep HO.out hW) i1 4 default (by omega) (by omega) rfl, own_field Vact.cells (fun _ => rfl) (own_keep HO.out hW) i1 5 default (by omega) (by omega) rfl⟩
    have HCM : Hid (∀ i1, i = i1 + 1 → ∀ W, Calls Tryz.prog 82 #[(l.getD i1 default).val, (l.getD i default).val] W fun e w' => e = .returned (.int .i64 (actOrd (l.getD i1 default) (l.getD i default))) ∧ Below W.heap.size W w') := fun i1 _ W => (actOrd_any _ _ W).mono fun e w' h => ⟨h.1, Grown.below h.2⟩
    have d0 := own_field Vact.cells (fun _ => rfl) hO i 0 default hil (by omega) rfl
    have d1 := own_field Vact.cells (fun _ => rfl) hO i 1 default hil (by omega) rfl
    have d2 := own_field Vact.cells (fun _ => rfl) hO i 2 default hil (by omega) rfl
    have d3 := own_field Vact.cells (fun _ => rfl) hO i 3 default hil (by omega) rfl
    have d4 := own_field Vact.cells (fun _ => rfl) hO i 4 default hil (by omega) rfl
    have d5 := own_field Vact.cells (fun _ => rfl) hO i 5 default hil (by omega) rfl
    have hXV : (l.getD i default).val = .agg #[.int .i64 (l.getD i default).at_, .string ⟨(l.getD i default).box.toArray⟩, .string ⟨(l.getD i default).id.toArray⟩, .int .i64 (l.getD i default).kind, .int .i64 (l.getD i default).long, .string ⟨(l.getD i default).frm.toArray⟩] := rfl
    rw [hXV] at HCM
    clear hXV hO
    obtain ⟨x, hx⟩ : ∃ x, x = l.getD i default := ⟨_, rfl⟩
    rw [← hx] at d0 d1 d2 d3 d4 d5 HCM HBX
    have HX := Lib.hid hx
    clear hx
    have HMO : Hid (∀ W, Calls Tryz.prog 60 #[.int .i64 x.at_] W (BoolP (isMomB x.at_) W)) := fun W => ((moment2_any _ W).mono (fun e w2 h => ⟨h.1, by rw [← h.2]; exact Below.refl _ _⟩))
    have HK1 : Hid (∀ W, Calls Tryz.prog 58 #[.string ⟨x.box.toArray⟩] W (BoolP (isKeyB x.box) W)) := fun W => ((key2_any _ W (by have := HBX.out.box; omega)).mono (fun e w2 h => ⟨h.1, by rw [← h.2]; exact Below.refl _ _⟩))
    have HK2 : Hid (∀ W, Calls Tryz.prog 58 #[.string ⟨x.id.toArray⟩] W (BoolP (isKeyB x.id) W)) := fun W => ((key2_any _ W (by have := HBX.out.id; omega)).mono (fun e w2 h => ⟨h.1, by rw [← h.2]; exact Below.refl _ _⟩))
    have HIN : Hid (∀ z lo hi W, Calls Tryz.prog 59 #[.int .i64 z, .int .i64 lo, .int .i64 hi] W (BoolP (decide (lo ≤ z) && decide (z ≤ hi)) W)) := fun z lo hi W => ((in2_any z lo hi W).mono (fun e w2 h => ⟨h.1, by rw [← h.2]; exact Below.refl _ _⟩))
    have HFR : Hid (∀ W, Calls Tryz.prog 85 #[.string ⟨x.frm.toArray⟩] W (BoolP (fromB x.frm) W)) := fun W => callerId_any _ W (by have := HBX.out.frm; omega)
    have HGOOD : Hid (isMomB x.at_ = true → isKeyB x.box = true → isKeyB x.id = true → (decide (1 ≤ x.kind) && decide (x.kind ≤ 5)) = true → (x.kind = 1 → (decide (1 ≤ x.long) && decide (x.long ≤ 86400000)) = true ∧ fromB x.frm = true) → (x.kind ≠ 1 → x.long = 0 ∧ x.frm = []) → ActGood x) := fun h1 h2 h3 h4 h5 h6 => by
      simp only [Bool.and_eq_true, decide_eq_true_eq] at h4 h5
      exact ⟨h1, h2, h3, h4.1, h4.2, fun e => ⟨(h5 e).1.1, (h5 e).1.2, (h5 e).2⟩, h6⟩
    obtain ⟨bM, hbM⟩ : ∃ b, b = isMomB x.at_ := ⟨_, rfl⟩
    obtain ⟨bK1, hbK1⟩ : ∃ b, b = isKeyB x.box := ⟨_, rfl⟩
    obtain ⟨bK2, hbK2⟩ : ∃ b, b = isKeyB x.id := ⟨_, rfl⟩
    obtain ⟨bF, hbF⟩ : ∃ b, b = fromB x.frm := ⟨_, rfl⟩
    rw [← hbM] at HMO
    have HEbM := Lib.hid hbM
    rw [← hbK1] at HK1
    have HEbK1 := Lib.hid hbK1
    rw [← hbK2] at HK2
    have HEbK2 := Lib.hid hbK2
    rw [← hbF] at HFR
    have HEbF := Lib.hid hbF
    obtain ⟨bI, hbI⟩ : ∃ b, b = (decide ((1 : Int) ≤ x.kind) && decide (x.kind ≤ 5)) := ⟨_, rfl⟩
    obtain ⟨bL, hbL⟩ : ∃ b, b = (decide ((1 : Int) ≤ x.long) && decide (x.long ≤ 86400000)) := ⟨_, rfl⟩
    have HEbI := Lib.hid hbI
    have HEbL := Lib.hid hbL
    have HINK := HIN.out x.kind 1 5
    rw [← hbI] at HINK
    have HINL := HIN.out x.long 1 86400000
    rw [← hbL] at HINL
    have HINK := Lib.hid HINK
    have HINL := Lib.hid HINL
    clear hbM hbK1 hbK2 hbF hbI hbL HIN
    obtain ⟨f5, hf5⟩ : ∃ f, f = x.frm := ⟨_, rfl⟩
    have HF5 := Lib.hid hf5
    clear hf5
    have HKD : Hid (x.kind = x.kind) := rfl
    obtain ⟨x0, hx0⟩ : ∃ z, z = x.at_ := ⟨_, rfl⟩
    obtain ⟨x3, hx3⟩ : ∃ z, z = x.kind := ⟨_, rfl⟩
    obtain ⟨x4, hx4⟩ : ∃ z, z = x.long := ⟨_, rfl⟩
    obtain ⟨b1, hb1⟩ : ∃ z : ByteArray, z = ⟨x.box.toArray⟩ := ⟨_, rfl⟩
    obtain ⟨b2, hb2⟩ : ∃ z : ByteArray, z = ⟨x.id.toArray⟩ := ⟨_, rfl⟩
    rw [← HF5.out] at d5 HFR HCM
    rw [← hx0] at d0 HMO HCM
    rw [← hx3] at d3 HINK HCM
    rw [← hx4] at d4 HINL HCM
    rw [← hb1] at d1 HK1 HCM
    rw [← hb2] at d2 HK2 HCM
    have HX3 := Lib.hid hx3
    have HX4 := Lib.hid hx4
    rw [Nat.add_zero] at d0
    clear hx0 hx3 hx4 hb1 hb2 HKD
    have X1 : Hid (Blk (wr.alloc (.cells #[.int .i64 x0, .string b1, .string b2, .int .i64 x3, .int .i64 x4, .string ⟨f5.toArray⟩] 45)) wr.heap.size [.int .i64 x0, .string b1, .string b2, .int .i64 x3, .int .i64 x4, .string ⟨f5.toArray⟩] 45) := Blk.new _ _ _
    have HB1 : Hid (Below w.heap.size w (wr.alloc (.cells #[.int .i64 x0, .string b1, .string b2, .int .i64 x3, .int .i64 x4, .string ⟨f5.toArray⟩] 45))) := ext_alloc HBW.out
    as_aux_lemma =>
      go_upto_region 6 with (fail)
      clear d0 d1 d2 d3 d4 d5 HBW
      generalize (wr.alloc (.cells #[.int .i64 x0, .string b1, .string b2, .int .i64 x3, .int .i64 x4, .string ⟨f5.toArray⟩] 45)) = w1 at X1 HB1 ⊢
      generalize wr.heap.size = B at X1 ⊢
      by_cases hk3 : x3 = 1
      case neg =>
        have hk3b : (x3 == 1) = false := beq_eq_false_iff_ne.2 hk3
        have HK3 : Hid (x.kind ≠ 1) := by show _ ≠ _; rw [← HX3.out]; exact hk3
        clear hk3
        have c0 := X1.out.cell 0 rfl
        have c1 := X1.out.cell 1 rfl
        have c2 := X1.out.cell 2 rfl
        have c3 := X1.out.cell 3 rfl
        have c4 := X1.out.cell 4 rfl
        have c5 := X1.out.cell 5 rfl
        as_aux_lemma =>
          go_wp2_with fail
          refine (HMO.out _).mono ?_
          rintro e w2 ⟨rfl, hb⟩
          have X2 := Lib.hid (X1.out.below hb)
          have HB2 := Lib.hid (ext_trans HB1.out hb)
          clear hb c0 c1 c2 c3 c4 c5 X1 HB1
          have c0 := X2.out.cell 0 rfl
          have c1 := X2.out.cell 1 rfl
          have c2 := X2.out.cell 2 rfl
          have c3 := X2.out.cell 3 rfl
          have c4 := X2.out.cell 4 rfl
          have c5 := X2.out.cell 5 rfl
          cases bM
          case false =>
            as_aux_lemma =>
              go_wp2_with fail
              go_ret
              exact ⟨_, rfl, (fun h => absurd h (by decide)), HB2.out⟩
          as_aux_lemma =>
            go_wp2_with fail
            refine (HK1.out _).mono ?_
            rintro e w3 ⟨rfl, hb⟩
            have X3 := Lib.hid (X2.out.below hb)
            have HB3 := Lib.hid (ext_trans HB2.out hb)
            clear hb c0 c1 c2 c3 c4 c5 X2 HB2
            have c0 := X3.out.cell 0 rfl
            have c1 := X3.out.cell 1 rfl
            have c2 := X3.out.cell 2 rfl
            have c3 := X3.out.cell 3 rfl
            have c4 := X3.out.cell 4 rfl
            have c5 := X3.out.cell 5 rfl
            cases bK1
            case false =>
              as_aux_lemma =>
                go_wp2_with fail
                go_ret
                exact ⟨_, rfl, (fun h => absurd h (by decide)), HB3.out⟩
            as_aux_lemma =>
              go_wp2_with fail
              refine (HK2.out _).mono ?_
              rintro e w4 ⟨rfl, hb⟩
              have X4 := Lib.hid (X3.out.below hb)
              have HB4 := Lib.hid (ext_trans HB3.out hb)
              clear hb c0 c1 c2 c3 c4 c5 X3 HB3
              have c0 := X4.out.cell 0 rfl
              have c1 := X4.out.cell 1 rfl
              have c2 := X4.out.cell 2 rfl
              have c3 := X4.out.cell 3 rfl
              have c4 := X4.out.cell 4 rfl
              have c5 := X4.out.cell 5 rfl
              cases bK2
              case false =>
                as_aux_lemma =>
                  go_wp2_with fail
                  go_ret
                  exact ⟨_, rfl, (fun h => absurd h (by decide)), HB4.out⟩
              as_aux_lemma =>
                go_wp2_with fail
                refine (HINK.out _).mono ?_
                rintro e w5 ⟨rfl, hb⟩
                have X5 := Lib.hid (X4.out.below hb)
                have HB5 := Lib.hid (ext_trans HB4.out hb)
                clear hb c0 c1 c2 c3 c4 c5 X4 HB4
                have c0 := X5.out.cell 0 rfl
                have c1 := X5.out.cell 1 rfl
                have c2 := X5.out.cell 2 rfl
                have c3 := X5.out.cell 3 rfl
                have c4 := X5.out.cell 4 rfl
                have c5 := X5.out.cell 5 rfl
                cases bI
                case false =>
                  as_aux_lemma =>
                    go_wp2_with fail
                    go_ret
                    exact ⟨_, rfl, (fun h => absurd h (by decide)), HB5.out⟩
                by_cases hx4z : x4 = 0
                case neg =>
                  have hx4b : (x4 != 0) = true := bne_iff_ne.2 hx4z
                  as_aux_lemma =>
                    go_wp2_with fail
                    go_ret
                    exact ⟨_, rfl, (fun h => absurd h (by decide)), HB5.out⟩
                have HX4Z := Lib.hid hx4z
                have hx4b : (x4 != 0) = false := by simpa using hx4z
                clear hx4z
                by_cases hf5z : f5 = []
                case neg =>
                  have hf5b : (f5 == []) = false := beq_eq_false_iff_ne.2 hf5z
                  have HFZ := Lib.hid hf5z
                  clear hf5z
                  as_aux_lemma =>
                    go_wp2_with fail
                    go_ret
                    exact ⟨_, rfl, (fun h => absurd h (by decide)), HB5.out⟩
                have HFZ := Lib.hid hf5z
                have hf5b : (f5 == []) = true := by rw [hf5z]; rfl
                clear hf5z
                have HGX : Hid (ActGood x) := HGOOD.out (by first | exact HEbM.out.symm | exact HEbM.out) (by first | exact HEbK1.out.symm | exact HEbK1.out) (by first | exact HEbK2.out.symm | exact HEbK2.out) (by first | exact HEbI.out.symm | exact HEbI.out) (fun h => absurd h HK3.out) (fun _ => ⟨HX4.out.symm.trans HX4Z.out, HF5.out.symm.trans HFZ.out⟩)
                as_aux_lemma =>
                  go_upto_region 19 with (fail)
                  have hd : Below w5.heap.size w5 w5.drew := ext_drew (Below.refl _ _)
                  have XD := Lib.hid (X5.out.below hd)
                  have HBD := Lib.hid (ext_trans HB5.out hd)
                  clear hd X5 HB5 c0 c1 c2 c3 c4 c5
                  by_cases hiz : i = 0
                  case pos =>
                    have HIZ := Lib.hid hiz
                    clear hiz HCM HPREV
                    as_aux_lemma =>
                      refine region_seqI (S := fun W9 => Below w5.drew.heap.size w5.drew W9) [(true, 0), (true, 1), (true, 2), (true, 3), (true, 4), (true, 5), (true, 6), (true, 7), (true, 8), (true, 9), (true, 10), (true, 11), (true, 12)] (by kernel_rfl) (by kernel_rfl) rfl (by kernel_rfl) (Below.refl _ _) ?_
                      generalize w5.drew = wd at XD HBD ⊢
                      simp only [seqOps, List.getD_cons_zero, List.getD_cons_succ]
                      refine seqI_take (v := .int .i64 i) rfl (fun W9 hW => by clear hW; go_simp) (fun _ _ _ h => h) ?_
                      simp only [Act.put, List.setIfInBounds_toArray, List.set_cons_zero, List.set_cons_succ]
                      refine seqI_take (v := .bool false) rfl (fun W9 hW => by clear hW; go_simp; exact HIZ.out) (fun _ _ _ h => h) ?_
                      simp only [Act.put, List.setIfInBounds_toArray, List.set_cons_zero, List.set_cons_succ]
                      refine seqI_take (v := .bool false) rfl (fun W9 hW => by clear hW; go_simp) (fun _ _ _ h => h) ?_
                      simp only [Act.put, List.setIfInBounds_toArray, List.set_cons_zero, List.set_cons_succ]
                      refine seqI_skip rfl (fun _ _ _ h => h) ?_
                      simp only [Act.put, List.setIfInBounds_toArray, List.set_cons_zero, List.set_cons_succ]
                      refine seqI_skip rfl (fun _ _ _ h => h) ?_
                      simp only [Act.put, List.setIfInBounds_toArray, List.set_cons_zero, List.set_cons_succ]
                      refine seqI_skip rfl (fun _ _ _ h => h) ?_
                      simp only [Act.put, List.setIfInBounds_toArray, List.set_cons_zero, List.set_cons_succ]
                      refine seqI_skip rfl (fun _ _ _ h => h) ?_
                      simp only [Act.put, List.setIfInBounds_toArray, List.set_cons_zero, List.set_cons_succ]
                      refine seqI_skip rfl (fun _ _ _ h => h) ?_
                      simp only [Act.put, List.setIfInBounds_toArray, List.set_cons_zero, List.set_cons_succ]
                      refine seqI_skip rfl (fun _ _ _ h => h) ?_
                      simp only [Act.put, List.setIfInBounds_toArray, List.set_cons_zero, List.set_cons_succ]
                      refine seqI_skip rfl (fun _ _ _ h => h) ?_
                      simp only [Act.put, List.setIfInBounds_toArray, List.set_cons_zero, List.set_cons_succ]
                      refine seqI_skip rfl (fun _ _ _ h => h) ?_
                      simp only [Act.put, List.setIfInBounds_toArray, List.set_cons_zero, List.set_cons_succ]
                      refine seqI_take (v := .bool false) rfl (fun W9 hW => by clear hW; go_simp) (fun _ _ _ h => h) ?_
                      simp only [Act.put, List.setIfInBounds_toArray, List.set_cons_zero, List.set_cons_succ]
                      refine seqI_take (v := .bool false) rfl (fun W9 hW => by clear hW; go_simp) (fun _ _ _ h => h) ?_
                      simp only [Act.put, List.setIfInBounds_toArray, List.set_cons_zero, List.set_cons_succ]
                      refine seqI_nil ?_
                      as_aux_lemma =>
                        go_wp2_with fail
                        go_roundw
                        case rel => exact ⟨i + 1, by omega, by go_num, (fun m hm => (by
                          by_cases e : m = i
                          · rw [e, ← HX.out]; exact HGX.out
                          · exact HG.out m (by omega))), (fun m hm => absurd hm (by have := HIZ.out; omega)), HBD.out⟩
                        case measure => simp [intOf]; omega
                  obtain ⟨i1, hi1⟩ : ∃ i1, i = i1 + 1 := ⟨i - 1, by omega⟩
                  have HI1 := Lib.hid hi1
                  have hip : 0 < i := by omega
                  have HIP := Lib.hid hip
                  have hw1 : IntKind.i64.wrap ((i : Int) - 1) = (i1 : Int) := by rw [show (i : Int) - 1 = (i1 : Int) by omega]; exact IntWalk.i64_in _ (by omega)
                  have h1n : (i1 : Int) < (n : Int) := by omega
                  have h10 : ¬ ((i1 : Int) < 0) := by omega
                  have HC1 := Lib.hid (HCM.out i1 hi1)
                  have HP1 := Lib.hid (HPREV.out i1 hi1)
                  clear hiz hi1 hip HCM HPREV
                  obtain ⟨r, hr⟩ : ∃ r, r = actOrd (l.getD i1 default) x := ⟨_, rfl⟩
                  have HR := Lib.hid hr
                  rw [← hr] at HC1
                  have HC2 : Hid (∀ W, Calls Tryz.prog 82 #[.agg #[.int .i64 (l.getD i1 default).at_, .string ⟨(l.getD i1 default).box.toArray⟩, .string ⟨(l.getD i1 default).id.toArray⟩, .int .i64 (l.getD i1 default).kind, .int .i64 (l.getD i1 default).long, .string ⟨(l.getD i1 default).frm.toArray⟩], .agg #[.int .i64 x0, .string b1, .string b2, .int .i64 x3, .int .i64 x4, .string ⟨f5.toArray⟩]] W fun e w' => e = .returned (.int .i64 r) ∧ Below W.heap.size W w') := HC1.out
                  clear hr HC1
                  generalize (l.getD i1 default).at_ = z0 at HP1 HC2
                  generalize (⟨(l.getD i1 default).box.toArray⟩ : ByteArray) = z1 at HP1 HC2
                  generalize (⟨(l.getD i1 default).id.toArray⟩ : ByteArray) = z2 at HP1 HC2
                  generalize (l.getD i1 default).kind = z3 at HP1 HC2
                  generalize (l.getD i1 default).long = z4 at HP1 HC2
                  generalize (⟨(l.getD i1 default).frm.toArray⟩ : ByteArray) = z5 at HP1 HC2
                  have HCE : Hid (∀ W9, Below w5.drew.heap.size w5.drew W9 → (W9.cell? ⟨g, i1 * 6, none⟩ = some (.int .i64 z0) ∧ W9.cell? ⟨g, i1 * 6 + 1, none⟩ = some (.string z1) ∧ W9.cell? ⟨g, i1 * 6 + 2, none⟩ = some (.string z2) ∧ W9.cell? ⟨g, i1 * 6 + 3, none⟩ = some (.int .i64 z3) ∧ W9.cell? ⟨g, i1 * 6 + 4, none⟩ = some (.int .i64 z4) ∧ W9.cell? ⟨g, i1 * 6 + 5, none⟩ = some (.string z5)) ∧ (W9.cell? ⟨B, 0, none⟩ = some (.int .i64 x0) ∧ W9.cell? ⟨B, 1, none⟩ = some (.string b1) ∧ W9.cell? ⟨B, 2, none⟩ = some (.string b2) ∧ W9.cell? ⟨B, 3, none⟩ = some (.int .i64 x3) ∧ W9.cell? ⟨B, 4, none⟩ = some (.int .i64 x4) ∧ W9.cell? ⟨B, 5, none⟩ = some (.string ⟨f5.toArray⟩))) := fun W9 hW => ⟨HP1.out W9 (ext_trans HBD.out hW), ⟨(XD.out.below hW).cell 0 rfl, (XD.out.below hW).cell 1 rfl, (XD.out.below hW).cell 2 rfl, (XD.out.below hW).cell 3 rfl, (XD.out.below hW).cell 4 rfl, (XD.out.below hW).cell 5 rfl⟩⟩
                  clear HP1
                  as_aux_lemma =>
                    refine region_seqI (S := fun W9 => Below w5.drew.heap.size w5.drew W9) [(true, 0), (true, 1), (true, 2), (true, 3), (true, 4), (true, 5), (true, 6), (true, 7), (true, 8), (false, 9), (true, 10), (true, 11), (true, 12)] (by kernel_rfl) (by kernel_rfl) rfl (by kernel_rfl) (Below.refl _ _) ?_
                    generalize w5.drew = wd at XD HBD HCE ⊢
                    simp only [seqOps, List.getD_cons_zero, List.getD_cons_succ]
                    refine seqI_take (v := .int .i64 i) rfl (fun W9 hW => by clear hW; go_simp) (fun _ _ _ h => h) ?_
                    simp only [Act.put, List.setIfInBounds_toArray, List.set_cons_zero, List.set_cons_succ]
                    refine seqI_take (v := .bool true) rfl (fun W9 hW => by clear hW; go_simp; exact HIP.out) (fun _ _ _ h => h) ?_
                    simp only [Act.put, List.setIfInBounds_toArray, List.set_cons_zero, List.set_cons_succ]
                    refine seqI_take (v := .bool true) rfl (fun W9 hW => by clear hW; go_simp) (fun _ _ _ h => h) ?_
                    simp only [Act.put, List.setIfInBounds_toArray, List.set_cons_zero, List.set_cons_succ]
                    refine seqI_take (v := .slice (some ⟨g, 0, none⟩) n cap) rfl (fun W9 hW => by clear hW; go_simp) (fun _ _ _ h => h) ?_
                    simp only [Act.put, List.setIfInBounds_toArray, List.set_cons_zero, List.set_cons_succ]
                    refine seqI_take (v := .int .i64 i) rfl (fun W9 hW => by clear hW; go_simp) (fun _ _ _ h => h) ?_
                    simp only [Act.put, List.setIfInBounds_toArray, List.set_cons_zero, List.set_cons_succ]
                    refine seqI_take (v := .int .i64 i1) rfl (fun W9 hW => by clear hW; go_simp) (fun _ _ _ h => h) ?_
                    simp only [Act.put, List.setIfInBounds_toArray, List.set_cons_zero, List.set_cons_succ]
                    refine seqI_take (v := .pointer (some ⟨g, i1 * 6, none⟩)) rfl (fun W9 hW => by clear hW; go_simp) (fun _ _ _ h => h) ?_
                    simp only [Act.put, List.setIfInBounds_toArray, List.set_cons_zero, List.set_cons_succ]
                    refine seqI_take (v := .agg #[.int .i64 z0, .string z1, .string z2, .int .i64 z3, .int .i64 z4, .string z5]) rfl (fun W9 hW => by obtain ⟨⟨p0, p1, p2, p3, p4, p5⟩, ⟨q0, q1, q2, q3, q4, q5⟩⟩ := HCE.out W9 hW; clear hW; go_simp) (fun _ _ _ h => h) ?_
                    simp only [Act.put, List.setIfInBounds_toArray, List.set_cons_zero, List.set_cons_succ]
                    refine seqI_take (v := .agg #[.int .i64 x0, .string b1, .string b2, .int .i64 x3, .int .i64 x4, .string ⟨f5.toArray⟩]) rfl (fun W9 hW => by obtain ⟨⟨p0, p1, p2, p3, p4, p5⟩, ⟨q0, q1, q2, q3, q4, q5⟩⟩ := HCE.out W9 hW; clear hW; go_simp) (fun _ _ _ h => h) ?_
                    simp only [Act.put, List.setIfInBounds_toArray, List.set_cons_zero, List.set_cons_succ]
                    refine seqI_call _ _ rfl (by go_simp) (HC2.out wd) ?_
                    rintro e w9 ⟨rfl, hb⟩
                    have HB9 := Lib.hid (ext_trans HBD.out hb)
                    refine ⟨_, rfl, hb, ?_⟩
                    simp only [Act.put, List.setIfInBounds_toArray, List.set_cons_zero, List.set_cons_succ]
                    clear hb HCE XD HBD HC2
                    by_cases hr0 : r < 0
                    case neg =>
                      have hr1 : 0 ≤ r := by omega
                      refine seqI_take (v := .bool true) rfl (fun W9 hW => by clear hW; go_simp) (fun _ _ _ h => h) ?_
                      simp only [Act.put, List.setIfInBounds_toArray, List.set_cons_zero, List.set_cons_succ]
                      refine seqI_take (v := .bool true) rfl (fun W9 hW => by clear hW; go_simp) (fun _ _ _ h => h) ?_
                      simp only [Act.put, List.setIfInBounds_toArray, List.set_cons_zero, List.set_cons_succ]
                      refine seqI_take (v := .bool true) rfl (fun W9 hW => by clear hW; go_simp) (fun _ _ _ h => h) ?_
                      simp only [Act.put, List.setIfInBounds_toArray, List.set_cons_zero, List.set_cons_succ]
                      refine seqI_nil ?_
                      as_aux_lemma =>
                        go_wp2_with fail
                        go_ret
                        exact ⟨_, rfl, (fun h => absurd h (by decide)), HB9.out⟩
                    have HLR : Hid ((l.getD i1 default).lt x) := actOrd_neg (HB.out _ (getD_mem (by have := HN.out; have := HI1.out; omega))) HBX.out (by rw [← HR.out]; exact hr0)
                    have hr1 : ¬ (0 ≤ r) := by omega
                    refine seqI_take (v := .bool false) rfl (fun W9 hW => by clear hW; go_simp) (fun _ _ _ h => h) ?_
                    simp only [Act.put, List.setIfInBounds_toArray, List.set_cons_zero, List.set_cons_succ]
                    refine seqI_take (v := .bool false) rfl (fun W9 hW => by clear hW; go_simp) (fun _ _ _ h => h) ?_
                    simp only [Act.put, List.setIfInBounds_toArray, List.set_cons_zero, List.set_cons_succ]
                    refine seqI_take (v := .bool false) rfl (fun W9 hW => by clear hW; go_simp) (fun _ _ _ h => h) ?_
                    simp only [Act.put, List.setIfInBounds_toArray, List.set_cons_zero, List.set_cons_succ]
                    refine seqI_nil ?_
                    as_aux_lemma =>
                      go_wp2_with fail
                      go_roundw
                      case rel => exact ⟨i + 1, by omega, by go_num, (fun m hm => (by
                        by_cases e : m = i
                        · rw [e, ← HX.out]; exact HGX.out
                        · exact HG.out m (by omega))), (fun m hm => (by
                        by_cases e : m + 1 = i
                        · rw [e, ← HX.out, show m = i1 by have := HI1.out; omega]; exact HLR.out
                        · exact HLT.out m (by omega))), HB9.out⟩
                      case measure => simp [intOf]; omega
      subst hk3
      have c0 := X1.out.cell 0 rfl
      have c1 := X1.out.cell 1 rfl
      have c2 := X1.out.cell 2 rfl
      have c3 := X1.out.cell 3 rfl
      have c4 := X1.out.cell 4 rfl
      have c5 := X1.out.cell 5 rfl
      as_aux_lemma =>
        go_wp2_with fail
        refine (HMO.out _).mono ?_
        rintro e w2 ⟨rfl, hb⟩
        have X2 := Lib.hid (X1.out.below hb)
        have HB2 := Lib.hid (ext_trans HB1.out hb)
        clear hb c0 c1 c2 c3 c4 c5 X1 HB1
        have c0 := X2.out.cell 0 rfl
        have c1 := X2.out.cell 1 rfl
        have c2 := X2.out.cell 2 rfl
        have c3 := X2.out.cell 3 rfl
        have c4 := X2.out.cell 4 rfl
        have c5 := X2.out.cell 5 rfl
        cases bM
        case false =>
          as_aux_lemma =>
            go_wp2_with fail
            go_ret
            exact ⟨_, rfl, (fun h => absurd h (by decide)), HB2.out⟩
        as_aux_lemma =>
          go_wp2_with fail
          refine (HK1.out _).mono ?_
          rintro e w3 ⟨rfl, hb⟩
          have X3 := Lib.hid (X2.out.below hb)
          have HB3 := Lib.hid (ext_trans HB2.out hb)
          clear hb c0 c1 c2 c3 c4 c5 X2 HB2
          have c0 := X3.out.cell 0 rfl
          have c1 := X3.out.cell 1 rfl
          have c2 := X3.out.cell 2 rfl
          have c3 := X3.out.cell 3 rfl
          have c4 := X3.out.cell 4 rfl
          have c5 := X3.out.cell 5 rfl
          cases bK1
          case false =>
            as_aux_lemma =>
              go_wp2_with fail
              go_ret
              exact ⟨_, rfl, (fun h => absurd h (by decide)), HB3.out⟩
          as_aux_lemma =>
            go_wp2_with fail
            refine (HK2.out _).mono ?_
            rintro e w4 ⟨rfl, hb⟩
            have X4 := Lib.hid (X3.out.below hb)
            have HB4 := Lib.hid (ext_trans HB3.out hb)
            clear hb c0 c1 c2 c3 c4 c5 X3 HB3
            have c0 := X4.out.cell 0 rfl
            have c1 := X4.out.cell 1 rfl
            have c2 := X4.out.cell 2 rfl
            have c3 := X4.out.cell 3 rfl
            have c4 := X4.out.cell 4 rfl
            have c5 := X4.out.cell 5 rfl
            cases bK2
            case false =>
              as_aux_lemma =>
                go_wp2_with fail
                go_ret
                exact ⟨_, rfl, (fun h => absurd h (by decide)), HB4.out⟩
            as_aux_lemma =>
              go_wp2_with fail
              refine (HINK.out _).mono ?_
              rintro e w5 ⟨rfl, hb⟩
              have X5 := Lib.hid (X4.out.below hb)
              have HB5 := Lib.hid (ext_trans HB4.out hb)
              clear hb c0 c1 c2 c3 c4 c5 X4 HB4
              have c0 := X5.out.cell 0 rfl
              have c1 := X5.out.cell 1 rfl
              have c2 := X5.out.cell 2 rfl
              have c3 := X5.out.cell 3 rfl
              have c4 := X5.out.cell 4 rfl
              have c5 := X5.out.cell 5 rfl
              cases bI
              case false =>
                as_aux_lemma =>
                  go_wp2_with fail
                  go_ret
                  exact ⟨_, rfl, (fun h => absurd h (by decide)), HB5.out⟩
              as_aux_lemma =>
                go_wp2_with fail
                refine (HINL.out _).mono ?_
                rintro e w6 ⟨rfl, hb⟩
                have X6 := Lib.hid (X5.out.below hb)
                have HB6 := Lib.hid (ext_trans HB5.out hb)
                clear hb c0 c1 c2 c3 c4 c5 X5 HB5
                have c0 := X6.out.cell 0 rfl
                have c1 := X6.out.cell 1 rfl
                have c2 := X6.out.cell 2 rfl
                have c3 := X6.out.cell 3 rfl
                have c4 := X6.out.cell 4 rfl
                have c5 := X6.out.cell 5 rfl
                cases bL
                case false =>
                  as_aux_lemma =>
                    go_wp2_with fail
                    go_ret
                    exact ⟨_, rfl, (fun h => absurd h (by decide)), HB6.out⟩
                as_aux_lemma =>
                  go_wp2_with fail
                  refine (HFR.out _).mono ?_
                  rintro e w7 ⟨rfl, hb⟩
                  have X7 := Lib.hid (X6.out.below hb)
                  have HB7 := Lib.hid (ext_trans HB6.out hb)
                  clear hb c0 c1 c2 c3 c4 c5 X6 HB6
                  have c0 := X7.out.cell 0 rfl
                  have c1 := X7.out.cell 1 rfl
                  have c2 := X7.out.cell 2 rfl
                  have c3 := X7.out.cell 3 rfl
                  have c4 := X7.out.cell 4 rfl
                  have c5 := X7.out.cell 5 rfl
                  cases bF
                  case false =>
                    as_aux_lemma =>
                      go_wp2_with fail
                      go_ret
                      exact ⟨_, rfl, (fun h => absurd h (by decide)), HB7.out⟩
                  have HGX : Hid (ActGood x) := HGOOD.out (by first | exact HEbM.out.symm | exact HEbM.out) (by first | exact HEbK1.out.symm | exact HEbK1.out) (by first | exact HEbK2.out.symm | exact HEbK2.out) (by first | exact HEbI.out.symm | exact HEbI.out) (fun _ => ⟨(by first | exact HEbL.out.symm | exact HEbL.out), (by first | exact HEbF.out.symm | exact HEbF.out)⟩) (fun h => absurd (by first | exact HX3.out.symm | exact HX3.out) h)
                  as_aux_lemma =>
                    go_upto_region 19 with (fail)
                    have hd : Below w7.heap.size w7 w7.drew := ext_drew (Below.refl _ _)
                    have XD := Lib.hid (X7.out.below hd)
                    have HBD := Lib.hid (ext_trans HB7.out hd)
                    clear hd X7 HB7 c0 c1 c2 c3 c4 c5
                    by_cases hiz : i = 0
                    case pos =>
                      have HIZ := Lib.hid hiz
                      clear hiz HCM HPREV
                      as_aux_lemma =>
                        refine region_seqI (S := fun W9 => Below w7.drew.heap.size w7.drew W9) [(true, 0), (true, 1), (true, 2), (true, 3), (true, 4), (true, 5), (true, 6), (true, 7), (true, 8), (true, 9), (true, 10), (true, 11), (true, 12)] (by kernel_rfl) (by kernel_rfl) rfl (by kernel_rfl) (Below.refl _ _) ?_
                        generalize w7.drew = wd at XD HBD ⊢
                        simp only [seqOps, List.getD_cons_zero, List.getD_cons_succ]
                        refine seqI_take (v := .int .i64 i) rfl (fun W9 hW => by clear hW; go_simp) (fun _ _ _ h => h) ?_
                        simp only [Act.put, List.setIfInBounds_toArray, List.set_cons_zero, List.set_cons_succ]
                        refine seqI_take (v := .bool false) rfl (fun W9 hW => by clear hW; go_simp; exact HIZ.out) (fun _ _ _ h => h) ?_
                        simp only [Act.put, List.setIfInBounds_toArray, List.set_cons_zero, List.set_cons_succ]
                        refine seqI_take (v := .bool false) rfl (fun W9 hW => by clear hW; go_simp) (fun _ _ _ h => h) ?_
                        simp only [Act.put, List.setIfInBounds_toArray, List.set_cons_zero, List.set_cons_succ]
                        refine seqI_skip rfl (fun _ _ _ h => h) ?_
                        simp only [Act.put, List.setIfInBounds_toArray, List.set_cons_zero, List.set_cons_succ]
                        refine seqI_skip rfl (fun _ _ _ h => h) ?_
                        simp only [Act.put, List.setIfInBounds_toArray, List.set_cons_zero, List.set_cons_succ]
                        refine seqI_skip rfl (fun _ _ _ h => h) ?_
                        simp only [Act.put, List.setIfInBounds_toArray, List.set_cons_zero, List.set_cons_succ]
                        refine seqI_skip rfl (fun _ _ _ h => h) ?_
                        simp only [Act.put, List.setIfInBounds_toArray, List.set_cons_zero, List.set_cons_succ]
                        refine seqI_skip rfl (fun _ _ _ h => h) ?_
                        simp only [Act.put, List.setIfInBounds_toArray, List.set_cons_zero, List.set_cons_succ]
                        refine seqI_skip rfl (fun _ _ _ h => h) ?_
                        simp only [Act.put, List.setIfInBounds_toArray, List.set_cons_zero, List.set_cons_succ]
                        refine seqI_skip rfl (fun _ _ _ h => h) ?_
                        simp only [Act.put, List.setIfInBounds_toArray, List.set_cons_zero, List.set_cons_succ]
                        refine seqI_skip rfl (fun _ _ _ h => h) ?_
                        simp only [Act.put, List.setIfInBounds_toArray, List.set_cons_zero, List.set_cons_succ]
                        refine seqI_take (v := .bool false) rfl (fun W9 hW => by clear hW; go_simp) (fun _ _ _ h => h) ?_
                        simp only [Act.put, List.setIfInBounds_toArray, List.set_cons_zero, List.set_cons_succ]
                        refine seqI_take (v := .bool false) rfl (fun W9 hW => by clear hW; go_simp) (fun _ _ _ h => h) ?_
                        simp only [Act.put, List.setIfInBounds_toArray, List.set_cons_zero, List.set_cons_succ]
                        refine seqI_nil ?_
                        as_aux_lemma =>
                          go_wp2_with fail
                          go_roundw
                          case rel => exact ⟨i + 1, by omega, by go_num, (fun m hm => (by
                            by_cases e : m = i
                            · rw [e, ← HX.out]; exact HGX.out
                            · exact HG.out m (by omega))), (fun m hm => absurd hm (by have := HIZ.out; omega)), HBD.out⟩
                          case measure => simp [intOf]; omega
                    obtain ⟨i1, hi1⟩ : ∃ i1, i = i1 + 1 := ⟨i - 1, by omega⟩
                    have HI1 := Lib.hid hi1
                    have hip : 0 < i := by omega
                    have HIP := Lib.hid hip
                    have hw1 : IntKind.i64.wrap ((i : Int) - 1) = (i1 : Int) := by rw [show (i : Int) - 1 = (i1 : Int) by omega]; exact IntWalk.i64_in _ (by omega)
                    have h1n : (i1 : Int) < (n : Int) := by omega
                    have h10 : ¬ ((i1 : Int) < 0) := by omega
                    have HC1 := Lib.hid (HCM.out i1 hi1)
                    have HP1 := Lib.hid (HPREV.out i1 hi1)
                    clear hiz hi1 hip HCM HPREV
                    obtain ⟨r, hr⟩ : ∃ r, r = actOrd (l.getD i1 default) x := ⟨_, rfl⟩
                    have HR := Lib.hid hr
                    rw [← hr] at HC1
                    have HC2 : Hid (∀ W, Calls Tryz.prog 82 #[.agg #[.int .i64 (l.getD i1 default).at_, .string ⟨(l.getD i1 default).box.toArray⟩, .string ⟨(l.getD i1 default).id.toArray⟩, .int .i64 (l.getD i1 default).kind, .int .i64 (l.getD i1 default).long, .string ⟨(l.getD i1 default).frm.toArray⟩], .agg #[.int .i64 x0, .string b1, .string b2, .int .i64 1, .int .i64 x4, .string ⟨f5.toArray⟩]] W fun e w' => e = .returned (.int .i64 r) ∧ Below W.heap.size W w') := HC1.out
                    clear hr HC1
                    generalize (l.getD i1 default).at_ = z0 at HP1 HC2
                    generalize (⟨(l.getD i1 default).box.toArray⟩ : ByteArray) = z1 at HP1 HC2
                    generalize (⟨(l.getD i1 default).id.toArray⟩ : ByteArray) = z2 at HP1 HC2
                    generalize (l.getD i1 default).kind = z3 at HP1 HC2
                    generalize (l.getD i1 default).long = z4 at HP1 HC2
                    generalize (⟨(l.getD i1 default).frm.toArray⟩ : ByteArray) = z5 at HP1 HC2
                    have HCE : Hid (∀ W9, Below w7.drew.heap.size w7.drew W9 → (W9.cell? ⟨g, i1 * 6, none⟩ = some (.int .i64 z0) ∧ W9.cell? ⟨g, i1 * 6 + 1, none⟩ = some (.string z1) ∧ W9.cell? ⟨g, i1 * 6 + 2, none⟩ = some (.string z2) ∧ W9.cell? ⟨g, i1 * 6 + 3, none⟩ = some (.int .i64 z3) ∧ W9.cell? ⟨g, i1 * 6 + 4, none⟩ = some (.int .i64 z4) ∧ W9.cell? ⟨g, i1 * 6 + 5, none⟩ = some (.string z5)) ∧ (W9.cell? ⟨B, 0, none⟩ = some (.int .i64 x0) ∧ W9.cell? ⟨B, 1, none⟩ = some (.string b1) ∧ W9.cell? ⟨B, 2, none⟩ = some (.string b2) ∧ W9.cell? ⟨B, 3, none⟩ = some (.int .i64 1) ∧ W9.cell? ⟨B, 4, none⟩ = some (.int .i64 x4) ∧ W9.cell? ⟨B, 5, none⟩ = some (.string ⟨f5.toArray⟩))) := fun W9 hW => ⟨HP1.out W9 (ext_trans HBD.out hW), ⟨(XD.out.below hW).cell 0 rfl, (XD.out.below hW).cell 1 rfl, (XD.out.below hW).cell 2 rfl, (XD.out.below hW).cell 3 rfl, (XD.out.below hW).cell 4 rfl, (XD.out.below hW).cell 5 rfl⟩⟩
                    clear HP1
                    as_aux_lemma =>
                      refine region_seqI (S := fun W9 => Below w7.drew.heap.size w7.drew W9) [(true, 0), (true, 1), (true, 2), (true, 3), (true, 4), (true, 5), (true, 6), (true, 7), (true, 8), (false, 9), (true, 10), (true, 11), (true, 12)] (by kernel_rfl) (by kernel_rfl) rfl (by kernel_rfl) (Below.refl _ _) ?_
                      generalize w7.drew = wd at XD HBD HCE ⊢
                      simp only [seqOps, List.getD_cons_zero, List.getD_cons_succ]
                      refine seqI_take (v := .int .i64 i) rfl (fun W9 hW => by clear hW; go_simp) (fun _ _ _ h => h) ?_
                      simp only [Act.put, List.setIfInBounds_toArray, List.set_cons_zero, List.set_cons_succ]
                      refine seqI_take (v := .bool true) rfl (fun W9 hW => by clear hW; go_simp; exact HIP.out) (fun _ _ _ h => h) ?_
                      simp only [Act.put, List.setIfInBounds_toArray, List.set_cons_zero, List.set_cons_succ]
                      refine seqI_take (v := .bool true) rfl (fun W9 hW => by clear hW; go_simp) (fun _ _ _ h => h) ?_
                      simp only [Act.put, List.setIfInBounds_toArray, List.set_cons_zero, List.set_cons_succ]
                      refine seqI_take (v := .slice (some ⟨g, 0, none⟩) n cap) rfl (fun W9 hW => by clear hW; go_simp) (fun _ _ _ h => h) ?_
                      simp only [Act.put, List.setIfInBounds_toArray, List.set_cons_zero, List.set_cons_succ]
                      refine seqI_take (v := .int .i64 i) rfl (fun W9 hW => by clear hW; go_simp) (fun _ _ _ h => h) ?_
                      simp only [Act.put, List.setIfInBounds_toArray, List.set_cons_zero, List.set_cons_succ]
                      refine seqI_take (v := .int .i64 i1) rfl (fun W9 hW => by clear hW; go_simp) (fun _ _ _ h => h) ?_
                      simp only [Act.put, List.setIfInBounds_toArray, List.set_cons_zero, List.set_cons_succ]
                      refine seqI_take (v := .pointer (some ⟨g, i1 * 6, none⟩)) rfl (fun W9 hW => by clear hW; go_simp) (fun _ _ _ h => h) ?_
                      simp only [Act.put, List.setIfInBounds_toArray, List.set_cons_zero, List.set_cons_succ]
                      refine seqI_take (v := .agg #[.int .i64 z0, .string z1, .string z2, .int .i64 z3, .int .i64 z4, .string z5]) rfl (fun W9 hW => by obtain ⟨⟨p0, p1, p2, p3, p4, p5⟩, ⟨q0, q1, q2, q3, q4, q5⟩⟩ := HCE.out W9 hW; clear hW; go_simp) (fun _ _ _ h => h) ?_
                      simp only [Act.put, List.setIfInBounds_toArray, List.set_cons_zero, List.set_cons_succ]
                      refine seqI_take (v := .agg #[.int .i64 x0, .string b1, .string b2, .int .i64 1, .int .i64 x4, .string ⟨f5.toArray⟩]) rfl (fun W9 hW => by obtain ⟨⟨p0, p1, p2, p3, p4, p5⟩, ⟨q0, q1, q2, q3, q4, q5⟩⟩ := HCE.out W9 hW; clear hW; go_simp) (fun _ _ _ h => h) ?_
                      simp only [Act.put, List.setIfInBounds_toArray, List.set_cons_zero, List.set_cons_succ]
                      refine seqI_call _ _ rfl (by go_simp) (HC2.out wd) ?_
                      rintro e w9 ⟨rfl, hb⟩
                      have HB9 := Lib.hid (ext_trans HBD.out hb)
                      refine ⟨_, rfl, hb, ?_⟩
                      simp only [Act.put, List.setIfInBounds_toArray, List.set_cons_zero, List.set_cons_succ]
                      clear hb HCE XD HBD HC2
                      by_cases hr0 : r < 0
                      case neg =>
                        have hr1 : 0 ≤ r := by omega
                        refine seqI_take (v := .bool true) rfl (fun W9 hW => by clear hW; go_simp) (fun _ _ _ h => h) ?_
                        simp only [Act.put, List.setIfInBounds_toArray, List.set_cons_zero, List.set_cons_succ]
                        refine seqI_take (v := .bool true) rfl (fun W9 hW => by clear hW; go_simp) (fun _ _ _ h => h) ?_
                        simp only [Act.put, List.setIfInBounds_toArray, List.set_cons_zero, List.set_cons_succ]
                        refine seqI_take (v := .bool true) rfl (fun W9 hW => by clear hW; go_simp) (fun _ _ _ h => h) ?_
                        simp only [Act.put, List.setIfInBounds_toArray, List.set_cons_zero, List.set_cons_succ]
                        refine seqI_nil ?_
                        as_aux_lemma =>
                          go_wp2_with fail
                          go_ret
                          exact ⟨_, rfl, (fun h => absurd h (by decide)), HB9.out⟩
                      have HLR : Hid ((l.getD i1 default).lt x) := actOrd_neg (HB.out _ (getD_mem (by have := HN.out; have := HI1.out; omega))) HBX.out (by rw [← HR.out]; exact hr0)
                      have hr1 : ¬ (0 ≤ r) := by omega
                      refine seqI_take (v := .bool false) rfl (fun W9 hW => by clear hW; go_simp) (fun _ _ _ h => h) ?_
                      simp only [Act.put, List.setIfInBounds_toArray, List.set_cons_zero, List.set_cons_succ]
                      refine seqI_take (v := .bool false) rfl (fun W9 hW => by clear hW; go_simp) (fun _ _ _ h => h) ?_
                      simp only [Act.put, List.setIfInBounds_toArray, List.set_cons_zero, List.set_cons_succ]
                      refine seqI_take (v := .bool false) rfl (fun W9 hW => by clear hW; go_simp) (fun _ _ _ h => h) ?_
                      simp only [Act.put, List.setIfInBounds_toArray, List.set_cons_zero, List.set_cons_succ]
                      refine seqI_nil ?_
                      as_aux_lemma =>
                        go_wp2_with fail
                        go_roundw
                        case rel => exact ⟨i + 1, by omega, by go_num, (fun m hm => (by
                          by_cases e : m = i
                          · rw [e, ← HX.out]; exact HGX.out
                          · exact HG.out m (by omega))), (fun m hm => (by
                          by_cases e : m + 1 = i
                          · rw [e, ← HX.out, show m = i1 by have := HI1.out; omega]; exact HLR.out
                          · exact HLT.out m (by omega))), HB9.out⟩
                        case measure => simp [intOf]; omega
end Go.Proofs.YtamoclofloijpaaGreatDoor

namespace Go.Proofs.YtamoclofloijpaaGreatDoor
open Go.RowKit

theorem calls_pick (S k : Nat) (v : Value) (vals : List Int) (p : Int → Prop) (w : World) (h : StreamOk w S k) (hk : k ≤ 1000000000) (ha : (Spec.arr vals.length (· = vals.map (Value.int .i64))).holds S w v) (h1 : 1 ≤ vals.length) (h2 : vals.length ≤ 1000) (hp : ∀ x ∈ vals, p x) :
    Calls Tryz.prog 50 #[.pointer (some ⟨S, 0, none⟩), v] w (PickPost S (k + 1) p w) := by
  obtain ⟨b, vs, rfl, rfl, hb, hl, hc⟩ := ha
  refine pick_any S k b vals.length vals.length vals p w h hk hl hb h1 h2 (fun i hi => ?_) (fun i hi => ?_)
  · exact hc i _ (by simp [hi])
  · rw [show vals.getD i _ = vals[i] by simp [hi]]; exact hp _ (List.getElem_mem hi)

theorem calls_some (S k : Nat) (v : Value) (vals : List (List UInt8)) (p : List UInt8 → Prop) (w : World) (h : StreamOk w S k) (hk : k ≤ 1000000000) (ha : (Spec.arr vals.length (· = vals.map (fun s => Value.string ⟨s.toArray⟩))).holds S w v) (h1 : 1 ≤ vals.length) (h2 : vals.length ≤ 1000) (hp : ∀ x ∈ vals, p x) :
    Calls Tryz.prog 49 #[.pointer (some ⟨S, 0, none⟩), v] w (SomePost S (k + 1) p w) := by
  obtain ⟨b, vs, rfl, rfl, hb, hl, hc⟩ := ha
  refine some_any S k b vals.length vals.length vals p w h hk hl hb h1 h2 (fun i hi => ?_) (fun i hi => ?_)
  · exact hc i _ (by simp [hi])
  · rw [show vals.getD i _ = vals[i] by simp [hi]]; exact hp _ (List.getElem_mem hi)

/-- A slot by its place. -/
theorem slot_of {a : Act} {t : Tmp} {v : Value} (h : a.eval (.tmp t) = v) : a.tmps[t]?.getD undef = v := by rw [← h]; simp [Act.eval]
end Go.Proofs.YtamoclofloijpaaGreatDoor
