/- What is proved here: lemmas and contracts for the statement, put together out of smaller texts (FwdChk, FwdChk2, FwdNext, StMap, FwdSta, FwdWay, FwdChn, FwdBfs, QueRows). No condition beyond those stated. -/
import Derived.Test.YtkdadbpajhdelaaGreatDoorCePkH
import Derived.Test.YtkdadbpajhdelaaGreatDoorCePkF
import Derived.Test.YtkdadbpajhdelaaGreatDoorCePkD
import Derived.Test.YtkdadbpajhdelaaGreatDoorCePkE
import Derived.Deep.DeepCutAuto
import Derived.Test.YtkdadbpajhdelaaGreatDoorCePkG
import Derived.Maps.OwnSet
import Derived.Maps.OwnOps
import Derived.StringKeys
import Derived.WalkKit
import Derived.Test.YtkdadbpajhdelaaGreatDoorCePkC
import Derived.Test.YtkdadbpajhdelaaGreatDoorCePkA
import Derived.Laws.AppendOwn
import Derived.Maps.AppendAt
set_option linter.unusedVariables false
set_option linter.unusedSimpArgs false
namespace Go.Proofs.YtkdadbpajhdelaaGreatDoor
open Go.RowKit Go.Sort Go.Lib Go.Shelf

set_option maxRecDepth 100000 in
set_option maxHeartbeats 2000000 in
theorem cmpFwd_any (x y : Fwd) (W : World) : Calls Tryz.prog 76 #[.agg x.cells.toArray, .agg y.cells.toArray] W (IntP (cmpFw x y) W) := by
  obtain ⟨a, b, c, d⟩ := x
  obtain ⟨a2, b2, c2, d2⟩ := y
  have HC1 : Hid (∀ W, Calls Tryz.prog 71 #[.string ⟨(lineK a).toArray⟩, .string ⟨(lineK a2).toArray⟩] W fun e w' => e = .returned (.int .i64 (Lib.compareBytes (lineK a) (lineK a2))) ∧ w' = W) := fun W => Tryz.strings_Compare ⟨(lineK a).toArray⟩ ⟨(lineK a2).toArray⟩ W
  have HC2 : Hid (∀ W, Calls Tryz.prog 71 #[.string ⟨(hourK d).toArray⟩, .string ⟨(hourK d2).toArray⟩] W fun e w' => e = .returned (.int .i64 (Lib.compareBytes (hourK d) (hourK d2))) ∧ w' = W) := fun W => Tryz.strings_Compare ⟨(hourK d).toArray⟩ ⟨(hourK d2).toArray⟩ W
  show Calls Tryz.prog 76 #[.agg #[.string ⟨(lineK a).toArray⟩, .int .i64 (b.val + 1 : Nat), .string ⟨(lineK c).toArray⟩, .string ⟨(hourK d).toArray⟩], .agg #[.string ⟨(lineK a2).toArray⟩, .int .i64 (b2.val + 1 : Nat), .string ⟨(lineK c2).toArray⟩, .string ⟨(hourK d2).toArray⟩]] W (IntP (if Lib.compareBytes (lineK a) (lineK a2) ≠ 0 then Lib.compareBytes (lineK a) (lineK a2) else if b ≠ b2 then (b.val : Int) - (b2.val : Int) else Lib.compareBytes (hourK d) (hourK d2)) W)
  generalize Lib.compareBytes (lineK a) (lineK a2) = r1 at HC1 ⊢
  generalize Lib.compareBytes (hourK d) (hourK d2) = r2 at HC2 ⊢
  generalize (⟨(lineK a).toArray⟩ : ByteArray) = la at HC1 ⊢
  generalize (⟨(lineK a2).toArray⟩ : ByteArray) = la2 at HC1 ⊢
  generalize (⟨(lineK c).toArray⟩ : ByteArray) = lc
  generalize (⟨(lineK c2).toArray⟩ : ByteArray) = lc2
  generalize (⟨(hourK d).toArray⟩ : ByteArray) = hd at HC2 ⊢
  generalize (⟨(hourK d2).toArray⟩ : ByteArray) = hd2 at HC2 ⊢
  by_cases h1 : r1 = 0
  case neg =>
    have hb1 : (r1 != 0) = true := bne_iff_ne.2 h1
    rw [if_pos h1]
    go_enter Tryz.func76, Tryz.ntmps76
    go_wp2_with fail
    refine (HC1.out _).mono ?_
    rintro e w' ⟨rfl, rfl⟩
    go_wp2_with fail
    go_ret
    exact ⟨rfl, (by (try show Below _ _ _); repeat (with_reducible first | exact Below.refl _ _ | assumption | exact Hid.out (by assumption) | refine ext_alloc ?_ | refine ext_drewN ?_ | refine ext_drew ?_ | refine ext_setCell ?_ (Nat.le_refl _) | refine ext_setCell ?_ (Nat.le_succ _) | refine ext_trans ?_ (by assumption) | (refine ext_setCell ?_ (by simp)) | (refine ext_setCell ?_ (by simp at *; omega))))⟩
  subst h1
  rw [if_neg (by simp)]
  have hb := b.isLt
  have hb2 := b2.isLt
  by_cases h2 : b = b2
  case neg =>
    have hne : b.val ≠ b2.val := fun e => h2 (Fin.ext e)
    rw [if_pos h2]
    generalize b.val = z at hb hne ⊢
    generalize b2.val = z2 at hb2 hne ⊢
    have hz : (((z + 1 : Nat) : Int) != ((z2 + 1 : Nat) : Int)) = true := bne_iff_ne.2 (by omega)
    have hz' : ((z : Int) + 1 != (z2 : Int) + 1) = true := bne_iff_ne.2 (by omega)
    have hne2 : ¬ ((z : Int) = (z2 : Int)) := by omega
    go_enter Tryz.func76, Tryz.ntmps76
    go_wp2_with fail
    refine (HC1.out _).mono ?_
    rintro e w' ⟨rfl, rfl⟩
    go_wp2_with fail
    go_ret
    exact ⟨by go_num, (by (try show Below _ _ _); repeat (with_reducible first | exact Below.refl _ _ | assumption | exact Hid.out (by assumption) | refine ext_alloc ?_ | refine ext_drewN ?_ | refine ext_drew ?_ | refine ext_setCell ?_ (Nat.le_refl _) | refine ext_setCell ?_ (Nat.le_succ _) | refine ext_trans ?_ (by assumption) | (refine ext_setCell ?_ (by simp)) | (refine ext_setCell ?_ (by simp at *; omega))))⟩
  subst h2
  rw [if_neg (by simp)]
  generalize b.val = z at hb hb2 ⊢
  go_enter Tryz.func76, Tryz.ntmps76
  go_wp2_with fail
  refine (HC1.out _).mono ?_
  rintro e w' ⟨rfl, rfl⟩
  go_wp2_with fail
  refine (HC2.out _).mono ?_
  rintro e w' ⟨rfl, rfl⟩
  go_wp2_with fail
  go_ret
  exact ⟨rfl, (by (try show Below _ _ _); repeat (with_reducible first | exact Below.refl _ _ | assumption | exact Hid.out (by assumption) | refine ext_alloc ?_ | refine ext_drewN ?_ | refine ext_drew ?_ | refine ext_setCell ?_ (Nat.le_refl _) | refine ext_setCell ?_ (Nat.le_succ _) | refine ext_trans ?_ (by assumption) | (refine ext_setCell ?_ (by simp)) | (refine ext_setCell ?_ (by simp at *; omega))))⟩
end Go.Proofs.YtkdadbpajhdelaaGreatDoor

set_option linter.unusedVariables false
set_option linter.unusedSimpArgs false
namespace Go.Proofs.YtkdadbpajhdelaaGreatDoor
open Go.RowKit Go.Sort Go.Lib Go.Shelf

theorem key_line : ∀ i : Fin 5, isKeyB (lineK i) = true := by decide
theorem key_line4 : ∀ i : Fin 4, isKeyB (lineK i) = true := by decide
theorem line_apart : ∀ (a : Fin 4) (b : Fin 5), a.val ≠ b.val → (lineK b == lineK a) = false := by decide
theorem hour_in : ∀ h : Fin 2, hourK h ∈ ([[], [104, 97], [104, 98]] : List (List UInt8)) := by decide
set_option maxRecDepth 100000 in
set_option maxHeartbeats 8000000 in
theorem checkFwd_any (w : World) (p : DPlan) (hp : DPlanFine w p) (base : Nat) (v : Value) (fs : List Fwd) (h : FwRow w base v fs) (hok : ∀ y ∈ fs, y.line.val ≠ y.to_.val) (hst : Strict fs fs.length) (hl : fs.length ≤ 7) :
    Calls Tryz.prog 26 #[.agg p.cells.toArray, v] w (IntP 0 w) := by
  have HCP := Lib.hid (fun W (hW : Below w.heap.size w W) => dplCheck_any W p (hp.below hW))
  have HHH := Lib.hid (fun W (hW : Below w.heap.size w W) k hk => hasHours_any W p (hp.below hW) k hk)
  obtain ⟨a, cap, rfl⟩ := own_shape h
  have HO := Lib.hid h
  have HST := Lib.hid hst
  have HOK := Lib.hid hok
  clear hp h hst hok
  obtain ⟨ca, cn, cc, ctxs, ha, hn, hcp, hrs⟩ := p
  have HCP2 : Hid (∀ W, Below w.heap.size w W → Calls Tryz.prog 42 #[.agg #[.slice ca cn cc, .slice ha hn hcp]] W (IntP 0 W)) := HCP.out
  have HHH2 : Hid (∀ W, Below w.heap.size w W → ∀ k, k ∈ ([[], [104, 97], [104, 98]] : List (List UInt8)) → Calls Tryz.prog 75 #[.agg #[.slice ca cn cc, .slice ha hn hcp], .string ⟨k.toArray⟩] W (BoolP true W)) := HHH.out
  clear HCP HHH
  show Calls Tryz.prog 26 #[.agg #[.slice ca cn cc, .slice ha hn hcp], .slice a fs.length cap] w _
  obtain ⟨n, hne⟩ : ∃ n, n = fs.length := ⟨_, rfl⟩
  have HN := Lib.hid hne
  have hn7 : n ≤ 7 := by omega
  rw [← hne]
  clear hne hl
  have P1 : Hid (Blk (w.alloc (.cells #[.slice ca cn cc, .slice ha hn hcp] 29)) w.heap.size [.slice ca cn cc, .slice ha hn hcp] 29) := Blk.new w _ _
  have HB1 : Hid (Below w.heap.size w (w.alloc (.cells #[.slice ca cn cc, .slice ha hn hcp] 29))) := ext_alloc (Below.refl _ _)
  go_enter Tryz.func26, Tryz.ntmps26
  go_upto_region 1 with (fail)
  generalize (w.alloc (.cells #[.slice ca cn cc, .slice ha hn hcp] 29)) = w1 at P1 HB1 ⊢
  generalize w.heap.size = P at P1 ⊢
  have p0 := P1.out.cell 0 rfl
  have p1 := P1.out.cell 1 rfl
  as_aux_lemma =>
    go_wp2_with fail
    refine (HCP2.out _ HB1.out).mono ?_
    rintro e w2 ⟨rfl, hb⟩
    have HB2 := Lib.hid (ext_trans HB1.out hb)
    have P2 := Lib.hid (P1.out.below hb)
    have hn1000 : ¬ ((n : Int) > 1000) := by omega
    clear hb p0 p1 HB1 P1 HCP2
    as_aux_lemma =>
      go_wp2_with fail
      clear hn1000
      go_loopw [18] (fun it wr => ∃ j : Nat, j ≤ n ∧ it = .int .i64 j ∧ Hid (Below w.heap.size w wr) ∧ Hid (Blk wr P [.slice ca cn cc, .slice ha hn hcp] 29)) (fun it _ => n - (intOf it).toNat)
      case atStart => exact ⟨0, Nat.zero_le _, rfl, HB2, P2⟩
      case round =>
        clear HB2 P2
        obtain ⟨j, hj, rfl, HB, PB⟩ := hrel
        by_cases hlj : j < n
        case neg =>
          have hjn : ¬ ((j : Int) < (n : Int)) := by omega
          as_aux_lemma =>
            go_wp2_with fail
            go_ret
            exact ⟨rfl, HB.out⟩
        have hjl : j < fs.length := by have := HN.out; omega
        obtain ⟨g, rfl, hg0, hg1⟩ := own_pos HO.out (by omega)
        have hO : wr.ownsRow base 46 4 (.slice (some ⟨g, 0, none⟩) fs.length cap) fs.length ((fs.map Fwd.cells).flatten) := own_more HO.out HB.out
        have hgw : g < wr.heap.size := Nat.lt_of_lt_of_le hg1 HB.out.size
        have f0 := own_field Fwd.cells (fun _ => rfl) hO j 0 default hjl (by omega) rfl
        have f1 := own_field Fwd.cells (fun _ => rfl) hO j 1 default hjl (by omega) rfl
        have f2 := own_field Fwd.cells (fun _ => rfl) hO j 2 default hjl (by omega) rfl
        have f3 := own_field Fwd.cells (fun _ => rfl) hO j 3 default hjl (by omega) rfl
        rw [Nat.add_zero] at f0
        have hok2 := HOK.out _ (mem_getF hjl)
        obtain ⟨f, hf⟩ : ∃ f, f = fs.getD j default := ⟨_, rfl⟩
        rw [← hf] at f0 f1 f2 f3 hok2
        have HF := Lib.hid hf
        clear hf
        have HK1 : Hid (∀ W, Calls Tryz.prog 30 #[.string ⟨(lineK f.line).toArray⟩] W fun e w' => e = .returned (.bool true) ∧ Below W.heap.size W w') := fun W => by
          have := isKey_any (lineK f.line) W (by simp [lineK])
          rw [key_line4] at this
          exact this
        have HK2 : Hid (∀ W, Calls Tryz.prog 30 #[.string ⟨(lineK f.to_).toArray⟩] W fun e w' => e = .returned (.bool true) ∧ Below W.heap.size W w') := fun W => by
          have := isKey_any (lineK f.to_) W (by simp [lineK])
          rw [key_line] at this
          exact this
        have HHS := Lib.hid (fun W hW => HHH2.out W hW (hourK f.hr) (hour_in f.hr))
        have hap : ((⟨(lineK f.to_).toArray⟩ : ByteArray).toList == (⟨(lineK f.line).toArray⟩ : ByteArray).toList) = false := by
          rw [Go.ByteArray.toList_eq, Go.ByteArray.toList_eq]
          exact line_apart _ _ hok2
        have HCMP : Hid (0 < j → ∀ W, Calls Tryz.prog 76 #[.agg (fs.getD (j - 1) default).cells.toArray, .agg #[.string ⟨(lineK f.line).toArray⟩, .int .i64 ((f.wh.val + 1 : Nat) : Int), .string ⟨(lineK f.to_).toArray⟩, .string ⟨(hourK f.hr).toArray⟩]] W (IntP (cmpFw (fs.getD (j - 1) default) f) W)) := fun _ W => cmpFwd_any _ f W
        have HNEG : Hid (0 < j → cmpFw (fs.getD (j - 1) default) f < 0) := fun h0 => cmpFw_neg (by rw [HF.out]; exact HST.out (j - 1) j (by omega) hjl)
        have hz1 : (1 : Int) ≤ ((f.wh.val + 1 : Nat) : Int) := by omega
        have hz3 : ((f.wh.val + 1 : Nat) : Int) ≤ 3 := by have := f.wh.isLt; omega
        clear hok2
        generalize (⟨(lineK f.line).toArray⟩ : ByteArray) = lb at f0 HK1 hap HCMP
        generalize (⟨(lineK f.to_).toArray⟩ : ByteArray) = tb at f2 HK2 hap HCMP
        generalize (⟨(hourK f.hr).toArray⟩ : ByteArray) = hb at f3 HHS HCMP
        generalize ((f.wh.val + 1 : Nat) : Int) = z at f1 HCMP hz1 hz3
        have hA : Below wr.heap.size wr (wr.alloc (.cells #[.string lb, .int .i64 z, .string tb, .string hb] 46)) := ext_alloc (Below.refl _ _)
        have X3 : Hid (Blk (wr.alloc (.cells #[.string lb, .int .i64 z, .string tb, .string hb] 46)) wr.heap.size [.string lb, .int .i64 z, .string tb, .string hb] 46) := Blk.new _ _ _
        have HB3 := Lib.hid (ext_trans HB.out hA)
        have P3 := Lib.hid (PB.out.below hA)
        have hj0 : ¬ ((j : Int) < 0) := by omega
        have hjn : (j : Int) < (n : Int) := by omega
        clear hA HB PB
        as_aux_lemma =>
          go_upto_region 9 with (fail)
          clear f0 f1 f2 f3 hO hgw
          generalize wr.alloc (.cells #[.string lb, .int .i64 z, .string tb, .string hb] 46) = w3 at X3 HB3 P3 ⊢
          generalize wr.heap.size = X at X3 ⊢
          have x0 := X3.out.cell 0 rfl
          have x2 := X3.out.cell 2 rfl
          as_aux_lemma =>
            go_wp2_with fail
            refine (HK1.out _).mono ?_
            rintro e w4 ⟨rfl, hb⟩
            have X4 := Lib.hid (X3.out.below hb)
            have HB4 := Lib.hid (ext_trans HB3.out hb)
            have P4 := Lib.hid (P3.out.below hb)
            clear hb x0 x2 X3 HB3 P3
            have x2 := X4.out.cell 2 rfl
            as_aux_lemma =>
              go_wp2_with fail
              refine (HK2.out _).mono ?_
              rintro e w5 ⟨rfl, hb⟩
              have X5 := Lib.hid (X4.out.below hb)
              have HB5 := Lib.hid (ext_trans HB4.out hb)
              have P5 := Lib.hid (P4.out.below hb)
              clear hb x2 X4 HB4 P4
              have x1 := X5.out.cell 1 rfl
              as_aux_lemma =>
                go_wp2_with fail
                refine (within_d z 1 3 _ hz1 hz3).mono ?_
                rintro e w6 ⟨rfl, rfl⟩
                clear x1
                have x0 := X5.out.cell 0 rfl
                have x2 := X5.out.cell 2 rfl
                have x3 := X5.out.cell 3 rfl
                have p0 := P5.out.cell 0 rfl
                have p1 := P5.out.cell 1 rfl
                as_aux_lemma =>
                  go_wp2_with fail
                  refine (HHS.out _ HB5.out).mono ?_
                  rintro e w7 ⟨rfl, hb⟩
                  have X7 := Lib.hid (X5.out.below hb)
                  have HB7 := Lib.hid (ext_trans HB5.out hb)
                  have P7 := Lib.hid (P5.out.below hb)
                  clear hb x0 x2 x3 p0 p1 X5 HB5 P5
                  have x0 := X7.out.cell 0 rfl
                  have x2 := X7.out.cell 2 rfl
                  as_aux_lemma =>
                    go_upto_region 17 with (fail)
                    clear x0 x2
                    rcases Nat.eq_zero_or_pos j with rfl | hjp
                    · clear HCMP HNEG
                      have hbd : Below w7.heap.size w7 w7.drew := ext_drew (Below.refl _ _)
                      have HBd := Lib.hid (ext_trans HB7.out hbd)
                      have Pd := Lib.hid (P7.out.below hbd)
                      clear hbd
                      as_aux_lemma =>
                        refine region_seqI (S := fun W9 => Below w7.drew.heap.size w7.drew W9) [(true, 0), (true, 1), (true, 2), (true, 3), (true, 4), (true, 5), (true, 6), (true, 7), (true, 8), (true, 9), (true, 10), (true, 11), (true, 12)] (by kernel_rfl) (by kernel_rfl) rfl (by kernel_rfl) (Below.refl _ _) ?_
                        generalize w7.drew = wd at HBd Pd ⊢
                        simp only [seqOps, List.getD_cons_zero, List.getD_cons_succ]
                        refine seqI_take (v := .int .i64 ((0 : Nat) : Int)) rfl (fun W9 hW => by clear hW; go_simp) (fun _ _ _ h => h) ?_
                        simp only [Act.put, List.setIfInBounds_toArray, List.set_cons_zero, List.set_cons_succ]
                        refine seqI_take (v := .bool false) rfl (fun W9 hW => by clear hW; go_simp) (fun _ _ _ h => h) ?_
                        simp only [Act.put, List.setIfInBounds_toArray, List.set_cons_zero, List.set_cons_succ]
                        refine seqI_take (v := .bool false) rfl (fun W9 hW => by clear hW; go_simp) (fun _ _ _ h => h) ?_
                        simp only [Act.put, List.setIfInBounds_toArray, List.set_cons_zero, List.set_cons_succ]
                        refine seqI_skip rfl (fun _ _ _ h => h) ?_
                        simp only [Act.put, List.setIfInBounds_toArray, List.set_cons_zero, List.set_cons_succ]
                        refine seqI_skip rfl (fun _ _ _ h => h) ?_
                        simp only [Act.put, List.setIfInBounds_toArray, List.set_cons_zero, List.set_cons_succ]
                        refine seqI_skip rfl (fun _ _ _ h => h) ?_
                        simp only [Act.put, List.setIfInBounds_toArray, List.set_cons_zero, List.set_cons_succ]
                        refine seqI_skip rfl (fun _ _ _ h => h) ?_
                        simp only [Act.put, List.setIfInBounds_toArray, List.set_cons_zero, List.set_cons_succ]
                        refine seqI_skip rfl (fun _ _ _ h => h) ?_
                        simp only [Act.put, List.setIfInBounds_toArray, List.set_cons_zero, List.set_cons_succ]
                        refine seqI_skip rfl (fun _ _ _ h => h) ?_
                        simp only [Act.put, List.setIfInBounds_toArray, List.set_cons_zero, List.set_cons_succ]
                        refine seqI_skip rfl (fun _ _ _ h => h) ?_
                        simp only [Act.put, List.setIfInBounds_toArray, List.set_cons_zero, List.set_cons_succ]
                        refine seqI_skip rfl (fun _ _ _ h => h) ?_
                        simp only [Act.put, List.setIfInBounds_toArray, List.set_cons_zero, List.set_cons_succ]
                        refine seqI_take (v := .bool false) rfl (fun W9 hW => by clear hW; go_simp) (fun _ _ _ h => h) ?_
                        simp only [Act.put, List.setIfInBounds_toArray, List.set_cons_zero, List.set_cons_succ]
                        refine seqI_take (v := .bool false) rfl (fun W9 hW => by clear hW; go_simp) (fun _ _ _ h => h) ?_
                        simp only [Act.put, List.setIfInBounds_toArray, List.set_cons_zero, List.set_cons_succ]
                        refine seqI_nil ?_
                        clear HB7 P7 X7
                        go_wp2_with fail
                        go_roundw
                        case rel => exact ⟨0 + 1, by omega, by go_num, HBd, Pd⟩
                        case measure => simp [intOf]; omega
                    · obtain ⟨j1, rfl⟩ : ∃ j1, j = j1 + 1 := ⟨j - 1, by omega⟩
                      rw [Nat.add_sub_cancel] at HCMP HNEG
                      obtain ⟨f2, hf2⟩ : ∃ f, f = fs.getD j1 default := ⟨_, rfl⟩
                      have hbd : Below w7.heap.size w7 w7.drew := ext_drew (Below.refl _ _)
                      have HBd := Lib.hid (ext_trans HB7.out hbd)
                      have Pd := Lib.hid (P7.out.below hbd)
                      have Xd := Lib.hid (X7.out.below hbd)
                      have hO : w7.drew.ownsRow base 46 4 (.slice (some ⟨g, 0, none⟩) fs.length cap) fs.length ((fs.map Fwd.cells).flatten) := own_more HO.out HBd.out
                      have hgd : g < w7.drew.heap.size := Nat.lt_of_lt_of_le hg1 HBd.out.size
                      have g0 := own_field Fwd.cells (fun _ => rfl) hO j1 0 default (by omega) (by omega) rfl
                      have g1 := own_field Fwd.cells (fun _ => rfl) hO j1 1 default (by omega) (by omega) rfl
                      have g2 := own_field Fwd.cells (fun _ => rfl) hO j1 2 default (by omega) (by omega) rfl
                      have g3 := own_field Fwd.cells (fun _ => rfl) hO j1 3 default (by omega) (by omega) rfl
                      rw [Nat.add_zero] at g0
                      rw [← hf2] at g0 g1 g2 g3 HCMP HNEG
                      have HC2 : Hid (∀ W, Calls Tryz.prog 76 #[.agg #[.string ⟨(lineK f2.line).toArray⟩, .int .i64 ((f2.wh.val + 1 : Nat) : Int), .string ⟨(lineK f2.to_).toArray⟩, .string ⟨(hourK f2.hr).toArray⟩], .agg #[.string lb, .int .i64 z, .string tb, .string hb]] W (IntP (cmpFw f2 f) W)) := HCMP.out (by omega)
                      have hneg := HNEG.out (by omega)
                      clear hbd hO hf2 HCMP HNEG
                      generalize cmpFw f2 f = cf at HC2 hneg
                      generalize (⟨(lineK f2.line).toArray⟩ : ByteArray) = ga at g0 HC2
                      generalize ((f2.wh.val + 1 : Nat) : Int) = gz at g1 HC2
                      generalize (⟨(lineK f2.to_).toArray⟩ : ByteArray) = gt at g2 HC2
                      generalize (⟨(hourK f2.hr).toArray⟩ : ByteArray) = gh at g3 HC2
                      have HCEL : Hid (∀ W9, Below w7.drew.heap.size w7.drew W9 → (W9.cell? ⟨g, j1 * 4, none⟩ = some (.string ga) ∧ W9.cell? ⟨g, j1 * 4 + 1, none⟩ = some (.int .i64 gz) ∧ W9.cell? ⟨g, j1 * 4 + 2, none⟩ = some (.string gt) ∧ W9.cell? ⟨g, j1 * 4 + 3, none⟩ = some (.string gh)) ∧ (W9.cell? ⟨X, 0, none⟩ = some (.string lb) ∧ W9.cell? ⟨X, 1, none⟩ = some (.int .i64 z) ∧ W9.cell? ⟨X, 2, none⟩ = some (.string tb) ∧ W9.cell? ⟨X, 3, none⟩ = some (.string hb))) := fun W9 hW => ⟨⟨(hW.cell (p := ⟨g, j1 * 4, none⟩) hgd).trans g0, (hW.cell (p := ⟨g, j1 * 4 + 1, none⟩) hgd).trans g1, (hW.cell (p := ⟨g, j1 * 4 + 2, none⟩) hgd).trans g2, (hW.cell (p := ⟨g, j1 * 4 + 3, none⟩) hgd).trans g3⟩, ⟨(Xd.out.below hW).cell 0 rfl, (Xd.out.below hW).cell 1 rfl, (Xd.out.below hW).cell 2 rfl, (Xd.out.below hW).cell 3 rfl⟩⟩
                      have hwj : IntKind.i64.wrap (j1 : Int) = (j1 : Int) := IntWalk.i64_in _ (by omega)
                      have hj10 : ¬ ((j1 : Int) < 0) := by omega
                      have hj1n : (j1 : Int) < (n : Int) := by omega
                      have hgt : (0 : Int) < (j1 : Int) + 1 := by omega
                      have hge : ¬ (cf ≥ 0) := by omega
                      have hge2 : ¬ (0 ≤ cf) := by omega
                      clear g0 g1 g2 g3 hgd HB7 P7 X7
                      as_aux_lemma =>
                        refine region_seqI (S := fun W9 => Below w7.drew.heap.size w7.drew W9) [(true, 0), (true, 1), (true, 2), (true, 3), (true, 4), (true, 5), (true, 6), (true, 7), (true, 8), (false, 9), (true, 10), (true, 11), (true, 12)] (by kernel_rfl) (by kernel_rfl) rfl (by kernel_rfl) (Below.refl _ _) ?_
                        generalize w7.drew = wd at HBd Pd Xd HCEL ⊢
                        simp only [seqOps, List.getD_cons_zero, List.getD_cons_succ]
                        refine seqI_take (v := .int .i64 ((j1 : Int) + 1)) rfl (fun W9 hW => by clear hW; go_simp) (fun _ _ _ h => h) ?_
                        simp only [Act.put, List.setIfInBounds_toArray, List.set_cons_zero, List.set_cons_succ]
                        refine seqI_take (v := .bool true) rfl (fun W9 hW => by clear hW; go_simp) (fun _ _ _ h => h) ?_
                        simp only [Act.put, List.setIfInBounds_toArray, List.set_cons_zero, List.set_cons_succ]
                        refine seqI_take (v := .bool true) rfl (fun W9 hW => by clear hW; go_simp) (fun _ _ _ h => h) ?_
                        simp only [Act.put, List.setIfInBounds_toArray, List.set_cons_zero, List.set_cons_succ]
                        refine seqI_take (v := .slice (some ⟨g, 0, none⟩) n cap) rfl (fun W9 hW => by clear hW; go_simp) (fun _ _ _ h => h) ?_
                        simp only [Act.put, List.setIfInBounds_toArray, List.set_cons_zero, List.set_cons_succ]
                        refine seqI_take (v := .int .i64 ((j1 : Int) + 1)) rfl (fun W9 hW => by clear hW; go_simp) (fun _ _ _ h => h) ?_
                        simp only [Act.put, List.setIfInBounds_toArray, List.set_cons_zero, List.set_cons_succ]
                        refine seqI_take (v := .int .i64 j1) rfl (fun W9 hW => by clear hW; go_simp) (fun _ _ _ h => h) ?_
                        simp only [Act.put, List.setIfInBounds_toArray, List.set_cons_zero, List.set_cons_succ]
                        refine seqI_take (v := .pointer (some ⟨g, j1 * 4, none⟩)) rfl (fun W9 hW => by clear hW; go_simp) (fun _ _ _ h => h) ?_
                        simp only [Act.put, List.setIfInBounds_toArray, List.set_cons_zero, List.set_cons_succ]
                        refine seqI_take (v := .agg #[.string ga, .int .i64 gz, .string gt, .string gh]) rfl (fun W9 hW => by obtain ⟨⟨m0, m1, m2, m3⟩, ⟨q0, q1, q2, q3⟩⟩ := HCEL.out W9 hW; go_simp) (fun _ _ _ h => h) ?_
                        simp only [Act.put, List.setIfInBounds_toArray, List.set_cons_zero, List.set_cons_succ]
                        refine seqI_take (v := .agg #[.string lb, .int .i64 z, .string tb, .string hb]) rfl (fun W9 hW => by obtain ⟨⟨m0, m1, m2, m3⟩, ⟨q0, q1, q2, q3⟩⟩ := HCEL.out W9 hW; go_simp) (fun _ _ _ h => h) ?_
                        simp only [Act.put, List.setIfInBounds_toArray, List.set_cons_zero, List.set_cons_succ]
                        refine seqI_call _ _ rfl (by go_simp) (HC2.out wd) ?_
                        rintro e w9 ⟨rfl, hb⟩
                        have HB9 := Lib.hid (ext_trans HBd.out hb)
                        have P9 := Lib.hid (Pd.out.below hb)
                        refine ⟨_, rfl, hb, ?_⟩
                        simp only [Act.put, List.setIfInBounds_toArray, List.set_cons_zero, List.set_cons_succ]
                        refine seqI_take (v := .bool false) rfl (fun W9 hW => by clear hW; go_simp) (fun _ _ _ h => h) ?_
                        simp only [Act.put, List.setIfInBounds_toArray, List.set_cons_zero, List.set_cons_succ]
                        refine seqI_take (v := .bool false) rfl (fun W9 hW => by clear hW; go_simp) (fun _ _ _ h => h) ?_
                        simp only [Act.put, List.setIfInBounds_toArray, List.set_cons_zero, List.set_cons_succ]
                        refine seqI_take (v := .bool false) rfl (fun W9 hW => by clear hW; go_simp) (fun _ _ _ h => h) ?_
                        simp only [Act.put, List.setIfInBounds_toArray, List.set_cons_zero, List.set_cons_succ]
                        refine seqI_nil ?_
                        clear hb HBd Pd Xd HCEL HC2
                        go_wp2_with fail
                        go_roundw
                        case rel => exact ⟨j1 + 1 + 1, by omega, by go_num, HB9, P9⟩
                        case measure => simp [intOf]; omega
end Go.Proofs.YtkdadbpajhdelaaGreatDoor

set_option linter.unusedVariables false
set_option linter.unusedSimpArgs false
namespace Go.Proofs.YtkdadbpajhdelaaGreatDoor
open Go.RowKit Go.Sort Go.Lib Go.Shelf

def NextP (fs : List Fwd) (line : Fin 5) (w : World) (e : Ending) (w' : World) : Prop := (e = .returned (.tuple #[.string ⟨#[]⟩, .bool false]) ∨ ∃ f ∈ fs, f.line.val = line.val ∧ e = .returned (.tuple #[.string ⟨(lineK f.to_).toArray⟩, .bool true])) ∧ Below w.heap.size w w'
theorem line_same : ∀ (a : Fin 4) (b : Fin 5), (lineK a == lineK b) = decide (a.val = b.val) := by decide
set_option maxRecDepth 100000 in
set_option maxHeartbeats 16000000 in
theorem nextFw_any (w : World) (p : DPlan) (hp : DPlanFine w p) (base : Nat) (v : Value) (fs : List Fwd) (h : FwRow w base v fs) (hl : fs.length ≤ 7) (line : Fin 5) (at_ : Int) (a0 : 0 ≤ at_) (a1 : at_ ≤ 345686400000) (how : Int) (hh : how = 0 ∨ how = 1 ∨ how = 2) :
    Calls Tryz.prog 33 #[.agg p.cells.toArray, v, .string ⟨(lineK line).toArray⟩, .int .i64 at_, .int .i64 how] w (NextP fs line w) := by
  have HCT := Lib.hid (fun W (hW : Below w.heap.size w W) k hk => counts_any W p (hp.below hW) k hk at_ a0 a1)
  obtain ⟨a, cap, rfl⟩ := own_shape h
  have HO := Lib.hid h
  clear hp h a0 a1
  obtain ⟨ca, cn, cc, ctxs, ha, hn, hcp, hrs⟩ := p
  have HCT2 : Hid (∀ W, Below w.heap.size w W → ∀ k, k ∈ ([[], [104, 97], [104, 98]] : List (List UInt8)) → Calls Tryz.prog 81 #[.agg #[.slice ca cn cc, .slice ha hn hcp], .string ⟨k.toArray⟩, .int .i64 at_] W (BoolP (openR hrs at_ k) W)) := HCT.out
  clear HCT
  show Calls Tryz.prog 33 #[.agg #[.slice ca cn cc, .slice ha hn hcp], .slice a fs.length cap, .string ⟨(lineK line).toArray⟩, .int .i64 at_, .int .i64 how] w _
  obtain ⟨n, hne⟩ : ∃ n, n = fs.length := ⟨_, rfl⟩
  have HN := Lib.hid hne
  have hn7 : n ≤ 7 := by omega
  rw [← hne]
  clear hne hl
  obtain ⟨nb, hnb⟩ : ∃ nb : ByteArray, nb = ⟨(lineK line).toArray⟩ := ⟨_, rfl⟩
  have HNB := Lib.hid hnb
  rw [← hnb]
  clear hnb
  have P1 : Hid (Blk (w.alloc (.cells #[.slice ca cn cc, .slice ha hn hcp] 29)) w.heap.size [.slice ca cn cc, .slice ha hn hcp] 29) := Blk.new w _ _
  have HB1 : Hid (Below w.heap.size w (w.alloc (.cells #[.slice ca cn cc, .slice ha hn hcp] 29))) := ext_alloc (Below.refl _ _)
  rcases hh with rfl | rfl | rfl
  · go_enter Tryz.func33, Tryz.ntmps33
    go_upto_region 1 with (fail)
    generalize (w.alloc (.cells #[.slice ca cn cc, .slice ha hn hcp] 29)) = w1 at P1 HB1 ⊢
    generalize w.heap.size = P at P1 ⊢
    as_aux_lemma =>
      go_wp2_with fail
      go_loopw [22] (fun it wr => ∃ j : Nat, j ≤ n ∧ it = .int .i64 j ∧ Hid (Below w.heap.size w wr) ∧ Hid (Blk wr P [.slice ca cn cc, .slice ha hn hcp] 29)) (fun it _ => n - (intOf it).toNat)
      case atStart => exact ⟨0, Nat.zero_le _, rfl, HB1, P1⟩
      case round =>
        clear HB1 P1
        obtain ⟨j, hj, rfl, HB, PB⟩ := hrel
        by_cases hlj : j < n
        case neg =>
          have hjn : ¬ ((j : Int) < (n : Int)) := by omega
          as_aux_lemma =>
            go_wp2_with fail
            go_ret2
            exact ⟨.inl rfl, HB.out⟩
        have hjl : j < fs.length := by have := HN.out; omega
        obtain ⟨g, rfl, hg0, hg1⟩ := own_pos HO.out (by omega)
        have hO : wr.ownsRow base 46 4 (.slice (some ⟨g, 0, none⟩) fs.length cap) fs.length ((fs.map Fwd.cells).flatten) := own_more HO.out HB.out
        have hgw : g < wr.heap.size := Nat.lt_of_lt_of_le hg1 HB.out.size
        have f0 := own_field Fwd.cells (fun _ => rfl) hO j 0 default hjl (by omega) rfl
        have f1 := own_field Fwd.cells (fun _ => rfl) hO j 1 default hjl (by omega) rfl
        have f2 := own_field Fwd.cells (fun _ => rfl) hO j 2 default hjl (by omega) rfl
        have f3 := own_field Fwd.cells (fun _ => rfl) hO j 3 default hjl (by omega) rfl
        rw [Nat.add_zero] at f0
        have hmem := mem_getF hjl
        generalize fs.getD j default = f at f0 f1 f2 f3 hmem
        have HMEM := Lib.hid hmem
        have HCS := Lib.hid (fun W hW => HCT2.out W hW (hourK f.hr) (hour_in f.hr))
        have HSAME : Hid (((⟨(lineK f.line).toArray⟩ : ByteArray).toList == nb.toList) = decide (f.line.val = line.val)) := by
          show _ = _
          rw [Go.ByteArray.toList_eq, HNB.out, Go.ByteArray.toList_eq]
          exact line_same _ _
        have HTO : Hid (f.line.val = line.val → ∀ W, Below w.heap.size w W → NextP fs line w (.returned (.tuple #[.string ⟨(lineK f.to_).toArray⟩, .bool true])) W) := fun h W hW => ⟨.inr ⟨f, HMEM.out, h, rfl⟩, hW⟩
        clear hmem
        generalize (⟨(lineK f.line).toArray⟩ : ByteArray) = lb at f0 HSAME
        generalize (⟨(lineK f.to_).toArray⟩ : ByteArray) = tb at f2 HTO
        generalize (⟨(hourK f.hr).toArray⟩ : ByteArray) = hb at f3 HCS
        generalize ((f.wh.val + 1 : Nat) : Int) = z at f1
        generalize openR hrs at_ (hourK f.hr) = oh at HCS
        have hA : Below wr.heap.size wr (wr.alloc (.cells #[.string lb, .int .i64 z, .string tb, .string hb] 46)) := ext_alloc (Below.refl _ _)
        have X3 : Hid (Blk (wr.alloc (.cells #[.string lb, .int .i64 z, .string tb, .string hb] 46)) wr.heap.size [.string lb, .int .i64 z, .string tb, .string hb] 46) := Blk.new _ _ _
        have HB3 := Lib.hid (ext_trans HB.out hA)
        have P3 := Lib.hid (PB.out.below hA)
        have hj0 : ¬ ((j : Int) < 0) := by omega
        have hjn : (j : Int) < (n : Int) := by omega
        clear hA HB PB
        as_aux_lemma =>
          go_upto_region 10 with (fail)
          clear f0 f1 f2 f3 hO hgw
          generalize wr.alloc (.cells #[.string lb, .int .i64 z, .string tb, .string hb] 46) = w3 at X3 HB3 P3 ⊢
          generalize wr.heap.size = X at X3 ⊢
          go_cut [22, 47] from 22 to 50 (fun it v wx => it = .int .i64 j ∧ ∃ b : Bool, v = .bool b ∧ Hid (b = true → f.line.val = line.val) ∧ Hid (Below w3.heap.size w3 wx))
          case first =>
            have x0 := X3.out.cell 0 rfl
            have x1 := X3.out.cell 1 rfl
            have x3 := X3.out.cell 3 rfl
            have p0 := P3.out.cell 0 rfl
            have p1 := P3.out.cell 1 rfl
            have HCC := Lib.hid (HCS.out w3 HB3.out)
            by_cases hs : f.line.val = line.val
            case neg =>
              have hcm : (lb.toList == nb.toList) = false := by rw [HSAME.out]; exact decide_eq_false hs
              as_aux_lemma =>
                go_wp2_with fail
                go_meet
                exact ⟨rfl, false, rfl, (fun h => absurd h (by decide)), Below.refl _ _⟩
            have hcm : (lb.toList == nb.toList) = true := by rw [HSAME.out]; exact decide_eq_true hs
            by_cases hz1 : z = 1
            · subst hz1
              as_aux_lemma =>
                go_wp2_with fail
                refine HCC.out.mono ?_
                rintro e w4 ⟨rfl, hb⟩
                have HB4 := Lib.hid hb
                clear hb
                go_wp2_with fail
                go_meet
                exact ⟨rfl, oh, rfl, (fun _ => hs), HB4.out⟩
            have hz1b : (z == 1) = false := by simpa using hz1
            by_cases hzw : z = 0
            · subst hzw
              as_aux_lemma =>
                go_wp2_with fail
                refine HCC.out.mono ?_
                rintro e w4 ⟨rfl, hb⟩
                have HB4 := Lib.hid hb
                clear hb
                go_wp2_with fail
                go_meet
                exact ⟨rfl, oh, rfl, (fun _ => hs), HB4.out⟩
            · have hzwb : (z == 0) = false := by simpa using hzw
              as_aux_lemma =>
                go_wp2_with fail
                go_meet
                exact ⟨rfl, false, rfl, (fun h => absurd h (by decide)), Below.refl _ _⟩
          case rest =>
            obtain ⟨rfl, b, rfl, hbt, hV⟩ := hcut
            obtain ⟨w4, rfl⟩ : ∃ x : World, x = wc := ⟨_, rfl⟩
            have X4 := Lib.hid (X3.out.below hV.out)
            have HB4 := Lib.hid (ext_trans HB3.out hV.out)
            have P4 := Lib.hid (P3.out.below hV.out)
            clear hV X3 HB3 P3
            cases b
            case false =>
              as_aux_lemma =>
                go_wp2_with fail
                go_roundw
                case rel => exact ⟨j + 1, by omega, by go_num, HB4, P4⟩
                case measure => simp [intOf]; omega
            have x2 := X4.out.cell 2 rfl
            have HE := Lib.hid (HTO.out (hbt.out rfl) w4 HB4.out)
            as_aux_lemma =>
              go_wp2_with fail
              go_ret2
              exact HE.out
  · go_enter Tryz.func33, Tryz.ntmps33
    go_upto_region 1 with (fail)
    generalize (w.alloc (.cells #[.slice ca cn cc, .slice ha hn hcp] 29)) = w1 at P1 HB1 ⊢
    generalize w.heap.size = P at P1 ⊢
    as_aux_lemma =>
      go_wp2_with fail
      go_loopw [22] (fun it wr => ∃ j : Nat, j ≤ n ∧ it = .int .i64 j ∧ Hid (Below w.heap.size w wr) ∧ Hid (Blk wr P [.slice ca cn cc, .slice ha hn hcp] 29)) (fun it _ => n - (intOf it).toNat)
      case atStart => exact ⟨0, Nat.zero_le _, rfl, HB1, P1⟩
      case round =>
        clear HB1 P1
        obtain ⟨j, hj, rfl, HB, PB⟩ := hrel
        by_cases hlj : j < n
        case neg =>
          have hjn : ¬ ((j : Int) < (n : Int)) := by omega
          as_aux_lemma =>
            go_wp2_with fail
            go_ret2
            exact ⟨.inl rfl, HB.out⟩
        have hjl : j < fs.length := by have := HN.out; omega
        obtain ⟨g, rfl, hg0, hg1⟩ := own_pos HO.out (by omega)
        have hO : wr.ownsRow base 46 4 (.slice (some ⟨g, 0, none⟩) fs.length cap) fs.length ((fs.map Fwd.cells).flatten) := own_more HO.out HB.out
        have hgw : g < wr.heap.size := Nat.lt_of_lt_of_le hg1 HB.out.size
        have f0 := own_field Fwd.cells (fun _ => rfl) hO j 0 default hjl (by omega) rfl
        have f1 := own_field Fwd.cells (fun _ => rfl) hO j 1 default hjl (by omega) rfl
        have f2 := own_field Fwd.cells (fun _ => rfl) hO j 2 default hjl (by omega) rfl
        have f3 := own_field Fwd.cells (fun _ => rfl) hO j 3 default hjl (by omega) rfl
        rw [Nat.add_zero] at f0
        have hmem := mem_getF hjl
        generalize fs.getD j default = f at f0 f1 f2 f3 hmem
        have HMEM := Lib.hid hmem
        have HCS := Lib.hid (fun W hW => HCT2.out W hW (hourK f.hr) (hour_in f.hr))
        have HSAME : Hid (((⟨(lineK f.line).toArray⟩ : ByteArray).toList == nb.toList) = decide (f.line.val = line.val)) := by
          show _ = _
          rw [Go.ByteArray.toList_eq, HNB.out, Go.ByteArray.toList_eq]
          exact line_same _ _
        have HTO : Hid (f.line.val = line.val → ∀ W, Below w.heap.size w W → NextP fs line w (.returned (.tuple #[.string ⟨(lineK f.to_).toArray⟩, .bool true])) W) := fun h W hW => ⟨.inr ⟨f, HMEM.out, h, rfl⟩, hW⟩
        clear hmem
        generalize (⟨(lineK f.line).toArray⟩ : ByteArray) = lb at f0 HSAME
        generalize (⟨(lineK f.to_).toArray⟩ : ByteArray) = tb at f2 HTO
        generalize (⟨(hourK f.hr).toArray⟩ : ByteArray) = hb at f3 HCS
        generalize ((f.wh.val + 1 : Nat) : Int) = z at f1
        generalize openR hrs at_ (hourK f.hr) = oh at HCS
        have hA : Below wr.heap.size wr (wr.alloc (.cells #[.string lb, .int .i64 z, .string tb, .string hb] 46)) := ext_alloc (Below.refl _ _)
        have X3 : Hid (Blk (wr.alloc (.cells #[.string lb, .int .i64 z, .string tb, .string hb] 46)) wr.heap.size [.string lb, .int .i64 z, .string tb, .string hb] 46) := Blk.new _ _ _
        have HB3 := Lib.hid (ext_trans HB.out hA)
        have P3 := Lib.hid (PB.out.below hA)
        have hj0 : ¬ ((j : Int) < 0) := by omega
        have hjn : (j : Int) < (n : Int) := by omega
        clear hA HB PB
        as_aux_lemma =>
          go_upto_region 10 with (fail)
          clear f0 f1 f2 f3 hO hgw
          generalize wr.alloc (.cells #[.string lb, .int .i64 z, .string tb, .string hb] 46) = w3 at X3 HB3 P3 ⊢
          generalize wr.heap.size = X at X3 ⊢
          go_cut [22, 47] from 22 to 50 (fun it v wx => it = .int .i64 j ∧ ∃ b : Bool, v = .bool b ∧ Hid (b = true → f.line.val = line.val) ∧ Hid (Below w3.heap.size w3 wx))
          case first =>
            have x0 := X3.out.cell 0 rfl
            have x1 := X3.out.cell 1 rfl
            have x3 := X3.out.cell 3 rfl
            have p0 := P3.out.cell 0 rfl
            have p1 := P3.out.cell 1 rfl
            have HCC := Lib.hid (HCS.out w3 HB3.out)
            by_cases hs : f.line.val = line.val
            case neg =>
              have hcm : (lb.toList == nb.toList) = false := by rw [HSAME.out]; exact decide_eq_false hs
              as_aux_lemma =>
                go_wp2_with fail
                go_meet
                exact ⟨rfl, false, rfl, (fun h => absurd h (by decide)), Below.refl _ _⟩
            have hcm : (lb.toList == nb.toList) = true := by rw [HSAME.out]; exact decide_eq_true hs
            by_cases hz1 : z = 1
            · subst hz1
              as_aux_lemma =>
                go_wp2_with fail
                refine HCC.out.mono ?_
                rintro e w4 ⟨rfl, hb⟩
                have HB4 := Lib.hid hb
                clear hb
                go_wp2_with fail
                go_meet
                exact ⟨rfl, oh, rfl, (fun _ => hs), HB4.out⟩
            have hz1b : (z == 1) = false := by simpa using hz1
            by_cases hzw : z = 2
            · subst hzw
              as_aux_lemma =>
                go_wp2_with fail
                refine HCC.out.mono ?_
                rintro e w4 ⟨rfl, hb⟩
                have HB4 := Lib.hid hb
                clear hb
                go_wp2_with fail
                go_meet
                exact ⟨rfl, oh, rfl, (fun _ => hs), HB4.out⟩
            · have hzwb : (z == 2) = false := by simpa using hzw
              as_aux_lemma =>
                go_wp2_with fail
                go_meet
                exact ⟨rfl, false, rfl, (fun h => absurd h (by decide)), Below.refl _ _⟩
          case rest =>
            obtain ⟨rfl, b, rfl, hbt, hV⟩ := hcut
            obtain ⟨w4, rfl⟩ : ∃ x : World, x = wc := ⟨_, rfl⟩
            have X4 := Lib.hid (X3.out.below hV.out)
            have HB4 := Lib.hid (ext_trans HB3.out hV.out)
            have P4 := Lib.hid (P3.out.below hV.out)
            clear hV X3 HB3 P3
            cases b
            case false =>
              as_aux_lemma =>
                go_wp2_with fail
                go_roundw
                case rel => exact ⟨j + 1, by omega, by go_num, HB4, P4⟩
                case measure => simp [intOf]; omega
            have x2 := X4.out.cell 2 rfl
            have HE := Lib.hid (HTO.out (hbt.out rfl) w4 HB4.out)
            as_aux_lemma =>
              go_wp2_with fail
              go_ret2
              exact HE.out
  · go_enter Tryz.func33, Tryz.ntmps33
    go_upto_region 1 with (fail)
    generalize (w.alloc (.cells #[.slice ca cn cc, .slice ha hn hcp] 29)) = w1 at P1 HB1 ⊢
    generalize w.heap.size = P at P1 ⊢
    as_aux_lemma =>
      go_wp2_with fail
      go_loopw [22] (fun it wr => ∃ j : Nat, j ≤ n ∧ it = .int .i64 j ∧ Hid (Below w.heap.size w wr) ∧ Hid (Blk wr P [.slice ca cn cc, .slice ha hn hcp] 29)) (fun it _ => n - (intOf it).toNat)
      case atStart => exact ⟨0, Nat.zero_le _, rfl, HB1, P1⟩
      case round =>
        clear HB1 P1
        obtain ⟨j, hj, rfl, HB, PB⟩ := hrel
        by_cases hlj : j < n
        case neg =>
          have hjn : ¬ ((j : Int) < (n : Int)) := by omega
          as_aux_lemma =>
            go_wp2_with fail
            go_ret2
            exact ⟨.inl rfl, HB.out⟩
        have hjl : j < fs.length := by have := HN.out; omega
        obtain ⟨g, rfl, hg0, hg1⟩ := own_pos HO.out (by omega)
        have hO : wr.ownsRow base 46 4 (.slice (some ⟨g, 0, none⟩) fs.length cap) fs.length ((fs.map Fwd.cells).flatten) := own_more HO.out HB.out
        have hgw : g < wr.heap.size := Nat.lt_of_lt_of_le hg1 HB.out.size
        have f0 := own_field Fwd.cells (fun _ => rfl) hO j 0 default hjl (by omega) rfl
        have f1 := own_field Fwd.cells (fun _ => rfl) hO j 1 default hjl (by omega) rfl
        have f2 := own_field Fwd.cells (fun _ => rfl) hO j 2 default hjl (by omega) rfl
        have f3 := own_field Fwd.cells (fun _ => rfl) hO j 3 default hjl (by omega) rfl
        rw [Nat.add_zero] at f0
        have hmem := mem_getF hjl
        generalize fs.getD j default = f at f0 f1 f2 f3 hmem
        have HMEM := Lib.hid hmem
        have HCS := Lib.hid (fun W hW => HCT2.out W hW (hourK f.hr) (hour_in f.hr))
        have HSAME : Hid (((⟨(lineK f.line).toArray⟩ : ByteArray).toList == nb.toList) = decide (f.line.val = line.val)) := by
          show _ = _
          rw [Go.ByteArray.toList_eq, HNB.out, Go.ByteArray.toList_eq]
          exact line_same _ _
        have HTO : Hid (f.line.val = line.val → ∀ W, Below w.heap.size w W → NextP fs line w (.returned (.tuple #[.string ⟨(lineK f.to_).toArray⟩, .bool true])) W) := fun h W hW => ⟨.inr ⟨f, HMEM.out, h, rfl⟩, hW⟩
        clear hmem
        generalize (⟨(lineK f.line).toArray⟩ : ByteArray) = lb at f0 HSAME
        generalize (⟨(lineK f.to_).toArray⟩ : ByteArray) = tb at f2 HTO
        generalize (⟨(hourK f.hr).toArray⟩ : ByteArray) = hb at f3 HCS
        generalize ((f.wh.val + 1 : Nat) : Int) = z at f1
        generalize openR hrs at_ (hourK f.hr) = oh at HCS
        have hA : Below wr.heap.size wr (wr.alloc (.cells #[.string lb, .int .i64 z, .string tb, .string hb] 46)) := ext_alloc (Below.refl _ _)
        have X3 : Hid (Blk (wr.alloc (.cells #[.string lb, .int .i64 z, .string tb, .string hb] 46)) wr.heap.size [.string lb, .int .i64 z, .string tb, .string hb] 46) := Blk.new _ _ _
        have HB3 := Lib.hid (ext_trans HB.out hA)
        have P3 := Lib.hid (PB.out.below hA)
        have hj0 : ¬ ((j : Int) < 0) := by omega
        have hjn : (j : Int) < (n : Int) := by omega
        clear hA HB PB
        as_aux_lemma =>
          go_upto_region 10 with (fail)
          clear f0 f1 f2 f3 hO hgw
          generalize wr.alloc (.cells #[.string lb, .int .i64 z, .string tb, .string hb] 46) = w3 at X3 HB3 P3 ⊢
          generalize wr.heap.size = X at X3 ⊢
          go_cut [22, 47] from 22 to 50 (fun it v wx => it = .int .i64 j ∧ ∃ b : Bool, v = .bool b ∧ Hid (b = true → f.line.val = line.val) ∧ Hid (Below w3.heap.size w3 wx))
          case first =>
            have x0 := X3.out.cell 0 rfl
            have x1 := X3.out.cell 1 rfl
            have x3 := X3.out.cell 3 rfl
            have p0 := P3.out.cell 0 rfl
            have p1 := P3.out.cell 1 rfl
            have HCC := Lib.hid (HCS.out w3 HB3.out)
            by_cases hs : f.line.val = line.val
            case neg =>
              have hcm : (lb.toList == nb.toList) = false := by rw [HSAME.out]; exact decide_eq_false hs
              as_aux_lemma =>
                go_wp2_with fail
                go_meet
                exact ⟨rfl, false, rfl, (fun h => absurd h (by decide)), Below.refl _ _⟩
            have hcm : (lb.toList == nb.toList) = true := by rw [HSAME.out]; exact decide_eq_true hs
            by_cases hz1 : z = 1
            · subst hz1
              as_aux_lemma =>
                go_wp2_with fail
                refine HCC.out.mono ?_
                rintro e w4 ⟨rfl, hb⟩
                have HB4 := Lib.hid hb
                clear hb
                go_wp2_with fail
                go_meet
                exact ⟨rfl, oh, rfl, (fun _ => hs), HB4.out⟩
            have hz1b : (z == 1) = false := by simpa using hz1
            by_cases hzw : z = 3
            · subst hzw
              as_aux_lemma =>
                go_wp2_with fail
                refine HCC.out.mono ?_
                rintro e w4 ⟨rfl, hb⟩
                have HB4 := Lib.hid hb
                clear hb
                go_wp2_with fail
                go_meet
                exact ⟨rfl, oh, rfl, (fun _ => hs), HB4.out⟩
            · have hzwb : (z == 3) = false := by simpa using hzw
              as_aux_lemma =>
                go_wp2_with fail
                go_meet
                exact ⟨rfl, false, rfl, (fun h => absurd h (by decide)), Below.refl _ _⟩
          case rest =>
            obtain ⟨rfl, b, rfl, hbt, hV⟩ := hcut
            obtain ⟨w4, rfl⟩ : ∃ x : World, x = wc := ⟨_, rfl⟩
            have X4 := Lib.hid (X3.out.below hV.out)
            have HB4 := Lib.hid (ext_trans HB3.out hV.out)
            have P4 := Lib.hid (P3.out.below hV.out)
            clear hV X3 HB3 P3
            cases b
            case false =>
              as_aux_lemma =>
                go_wp2_with fail
                go_roundw
                case rel => exact ⟨j + 1, by omega, by go_num, HB4, P4⟩
                case measure => simp [intOf]; omega
            have x2 := X4.out.cell 2 rfl
            have HE := Lib.hid (HTO.out (hbt.out rfl) w4 HB4.out)
            as_aux_lemma =>
              go_wp2_with fail
              go_ret2
              exact HE.out
end Go.Proofs.YtkdadbpajhdelaaGreatDoor

set_option linter.unusedVariables false
set_option linter.unusedSimpArgs false
namespace Go.Proofs.YtkdadbpajhdelaaGreatDoor
open Go.RowKit Go.Maps

abbrev lnK (i : Nat) : Lit := .string (lineK i)
theorem strLaw : Keyed Tryz.prog 9 := string_keyed Tryz.underlying9
theorem lnKey (i : Nat) : keyOf Tryz.prog 9 (.string ⟨(lineK i).toArray⟩) = some (lnK i) := by
  have := WideMaps.keyOf_string_mk (P := Tryz.prog) Tryz.underlying9 (s := ⟨(lineK i).toArray⟩) (by show (lineK i).toArray.size ≤ maxLen; simp [lineK, maxLen])
  simpa using this
theorem lnK_inj {a b : Nat} (ha : a < 5) (hb : b < 5) (h : lnK a = lnK b) : a = b := by
  injection h with h
  exact line_inj a ha b hb h
theorem intZero (w : World) : (zeroValue 3).run Tryz.prog w = .ok (.int .i64 0) w := by kernel_rfl
theorem mapSI : Tryz.prog.underlying 77 = some (.map 9 3) := by kernel_rfl
theorem litZ (x : Int) (h0 : 0 ≤ x) (h1 : x ≤ 100) : (Lit.int .i64 x).wf = true := WalkArith.wf_i64 (by omega)
/-- Block b is a map that says f of the lines. -/
def StMap (w : World) (b n : Nat) (f : Nat → Int) : Prop :=
  ∃ D : DataW Unit, w.ownsMap Tryz.prog 9 (plainElem Tryz.prog 3) b n D ∧ ∀ i, i < 5 → D.atKey (lnK i) (.lit (.int .i64 0)) = .lit (.int .i64 (f i))
theorem StMap.made (w : World) : StMap (w.alloc (.map #[] 0)) w.heap.size 0 (fun _ => 0) := ⟨.map [], World.ownsMap_made _ _ _ _, fun i _ => rfl⟩
theorem StMap.keep {w w' : World} {b n : Nat} {f : Nat → Int} (h : StMap w b n f) {row : Option Nat} (hg : w.grownBy w' row) (hr : some b ≠ row) : StMap w' b n f := by
  obtain ⟨D, ho, r⟩ := h
  exact ⟨D, ho.kept hg hr, r⟩
theorem StMap.below {w w' : World} {b n : Nat} {f : Nat → Int} (h : StMap w b n f) (hb : Below w.heap.size w w') : StMap w' b n f :=
  h.keep (row := none) ⟨hb.os, hb.tape, hb.output, hb.size, fun k hk _ => hb.block k hk⟩ (by simp)
theorem StMap.lt {w : World} {b n : Nat} {f : Nat → Int} (h : StMap w b n f) : b < w.heap.size := by
  obtain ⟨D, ho, _⟩ := h
  exact ho.lt
set_option maxRecDepth 100000 in
theorem StMap.look {w : World} {b n : Nat} {f : Nat → Int} (h : StMap w b n f) (i : Nat) (hi : i < 5) : (Instr.lookup 77 (.map (some b)) (.string ⟨(lineK i).toArray⟩) false).run Tryz.prog w = .ok (.int .i64 (f i)) w := by
  obtain ⟨D, ho, hat⟩ := h
  obtain ⟨c, hrun, hc, _⟩ := ho.lookup_int strLaw mapSI Tryz.underlying3 (intZero w) (lnKey i)
  rw [hat i hi] at hc
  injection hc with hc
  injection hc with _ hc
  rw [hrun, ← hc]
set_option maxRecDepth 100000 in
theorem StMap.put {w : World} {b n : Nat} {f : Nat → Int} (h : StMap w b n f) (hn : n < maxLen) (i : Nat) (hi : i < 5) (x : Int) (h0 : 0 ≤ x) (h1 : x ≤ 100) : ∃ w', (Instr.mapUpdate 77 (.map (some b)) (.string ⟨(lineK i).toArray⟩) (.int .i64 x)).run Tryz.prog w = .ok () w' ∧ StMap w' b (n + 1) (fun j => if j = i then x else f j) ∧ w.grownBy w' (some b) := by
  obtain ⟨D, ho, hat⟩ := h
  obtain ⟨w', hrun, ho', hg⟩ := ho.update strLaw mapSI hn (lnKey i) (plainElem_int Tryz.underlying3 (litZ x h0 h1))
  refine ⟨w', hrun, ⟨_, ho', fun j hj => ?_⟩, hg⟩
  show _ = DataW.lit (Lit.int .i64 (if j = i then x else f j))
  by_cases e : j = i
  · subst e
    rw [atKey_put_same ho.isMap (show WideAt.IsKeyLit (lnK j) from trivial), if_pos rfl]
  · rw [atKey_put_other (by intro e2; exact e (lnK_inj hj hi e2)), hat j hj, if_neg e]
/-- The look-up at its operation. -/
theorem wpList_lookL (w : World) {ops : Array Oper} {rest : List Oper} {o : Oper} {a : Act} {Q : Exit → Act → World → Prop}
    (hg : o.guard = none) (m x : Operand) (hop : o.op = Op.lookup 77 m x false) (b n : Nat) (f : Nat → Int) (hm : a.eval m = .map (some b)) (h : StMap w b n f) (i : Nat) (hi : i < 5) (hx : a.eval x = .string ⟨(lineK i).toArray⟩)
    (hK : wpList Tryz.prog ops Q rest (a.put o.dst (.int .i64 (f i))) w) : wpList Tryz.prog ops Q (o :: rest) a w := by
  refine wpList_plain hg fun K' hK' => ?_
  have hrun := h.look i hi
  unfold Oper.wp
  simp only [execOp, hop, hm, hx, Sem.run_bind, hrun, Result.andThen_ok, Sem.run_pure]
  exact hK' _ _ hK
/-- The store at its operation. -/
theorem wpList_putL (w : World) {ops : Array Oper} {rest : List Oper} {o : Oper} {a : Act} {Q : Exit → Act → World → Prop}
    (hg : o.guard = none) (m x v : Operand) (hop : o.op = Op.mapUpdate 77 m x v) (b n : Nat) (f : Nat → Int) (hm : a.eval m = .map (some b)) (h : StMap w b n f) (hn : n < maxLen) (i : Nat) (hi : i < 5) (hx : a.eval x = .string ⟨(lineK i).toArray⟩) (y : Int) (hv : a.eval v = .int .i64 y) (h0 : 0 ≤ y) (h1 : y ≤ 100)
    (hK : ∀ w', StMap w' b (n + 1) (fun j => if j = i then y else f j) → w.grownBy w' (some b) → wpList Tryz.prog ops Q rest (a.put o.dst undef) w') : wpList Tryz.prog ops Q (o :: rest) a w := by
  refine wpList_plain hg fun K' hK' => ?_
  obtain ⟨w', hrun, r1, r2⟩ := h.put hn i hi y h0 h1
  unfold Oper.wp
  simp only [execOp, hop, hm, hx, hv, Sem.run_bind, hrun, Result.andThen_ok, Sem.run_pure]
  exact hK' _ _ (hK w' r1 r2)
end Go.Proofs.YtkdadbpajhdelaaGreatDoor

set_option linter.unusedVariables false
set_option linter.unusedSimpArgs false
namespace Go.Proofs.YtkdadbpajhdelaaGreatDoor
open Go.RowKit Go.Sort Go.Lib Go.Shelf

def stS (b : Bool) : List UInt8 := if b then [98, 117, 115, 121] else [115, 105, 108, 101, 110, 116]
def stCell (x : Nat × Bool) : List Value := [.string ⟨(lineK x.1).toArray⟩, .string ⟨(stS x.2).toArray⟩]
def StaPost (w : World) (e : Ending) (w' : World) : Prop := ∃ M f, e = .returned (.tuple #[.map (some M), .int .i64 0]) ∧ StMap w' M 4 f ∧ (∀ i, f i = 0 ∨ f i = 1 ∨ f i = 2) ∧ w.heap.size ≤ M ∧ Below w.heap.size w w'
set_option maxRecDepth 100000 in
set_option maxHeartbeats 8000000 in
theorem checkSta_any (w : World) (base : Nat) (v : Value) (xs : List (Nat × Bool)) (h : w.ownsRow base 41 2 v xs.length ((xs.map stCell).flatten)) (hl : xs.length = 4) (hx : ∀ j, j < 4 → (xs.getD j default).1 = j) :
    Calls Tryz.prog 32 #[v] w (StaPost w) := by
  have hmm := @run_makeMap Tryz.prog
  obtain ⟨a, cap, rfl⟩ := own_shape h
  obtain ⟨g, rfl, hg0, hg1⟩ := own_pos h (by omega)
  have HO := Lib.hid h
  have HX := Lib.hid hx
  have HL := Lib.hid hl
  have hM0 : Hid (StMap (w.alloc (.map #[] 0)) w.heap.size 0 (fun _ => 0)) := StMap.made w
  have hB0 : Hid (Below w.heap.size w (w.alloc (.map #[] 0))) := ext_alloc (Below.refl _ _)
  rw [hl]
  clear h hx hl
  go_enter Tryz.func32, Tryz.ntmps32
  go_wp2_with fail
  clear hmm
  obtain ⟨M, hM⟩ : ∃ M, M = w.heap.size := ⟨_, rfl⟩
  have HM := Lib.hid hM
  rw [← hM] at hM0 ⊢
  clear hM
  go_loopw [14] (fun it wr => ∃ (j : Nat) (f : Nat → Int), j ≤ 4 ∧ it = .int .i64 j ∧ Hid (StMap wr M j f) ∧ Hid (∀ i, f i = 0 ∨ f i = 1 ∨ f i = 2) ∧ Hid (∀ i, j ≤ i → f i = 0) ∧ Hid (Below w.heap.size w wr)) (fun it _ => 4 - (intOf it).toNat)
  case atStart => exact ⟨0, fun _ => 0, by omega, rfl, hM0, (fun i => .inl rfl), (fun i _ => rfl), hB0⟩
  case round =>
    clear hM0 hB0
    obtain ⟨j, f, hj, rfl, HSM, HF, HZ, HB⟩ := hrel
    by_cases hlj : j < 4
    case neg =>
      obtain rfl : j = 4 := by omega
      have HE : Hid (StaPost w (.returned (.tuple #[.map (some M), .int .i64 0])) wr) := ⟨M, f, rfl, HSM.out, HF.out, Nat.le_of_eq HM.out.symm, HB.out⟩
      as_aux_lemma =>
        go_wp2_with fail
        go_ret2
        exact HE.out
    have hO := own_more HO.out HB.out
    have c0 := own_field stCell (fun _ => rfl) hO j 0 default (by have := HL.out; omega) (by omega) rfl
    have c1 := own_field stCell (fun _ => rfl) hO j 1 default (by have := HL.out; omega) (by omega) rfl
    rw [HX.out j hlj] at c0
    rw [Nat.add_zero] at c0
    generalize (xs.getD j default).2 = b at c1
    have HK1 : Hid (∀ W, Calls Tryz.prog 30 #[.string ⟨(lineK j).toArray⟩] W fun e w' => e = .returned (.bool true) ∧ Below W.heap.size W w') := fun W => by
      have := isKey_any (lineK j) W (by simp [lineK])
      rw [key_line ⟨j, by omega⟩] at this
      exact this
    have hj0 : ¬ ((j : Int) < 0) := by omega
    have hj4 : (j : Int) < 4 := by omega
    have hgw : g < wr.heap.size := Nat.lt_of_lt_of_le hg1 HB.out.size
    have hf0 := HZ.out j (Nat.le_refl j)
    have HF0 := Lib.hid hf0
    have hn : j < maxLen := by unfold maxLen; omega
    have HNL := Lib.hid hn
    clear hO hf0 hn
    have HNX : Hid (∀ y : Int, (y = 1 ∨ y = 2) → (∀ i, (if i = j then y else f i) = 0 ∨ (if i = j then y else f i) = 1 ∨ (if i = j then y else f i) = 2) ∧ ∀ i, j + 1 ≤ i → (if i = j then y else f i) = 0) := fun y hy => ⟨fun i => by
      by_cases e : i = j
      · rw [if_pos e]; omega
      · rw [if_neg e]; exact HF.out i, fun i hi => by rw [if_neg (by omega)]; exact HZ.out i (by omega)⟩
    cases b
    · have hA : Below wr.heap.size wr (wr.alloc (.cells #[.string ⟨(lineK j).toArray⟩, .string ⟨#[115, 105, 108, 101, 110, 116]⟩] 41)) := ext_alloc (Below.refl _ _)
      have X3 : Hid (Blk (wr.alloc (.cells #[.string ⟨(lineK j).toArray⟩, .string ⟨#[115, 105, 108, 101, 110, 116]⟩] 41)) wr.heap.size [.string ⟨(lineK j).toArray⟩, .string ⟨#[115, 105, 108, 101, 110, 116]⟩] 41) := Blk.new _ _ _
      have HB3 := Lib.hid (ext_trans HB.out hA)
      have HM3 := Lib.hid (HSM.out.below hA)
      have c2 : wr.cell? ⟨g, j * 2 + 1, none⟩ = some (.string ⟨#[115, 105, 108, 101, 110, 116]⟩) := c1
      clear hA c1 HB HSM
      as_aux_lemma =>
        go_upto_region 7 with (fail)
        clear c0 c2 hgw
        generalize wr.alloc (.cells #[.string ⟨(lineK j).toArray⟩, .string ⟨#[115, 105, 108, 101, 110, 116]⟩] 41) = w3 at X3 HB3 HM3 ⊢
        generalize wr.heap.size = X at X3 ⊢
        have x0 := X3.out.cell 0 rfl
        as_aux_lemma =>
          go_wp2_with fail
          refine (HK1.out _).mono ?_
          rintro e w4 ⟨rfl, hb⟩
          have X4 := Lib.hid (X3.out.below hb)
          have HB4 := Lib.hid (ext_trans HB3.out hb)
          have HM4 := Lib.hid (HM3.out.below hb)
          clear hb x0 X3 HB3 HM3
          have x0 := X4.out.cell 0 rfl
          have x1 := X4.out.cell 1 rfl
          as_aux_lemma =>
            go_wp2_with (first | (at_lookup; refine wpList_lookL _ rfl (.tmp 28) (.tmp 30) rfl M _ f rfl HM4.out j (by omega) rfl ?_; rw [HF0.out]) | (at_mapUpdate; refine wpList_putL _ rfl (.tmp 33) (.tmp 35) (.tmp 36) rfl M _ f rfl HM4.out HNL.out j (by omega) rfl 2 rfl (by omega) (by omega) ?_; intro w5 hs5 hg5))
            have HM5 := Lib.hid hs5
            have HB5 : Hid (Below w.heap.size w w5) := HB4.out.grown hg5 (by have := HB4.out.size; exact this) (fun k hk => by injection hk with hk; have := HM.out; omega)
            have HN5 := Lib.hid (HNX.out 2 (.inr rfl))
            clear hs5 hg5 x0 x1
            go_roundw
            case rel => exact ⟨j + 1, _, by omega, by go_num, HM5, HN5.out.1, HN5.out.2, HB5⟩
            case measure => simp [intOf]; omega
    · have hA : Below wr.heap.size wr (wr.alloc (.cells #[.string ⟨(lineK j).toArray⟩, .string ⟨#[98, 117, 115, 121]⟩] 41)) := ext_alloc (Below.refl _ _)
      have X3 : Hid (Blk (wr.alloc (.cells #[.string ⟨(lineK j).toArray⟩, .string ⟨#[98, 117, 115, 121]⟩] 41)) wr.heap.size [.string ⟨(lineK j).toArray⟩, .string ⟨#[98, 117, 115, 121]⟩] 41) := Blk.new _ _ _
      have HB3 := Lib.hid (ext_trans HB.out hA)
      have HM3 := Lib.hid (HSM.out.below hA)
      have c2 : wr.cell? ⟨g, j * 2 + 1, none⟩ = some (.string ⟨#[98, 117, 115, 121]⟩) := c1
      clear hA c1 HB HSM
      as_aux_lemma =>
        go_upto_region 7 with (fail)
        clear c0 c2 hgw
        generalize wr.alloc (.cells #[.string ⟨(lineK j).toArray⟩, .string ⟨#[98, 117, 115, 121]⟩] 41) = w3 at X3 HB3 HM3 ⊢
        generalize wr.heap.size = X at X3 ⊢
        have x0 := X3.out.cell 0 rfl
        as_aux_lemma =>
          go_wp2_with fail
          refine (HK1.out _).mono ?_
          rintro e w4 ⟨rfl, hb⟩
          have X4 := Lib.hid (X3.out.below hb)
          have HB4 := Lib.hid (ext_trans HB3.out hb)
          have HM4 := Lib.hid (HM3.out.below hb)
          clear hb x0 X3 HB3 HM3
          have x0 := X4.out.cell 0 rfl
          have x1 := X4.out.cell 1 rfl
          as_aux_lemma =>
            go_wp2_with (first | (at_lookup; refine wpList_lookL _ rfl (.tmp 28) (.tmp 30) rfl M _ f rfl HM4.out j (by omega) rfl ?_; rw [HF0.out]) | (at_mapUpdate; refine wpList_putL _ rfl (.tmp 33) (.tmp 35) (.tmp 36) rfl M _ f rfl HM4.out HNL.out j (by omega) rfl 1 rfl (by omega) (by omega) ?_; intro w5 hs5 hg5))
            have HM5 := Lib.hid hs5
            have HB5 : Hid (Below w.heap.size w w5) := HB4.out.grown hg5 (by have := HB4.out.size; exact this) (fun k hk => by injection hk with hk; have := HM.out; omega)
            have HN5 := Lib.hid (HNX.out 1 (.inl rfl))
            clear hs5 hg5 x0 x1
            go_roundw
            case rel => exact ⟨j + 1, _, by omega, by go_num, HM5, HN5.out.1, HN5.out.2, HB5⟩
            case measure => simp [intOf]; omega
end Go.Proofs.YtkdadbpajhdelaaGreatDoor

set_option linter.unusedVariables false
set_option linter.unusedSimpArgs false
namespace Go.Proofs.YtkdadbpajhdelaaGreatDoor
open Go.RowKit

/-- A way over forwards. -/
inductive Way (fs : List Fwd) : Nat → Nat → Prop
  | one {f : Fwd} (h : f ∈ fs) : Way fs f.line.val f.to_.val
  | more {f : Fwd} {y : Nat} (h : f ∈ fs) (t : Way fs f.to_.val y) : Way fs f.line.val y
def Linked (fs : List Fwd) (cs : List (Fin 5)) : Prop := ∀ i, i + 1 < cs.length → ∃ f ∈ fs, f.line.val = (cs.getD i 0).val ∧ f.to_ = cs.getD (i + 1) 0
/-- A chain that begins at k. -/
structure ChOk (fs : List Fwd) (k : Fin 5) (cs : List (Fin 5)) : Prop where
  pos : 0 < cs.length
  head : cs.getD 0 0 = k
  once : cs.Pairwise (· ≠ ·)
  link : Linked fs cs
theorem ChOk.one (fs : List Fwd) (k : Fin 5) : ChOk fs k [k] := ⟨by simp, rfl, by simp, fun i hi => by simp at hi⟩
theorem getD_app {l : List (Fin 5)} {x : Fin 5} {i : Nat} (h : i < l.length) : (l ++ [x]).getD i 0 = l.getD i 0 := by
  rw [List.getD_eq_getElem?_getD, List.getD_eq_getElem?_getD, List.getElem?_append_left h]
theorem getD_end {l : List (Fin 5)} {x : Fin 5} : (l ++ [x]).getD l.length 0 = x := by
  rw [List.getD_eq_getElem?_getD, List.getElem?_append_right (Nat.le_refl _)]; simp
theorem ChOk.snoc {fs : List Fwd} {k : Fin 5} {cs : List (Fin 5)} (h : ChOk fs k cs) {f : Fwd} (hf : f ∈ fs) (hl : f.line.val = (cs.getD (cs.length - 1) 0).val) (hn : f.to_ ∉ cs) : ChOk fs k (cs ++ [f.to_]) := by
  have hp := h.pos
  refine ⟨by simp, by rw [getD_app hp]; exact h.head, ?_, fun i hi => ?_⟩
  · rw [List.pairwise_append]
    exact ⟨h.once, by simp, fun a ha b hb => by rw [List.mem_singleton] at hb; subst hb; exact fun e => hn (e ▸ ha)⟩
  · rw [List.length_append, List.length_singleton] at hi
    by_cases h1 : i + 1 < cs.length
    · rw [getD_app (by omega), getD_app h1]; exact h.link i h1
    · obtain rfl : i = cs.length - 1 := by omega
      refine ⟨f, hf, ?_, ?_⟩
      · rw [getD_app (by omega)]; exact hl
      · rw [show cs.length - 1 + 1 = cs.length by omega, getD_end]
theorem apart_few : ∀ (L : Nat) (ks : List (Fin 5)), ks.Pairwise (· ≠ ·) → (∀ k ∈ ks, k.val < L) → ks.length ≤ L
  | 0, [], _, _ => Nat.le_refl _
  | 0, k :: ks, _, h => by have := h k List.mem_cons_self; omega
  | L + 1, ks, hp, h => by
    have h1 := apart_few L (ks.filter (fun k => decide (k.val ≠ L))) (hp.filter _) (fun k hk => by
      have h2 := List.mem_filter.1 hk
      have h3 := h k h2.1
      have h4 : k.val ≠ L := by simpa using h2.2
      omega)
    have h5 : ks.length ≤ (ks.filter (fun k => decide (k.val ≠ L))).length + 1 := by
      clear h h1
      induction ks with
      | nil => simp
      | cons k ks ih =>
        rw [List.pairwise_cons] at hp
        have h6 := ih hp.2
        by_cases hk : k.val = L
        · have : ks.filter (fun k => decide (k.val ≠ L)) = ks := by
            rw [List.filter_eq_self]
            intro x hx
            have := hp.1 x hx
            exact decide_eq_true fun e => this (Fin.ext (by omega))
          rw [List.filter_cons, this]
          simp only [hk, List.length_cons]
          split <;> simp
        · rw [List.filter_cons, if_pos (by simpa using hk)]
          simp only [List.length_cons]
          omega
    omega
theorem ChOk.len {fs : List Fwd} {k : Fin 5} {cs : List (Fin 5)} (h : ChOk fs k cs) : cs.length ≤ 5 := apart_few 5 cs h.once (fun k _ => k.isLt)
theorem ChOk.loop {fs : List Fwd} {k : Fin 5} {cs : List (Fin 5)} (h : ChOk fs k cs) {f : Fwd} (hf : f ∈ fs) (hl : f.line.val = (cs.getD (cs.length - 1) 0).val) (hm : f.to_ ∈ cs) : Way fs f.to_.val f.to_.val := by
  obtain ⟨j, hj, e⟩ := List.getElem_of_mem hm
  have key : ∀ d i, i + d + 1 = cs.length → Way fs (cs.getD i 0).val f.to_.val := by
    intro d
    induction d with
    | zero =>
      intro i hi
      rw [show i = cs.length - 1 by omega, ← hl]
      exact .one hf
    | succ d ih =>
      intro i hi
      obtain ⟨f2, hf2, e1, e2⟩ := h.link i (by omega)
      rw [← e1]
      refine .more hf2 ?_
      rw [e2]
      exact ih (i + 1) (by omega)
  have h9 := key (cs.length - 1 - j) j (by omega)
  have h8 : cs.getD j 0 = f.to_ := by rw [List.getD_eq_getElem?_getD, List.getElem?_eq_getElem hj]; exact e
  rw [h8] at h9
  exact h9
theorem Way.low {fs : List Fwd} {a b : Nat} (h : Way fs a b) : a < 4 := by
  cases h with
  | one h => exact Fin.isLt _
  | more h _ => exact Fin.isLt _
theorem mem_lines {cs : List (Fin 5)} (x : Fin 5) : lineK x ∈ cs.map (fun c => lineK c.val) ↔ x ∈ cs := by
  rw [List.mem_map]
  exact ⟨fun ⟨y, hy, e⟩ => by rw [← Fin.ext (line_inj _ y.isLt _ x.isLt e)]; exact hy, fun h => ⟨x, h, rfl⟩⟩
end Go.Proofs.YtkdadbpajhdelaaGreatDoor

set_option linter.unusedVariables false
set_option linter.unusedSimpArgs false
namespace Go.Proofs.YtkdadbpajhdelaaGreatDoor
open Go.RowKit Go.Sort Go.Lib Go.Shelf

def ChainP (fs : List Fwd) (k : Fin 5) (w : World) (e : Ending) (w' : World) : Prop := ((∃ v cs, e = .returned (.tuple #[v, .int .i64 0]) ∧ ChOk fs k cs ∧ w'.ownsRow w.heap.size 9 1 v cs.length ((cs.map (fun c => lineK c.val)).map encS)) ∨ (e = .returned (.tuple #[.slice none 0 0, .int .i64 14]) ∧ ∃ x, Way fs x x)) ∧ Below w.heap.size w w'
def rowN : Value → Nat
  | .slice _ n _ => n
  | _ => 0
theorem last_cell {w : World} {base g n c : Nat} {cs : List (Fin 5)} (h : w.ownsRow base 9 1 (.slice (some ⟨g, 0, none⟩) n c) n ((cs.map (fun c => lineK c.val)).map encS)) (hn : 0 < n) : w.cell? ⟨g, n - 1, none⟩ = some (.string ⟨(lineK (cs.getD (n - 1) 0).val).toArray⟩) := by
  have hl : cs.length = n := by have := h.1; simpa using this
  rw [h.cellAt (n - 1) (by omega)]
  simp [encS, List.getD_eq_getElem?_getD, show n - 1 < cs.length by omega]
set_option maxRecDepth 100000 in
set_option maxHeartbeats 16000000 in
theorem chain_any (w : World) (p : DPlan) (hp : DPlanFine w p) (base : Nat) (v : Value) (fs : List Fwd) (h : FwRow w base v fs) (hok : ∀ y ∈ fs, y.line.val ≠ y.to_.val) (hst : Strict fs fs.length) (hl : fs.length ≤ 7) (k : Fin 5)
    (base2 : Nat) (v2 : Value) (xs : List (Nat × Bool)) (h2 : w.ownsRow base2 41 2 v2 xs.length ((xs.map stCell).flatten)) (hl2 : xs.length = 4) (hx2 : ∀ j, j < 4 → (xs.getD j default).1 = j) :
    Calls Tryz.prog 10 #[.agg p.cells.toArray, v, .string ⟨(lineK k).toArray⟩, .int .i64 0, v2] w (ChainP fs k w) := by
  have HCF := Lib.hid (fun W (hW : Below w.heap.size w W) => checkFwd_any W p (hp.below hW) base v fs (own_more h hW) hok hst hl)
  have HNX := Lib.hid (fun W (hW : Below w.heap.size w W) (x : Fin 5) (how : Int) (hh : how = 0 ∨ how = 1 ∨ how = 2) => nextFw_any W p (hp.below hW) base v fs (own_more h hW) hl x 0 (by omega) (by omega) how hh)
  have HCS := Lib.hid (fun W (hW : Below w.heap.size w W) => checkSta_any W base2 v2 xs (own_more h2 hW) hl2 hx2)
  have HK : Hid (∀ W, Calls Tryz.prog 30 #[.string ⟨(lineK k).toArray⟩] W fun e w' => e = .returned (.bool true) ∧ Below W.heap.size W w') := fun W => by
    have := isKey_any (lineK k) W (by simp [lineK])
    rw [key_line] at this
    exact this
  have HM : Hid (∀ W, Calls Tryz.prog 31 #[.int .i64 0] W fun e w' => e = .returned (.bool true) ∧ W = w') := fun W => isMoment_any 0 W
  clear hp h hok hst hl h2 hl2 hx2
  obtain ⟨ca, cn, cc, ctxs, ha, hn, hcp, hrs⟩ := p
  have HCF2 : Hid (∀ W, Below w.heap.size w W → Calls Tryz.prog 26 #[.agg #[.slice ca cn cc, .slice ha hn hcp], v] W (IntP 0 W)) := HCF.out
  have HNX2 : Hid (∀ W, Below w.heap.size w W → ∀ (x : Fin 5) (how : Int), (how = 0 ∨ how = 1 ∨ how = 2) → Calls Tryz.prog 33 #[.agg #[.slice ca cn cc, .slice ha hn hcp], v, .string ⟨(lineK x).toArray⟩, .int .i64 0, .int .i64 how] W (NextP fs x W)) := HNX.out
  clear HCF HNX
  show Calls Tryz.prog 10 #[.agg #[.slice ca cn cc, .slice ha hn hcp], v, .string ⟨(lineK k).toArray⟩, .int .i64 0, v2] w _
  obtain ⟨i0, hi, hz0, hz1, hz2⟩ := info_parts Tryz.infoStr
  have P1 : Hid (Blk (w.alloc (.cells #[.slice ca cn cc, .slice ha hn hcp] 29)) w.heap.size [.slice ca cn cc, .slice ha hn hcp] 29) := Blk.new w _ _
  have HB1 : Hid (Below w.heap.size w (w.alloc (.cells #[.slice ca cn cc, .slice ha hn hcp] 29))) := ext_alloc (Below.refl _ _)
  obtain ⟨kb, hkb⟩ : ∃ kb : ByteArray, kb = ⟨(lineK k).toArray⟩ := ⟨_, rfl⟩
  have HKB := Lib.hid hkb
  rw [← hkb] at HK ⊢
  clear hkb
  go_enter Tryz.func10, Tryz.ntmps10
  go_upto_region 1 with (fail)
  generalize (w.alloc (.cells #[.slice ca cn cc, .slice ha hn hcp] 29)) = w1 at P1 HB1 ⊢
  generalize w.heap.size = P at P1 ⊢
  have p0 := P1.out.cell 0 rfl
  have p1 := P1.out.cell 1 rfl
  as_aux_lemma =>
    go_wp2_with fail
    refine (HCF2.out _ HB1.out).mono ?_
    rintro e w2 ⟨rfl, hb⟩
    have HB2 := Lib.hid (ext_trans HB1.out hb)
    have P2 := Lib.hid (P1.out.below hb)
    clear hb p0 p1 HB1 P1 HCF2
    as_aux_lemma =>
      go_wp2_with fail
      refine (HK.out _).mono ?_
      rintro e w3 ⟨rfl, hb⟩
      have HB3 := Lib.hid (ext_trans HB2.out hb)
      have P3 := Lib.hid (P2.out.below hb)
      clear hb HB2 P2 HK
      as_aux_lemma =>
        go_wp2_with fail
        refine (HM.out _).mono ?_
        rintro e w3b ⟨rfl, rfl⟩
        as_aux_lemma =>
          go_wp2_with fail
          refine (HCS.out _ HB3.out).mono ?_
          rintro e w4 ⟨M, f, rfl, hsm, hf, -, hb⟩
          have HB4 := Lib.hid (ext_trans HB3.out hb)
          have P4 := Lib.hid (P3.out.below hb)
          have HSM := Lib.hid hsm
          have HF := Lib.hid hf
          clear hb hsm hf HB3 P3 HCS HM
          have HO5 : Hid ((w4.alloc (.cells #[.string kb] 9)).ownsRow w4.heap.size 9 1 (.slice (some ⟨w4.heap.size, 0, none⟩) 1 1) 1 (([k].map (fun c => lineK c.val)).map encS)) := by
            show World.ownsRow _ _ _ _ _ _ _
            rw [HKB.out]
            exact own_lit1 w4 (lineK k) w4.heap.size (Nat.le_refl _)
          have HB5 : Hid (Below w4.heap.size w4 (w4.alloc (.cells #[.string kb] 9))) := ext_alloc (Below.refl _ _)
          as_aux_lemma =>
            go_wp2_with fail
            go_loopw [15] (fun vo wr => ∃ (cs : List (Fin 5)) (n g c : Nat), vo = .slice (some ⟨g, 0, none⟩) n c ∧ 1 ≤ n ∧ n ≤ 5 ∧ w4.heap.size ≤ g ∧ Hid (n = cs.length) ∧ Hid (wr.ownsRow w4.heap.size 9 1 (.slice (some ⟨g, 0, none⟩) n c) n ((cs.map (fun c => lineK c.val)).map encS)) ∧ Hid (ChOk fs k cs) ∧ Hid (Below w4.heap.size w4 wr)) (fun vo _ => 5 - rowN vo)
            case atStart => exact ⟨[k], 1, _, _, rfl, by omega, by omega, Nat.le_refl _, rfl, HO5.out, ChOk.one fs k, HB5.out⟩
            case round =>
              clear HO5 HB5
              obtain ⟨cs, n, g, c, rfl, hn1, hn5, hg, HN, HO, HCH, HB⟩ := hrel
              have hd : Below wr.heap.size wr wr.drew := ext_drew (Below.refl _ _)
              have O5 : Hid (wr.drew.ownsRow w4.heap.size 9 1 (.slice (some ⟨g, 0, none⟩) n c) n ((cs.map (fun c => lineK c.val)).map encS)) := own_more HO.out hd
              have B5 := Lib.hid (ext_trans HB.out hd)
              obtain ⟨x, hx⟩ : ∃ x, x = cs.getD (n - 1) 0 := ⟨_, rfl⟩
              have c0 := last_cell O5.out (by omega)
              rw [← hx] at c0
              have HX := Lib.hid hx
              have hgw : g < wr.drew.heap.size := by
                obtain ⟨g', e, -, h9⟩ := own_pos O5.out (by omega)
                injection e with e
                injection e with e
                omega
              have HC0 : Hid (∀ W, Below wr.drew.heap.size wr.drew W → W.cell? ⟨g, n - 1, none⟩ = some (.string ⟨(lineK x).toArray⟩)) := fun W hW => (hW.cell (p := ⟨g, n - 1, none⟩) hgw).trans c0
              have HPL : Hid (∀ W, Below wr.drew.heap.size wr.drew W → W.cell? ⟨P, 0, none⟩ = some (.slice ca cn cc) ∧ W.cell? ⟨P, 1, none⟩ = some (.slice ha hn hcp)) := fun W hW => by
                have b := P4.out.below (ext_trans B5.out hW)
                exact ⟨b.cell 0 rfl, b.cell 1 rfl⟩
              have HFX := Lib.hid (HF.out x)
              have HSX : Hid ((Instr.lookup 77 (.map (some M)) (.string ⟨(lineK x).toArray⟩) false).run Tryz.prog wr.drew = .ok (.int .i64 (f x)) wr.drew) := (HSM.out.below B5.out).look x x.isLt
              have HCL := Lib.hid (fun how hh => HNX2.out wr.drew (ext_trans HB4.out B5.out) x how hh)
              clear HO HB hd c0 hx hgw
              as_aux_lemma =>
                go_upto_region 12 with (fail)
                refine region_seqI (S := Below wr.drew.heap.size wr.drew) [(true, 0), (true, 1), (true, 2), (true, 3), (true, 8), (true, 9), (true, 10), (true, 11), (true, 4), (true, 5), (true, 6), (true, 7), (true, 12), (true, 13), (true, 14), (true, 15), (false, 16), (false, 17), (true, 18), (true, 19), (true, 20), (true, 21), (true, 22)] (by kernel_rfl) (by kernel_rfl) rfl (by kernel_rfl) (Below.refl _ _) ?_
                have R0 : Hid (Below wr.drew.heap.size wr.drew wr.drew) := Below.refl _ _
                generalize wr.drew = wd at O5 B5 HC0 HPL HSX HCL R0 ⊢
                obtain ⟨xb, hxb⟩ : ∃ xb : ByteArray, xb = ⟨(lineK x).toArray⟩ := ⟨_, rfl⟩
                rw [← hxb] at HC0 HSX HCL
                clear hxb
                obtain ⟨fx, hfx⟩ : ∃ fx, fx = f x := ⟨_, rfl⟩
                rw [← hfx] at HSX HFX
                clear hfx
                have hn0 : ¬ ((n : Int) - 1 < 0) := by omega
                have hnn : (n : Int) - 1 < (n : Int) := by omega
                have hnt : ((n : Int) - 1).toNat = n - 1 := by omega
                have HNT := Lib.hid hnt
                have HW1 : Hid (IntKind.i64.wrap ((n : Int) - 1) = (n : Int) - 1) := IntWalk.i64_in _ (by omega)
                simp only [seqOps, List.getD_cons_zero, List.getD_cons_succ]
                refine seqI_take (v := .agg #[.slice ca cn cc, .slice ha hn hcp]) rfl (fun W9 hW => by obtain ⟨q0, q1⟩ := HPL.out W9 hW; go_simp) (fun _ _ _ h => h) ?_
                simp only [Act.put, List.setIfInBounds_toArray, List.set_cons_zero, List.set_cons_succ]
                refine seqI_take (v := v) rfl (fun W9 hW => by go_simp) (fun _ _ _ h => h) ?_
                simp only [Act.put, List.setIfInBounds_toArray, List.set_cons_zero, List.set_cons_succ]
                refine seqI_take (v := .slice (some ⟨g, 0, none⟩) n c) rfl (fun W9 hW => by go_simp) (fun _ _ _ h => h) ?_
                simp only [Act.put, List.setIfInBounds_toArray, List.set_cons_zero, List.set_cons_succ]
                refine seqI_take (v := .slice (some ⟨g, 0, none⟩) n c) rfl (fun W9 hW => by go_simp) (fun _ _ _ h => h) ?_
                simp only [Act.put, List.setIfInBounds_toArray, List.set_cons_zero, List.set_cons_succ]
                refine seqI_take (v := .int .i64 0) rfl (fun W9 hW => by go_simp) (fun _ _ _ h => h) ?_
                simp only [Act.put, List.setIfInBounds_toArray, List.set_cons_zero, List.set_cons_succ]
                refine seqI_take (v := .map (some M)) rfl (fun W9 hW => by go_simp) (fun _ _ _ h => h) ?_
                simp only [Act.put, List.setIfInBounds_toArray, List.set_cons_zero, List.set_cons_succ]
                refine seqI_take (v := .slice (some ⟨g, 0, none⟩) n c) rfl (fun W9 hW => by go_simp) (fun _ _ _ h => h) ?_
                simp only [Act.put, List.setIfInBounds_toArray, List.set_cons_zero, List.set_cons_succ]
                refine seqI_take (v := .slice (some ⟨g, 0, none⟩) n c) rfl (fun W9 hW => by go_simp) (fun _ _ _ h => h) ?_
                simp only [Act.put, List.setIfInBounds_toArray, List.set_cons_zero, List.set_cons_succ]
                refine seqI_take (v := .int .i64 n) rfl (fun W9 hW => by go_simp) (fun _ _ _ h => h) ?_
                simp only [Act.put, List.setIfInBounds_toArray, List.set_cons_zero, List.set_cons_succ]
                refine seqI_take (v := .int .i64 ((n : Int) - 1)) rfl (fun W9 hW => by have q0 := HW1.out; go_simp) (fun _ _ _ h => h) ?_
                simp only [Act.put, List.setIfInBounds_toArray, List.set_cons_zero, List.set_cons_succ]
                refine seqI_take (v := .pointer (some ⟨g, n - 1, none⟩)) rfl (fun W9 hW => by go_simp; intro h; omega) (fun _ _ _ h => h) ?_
                simp only [Act.put, List.setIfInBounds_toArray, List.set_cons_zero, List.set_cons_succ]
                refine seqI_take (v := .string xb) rfl (fun W9 hW => by have q0 := HC0.out W9 hW; go_simp) (fun _ _ _ h => h) ?_
                simp only [Act.put, List.setIfInBounds_toArray, List.set_cons_zero, List.set_cons_succ]
                refine seqI_take (v := .int .i64 n) rfl (fun W9 hW => by go_simp) (fun _ _ _ h => h) ?_
                simp only [Act.put, List.setIfInBounds_toArray, List.set_cons_zero, List.set_cons_succ]
                refine seqI_take (v := .int .i64 ((n : Int) - 1)) rfl (fun W9 hW => by have q0 := HW1.out; go_simp) (fun _ _ _ h => h) ?_
                simp only [Act.put, List.setIfInBounds_toArray, List.set_cons_zero, List.set_cons_succ]
                refine seqI_take (v := .pointer (some ⟨g, n - 1, none⟩)) rfl (fun W9 hW => by go_simp; intro h; omega) (fun _ _ _ h => h) ?_
                simp only [Act.put, List.setIfInBounds_toArray, List.set_cons_zero, List.set_cons_succ]
                refine seqI_take (v := .string xb) rfl (fun W9 hW => by have q0 := HC0.out W9 hW; go_simp) (fun _ _ _ h => h) ?_
                simp only [Act.put, List.setIfInBounds_toArray, List.set_cons_zero, List.set_cons_succ]
                refine seqI_do rfl (wp_made (v := .int .i64 fx) (by have q0 := HSX.out; go_simp) ⟨R0.out, ?_⟩)
                simp only [Act.put, List.setIfInBounds_toArray, List.set_cons_zero, List.set_cons_succ]
                refine seqI_call 33 #[.agg #[.slice ca cn cc, .slice ha hn hcp], v, .string xb, .int .i64 0, .int .i64 fx] rfl (by go_simp) (HCL.out fx HFX.out) ?_
                rintro e w5 ⟨he, hb⟩
                have O6 := Lib.hid (own_more O5.out hb)
                have B6 := Lib.hid (ext_trans B5.out hb)
                have R1 := Lib.hid hb
                clear hb O5 B5 HSX HCL HFX hn0 hnn hnt HNT R0 HC0 HPL
                rcases he with rfl | ⟨y, hy, hyl, rfl⟩
                · refine ⟨_, rfl, R1.out, ?_⟩
                  simp only [Act.put, List.setIfInBounds_toArray, List.set_cons_zero, List.set_cons_succ]
                  refine seqI_take (v := .tuple #[.string ⟨#[]⟩, .bool false]) rfl (fun W9 hW => by go_simp) (fun _ _ _ h => h) ?_
                  simp only [Act.put, List.setIfInBounds_toArray, List.set_cons_zero, List.set_cons_succ]
                  refine seqI_take (v := .string ⟨#[]⟩) rfl (fun W9 hW => by go_simp) (fun _ _ _ h => h) ?_
                  simp only [Act.put, List.setIfInBounds_toArray, List.set_cons_zero, List.set_cons_succ]
                  refine seqI_take (v := .bool false) rfl (fun W9 hW => by go_simp) (fun _ _ _ h => h) ?_
                  simp only [Act.put, List.setIfInBounds_toArray, List.set_cons_zero, List.set_cons_succ]
                  refine seqI_take (v := .string ⟨#[]⟩) rfl (fun W9 hW => by go_simp) (fun _ _ _ h => h) ?_
                  simp only [Act.put, List.setIfInBounds_toArray, List.set_cons_zero, List.set_cons_succ]
                  refine seqI_take (v := .bool false) rfl (fun W9 hW => by go_simp) (fun _ _ _ h => h) ?_
                  simp only [Act.put, List.setIfInBounds_toArray, List.set_cons_zero, List.set_cons_succ]
                  refine seqI_nil ?_
                  have HE : Hid (ChainP fs k w (.returned (.tuple #[.slice (some ⟨g, 0, none⟩) n c, .int .i64 0])) w5) := ⟨Or.inl ⟨_, cs, rfl, HCH.out, by rw [← HN.out]; exact own_le O6.out HB4.out.size⟩, ext_trans HB4.out B6.out⟩
                  as_aux_lemma =>
                    go_wp2_with fail
                    go_ret2
                    exact HE.out
                refine ⟨_, rfl, R1.out, ?_⟩
                simp only [Act.put, List.setIfInBounds_toArray, List.set_cons_zero, List.set_cons_succ]
                obtain ⟨tb, htb⟩ : ∃ tb : ByteArray, tb = ⟨(lineK y.to_).toArray⟩ := ⟨_, rfl⟩
                have HTB := Lib.hid htb
                rw [← htb]
                clear htb
                refine seqI_take (v := .tuple #[.string tb, .bool true]) rfl (fun W9 hW => by go_simp) (fun _ _ _ h => h) ?_
                simp only [Act.put, List.setIfInBounds_toArray, List.set_cons_zero, List.set_cons_succ]
                refine seqI_take (v := .string tb) rfl (fun W9 hW => by go_simp) (fun _ _ _ h => h) ?_
                simp only [Act.put, List.setIfInBounds_toArray, List.set_cons_zero, List.set_cons_succ]
                refine seqI_take (v := .bool true) rfl (fun W9 hW => by go_simp) (fun _ _ _ h => h) ?_
                simp only [Act.put, List.setIfInBounds_toArray, List.set_cons_zero, List.set_cons_succ]
                refine seqI_take (v := .string tb) rfl (fun W9 hW => by go_simp) (fun _ _ _ h => h) ?_
                simp only [Act.put, List.setIfInBounds_toArray, List.set_cons_zero, List.set_cons_succ]
                refine seqI_take (v := .bool true) rfl (fun W9 hW => by go_simp) (fun _ _ _ h => h) ?_
                simp only [Act.put, List.setIfInBounds_toArray, List.set_cons_zero, List.set_cons_succ]
                refine seqI_nil ?_
                have HLN : Hid (y.line.val = (cs.getD (cs.length - 1) 0).val) := by show _ = _; rw [hyl, HX.out, HN.out]
                have HY := Lib.hid hy
                clear hy hyl
                have HCC : Hid (Calls Tryz.prog 11 #[.slice (some ⟨g, 0, none⟩) n c, .string tb] w5 fun e w' => e = .returned (.bool (decide (y.to_ ∈ cs))) ∧ w' = w5) := by
                  have := contains_own O6.out (by omega) (lineK y.to_)
                  rw [← HTB.out] at this
                  rw [show decide (y.to_ ∈ cs) = decide (lineK y.to_ ∈ cs.map (fun c => lineK c.val)) from decide_eq_decide.2 (mem_lines y.to_).symm]
                  exact this
                as_aux_lemma =>
                  go_wp2_with fail
                  refine HCC.out.mono ?_
                  rintro e w6 ⟨rfl, rfl⟩
                  clear HCC
                  by_cases hm : y.to_ ∈ cs
                  · have HE : Hid (ChainP fs k w (.returned (.tuple #[.slice none 0 0, .int .i64 14])) w6) := ⟨Or.inr ⟨rfl, _, HCH.out.loop HY.out HLN.out hm⟩, ext_trans HB4.out B6.out⟩
                    rw [decide_eq_true hm]
                    clear hm
                    as_aux_lemma =>
                      go_wp2_with fail
                      go_ret2
                      exact HE.out
                  rw [decide_eq_false hm]
                  have HC2 := Lib.hid (HCH.out.snoc HY.out HLN.out hm)
                  have hn4 : n + 1 ≤ 5 := by have := HC2.out.len; have := HN.out; simp at *; omega
                  clear hm HCH HLN HY HX
                  have hn10 : ((n : Int) == 10) = false := by simp; omega
                  have hml : n + 1 ≤ maxLen := by unfold maxLen; omega
                  have hbs : (n + 1) * 16 ≤ 140737488355328 := by omega
                  have hwb : w4.heap.size ≤ (w6.alloc (.cells #[.string tb] 9)).heap.size := by have := B6.out.size; simp; omega
                  have O7 : Hid ((w6.alloc (.cells #[.string tb] 9)).ownsRow w4.heap.size 9 1 (.slice (some ⟨g, 0, none⟩) n c) n ((cs.map (fun c => lineK c.val)).map encS)) := own_more O6.out (ext_alloc (Below.refl _ _))
                  have B7 : Hid (Below w4.heap.size w4 (w6.alloc (.cells #[.string tb] 9))) := ext_alloc B6.out
                  clear O6 B6 R1
                  as_aux_lemma =>
                    go_wp2_with (at_builtin; refine wpList_append_own _ rfl (.tmp 70) (.tmp 72) 33 rfl w4.heap.size 9 i0 (.string ⟨#[]⟩) 1 16 Tryz.underlying33 hi hz0 hz1 hz2 rfl (by decide) (.slice (some ⟨g, 0, none⟩) n c) n ((cs.map (fun c => lineK c.val)).map encS) rfl O7.out ⟨w6.heap.size, 0, none⟩ 1 1 [.string tb] rfl rfl (news_one (by go_simp)) (by simp [Value.oneCell']) hml hbs hwb ?_; intro v8 w8 hown8 hgr8 _)
                    have HO8 : Hid (w8.ownsRow w4.heap.size 9 1 v8 (n + 1) (((cs ++ [y.to_]).map (fun c => lineK c.val)).map encS)) := by
                      show World.ownsRow _ _ _ _ _ _ _
                      rw [List.map_append, List.map_append]
                      rw [HTB.out] at hown8
                      exact hown8
                    have HB8 : Hid (Below w4.heap.size w4 w8) := B7.out.grown hgr8 B7.out.size (fun b e => by have e : some g = some b := e; injection e with e; omega)
                    have HN8 : Hid (n + 1 = (cs ++ [y.to_]).length) := by show _ = _; rw [List.length_append, ← HN.out]; rfl
                    clear hown8 hgr8 O7 B7 hwb hml hbs hn10
                    obtain ⟨g8, c8, rfl, hg8, -⟩ := own_row1 HO8.out
                    go_roundw
                    case rel => exact ⟨cs ++ [y.to_], n + 1, g8, c8, rfl, by omega, hn4, hg8, HN8, HO8, HC2, HB8⟩
                    case measure => simp [rowN]; omega
end Go.Proofs.YtkdadbpajhdelaaGreatDoor

set_option linter.unusedVariables false
set_option linter.unusedSimpArgs false
namespace Go.Proofs.YtkdadbpajhdelaaGreatDoor
open Go.RowKit

/-- Where the forwards of a line lead. -/
def outsF (fs : List Fwd) (i : Nat) : List (Fin 5) := (fs.filter (fun f => decide (f.line.val = i))).map Fwd.to_
theorem mem_outs {fs : List Fwd} {i : Nat} {t : Fin 5} : t ∈ outsF fs i ↔ ∃ f ∈ fs, f.line.val = i ∧ f.to_ = t := by
  unfold outsF
  simp only [List.mem_map, List.mem_filter, decide_eq_true_eq]
  exact ⟨fun ⟨f, ⟨h1, h2⟩, h3⟩ => ⟨f, h1, h2, h3⟩, fun ⟨f, h1, h2, h3⟩ => ⟨f, ⟨h1, h2⟩, h3⟩⟩
theorem outs_nil (i : Nat) : outsF [] i = [] := rfl
theorem outs_snoc (fs : List Fwd) (j : Nat) (hj : j < fs.length) (i : Nat) : outsF (fs.take (j + 1)) i = if i = (fs.getD j default).line.val then outsF (fs.take j) i ++ [(fs.getD j default).to_] else outsF (fs.take j) i := by
  unfold outsF
  rw [List.take_add_one, List.getElem?_eq_getElem hj, List.getD_eq_getElem?_getD, List.getElem?_eq_getElem hj, List.filter_append, List.map_append]
  simp only [Option.toList_some, Option.getD_some]
  by_cases h : i = fs[j].line.val
  · rw [if_pos h, List.filter_cons, if_pos (decide_eq_true h.symm)]; rfl
  · rw [if_neg h, List.filter_cons, if_neg (by rw [decide_eq_true_eq]; exact fun e => h e.symm)]; simp
theorem Way.outs {fs : List Fwd} {a b : Nat} (h : Way fs a b) : outsF fs a ≠ [] := by
  cases h with
  | one h => exact List.ne_nil_of_mem (mem_outs.2 ⟨_, h, rfl, rfl⟩)
  | more h _ => exact List.ne_nil_of_mem (mem_outs.2 ⟨_, h, rfl, rfl⟩)
theorem outs_len (fs : List Fwd) (i : Nat) : (outsF fs i).length ≤ fs.length := by
  unfold outsF
  rw [List.length_map]
  exact List.length_filter_le _ _
/-- A search from the forwards of line i. -/
structure Bfs (fs : List Fwd) (i : Nat) (seen Q : List (Fin 5)) : Prop where
  first : ∀ t ∈ outsF fs i, t ∈ seen ∨ t ∈ Q
  next : ∀ x ∈ seen, ∀ t ∈ outsF fs x.val, t ∈ seen ∨ t ∈ Q
theorem Bfs.start (fs : List Fwd) (i : Nat) : Bfs fs i [] (outsF fs i) := ⟨fun t h => Or.inr h, fun x h => by cases h⟩
theorem Bfs.skip {fs : List Fwd} {i : Nat} {seen Q : List (Fin 5)} {x : Fin 5} (h : Bfs fs i seen (x :: Q)) (hx : x ∈ seen) : Bfs fs i seen Q := by
  have key : ∀ t, t ∈ seen ∨ t ∈ x :: Q → t ∈ seen ∨ t ∈ Q := fun t ht => by
    rcases ht with ht | ht
    · exact Or.inl ht
    · rcases List.mem_cons.1 ht with rfl | ht
      · exact Or.inl hx
      · exact Or.inr ht
  exact ⟨fun t ht => key t (h.first t ht), fun y hy t ht => key t (h.next y hy t ht)⟩
theorem Bfs.step {fs : List Fwd} {i : Nat} {seen Q : List (Fin 5)} {x : Fin 5} (h : Bfs fs i seen (x :: Q)) : Bfs fs i (seen ++ [x]) (Q ++ outsF fs x.val) := by
  have key : ∀ t, t ∈ seen ∨ t ∈ x :: Q → t ∈ seen ++ [x] ∨ t ∈ Q ++ outsF fs x.val := fun t ht => by
    rcases ht with ht | ht
    · exact Or.inl (List.mem_append_left _ ht)
    · rcases List.mem_cons.1 ht with rfl | ht
      · exact Or.inl (List.mem_append_right _ (List.mem_singleton.2 rfl))
      · exact Or.inr (List.mem_append_left _ ht)
  refine ⟨fun t ht => key t (h.first t ht), fun y hy t ht => ?_⟩
  rcases List.mem_append.1 hy with hy | hy
  · exact key t (h.next y hy t ht)
  · rw [List.mem_singleton] at hy
    subst hy
    exact Or.inr (List.mem_append_right _ ht)
theorem Bfs.fin {fs : List Fwd} {i : Nat} {seen : List (Fin 5)} (h : Bfs fs i seen []) {y : Nat} (hw : Way fs i y) : ∃ t ∈ seen, t.val = y := by
  have hc : ∀ x ∈ seen, ∀ t ∈ outsF fs x.val, t ∈ seen := fun x hx t ht => (h.next x hx t ht).elim id (fun h => by cases h)
  have hf : ∀ t ∈ outsF fs i, t ∈ seen := fun t ht => (h.first t ht).elim id (fun h => by cases h)
  clear h
  induction hw with
  | one h => exact ⟨_, hf _ (mem_outs.2 ⟨_, h, rfl, rfl⟩), rfl⟩
  | more h t ih => exact ih (hc _ (hf _ (mem_outs.2 ⟨_, h, rfl, rfl⟩)))
/-- What may still come into the queue. -/
def costB (fs : List Fwd) (seen : List (Fin 5)) : Nat := (if (0 : Fin 5) ∈ seen then 0 else (outsF fs 0).length) + (if (1 : Fin 5) ∈ seen then 0 else (outsF fs 1).length) + (if (2 : Fin 5) ∈ seen then 0 else (outsF fs 2).length) + (if (3 : Fin 5) ∈ seen then 0 else (outsF fs 3).length) + (if (4 : Fin 5) ∈ seen then 0 else (outsF fs 4).length)
theorem costB_le (fs : List Fwd) (seen : List (Fin 5)) : costB fs seen ≤ 5 * fs.length := by
  unfold costB
  have h0 := outs_len fs 0
  have h1 := outs_len fs 1
  have h2 := outs_len fs 2
  have h3 := outs_len fs 3
  have h4 := outs_len fs 4
  repeat' split
  all_goals omega
theorem mem_snoc5 {seen : List (Fin 5)} {x y : Fin 5} : y ∈ seen ++ [x] ↔ y ∈ seen ∨ y = x := by simp
theorem costB_step (fs : List Fwd) (seen : List (Fin 5)) (x : Fin 5) (hx : x ∉ seen) : costB fs (seen ++ [x]) + (outsF fs x.val).length = costB fs seen := by
  unfold costB
  simp only [mem_snoc5]
  rcases x with ⟨v, hv⟩
  have hcase : v = 0 ∨ v = 1 ∨ v = 2 ∨ v = 3 ∨ v = 4 := by omega
  rcases hcase with rfl | rfl | rfl | rfl | rfl
  · have h0 : ¬ (0 : Fin 5) ∈ seen := hx
    simp [h0]; omega
  · have h0 : ¬ (1 : Fin 5) ∈ seen := hx
    simp [h0]; omega
  · have h0 : ¬ (2 : Fin 5) ∈ seen := hx
    simp [h0]; omega
  · have h0 : ¬ (3 : Fin 5) ∈ seen := hx
    simp [h0]; omega
  · have h0 : ¬ (4 : Fin 5) ∈ seen := hx
    simp [h0]
end Go.Proofs.YtkdadbpajhdelaaGreatDoor

set_option linter.unusedVariables false
set_option linter.unusedSimpArgs false
namespace Go.Proofs.YtkdadbpajhdelaaGreatDoor
open Go.RowKit

/-- A queue: n elements of some cells each, anywhere in a block of the call's own. -/
structure QRow (w : World) (base : Nat) (e : TypeId) (size : Nat) (v : Value) (n : Nat) (xs : List Value) : Prop where
  len : xs.length = n * size
  row : ∃ g off cap cur, v = .slice (some ⟨g, off, none⟩) n cap ∧ base ≤ g ∧ w.heap[g]? = some (.cells cur e (0, 0)) ∧ n ≤ cap ∧ cap ≤ maxLen ∧ (cap ≠ 0 → off + cap * size ≤ cur.size) ∧ (cur.toList.drop off).take (n * size) = xs
theorem QRow.keep {w w' : World} {base : Nat} {e : TypeId} {size : Nat} {v : Value} {n : Nat} {xs : List Value} (h : QRow w base e size v n xs) (hk : ∀ k, k < w.heap.size → base ≤ k → w'.heap[k]? = w.heap[k]?) : QRow w' base e size v n xs := by
  obtain ⟨h1, g, off, cap, cur, h2, h3, h4, h5⟩ := h
  refine ⟨h1, g, off, cap, cur, h2, h3, ?_, h5⟩
  rw [hk g (by
    rcases Nat.lt_or_ge g w.heap.size with h | h
    · exact h
    · rw [Array.getElem?_eq_none h] at h4; cases h4) h3]
  exact h4
theorem QRow.below {w w' : World} {base : Nat} {e : TypeId} {size : Nat} {v : Value} {n : Nat} {xs : List Value} (h : QRow w base e size v n xs) (hb : Below w.heap.size w w') : QRow w' base e size v n xs := h.keep fun k hk _ => hb.block k hk
theorem QRow.form {w : World} {base : Nat} {e : TypeId} {size : Nat} {v : Value} {n : Nat} {xs : List Value} (h : QRow w base e size v n xs) : ∃ g off cap, v = .slice (some ⟨g, off, none⟩) n cap ∧ base ≤ g ∧ g < w.heap.size ∧ n ≤ cap ∧ cap ≤ maxLen ∧ ∀ j u, xs[j]? = some u → w.cell? ⟨g, off + j, none⟩ = some u := by
  obtain ⟨h1, g, off, cap, cur, h2, h3, h4, h5, h6, h7, h8⟩ := h
  refine ⟨g, off, cap, h2, h3, ?_, h5, h6, fun j u hj => ?_⟩
  · rcases Nat.lt_or_ge g w.heap.size with h | h
    · exact h
    · rw [Array.getElem?_eq_none h] at h4; cases h4
  · have hj2 : j < xs.length := (List.getElem?_eq_some_iff.1 hj).1
    rw [← h8, List.getElem?_take_of_lt (by omega), List.getElem?_drop] at hj
    simp only [World.cell?, h4]
    simpa using hj
theorem qrow_own {w : World} {base : Nat} {e : TypeId} {size : Nat} {v : Value} {n : Nat} {xs : List Value} (h : w.ownsRow base e size v n xs) (hn : 0 < n) : QRow w base e size v n xs := by
  obtain ⟨h1, h2 | ⟨g, cap, cur, hv, hb, hg, hnc, hcm, hcs, ht⟩⟩ := h
  · omega
  · exact ⟨h1, g, 0, cap, cur, hv, hb, hg, hnc, hcm, fun _ => by rw [hcs]; omega, by rw [List.drop_zero]; exact ht⟩
/-- The head is cut off. -/
theorem QRow.cut {w : World} {base : Nat} {e : TypeId} {size n cap g off : Nat} {ys xs : List Value} (hy : ys.length = size) (h : QRow w base e size (.slice (some ⟨g, off, none⟩) (n + 1) cap) (n + 1) (ys ++ xs)) :
    QRow w base e size (.slice (some (if cap = 1 then ⟨g, off, none⟩ else ⟨g, off + size, none⟩)) n (cap - 1)) n xs := by
  obtain ⟨h1, g', off', cap', cur, h2, h3, h4, h5, h6, h7, h8⟩ := h
  injection h2 with e1 e2 e3
  injection e1 with e1
  injection e1 with e1 e4
  subst e1 e3 e4
  have hxl : xs.length = n * size := by
    rw [List.length_append, Nat.add_mul, Nat.one_mul] at h1
    omega
  by_cases hc : cap = 1
  · subst hc
    have : n = 0 := by omega
    subst this
    rw [if_pos rfl]
    refine ⟨hxl, g, off, 0, cur, rfl, h3, h4, Nat.le_refl _, Nat.zero_le _, fun h => absurd rfl h, ?_⟩
    have : xs = [] := List.eq_nil_of_length_eq_zero (by omega)
    rw [this]
    simp
  · rw [if_neg hc]
    refine ⟨hxl, g, off + size, cap - 1, cur, rfl, h3, h4, by omega, by omega, fun h => ?_, ?_⟩
    · have := h7 (by omega)
      have e : cap * size = (cap - 1) * size + size := by
        obtain ⟨c, rfl⟩ : ∃ c, cap = c + 1 := ⟨cap - 1, by omega⟩
        rw [Nat.add_sub_cancel, Nat.add_mul, Nat.one_mul]
      omega
    · have e : (n + 1) * size = size + n * size := by rw [Nat.add_mul, Nat.one_mul]; omega
      rw [e] at h8
      have h9 := congrArg (List.drop size) h8
      rw [List.drop_take, List.drop_drop, List.drop_left' hy] at h9
      rw [← h9]
      congr 1
      omega

section
variable {P : Program} (w : World)
theorem run_append_room_off (t ty e : TypeId) (i : TypeInfo) (ht : P.underlying t = some (.slice e)) (hi : P.info? e = some i)
    (g off sLen sCap : Nat) (cur : Array Value) (hg : w.heap[g]? = some (.cells cur e (0, 0)))
    (a : Addr) (m c : Nat) (news : List Value) (hl : news.length = m * i.size) (hnews : ∀ j u, news[j]? = some u → w.cell? (a.add j) = some u) (h1 : ∀ u ∈ news, u.oneCell' = true)
    (hroom : sLen + m ≤ sCap) (hfit : off + sLen * i.size + news.length ≤ cur.size) :
    (Builtin.append_ #[t, t] ty #[.slice (some ⟨g, off, none⟩) sLen sCap, .slice (some a) m c]).run P w =
      .ok (.slice (some ⟨g, off, none⟩) (sLen + m) sCap) (w.setRow g (cur.toList.take (off + sLen * i.size) ++ news ++ cur.toList.drop (off + sLen * i.size + news.length)).toArray) := by
  have hf := run_firstCells_some (P := P) w i.size m a m c news hl hnews
  have hst := run_storeCells_at P g (off + sLen * i.size) e news 0 cur w hg (by simpa using hfit) h1
  simp only [Nat.add_zero] at hst
  have ha : (⟨g, off, none⟩ : Addr).add (sLen * i.size) = ⟨g, off + sLen * i.size, none⟩ := by simp [Addr.add]
  simp [Builtin.append_, run_underlying ht, sizeOf, typeInfo, hi, Builtin.lenOf, hroom, hf, ha, hst]

theorem run_append_que (base : Nat) (t ty e : TypeId) (i : TypeInfo) (z : Value) (size bytes : Nat) (ht : P.underlying t = some (.slice e)) (hi : P.info? e = some i) (hz : i.zero = some z)
    (hsize : i.size = size) (hby : i.bytes = bytes) (hzs : z.cells.size = size) (hsz : 0 < size)
    (v : Value) (n : Nat) (xs : List Value) (hown : QRow w base e size v n xs)
    (a : Addr) (m c : Nat) (news : List Value) (hl : news.length = m * size) (hnews : ∀ j u, news[j]? = some u → w.cell? (a.add j) = some u) (h1 : ∀ u ∈ news, u.oneCell' = true)
    (h63 : n + m ≤ maxLen) (hbytes : (n + m) * bytes ≤ 140737488355328) (hbase : base ≤ w.heap.size) (hm : 0 < m) :
    ∃ v' w', (Builtin.append_ #[t, t] ty #[v, .slice (some a) m c]).run P w = .ok v' w' ∧ QRow w' base e size v' (n + m) (xs ++ news) ∧ w.grownBy w' v.ownBlock ∧ (v'.ownBlock = v.ownBlock ∨ v'.ownBlock = some w.heap.size) := by
  subst hsize
  subst hby
  have hsmall : n + m ≤ 9223372036854775807 := by simp only [maxLen] at h63; omega
  have hlen : (xs ++ news).length = (n + m) * i.size := by rw [List.length_append, hown.len, hl, Nat.add_mul]
  obtain ⟨h0, g, off, cap, cur, rfl, hbg, hg, hnc, hcm, hcs, htake⟩ := hown
  by_cases hroom : n + m ≤ cap
  · have hcs' := hcs (by omega)
    have hmul : (n + m) * i.size ≤ cap * i.size := Nat.mul_le_mul_right _ hroom
    rw [Nat.add_mul] at hmul
    have hfit : off + n * i.size + news.length ≤ cur.size := by rw [hl]; omega
    have hr := run_append_room_off (P := P) w t ty e i ht hi g off n cap cur hg a m c news hl hnews h1 hroom hfit
    refine ⟨_, _, hr, ⟨hlen, g, off, cap, _, rfl, hbg, setRow_heap w g cur _ e _ hg, hroom, hcm, fun _ => ?_, ?_⟩, ⟨rfl, rfl, rfl, by simp, fun k _ hk => setRow_other w g k _ (fun e => hk (by simp [Value.ownBlock, e]))⟩, .inl rfl⟩
    · simp only [List.size_toArray, List.length_append, List.length_take, List.length_drop, Array.length_toList]
      omega
    · have hlt : (cur.toList.take (off + n * i.size)).length = off + n * i.size := by rw [List.length_take, Array.length_toList]; omega
      show ((cur.toList.take (off + n * i.size) ++ news ++ cur.toList.drop (off + n * i.size + news.length)).drop off).take _ = _
      rw [List.append_assoc, List.drop_append_of_le_length (by omega), List.drop_take, show off + n * i.size - off = n * i.size by omega, htake, ← List.append_assoc, ← hlen]
      exact List.take_left
  · have holds : ∀ j u, xs[j]? = some u → w.cell? ((⟨g, off, none⟩ : Addr).add j) = some u := fun j u hj => by
      have hj2 : j < xs.length := (List.getElem?_eq_some_iff.1 hj).1
      rw [← htake, List.getElem?_take_of_lt (by omega), List.getElem?_drop] at hj
      rw [show (⟨g, off, none⟩ : Addr).add j = ⟨g, off + j, none⟩ by simp [Addr.add]]
      simp only [World.cell?, hg]
      simpa using hj
    have hr := run_append_grow (P := P) w t ty e i z ht hi hz ⟨g, off, none⟩ n cap xs h0 holds a m c news hl hnews (by omega) (by omega) (growslice_fits (by omega) hbytes)
    have hge := grownCap_ge w (n + m) cap e
    have hcm2 : grownCap w (n + m) cap e ≤ maxLen := grownCap_le_maxLen w (n + m) cap e h63
    refine ⟨_, _, hr, ⟨hlen, w.heap.size, 0, _, _, rfl, hbase, heap_alloc_new w.drew _, hge, hcm2, fun _ => ?_, ?_⟩, ⟨rfl, rfl, rfl, by simp, fun k hk _ => Below.heap_alloc w.drew _ k hk⟩, .inr rfl⟩
    · simp only [Array.size_append, List.size_toArray, size_zeroCells, hzs, h0, hl, ← Nat.add_mul, Nat.zero_add]
      rw [show n + m + (grownCap w (n + m) cap e - (n + m)) = grownCap w (n + m) cap e by omega]
      exact Nat.le_refl _
    · simp only [Array.toList_append, List.append_assoc, List.drop_zero]
      rw [← List.append_assoc, ← hlen]
      exact List.take_left

/-- At the operation, for the walk. -/
theorem wpList_append_que {ops : Array Oper} {rest : List Oper} {o : Oper} {a : Act} {Q : Exit → Act → World → Prop} (hgd : o.guard = none) (s x : Operand) (t : TypeId)
    (ho : o.op = .call { callee := .builtin .append, args := #[s, x], argTypes := #[t, t] })
    (base : Nat) (e : TypeId) (i : TypeInfo) (z : Value) (size bytes : Nat) (ht : P.underlying t = some (.slice e)) (hi : P.info? e = some i) (hz : i.zero = some z)
    (hsize : i.size = size) (hby : i.bytes = bytes) (hzs : z.cells.size = size) (hsz : 0 < size)
    (v : Value) (n : Nat) (xs : List Value) (hs : a.eval s = v) (hown : QRow w base e size v n xs)
    (ad : Addr) (m c : Nat) (news : List Value) (hx : a.eval x = .slice (some ad) m c) (hl : news.length = m * size) (hnews : ∀ j u, news[j]? = some u → w.cell? (ad.add j) = some u) (h1 : ∀ u ∈ news, u.oneCell' = true)
    (h63 : n + m ≤ maxLen) (hbytes : (n + m) * bytes ≤ 140737488355328) (hbase : base ≤ w.heap.size) (hm : 0 < m)
    (h : ∀ v' w', QRow w' base e size v' (n + m) (xs ++ news) → w.grownBy w' v.ownBlock → (v'.ownBlock = v.ownBlock ∨ v'.ownBlock = some w.heap.size) → wpList P ops Q rest (a.put o.dst v') w') :
    wpList P ops Q (o :: rest) a w := by
  refine wpList_plain hgd fun K hK => ?_
  obtain ⟨v', w', hr, h2, h3, h4⟩ := run_append_que (P := P) w base t o.type e i z size bytes ht hi hz hsize hby hzs hsz v n xs hown ad m c news hl hnews h1 h63 hbytes hbase hm
  unfold Oper.wp execOp
  simp only [ho, resolve, invoke, builtin, Sem.run_bind, Sem.run_pure, Result.andThen_ok, List.map_toArray, List.map_cons, List.map_nil, hs, hx, hr]
  exact hK _ _ (h v' w' h2 h3 h4)

theorem run_cut_que (t e : TypeId) (i : TypeInfo) (ht : P.underlying t = some (.slice e)) (hi : P.info? e = some i) (ad : Addr) (n cap : Nat) (hn : n + 1 ≤ cap) :
    (Instr.slice t (.slice (some ad) (n + 1) cap) (some (.int .i64 1)) none none).run P w = .ok (.slice (some (if cap = 1 then ad else ad.add i.size)) n (cap - 1)) w := by
  by_cases h1 : cap = 1
  · subst h1
    obtain rfl : n = 0 := by omega
    simp [Instr.slice, Instr.sliceBounds, Instr.sliceBound, run_underlying ht, sizeOf, typeInfo, hi, asIntOf]
  · have h2 : (1 : Int) ≤ (n : Int) + 1 := by omega
    simp [Instr.slice, Instr.sliceBounds, Instr.sliceBound, run_underlying ht, sizeOf, typeInfo, hi, asIntOf, h1, h2]
/-- The head is cut off, at the operation. -/
theorem wpList_cut_que {ops : Array Oper} {rest : List Oper} {o : Oper} {a : Act} {Q : Exit → Act → World → Prop} (hgd : o.guard = none) (x : Operand) (t : TypeId)
    (ho : o.op = .slice t x (some (.const (.int .i64 1))) none none) (e : TypeId) (i : TypeInfo) (ht : P.underlying t = some (.slice e)) (hi : P.info? e = some i) (ad : Addr) (n cap : Nat) (hx : a.eval x = .slice (some ad) (n + 1) cap) (hn : n + 1 ≤ cap)
    (h : wpList P ops Q rest (a.put o.dst (.slice (some (if cap = 1 then ad else ad.add i.size)) n (cap - 1))) w) :
    wpList P ops Q (o :: rest) a w := by
  refine wpList_plain hgd fun K hK => ?_
  have hr : (Instr.sliceAt t (.slice (some ad) (n + 1) cap) (some (.int .i64 1)) none none).run P w = .ok (.slice (some (if cap = 1 then ad else ad.add i.size)) n (cap - 1)) w := by
    simp only [Instr.sliceAt, Sem.run_bind, run_underlying ht, Result.andThen_ok]
    exact run_cut_que (P := P) w t e i ht hi ad n cap hn
  have he : a.eval (.const (.int .i64 1)) = .int .i64 1 := rfl
  unfold Oper.wp
  simp only [execOp, ho, Option.map_some, Option.map_none, hx, he, Sem.run_bind, hr, Result.andThen_ok, Sem.run_pure]
  exact hK _ _ h
end
end Go.Proofs.YtkdadbpajhdelaaGreatDoor
