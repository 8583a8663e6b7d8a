/- What is proved here: lemmas and contracts for the statement, put together out of smaller texts (DplRing, DplChk, GbBase, DplOrd, DplOpn, DplPl, DplPg, DplTb, DplPq). No condition beyond those stated. -/
import Derived.Test.YtamlhapiehchoaaGreatDoorHnPkF
import Derived.Test.YtamlhapiehchoaaGreatDoorHnPkB
import Derived.Laws.EntriesVeiled
import Derived.Test.YtamlhapiehchoaaGreatDoorHnPkE
import Derived.Laws.AppendOwn
import Derived.Maps.AppendAt
set_option linter.unusedVariables false
set_option linter.unusedSimpArgs false
namespace Go.Proofs.YtamlhapiehchoaaGreatDoor
open Go.RowKit Go.Lib

/-- What the function works on: the states of the contexts, the plan and itself. -/
structure RingW (w0 : World) (pv : List Value) (St P Rg sb : Nat) (s : Nat → Int) (W : World) : Prop where
  below : Below w0.heap.size w0 W
  st : W.cell? ⟨St, 0, none⟩ = some (.slice (some ⟨sb, 0, none⟩) 3 3)
  pl : ∀ j v, pv[j]? = some v → W.cell? ⟨P, j, none⟩ = some v
  rg : W.cell? ⟨Rg, 0, none⟩ = some (.func (.func 111) #[] #[.pointer (some ⟨St, 0, none⟩), .pointer (some ⟨P, 0, none⟩), .pointer (some ⟨Rg, 0, none⟩)])
  arr : ∀ j, j < 3 → W.cell? ⟨sb, j, none⟩ = some (.int .i64 (s j))
  fro : ∀ j, W.frozen? ⟨sb, j, none⟩ = false
  lt : St < W.heap.size ∧ P < W.heap.size ∧ Rg < W.heap.size ∧ sb < W.heap.size
  ge : w0.heap.size ≤ sb
  ne : St ≠ sb ∧ P ≠ sb ∧ Rg ≠ sb
theorem RingW.more {w0 : World} {pv : List Value} {St P Rg sb : Nat} {s : Nat → Int} {W W' : World} (h : RingW w0 pv St P Rg sb s W) (hb : Below W.heap.size W W') : RingW w0 pv St P Rg sb s W' := by
  obtain ⟨h1, h2, h3, h4⟩ := h.lt
  exact ⟨ext_trans h.below hb, (hb.cell (p := ⟨St, 0, none⟩) h1).trans h.st, fun j v hv => (hb.cell (p := ⟨P, j, none⟩) h2).trans (h.pl j v hv), (hb.cell (p := ⟨Rg, 0, none⟩) h3).trans h.rg, fun j hj => (hb.cell (p := ⟨sb, j, none⟩) h4).trans (h.arr j hj), fun j => (hb.frozen (p := ⟨sb, j, none⟩) h4).trans (h.fro j), ⟨Nat.lt_of_lt_of_le h1 hb.size, Nat.lt_of_lt_of_le h2 hb.size, Nat.lt_of_lt_of_le h3 hb.size, Nat.lt_of_lt_of_le h4 hb.size⟩, h.ge, h.ne⟩
def setS (s : Nat → Int) (i : Nat) (v : Int) : Nat → Int := fun j => if j = i then v else s j
theorem RingW.set {w0 : World} {pv : List Value} {St P Rg sb : Nat} {s : Nat → Int} {W : World} (h : RingW w0 pv St P Rg sb s W) {i : Nat} (hi : i < 3) (v : Int) : RingW w0 pv St P Rg sb (setS s i v) (W.setCell ⟨sb, i, none⟩ (.int .i64 v)) := by
  have hb : Below sb W (W.setCell ⟨sb, i, none⟩ (.int .i64 v)) := (Below.refl sb W).setCell (p := ⟨sb, i, none⟩) (Nat.le_refl _) _
  have hh : ∀ B, B ≠ sb → (W.setCell ⟨sb, i, none⟩ (.int .i64 v)).heap[B]? = W.heap[B]? := fun B hB => Below.heap_setCell _ _ _ _ hB
  have hcell : ∀ B j, B ≠ sb → (W.setCell ⟨sb, i, none⟩ (.int .i64 v)).cell? ⟨B, j, none⟩ = W.cell? ⟨B, j, none⟩ := fun B j hB => World.cell?_setCell_other _ _ _ _ (fun e => hB (by injection e with e1; exact e1.symm))
  have hsz : (W.setCell ⟨sb, i, none⟩ (.int .i64 v)).heap.size = W.heap.size := by simp [World.setCell]
  refine ⟨h.below.setCell (p := ⟨sb, i, none⟩) h.ge _, (hcell St 0 h.ne.1).trans h.st, fun j u hu => (hcell P j h.ne.2.1).trans (h.pl j u hu), (hcell Rg 0 h.ne.2.2).trans h.rg, fun j hj => ?_, fun j => ?_, by rw [hsz]; exact h.lt, h.ge, h.ne⟩
  · unfold setS
    by_cases hj2 : j = i
    · subst hj2
      rw [if_pos rfl]
      exact World.cell?_setCell_same _ _ _ (h.arr j hj)
    · rw [if_neg hj2]
      exact (World.cell?_setCell_other _ _ _ _ (fun e => hj2 (by injection e with e1 e2; exact e2.symm))).trans (h.arr j hj)
  · rw [World.frozen?_setCell]
    exact h.fro j
/-- The states from one on: not begun, or done. -/
def DoneS (i : Nat) (s : Nat → Int) : Prop := ∀ j, i ≤ j → j < 3 → s j = 0 ∨ s j = 2
def RingPost (w0 : World) (pv : List Value) (St P Rg sb : Nat) (s : Nat → Int) (i : Nat) (e : Ending) (W' : World) : Prop := e = .returned (.bool false) ∧ ∃ s', RingW w0 pv St P Rg sb s' W' ∧ DoneS i s' ∧ ∀ j, j < i → s' j = s j
set_option maxRecDepth 100000 in
set_option maxHeartbeats 8000000 in
theorem ring_any (w0 : World) (p : DPlan) (hp : DPlanFine w0 p) (St P Rg sb : Nat) : ∀ (f i : Nat), i + f = 3 → i < 3 → ∀ (s : Nat → Int) (W : World), RingW w0 p.cells St P Rg sb s W → DoneS i s →
    Calls Tryz.prog 111 #[.int .i64 i, .pointer (some ⟨St, 0, none⟩), .pointer (some ⟨P, 0, none⟩), .pointer (some ⟨Rg, 0, none⟩)] W (RingPost w0 p.cells St P Rg sb s i)
  | 0, i, h, hi, _, _, _, _ => absurd hi (by omega)
  | f + 1, i, hif, hi, s, W, hR, hD => by
    have HIH : Hid (∀ j, i < j → j < 3 → ∀ (s : Nat → Int) (W : World), RingW w0 p.cells St P Rg sb s W → DoneS j s → Calls Tryz.prog 111 #[.int .i64 j, .pointer (some ⟨St, 0, none⟩), .pointer (some ⟨P, 0, none⟩), .pointer (some ⟨Rg, 0, none⟩)] W (RingPost w0 p.cells St P Rg sb s j)) := fun j hij hj s W h1 h2 => by
      obtain ⟨f', hf'⟩ : ∃ f', j + f' = 3 ∧ f' ≤ f := ⟨3 - j, by omega, by omega⟩
      exact ring_any w0 p hp St P Rg sb f' j hf'.1 hj s W h1 h2
    have HCA : Hid (∀ j, j < 3 → ∀ W, Below w0.heap.size w0 W → Calls Tryz.prog 83 #[.agg p.cells.toArray, .string ⟨(ctxKey j).toArray⟩] W (IntP j W)) := fun j hj W hW => contextAt_any W p (hp.below hW) j hj
    have hc := hp.each i hi
    obtain ⟨hi3, -, hi2⟩ := hp.incs i hi
    have hlen := hp.len
    obtain ⟨g, go, ha0, hg, hcl⟩ := hp.at
    have HCL : Hid (∀ W, Below w0.heap.size w0 W → W.cell? ⟨g, go + i * 3 + 2, none⟩ = some (.slice (p.ctxs.getD i noDCtx).ia (p.ctxs.getD i noDCtx).inn (p.ctxs.getD i noDCtx).ic)) := fun W hW => (hW.cell (p := ⟨g, go + i * 3 + 2, none⟩) hg).trans (hcl i hi).2.2
    clear hp hcl
    generalize p.ctxs.getD i noDCtx = c at hc hi3 hi2 HCL
    obtain ⟨ca, cn, cc, ctxs, ha, hn, hcp, hrs⟩ := p
    obtain ⟨key, ra, rn, rc, rules, ia, inn, ic, incs⟩ := c
    simp only at ha0 hlen hi3 hi2 HCL
    subst ha0
    subst hlen
    have hil := hc.ilen
    simp only at hil
    have HIN : Hid (∀ q, q < inn → ∃ b off, ia = some ⟨b, off, none⟩ ∧ i < incs.getD q 0 ∧ incs.getD q 0 < 3 ∧ ∀ W, Below w0.heap.size w0 W → W.cell? ⟨b, off + q, none⟩ = some (.string ⟨(ctxKey (incs.getD q 0)).toArray⟩)) := fun q hq => by
      obtain ⟨b, off, e, hb, hcc⟩ := hc.inc (show 0 < inn by omega)
      have hm : incs.getD q 0 ∈ incs := by
        rw [List.getD_eq_getElem?_getD, List.getElem?_eq_getElem (by omega)]; exact List.getElem_mem _
      exact ⟨b, off, e, (hi3 _ hm).1, (hi3 _ hm).2, fun W hW => (hW.cell (p := ⟨b, off + q, none⟩) hb).trans (hcc q hq)⟩
    have hinn : inn ≤ 2 := by omega
    clear hc hi3 hi2 hil
    have HIH2 : Hid (∀ j, i < j → j < 3 → ∀ (s : Nat → Int) (W : World), RingW w0 [.slice (some ⟨g, go, none⟩) 3 cc, .slice ha hn hcp] St P Rg sb s W → DoneS j s → Calls Tryz.prog 111 #[.int .i64 j, .pointer (some ⟨St, 0, none⟩), .pointer (some ⟨P, 0, none⟩), .pointer (some ⟨Rg, 0, none⟩)] W (RingPost w0 [.slice (some ⟨g, go, none⟩) 3 cc, .slice ha hn hcp] St P Rg sb s j)) := HIH.out
    have HCA2 : Hid (∀ j, j < 3 → ∀ W, Below w0.heap.size w0 W → Calls Tryz.prog 83 #[.agg #[.slice (some ⟨g, go, none⟩) 3 cc, .slice ha hn hcp], .string ⟨(ctxKey j).toArray⟩] W (IntP j W)) := HCA.out
    have HR : Hid (RingW w0 [.slice (some ⟨g, go, none⟩) 3 cc, .slice ha hn hcp] St P Rg sb s W) := hR
    have HD := Lib.hid hD
    clear HIH HCA hR hD hif
    show Calls Tryz.prog 111 #[.int .i64 i, .pointer (some ⟨St, 0, none⟩), .pointer (some ⟨P, 0, none⟩), .pointer (some ⟨Rg, 0, none⟩)] W (RingPost w0 [.slice (some ⟨g, go, none⟩) 3 cc, .slice ha hn hcp] St P Rg sb s i)
    have hst := HR.out.st
    have hai := HR.out.arr i hi
    have hfi := HR.out.fro i
    have hi0 : ¬ ((i : Int) < 0) := by omega
    have hi3 : (i : Int) < 3 := by omega
    rcases HD.out i (Nat.le_refl _) hi with h0 | h2
    case inr =>
      rw [h2] at hai
      have HE : Hid (RingPost w0 [.slice (some ⟨g, go, none⟩) 3 cc, .slice ha hn hcp] St P Rg sb s i (.returned (.bool false)) W) := ⟨rfl, s, HR.out, HD.out, fun _ _ => rfl⟩
      clear HR HD HIH2 HCA2 HIN HCL h2
      go_enter Tryz.func111, Tryz.ntmps111
      as_aux_lemma =>
        go_wp2_with fail
        go_ret
        exact HE.out
    rw [h0] at hai
    go_enter Tryz.func111, Tryz.ntmps111
    have H1 : Hid (RingW w0 [.slice (some ⟨g, go, none⟩) 3 cc, .slice ha hn hcp] St P Rg sb (setS s i 1) (W.setCell ⟨sb, i, none⟩ (.int .i64 1))) := HR.out.set hi 1
    have HD1 : Hid (DoneS (i + 1) (setS s i 1)) := fun j h1 h2 => by unfold setS; rw [if_neg (by omega)]; exact HD.out j (by omega) h2
    have HS1 : Hid (∀ j, j < i → setS s i 1 j = s j) := fun j hj => by unfold setS; rw [if_neg (by omega)]
    have HI1 : Hid (setS s i 1 i = 1) := by show setS s i 1 i = 1; unfold setS; rw [if_pos rfl]
    have p0 := H1.out.pl 0 _ rfl
    have y2 := HCL.out _ H1.out.below
    clear HR HD h0
    as_aux_lemma =>
      go_upto_region 4 with (fail)
      generalize W.setCell ⟨sb, i, none⟩ (.int .i64 1) = W1 at H1 p0 y2 ⊢
      generalize setS s i 1 = s1 at H1 HD1 HS1 HI1
      clear hst hai hfi
      go_wp2_with fail
      go_loopw [28] (fun it wr => ∃ q : Nat, q ≤ inn ∧ it = .int .i64 q ∧ ∃ s2, Hid (RingW w0 [.slice (some ⟨g, go, none⟩) 3 cc, .slice ha hn hcp] St P Rg sb s2 wr) ∧ Hid (DoneS (i + 1) s2) ∧ Hid (∀ j, j < i → s2 j = s j) ∧ Hid (s2 i = 1)) (fun it _ => inn - (intOf it).toNat)
      case atStart => exact ⟨0, Nat.zero_le _, rfl, s1, H1, HD1, HS1, HI1⟩
      case round =>
        obtain ⟨q, hq, rfl, s2, H2, HD2, HS2, HI2⟩ := hrel
        clear p0 y2 H1 HD1 HS1 HI1
        by_cases hlq : q < inn
        · obtain ⟨b, off, rfl, hj1, hj3, hcw⟩ := HIN.out q hlq
          have y0 := hcw wr H2.out.below
          have hq0 : ¬ ((q : Int) < 0) := by omega
          have hqi : (q : Int) < (inn : Int) := by omega
          clear hcw HIN
          generalize incs.getD q 0 = j at hj1 hj3 y0
          have HCJ := Lib.hid (HCA2.out j hj3)
          have HJJ := Lib.hid (HIH2.out j hj1 hj3)
          generalize ctxKey j = kj at y0 HCJ
          as_aux_lemma =>
            go_upto_region 7 with (fail)
            go_cut [36] (fun v wx => v = .bool false ∧ ∃ s3, Hid (RingW w0 [.slice (some ⟨g, go, none⟩) 3 cc, .slice ha hn hcp] St P Rg sb s3 wx) ∧ Hid (DoneS (i + 1) s3) ∧ Hid (∀ j, j < i → s3 j = s j) ∧ Hid (s3 i = 1))
            case first =>
              refine region_seqI (S := fun W => ∃ s9, RingW w0 [.slice (some ⟨g, go, none⟩) 3 cc, .slice ha hn hcp] St P Rg sb s9 W) [(true, 0), (true, 1), (true, 2), (false, 3), (false, 4)] (by kernel_rfl) (by kernel_rfl) rfl (by kernel_rfl) ⟨s2, H2.out.more (ext_drew (Below.refl _ _))⟩ ?_
              have H2d := Lib.hid (H2.out.more (ext_drew (Below.refl _ _)))
              clear H2
              generalize wr.drew = wd at H2d ⊢
              simp only [seqOps, List.getD_cons_zero, List.getD_cons_succ]
              refine seqI_take (v := .func (.func 111) #[] #[.pointer (some ⟨St, 0, none⟩), .pointer (some ⟨P, 0, none⟩), .pointer (some ⟨Rg, 0, none⟩)]) rfl (fun W hW => by obtain ⟨s9, hW⟩ := hW; have q0 := hW.rg; go_simp) (fun _ _ _ h => h) ?_
              simp only [Act.put, List.setIfInBounds_toArray, List.set_cons_zero, List.set_cons_succ]
              refine seqI_take (v := .agg #[.slice (some ⟨g, go, none⟩) 3 cc, .slice ha hn hcp]) rfl (fun W hW => by obtain ⟨s9, hW⟩ := hW; have q0 := hW.pl 0 _ rfl; have q1 := hW.pl 1 _ rfl; go_simp) (fun _ _ _ h => h) ?_
              simp only [Act.put, List.setIfInBounds_toArray, List.set_cons_zero, List.set_cons_succ]
              refine seqI_take (v := .string ⟨kj.toArray⟩) rfl (fun W hW => by go_simp) (fun _ _ _ h => h) ?_
              simp only [Act.put, List.setIfInBounds_toArray, List.set_cons_zero, List.set_cons_succ]
              refine seqI_call 83 #[.agg #[.slice (some ⟨g, go, none⟩) 3 cc, .slice ha hn hcp], .string ⟨kj.toArray⟩] rfl (by go_simp) (HCJ.out _ H2d.out.below) ?_
              rintro e w1 ⟨rfl, hb⟩
              have H3 := Lib.hid (H2d.out.more hb)
              refine ⟨_, rfl, ⟨s2, H3.out⟩, ?_⟩
              simp only [Act.put, List.setIfInBounds_toArray, List.set_cons_zero, List.set_cons_succ]
              refine seqI_call 111 #[.int .i64 j, .pointer (some ⟨St, 0, none⟩), .pointer (some ⟨P, 0, none⟩), .pointer (some ⟨Rg, 0, none⟩)] rfl (by go_simp) (HJJ.out s2 w1 H3.out (fun m h1 h2 => HD2.out m (by omega) h2)) ?_
              rintro e w2 ⟨rfl, s3, h3, hd3, hs3⟩
              have HZ : Hid ((RingW w0 [.slice (some ⟨g, go, none⟩) 3 cc, .slice ha hn hcp] St P Rg sb s3 w2) ∧ (DoneS (i + 1) s3) ∧ (∀ j, j < i → s3 j = s j) ∧ (s3 i = 1)) := ⟨h3, fun m h1 h2 => by
                by_cases hmj : m < j
                · rw [hs3 m hmj]; exact HD2.out m h1 h2
                · exact hd3 m (by omega) h2, fun m hm => (hs3 m (by omega)).trans (HS2.out m hm), (hs3 i hj1).trans HI2.out⟩
              refine ⟨_, rfl, ⟨s3, h3⟩, ?_⟩
              clear h3 hd3 hs3
              simp only [Act.put, List.setIfInBounds_toArray, List.set_cons_zero, List.set_cons_succ]
              refine seqI_nil ?_
              go_wp2_with fail
              go_meet
              exact ⟨rfl, s3, HZ.out.1, HZ.out.2.1, HZ.out.2.2.1, HZ.out.2.2.2⟩
            case rest =>
              obtain ⟨rfl, s3, H3, HD3, HS3, HI3⟩ := hcut
              as_aux_lemma =>
                go_wp2_with fail
                go_roundw
                case rel => exact ⟨q + 1, by omega, by go_num, s3, H3, HD3, HS3, HI3⟩
                case measure => simp [intOf]; omega
        · have hnq : ¬ (q : Int) < (inn : Int) := by omega
          have hst := H2.out.st
          have hai := H2.out.arr i hi
          have hfi := H2.out.fro i
          have HE : Hid (RingPost w0 [.slice (some ⟨g, go, none⟩) 3 cc, .slice ha hn hcp] St P Rg sb s i (.returned (.bool false)) (wr.setCell ⟨sb, i, none⟩ (.int .i64 2))) := ⟨rfl, setS s2 i 2, H2.out.set hi 2, fun j h1 h2 => by
            unfold setS
            by_cases hji : j = i
            · rw [if_pos hji]; exact Or.inr rfl
            · rw [if_neg hji]; exact HD2.out j (by omega) h2, fun j hj => by
            unfold setS
            rw [if_neg (by omega)]; exact HS2.out j hj⟩
          clear H2 HD2 HS2 HI2 HIN HIH2 HCA2 HCL
          as_aux_lemma =>
            go_wp2_with fail
            go_ret
            exact HE.out
end Go.Proofs.YtamlhapiehchoaaGreatDoor

set_option linter.unusedVariables false
set_option linter.unusedSimpArgs false
namespace Go.Proofs.YtamlhapiehchoaaGreatDoor
open Go.RowKit Go.Lib

set_option maxRecDepth 100000 in
set_option maxHeartbeats 8000000 in
theorem dplCheck_any (w : World) (p : DPlan) (hp : DPlanFine w p) : Calls Tryz.prog 82 #[.agg p.cells.toArray] w (IntP 0 w) := by
  have HCX : Hid (∀ i : Nat, i < 3 → ∀ W, Below w.heap.size w W → Calls Tryz.prog 110 #[.agg p.cells.toArray, .int .i64 i] W (IntP 0 W)) := fun i hi W hW => checkContext_any W p (hp.below hW) i hi
  have HCA : Hid (∀ j : Nat, j < 3 → ∀ W, Below w.heap.size w W → Calls Tryz.prog 83 #[.agg p.cells.toArray, .string ⟨(ctxKey j).toArray⟩] W (IntP j W)) := fun j hj W hW => contextAt_any W p (hp.below hW) j hj
  have HCH : Hid (∀ W, Below w.heap.size w W → Calls Tryz.prog 109 #[.slice p.ha p.hn p.hc] W (IntP 0 W)) := fun W hW => checkHours_any W _ _ _ p.hrs (hp.hours.below hW)
  have HRI : Hid (∀ (St P Rg sb : Nat), ∀ i : Nat, i < 3 → ∀ (s : Nat → Int) (W : World), RingW w p.cells St P Rg sb s W → DoneS i s → Calls Tryz.prog 111 #[.int .i64 i, .pointer (some ⟨St, 0, none⟩), .pointer (some ⟨P, 0, none⟩), .pointer (some ⟨Rg, 0, none⟩)] W (RingPost w p.cells St P Rg sb s i)) := fun St P Rg sb i hi s W h1 h2 => ring_any w p hp St P Rg sb (3 - i) i (by omega) hi s W h1 h2
  have hlen := hp.len
  obtain ⟨g, go, ha0, hg, hcl⟩ := hp.at
  have HCL : Hid (∀ i : Nat, i < 3 → ∀ W, Below w.heap.size w W → W.cell? ⟨g, go + i * 3, none⟩ = some (.string ⟨(ctxKey i).toArray⟩) ∧ W.cell? ⟨g, go + i * 3 + 1, none⟩ = some (.slice (p.ctxs.getD i noDCtx).ra (p.ctxs.getD i noDCtx).rn (p.ctxs.getD i noDCtx).rc) ∧ W.cell? ⟨g, go + i * 3 + 2, none⟩ = some (.slice (p.ctxs.getD i noDCtx).ia (p.ctxs.getD i noDCtx).inn (p.ctxs.getD i noDCtx).ic)) := fun i hi W hW => by
    obtain ⟨q0, q1, q2⟩ := hcl i hi
    exact ⟨(hW.cell (p := ⟨g, go + i * 3, none⟩) hg).trans q0, (hW.cell (p := ⟨g, go + i * 3 + 1, none⟩) hg).trans q1, (hW.cell (p := ⟨g, go + i * 3 + 2, none⟩) hg).trans q2⟩
  have HIN : Hid (∀ i : Nat, i < 3 → ∀ q : Nat, q < (p.ctxs.getD i noDCtx).inn → ∃ b off j, (p.ctxs.getD i noDCtx).ia = some ⟨b, off, none⟩ ∧ j < 3 ∧ ∀ W, Below w.heap.size w W → W.cell? ⟨b, off + q, none⟩ = some (.string ⟨(ctxKey j).toArray⟩)) := fun i hi q hq => by
    have hc := hp.each i hi
    have hi3 := (hp.incs i hi).1
    obtain ⟨b, off, e, hb, hcc⟩ := hc.inc (show 0 < _ by omega)
    have hil := hc.ilen
    have hm : (p.ctxs.getD i noDCtx).incs.getD q 0 ∈ (p.ctxs.getD i noDCtx).incs := by
      generalize (p.ctxs.getD i noDCtx).incs = l at hil ⊢
      rw [List.getD_eq_getElem?_getD, List.getElem?_eq_getElem (by omega)]; exact List.getElem_mem _
    exact ⟨b, off, _, e, (hi3 _ hm).2, fun W hW => (hW.cell (p := ⟨b, off + q, none⟩) hb).trans (hcc q hq)⟩
  have HI2 : Hid (∀ i : Nat, i < 3 → (p.ctxs.getD i noDCtx).inn ≤ 2) := fun i hi => by rw [(hp.each i hi).ilen]; exact (hp.incs i hi).2.2
  clear hp hcl
  obtain ⟨ca, cn, cc, ctxs, ha, hn, hcp, hrs⟩ := p
  simp only at ha0 hlen HCL HIN HI2 HCH
  subst ha0
  subst hlen
  have HCX2 : Hid (∀ i : Nat, i < 3 → ∀ W, Below w.heap.size w W → Calls Tryz.prog 110 #[.agg #[.slice (some ⟨g, go, none⟩) 3 cc, .slice ha hn hcp], .int .i64 i] W (IntP 0 W)) := HCX.out
  have HCA2 : Hid (∀ j : Nat, j < 3 → ∀ W, Below w.heap.size w W → Calls Tryz.prog 83 #[.agg #[.slice (some ⟨g, go, none⟩) 3 cc, .slice ha hn hcp], .string ⟨(ctxKey j).toArray⟩] W (IntP j W)) := HCA.out
  have HRI2 : Hid (∀ (St P Rg sb : Nat), ∀ i : Nat, i < 3 → ∀ (s : Nat → Int) (W : World), RingW w [.slice (some ⟨g, go, none⟩) 3 cc, .slice ha hn hcp] St P Rg sb s W → DoneS i s → Calls Tryz.prog 111 #[.int .i64 i, .pointer (some ⟨St, 0, none⟩), .pointer (some ⟨P, 0, none⟩), .pointer (some ⟨Rg, 0, none⟩)] W (RingPost w [.slice (some ⟨g, go, none⟩) 3 cc, .slice ha hn hcp] St P Rg sb s i)) := HRI.out
  clear HCX HCA HRI
  show Calls Tryz.prog 82 #[.agg #[.slice (some ⟨g, go, none⟩) 3 cc, .slice ha hn hcp]] w _
  have P1 : Hid (Blk (w.alloc (.cells #[.slice (some ⟨g, go, none⟩) 3 cc, .slice ha hn hcp] 29)) w.heap.size [.slice (some ⟨g, go, none⟩) 3 cc, .slice ha hn hcp] 29) := Blk.new w _ _
  have HB1 : Hid (Below w.heap.size w (w.alloc (.cells #[.slice (some ⟨g, go, none⟩) 3 cc, .slice ha hn hcp] 29))) := ext_alloc (Below.refl _ _)
  go_enter Tryz.func82, Tryz.ntmps82
  go_upto_region 1 with (fail)
  generalize (w.alloc (.cells #[.slice (some ⟨g, go, none⟩) 3 cc, .slice ha hn hcp] 29)) = w1 at P1 HB1 ⊢
  obtain ⟨P, hP⟩ : ∃ P, P = w.heap.size := ⟨_, rfl⟩
  rw [← hP] at P1
  simp only [← hP]
  have hPw : w.heap.size ≤ P := by omega
  clear hP
  have p0 := P1.out.cell 0 rfl
  have p1 := P1.out.cell 1 rfl
  as_aux_lemma =>
    go_wp2_with fail
    refine (HCH.out _ HB1.out).mono ?_
    rintro e w2 ⟨rfl, hb⟩
    have HB2 := Lib.hid (ext_trans HB1.out hb)
    have P2 := Lib.hid (P1.out.below hb)
    clear hb HB1 P1 p0 p1 HCH
    have p0 := P2.out.cell 0 rfl
    have p1 := P2.out.cell 1 rfl
    as_aux_lemma =>
      go_wp2_with fail
      go_loopw [26] (fun it wr => ∃ j : Nat, j ≤ 3 ∧ it = .int .i64 j ∧ Hid (Below w2.heap.size w2 wr)) (fun it _ => 3 - (intOf it).toNat)
      case atStart => exact ⟨0, Nat.zero_le _, rfl, Below.refl _ _⟩
      case round =>
        obtain ⟨j, hj, rfl, HJ⟩ := hrel
        clear p0 p1
        have HB3 := Lib.hid (ext_trans HB2.out HJ.out)
        have P3 := Lib.hid (P2.out.below HJ.out)
        have p0 := P3.out.cell 0 rfl
        have p1 := P3.out.cell 1 rfl
        by_cases hlt : j < 3
        case pos =>
          have hj3 : (j : Int) < 3 := by omega
          have HCJ := Lib.hid (HCX2.out j hlt wr HB3.out)
          as_aux_lemma =>
            go_wp2_with fail
            refine HCJ.out.mono ?_
            rintro e w4 ⟨rfl, hb⟩
            have HJ4 := Lib.hid (ext_trans HJ.out hb)
            clear hb
            as_aux_lemma =>
              go_wp2_with fail
              go_roundw
              case rel => exact ⟨j + 1, by omega, by go_num, HJ4.out⟩
              case measure => simp [intOf]; omega
        have hj3 : ¬ (j : Int) < 3 := by omega
        clear HJ HB2 P2 HCX2
        obtain ⟨w3, rfl⟩ : ∃ x : World, x = wr := ⟨_, rfl⟩
        as_aux_lemma =>
          go_wp2_with fail
          go_loopw [39] (fun it wr => ∃ j : Nat, j ≤ 3 ∧ it = .int .i64 j ∧ Hid (Below w3.heap.size w3 wr)) (fun it _ => 3 - (intOf it).toNat)
          case atStart => exact ⟨0, Nat.zero_le _, rfl, Below.refl _ _⟩
          case round =>
            obtain ⟨i, hi, rfl, HJ⟩ := hrel
            clear p0 p1 hj3 hj
            have HB4 := Lib.hid (ext_trans HB3.out HJ.out)
            have P4 := Lib.hid (P3.out.below HJ.out)
            have p0 := P4.out.cell 0 rfl
            have p1 := P4.out.cell 1 rfl
            obtain ⟨w4, rfl⟩ : ∃ x : World, x = wr := ⟨_, rfl⟩
            by_cases hlt : i < 3
            case pos =>
              have hi3 : (i : Int) < 3 := by omega
              have hi0 : ¬ ((i : Int) < 0) := by omega
              obtain ⟨c0, c1, c2⟩ := HCL.out i hlt w4 HB4.out
              have HIQ := Lib.hid (HIN.out i hlt)
              have h2 := HI2.out i hlt
              generalize ctxs.getD i noDCtx = c at c0 c1 c2 HIQ h2
              obtain ⟨key, ra, rn, rc, rules, ia, inn, ic, incs⟩ := c
              simp only at c1 c2 HIQ h2
              generalize ctxKey i = key at c0
              have hA : Hid (Below w4.heap.size w4 (w4.alloc (.cells #[.string ⟨key.toArray⟩, .slice ra rn rc, .slice ia inn ic] 58))) := ext_alloc (Below.refl _ _)
              have HB5 := Lib.hid (ext_trans HB4.out hA.out)
              have HJ5 := Lib.hid (ext_trans HJ.out hA.out)
              have P5 := Lib.hid (P4.out.below hA.out)
              clear HJ HB4 P4
              as_aux_lemma =>
                go_upto_region 16 with (fail)
                have C5 : Hid (Blk (w4.alloc (.cells #[.string ⟨key.toArray⟩, .slice ra rn rc, .slice ia inn ic] 58)) w4.heap.size [.string ⟨key.toArray⟩, .slice ra rn rc, .slice ia inn ic] 58) := Blk.new _ _ _
                generalize w4.alloc (.cells #[.string ⟨key.toArray⟩, .slice ra rn rc, .slice ia inn ic] 58) = w5 at HB5 HJ5 P5 C5 ⊢
                generalize w4.heap.size = X at C5 ⊢
                clear c0 c1 c2 hA p0 p1
                have p0 := P5.out.cell 0 rfl
                have p1 := P5.out.cell 1 rfl
                have c0 := C5.out.cell 0 rfl
                have c1 := C5.out.cell 1 rfl
                have c2 := C5.out.cell 2 rfl
                go_wp2_with fail
                go_loopw [46] (fun it wr => ∃ q : Nat, q ≤ inn ∧ it = .int .i64 q ∧ Hid (Below w5.heap.size w5 wr)) (fun it _ => inn - (intOf it).toNat)
                case atStart => exact ⟨0, Nat.zero_le _, rfl, Below.refl _ _⟩
                case round =>
                  obtain ⟨q, hq, rfl, HQ⟩ := hrel
                  clear p0 p1 c0 c1 c2
                  have HB6 := Lib.hid (ext_trans HB5.out HQ.out)
                  have HJ6 := Lib.hid (ext_trans HJ5.out HQ.out)
                  have P6 := Lib.hid (P5.out.below HQ.out)
                  have p0 := P6.out.cell 0 rfl
                  have p1 := P6.out.cell 1 rfl
                  by_cases hlq : q < inn
                  case pos =>
                    obtain ⟨b, off, j, rfl, hj3, hcw⟩ := HIQ.out q hlq
                    have y0 := hcw wr HB6.out
                    have hq0 : ¬ ((q : Int) < 0) := by omega
                    have hqi : (q : Int) < (inn : Int) := by omega
                    have HCJ := Lib.hid (HCA2.out j hj3 wr HB6.out)
                    have hjn : ¬ ((j : Int) < 0) := by omega
                    generalize ctxKey j = kj at y0 HCJ
                    clear hcw
                    as_aux_lemma =>
                      go_wp2_with fail
                      refine HCJ.out.mono ?_
                      rintro e w7 ⟨rfl, hb⟩
                      have HQ7 := Lib.hid (ext_trans HQ.out hb)
                      clear hb
                      as_aux_lemma =>
                        go_wp2_with fail
                        go_roundw
                        case rel => exact ⟨q + 1, by omega, by go_num, HQ7.out⟩
                        case measure => simp [intOf]; omega
                  have hqn : ¬ (q : Int) < (inn : Int) := by omega
                  as_aux_lemma =>
                    go_wp2_with fail
                    go_roundw
                    case rel => exact ⟨i + 1, by omega, by go_num, HJ6.out⟩
                    case measure => simp [intOf]; omega
            have hi3 : ¬ (i : Int) < 3 := by omega
            clear HJ HB3 P3 HCL HIN HI2 HCA2
            have hmk : ∀ w, (Instr.makeSlice 22 (.int .i64 3) (.int .i64 3)).run Tryz.prog w = .ok (.slice (some ⟨w.heap.size, 0, none⟩) 3 3) (w.alloc (.cells #[.int .i64 0, .int .i64 0, .int .i64 0] 3)) := fun w => by kernel_rfl
            as_aux_lemma =>
              go_upto_region 25 with (fail)
              have hs1 : Blk (((w4.alloc (.cells #[.int .i64 0, .int .i64 0, .int .i64 0] 3)).alloc (.cells #[.slice (some ⟨w4.heap.size, 0, none⟩) 3 3] 22)).alloc (.cells #[.nilFunc] 134)) w4.heap.size [.int .i64 0, .int .i64 0, .int .i64 0] 3 := ((Blk.new w4 [.int .i64 0, .int .i64 0, .int .i64 0] 3).alloc _).alloc _
              have hs2 : Blk (((w4.alloc (.cells #[.int .i64 0, .int .i64 0, .int .i64 0] 3)).alloc (.cells #[.slice (some ⟨w4.heap.size, 0, none⟩) 3 3] 22)).alloc (.cells #[.nilFunc] 134)) (w4.heap.size + 1) [.slice (some ⟨w4.heap.size, 0, none⟩) 3 3] 22 := by
                have := Blk.new (w4.alloc (.cells #[.int .i64 0, .int .i64 0, .int .i64 0] 3)) [.slice (some ⟨w4.heap.size, 0, none⟩) 3 3] 22
                rw [show (w4.alloc (.cells #[.int .i64 0, .int .i64 0, .int .i64 0] 3)).heap.size = w4.heap.size + 1 by simp] at this
                exact this.alloc _
              have hs3 : Blk (((w4.alloc (.cells #[.int .i64 0, .int .i64 0, .int .i64 0] 3)).alloc (.cells #[.slice (some ⟨w4.heap.size, 0, none⟩) 3 3] 22)).alloc (.cells #[.nilFunc] 134)) (w4.heap.size + 1 + 1) [.nilFunc] 134 := by
                have := Blk.new ((w4.alloc (.cells #[.int .i64 0, .int .i64 0, .int .i64 0] 3)).alloc (.cells #[.slice (some ⟨w4.heap.size, 0, none⟩) 3 3] 22)) [.nilFunc] 134
                rw [show ((w4.alloc (.cells #[.int .i64 0, .int .i64 0, .int .i64 0] 3)).alloc (.cells #[.slice (some ⟨w4.heap.size, 0, none⟩) 3 3] 22)).heap.size = w4.heap.size + 1 + 1 by simp] at this
                exact this
              have hA : Below w4.heap.size w4 (((w4.alloc (.cells #[.int .i64 0, .int .i64 0, .int .i64 0] 3)).alloc (.cells #[.slice (some ⟨w4.heap.size, 0, none⟩) 3 3] 22)).alloc (.cells #[.nilFunc] 134)) := ext_alloc (ext_alloc (ext_alloc (Below.refl _ _)))
              have HB5 := Lib.hid (ext_trans HB4.out hA)
              have P5 := Lib.hid (P4.out.below hA)
              have h4 : w.heap.size ≤ w4.heap.size := HB4.out.size
              have hP4 : P < w4.heap.size := P4.out.lt
              have S1 := Lib.hid hs1
              have S2 := Lib.hid hs2
              have S3 := Lib.hid hs3
              clear hs1 hs2 hs3 hA HB4 P4 p0 p1 hmk
              generalize (((w4.alloc (.cells #[.int .i64 0, .int .i64 0, .int .i64 0] 3)).alloc (.cells #[.slice (some ⟨w4.heap.size, 0, none⟩) 3 3] 22)).alloc (.cells #[.nilFunc] 134)) = w5 at HB5 P5 S1 S2 S3 ⊢
              obtain ⟨St, hSt⟩ : ∃ x, x = w4.heap.size + 1 := ⟨_, rfl⟩
              obtain ⟨Rg, hRg⟩ : ∃ x, x = w4.heap.size + 1 + 1 := ⟨_, rfl⟩
              obtain ⟨sb, hsb⟩ : ∃ x, x = w4.heap.size := ⟨_, rfl⟩
              rw [← hsb] at S1
              rw [← hSt, ← hsb] at S2
              rw [← hRg] at S3
              simp only [← hRg]
              simp only [← hSt]
              simp only [← hsb]
              have hge : w.heap.size ≤ sb := by omega
              have hne : St ≠ sb ∧ P ≠ sb ∧ Rg ≠ sb ∧ St ≠ Rg ∧ P ≠ Rg ∧ w.heap.size ≤ Rg := ⟨by omega, by omega, by omega, by omega, by omega, by omega⟩
              clear hSt hRg hsb h4 hP4
              have r0 := S3.out.cell 0 rfl
              have f0 := S3.out.fr 0
              have H6 : Hid (RingW w [.slice (some ⟨g, go, none⟩) 3 cc, .slice ha hn hcp] St P Rg sb (fun _ => 0) (w5.setCell ⟨Rg, 0, none⟩ (.func (.func 111) #[] #[.pointer (some ⟨St, 0, none⟩), .pointer (some ⟨P, 0, none⟩), .pointer (some ⟨Rg, 0, none⟩)]))) := by
                have k1 : Blk (w5.setCell ⟨Rg, 0, none⟩ (.func (.func 111) #[] #[.pointer (some ⟨St, 0, none⟩), .pointer (some ⟨P, 0, none⟩), .pointer (some ⟨Rg, 0, none⟩)])) sb [.int .i64 0, .int .i64 0, .int .i64 0] 3 := S1.out.far (p := ⟨Rg, 0, none⟩) hne.2.2.1
                have k2 : Blk (w5.setCell ⟨Rg, 0, none⟩ (.func (.func 111) #[] #[.pointer (some ⟨St, 0, none⟩), .pointer (some ⟨P, 0, none⟩), .pointer (some ⟨Rg, 0, none⟩)])) St [.slice (some ⟨sb, 0, none⟩) 3 3] 22 := S2.out.far (p := ⟨Rg, 0, none⟩) (Ne.symm hne.2.2.2.1)
                have k3 : Blk (w5.setCell ⟨Rg, 0, none⟩ (.func (.func 111) #[] #[.pointer (some ⟨St, 0, none⟩), .pointer (some ⟨P, 0, none⟩), .pointer (some ⟨Rg, 0, none⟩)])) P [.slice (some ⟨g, go, none⟩) 3 cc, .slice ha hn hcp] 29 := P5.out.far (p := ⟨Rg, 0, none⟩) (Ne.symm hne.2.2.2.2.1)
                have k4 : Blk (w5.setCell ⟨Rg, 0, none⟩ (.func (.func 111) #[] #[.pointer (some ⟨St, 0, none⟩), .pointer (some ⟨P, 0, none⟩), .pointer (some ⟨Rg, 0, none⟩)])) Rg [.func (.func 111) #[] #[.pointer (some ⟨St, 0, none⟩), .pointer (some ⟨P, 0, none⟩), .pointer (some ⟨Rg, 0, none⟩)]] 134 := S3.out.put 0 _
                exact ⟨HB5.out.setCell (p := ⟨Rg, 0, none⟩) hne.2.2.2.2.2 _, k2.cell 0 rfl, fun j v hj => k3.cell j hj, k4.cell 0 rfl, fun j hj => by
                  match j, hj with
                  | 0, _ => exact k1.cell 0 rfl
                  | 1, _ => exact k1.cell 1 rfl
                  | 2, _ => exact k1.cell 2 rfl, fun j => k1.fr j, ⟨k2.lt, k3.lt, k4.lt, k1.lt⟩, hge, hne.1, hne.2.1, hne.2.2.1⟩
              clear HB5 P5 S1 S2 S3 hne hge
              as_aux_lemma =>
                go_upto_region 26 with (fail)
                generalize w5.setCell ⟨Rg, 0, none⟩ (.func (.func 111) #[] #[.pointer (some ⟨St, 0, none⟩), .pointer (some ⟨P, 0, none⟩), .pointer (some ⟨Rg, 0, none⟩)]) = w6 at H6 ⊢
                clear r0 f0
                have p0 := H6.out.pl 0 _ rfl
                go_wp2_with fail
                go_loopw [64] (fun it wr => ∃ j : Nat, j ≤ 3 ∧ it = .int .i64 j ∧ ∃ s, Hid (RingW w [.slice (some ⟨g, go, none⟩) 3 cc, .slice ha hn hcp] St P Rg sb s wr) ∧ Hid (DoneS 0 s)) (fun it _ => 3 - (intOf it).toNat)
                case atStart => exact ⟨0, Nat.zero_le _, rfl, _, H6, Lib.hid (fun _ _ _ => Or.inl rfl)⟩
                case round =>
                  obtain ⟨m, hm, rfl, s, H7, HD7⟩ := hrel
                  clear p0 H6
                  have r0 := H7.out.rg
                  by_cases hlm : m < 3
                  case neg =>
                    have hm3 : ¬ (m : Int) < 3 := by omega
                    as_aux_lemma =>
                      go_wp2_with fail
                      go_ret
                      exact ⟨rfl, H7.out.below⟩
                  have hm3 : (m : Int) < 3 := by omega
                  have HRJ := Lib.hid (HRI2.out St P Rg sb m hlm s wr H7.out (fun j h1 h2 => HD7.out j (Nat.zero_le _) h2))
                  as_aux_lemma =>
                    go_wp2_with fail
                    refine HRJ.out.mono ?_
                    rintro e w8 ⟨rfl, s2, h2, hd2, hs2⟩
                    have H8 := Lib.hid h2
                    have HD8 : Hid (DoneS 0 s2) := fun j h1 h2 => by
                      by_cases hjm : j < m
                      · rw [hs2 j hjm]; exact HD7.out j h1 h2
                      · exact hd2 j (by omega) h2
                    clear h2 hd2 hs2
                    as_aux_lemma =>
                      go_wp2_with fail
                      go_roundw
                      case rel => exact ⟨m + 1, by omega, by go_num, s2, H8, HD8⟩
                      case measure => simp [intOf]; omega
end Go.Proofs.YtamlhapiehchoaaGreatDoor

set_option linter.unusedVariables false
set_option linter.unusedSimpArgs false
namespace Go.Proofs.YtamlhapiehchoaaGreatDoor
open Go.RowKit

theorem gb_of_below {w w' : World} {row : Option Nat} (h : Below w.heap.size w w') : w.grownBy w' row := ⟨h.os, h.tape, h.output, h.size, fun k hk _ => h.block k hk⟩
theorem gb_below {w w1 w2 : World} {row : Option Nat} (h : w.grownBy w1 row) (hb : Below w1.heap.size w1 w2) : w.grownBy w2 row :=
  ⟨hb.os.trans h.os, hb.tape.trans h.tape, hb.output.trans h.output, Nat.le_trans h.size hb.size, fun k hk hn => (hb.block k (Nat.lt_of_lt_of_le hk h.size)).trans (h.block k hk hn)⟩
theorem gb_trans {w w1 w2 : World} {row : Option Nat} (h : w.grownBy w1 row) (hb : w1.grownBy w2 row) : w.grownBy w2 row :=
  ⟨hb.os.trans h.os, hb.tape.trans h.tape, hb.output.trans h.output, Nat.le_trans h.size hb.size, fun k hk hn => (hb.block k (Nat.lt_of_lt_of_le hk h.size) hn).trans (h.block k hk hn)⟩
theorem gb_to_below {w w' : World} {row : Option Nat} {base : Nat} (h : w.grownBy w' row) (hb : base ≤ w.heap.size) (hr : ∀ b, row = some b → base ≤ b) : Below base w w' :=
  ⟨h.os, h.tape, h.output, h.size, fun k hk => h.block k (by omega) fun e => by have := hr k e.symm; omega⟩
theorem gb_alloc {w w' : World} {o : Obj} {row : Option Nat} (h : (w.alloc o).grownBy w' row) : w.grownBy w' row := gb_trans (gb_of_below (ext_alloc (Below.refl _ _))) h
theorem own_gb {w w' : World} {row : Option Nat} {base e size : Nat} {v : Value} {n : Nat} {xs : List Value} (h : w.ownsRow base e size v n xs) (hg : w.grownBy w' row) (hd : ∀ b, v.ownBlock = some b → row ≠ some b) : w'.ownsRow base e size v n xs := by
  refine ⟨h.1, h.2.imp id ?_⟩
  rintro ⟨g, cap, cur, rfl, h1, h2, h3⟩
  exact ⟨g, cap, cur, rfl, h1, (hg.block g (Array.getElem?_eq_some_iff.1 h2).1 (fun e => hd g rfl e.symm)).trans h2, h3⟩
/-- Rows of different elements lie in different blocks; a row is no box of another kind. -/
theorem own_types {w : World} {base base' e e' size size' : Nat} {v v' : Value} {n n' : Nat} {xs xs' : List Value} (h : w.ownsRow base e size v n xs) (h2 : w.ownsRow base' e' size' v' n' xs') (hne : e ≠ e') : ∀ b, v.ownBlock = some b → v'.ownBlock ≠ some b := by
  intro b hb hb'
  rcases h.2 with ⟨rfl, _⟩ | ⟨g, cap, cur, rfl, _, hg, _⟩
  · cases hb
  rcases h2.2 with ⟨rfl, _⟩ | ⟨g', cap', cur', rfl, _, hg', _⟩
  · cases hb'
  injection hb with hb
  injection hb' with hb'
  simp only at hb hb'
  subst hb; subst hb'
  rw [hg] at hg'
  injection hg' with hg'
  injection hg' with _ h9
  exact hne h9
theorem own_blk {w : World} {base e size : Nat} {v : Value} {n : Nat} {xs : List Value} (h : w.ownsRow base e size v n xs) {X : Nat} {cs : List Value} {ty : TypeId} (hX : Blk w X cs ty) (hne : e ≠ ty) : v.ownBlock ≠ some X := by
  intro hb
  rcases h.2 with ⟨rfl, _⟩ | ⟨g, cap, cur, rfl, _, hg, _⟩
  · cases hb
  injection hb with hb
  simp only at hb
  subst hb
  rw [hX.at_] at hg
  injection hg with hg
  injection hg with _ h9
  exact hne h9.symm
theorem own_before {w : World} {base e size : Nat} {v : Value} {n : Nat} {xs : List Value} (h : w.ownsRow base e size v n xs) {X : Nat} (hX : w.heap.size ≤ X) : v.ownBlock ≠ some X := fun hb => by
  have := (h.lt X hb).2
  omega
/-- Cells written above a beginning of a row. -/
theorem setCells_gb {w : World} (g : Nat) : ∀ (L : List Value) (o : Nat), w.grownBy (w.setCells g o L) (some g) := by
  intro L
  induction L generalizing w with
  | nil => intro o; exact gb_of_below (Below.refl _ _)
  | cons v L ih =>
    intro o
    refine gb_trans ?_ (ih (w := w.setCell ⟨g, o, none⟩ v) (o + 1))
    refine ⟨rfl, rfl, rfl, by simp [World.setCell], fun k hk hn => Below.heap_setCell _ _ _ _ (fun e => hn (by rw [e]))⟩
end Go.Proofs.YtamlhapiehchoaaGreatDoor

set_option linter.unusedVariables false
set_option linter.unusedSimpArgs false
namespace Go.Proofs.YtamlhapiehchoaaGreatDoor
open Go.RowKit Go.Lib

theorem Tryz.infoIntO : (Tryz.prog.info? 3).map (fun i => (i.zero, i.size, i.bytes)) = some (some (.int .i64 0), 1, 8) := by kernel_rfl
theorem Tryz.infoCtxO : (Tryz.prog.info? 58).map (fun i => (i.zero, i.size, i.bytes)) = some (some (.agg #[.string ⟨#[]⟩, .slice none 0 0, .slice none 0 0]), 3, 64) := by kernel_rfl
def encN (j : Nat) : Value := .int .i64 (j : Int)
theorem shape_own {w : World} {base : Nat} {e : TypeId} {size : Nat} {v : Value} {n : Nat} {xs : List Value} (h : w.ownsRow base e size v n xs) : (n = 0 ∧ v = .slice none 0 0) ∨ ∃ g c, v = .slice (some ⟨g, 0, none⟩) n c ∧ base ≤ g ∧ g < w.heap.size := by
  rcases h.2 with ⟨h1, h0⟩ | ⟨g, cap, cur, rfl, h1, h2, _⟩
  · exact Or.inl ⟨h0, h1⟩
  · exact Or.inr ⟨g, cap, rfl, h1, (Array.getElem?_eq_some_iff.1 h2).1⟩
theorem own_more {w w' : World} {base e size : Nat} {v : Value} {n : Nat} {xs : List Value} (h : w.ownsRow base e size v n xs) (hb : Below w.heap.size w w') : w'.ownsRow base e size v n xs := own_gb h (gb_of_below (row := none) hb) (fun _ _ h => by cases h)
/-- What a walk over integers of the call's own leaves as it was. -/
structure IntsOnly (base : Nat) (W W' : World) : Prop where
  below : Below base W W'
  kept : ∀ X cs ty, Blk W X cs ty → ty ≠ 3 → Blk W' X cs ty
theorem IntsOnly.trans {base : Nat} {W W1 W2 : World} (h : IntsOnly base W W1) (h2 : IntsOnly base W1 W2) : IntsOnly base W W2 := ⟨h.below.trans h2.below, fun X cs ty hX hn => h2.kept X cs ty (h.kept X cs ty hX hn) hn⟩
theorem IntsOnly.of_below {base : Nat} {W W' : World} (h : Below W.heap.size W W') (hb : base ≤ W.heap.size) : IntsOnly base W W' := ⟨h.mono hb, fun X cs ty hX _ => hX.below h⟩
theorem IntsOnly.of_grown {base : Nat} {W W' : World} {v : Value} {n : Nat} {xs : List Value} (ho : W.ownsRow base 3 1 v n xs) (hg : W.grownBy W' v.ownBlock) (hb : base ≤ W.heap.size) : IntsOnly base W W' := ⟨gb_to_below hg hb (fun b hb' => by
  rcases shape_own ho with ⟨_, rfl⟩ | ⟨g, c, rfl, h1, _⟩
  · cases hb'
  · obtain rfl : g = b := Option.some.inj hb'; exact h1), fun X cs ty hX hn => hX.grown hg (own_blk ho hX (Ne.symm hn))⟩
theorem idxN_any {w : World} {base : Nat} {v : Value} {l : List Nat} (h : w.ownsRow base 3 1 v l.length (l.map encN)) (hl : l.length ≤ 1000) (x : Nat) : Calls Tryz.prog 134 #[v, .int .i64 x] w fun e w' => ∃ r : Int, e = .returned (.int .i64 r) ∧ (0 ≤ r ↔ x ∈ l) ∧ Below w.heap.size w w' := by
  have HC : Hid (∀ g c, v = .slice (some ⟨g, 0, none⟩) l.length c → ∀ j, j < l.length → w.cell? ⟨g, j, none⟩ = some (.int .i64 ((l.getD j 0 : Nat) : Int))) := fun g c e j hj => by
    subst e
    rw [h.cellAt j (by omega)]
    simp [encN, hj, List.getD_eq_getElem?_getD]
  rcases shape_own h with ⟨h0, rfl⟩ | ⟨g, c, rfl, h1, h2⟩
  · have : l = [] := List.eq_nil_of_length_eq_zero h0
    subst this
    clear h HC
    go_enter Tryz.func134, Tryz.ntmps134
    go_wp2_with fail
    go_loopw [8] (fun i wr => i = .int .i64 0 ∧ wr = w) (fun i _ => 0)
    case atStart => exact ⟨rfl, rfl⟩
    case round =>
      obtain ⟨rfl, rfl⟩ := hrel
      go_wp2_with fail
      go_ret
      exact ⟨-1, rfl, by simp, Below.refl _ _⟩
  · have HC2 := Lib.hid (HC.out g c rfl)
    have HL : Hid (∀ j, j < l.length → l.getD j 0 ∈ l) := fun j hj => by rw [List.getD_eq_getElem?_getD, List.getElem?_eq_getElem hj]; exact List.getElem_mem _
    have HNO : Hid ((∀ j, j < l.length → l.getD j 0 ≠ x) → x ∉ l) := fun hn hm => by
      obtain ⟨j, hj, e⟩ := List.getElem_of_mem hm
      exact hn j hj (by rw [List.getD_eq_getElem?_getD, List.getElem?_eq_getElem hj]; exact e)
    obtain ⟨n, hn⟩ : ∃ n, n = l.length := ⟨_, rfl⟩
    rw [← hn] at HC2 HL HNO hl ⊢
    clear h HC hn
    go_enter Tryz.func134, Tryz.ntmps134
    go_wp2_with fail
    go_loopw [8] (fun i wr => ∃ j : Nat, j ≤ n ∧ i = .int .i64 j ∧ Hid (∀ m, m < j → l.getD m 0 ≠ x) ∧ Hid (Below w.heap.size w wr)) (fun i _ => n - (intOf i).toNat)
    case atStart => exact ⟨0, Nat.zero_le _, rfl, (fun m hm => by omega), Below.refl _ _⟩
    case round =>
      obtain ⟨j, hj, rfl, HN, HB⟩ := hrel
      by_cases hlt : j < n
      · have y0 := (HB.out.cell (p := ⟨g, j, none⟩) h2).trans (HC2.out j hlt)
        have hj0 : ¬ ((j : Int) < 0) := by omega
        have hjn : (j : Int) < (n : Int) := by omega
        by_cases hx : l.getD j 0 = x
        · rw [hx] at y0
          have HE : Hid (∃ r : Int, Ending.returned (.int .i64 (j : Int)) = .returned (.int .i64 r) ∧ (0 ≤ r ↔ x ∈ l) ∧ Below w.heap.size w wr) := ⟨j, rfl, ⟨fun _ => by rw [← hx]; exact HL.out j hlt, fun _ => by omega⟩, HB.out⟩
          clear HN HC2 HL HNO hx
          go_wp2_with fail
          go_ret
          exact HE.out
        · have HN2 : Hid (∀ m, m < j + 1 → l.getD m 0 ≠ x) := fun m hm => by
            by_cases hmj : m = j
            · subst hmj; exact hx
            · exact HN.out m (by omega)
          have hne : ¬ ((x : Int) = ((l.getD j 0 : Nat) : Int)) := by omega
          generalize ((l.getD j 0 : Nat) : Int) = y at y0 hne
          have hne2 : ((x : Int) == y) = false := beq_eq_false_iff_ne.2 hne
          clear hx hne
          go_wp2_with fail
          go_roundw
          case rel => exact ⟨j + 1, by omega, by go_num, HN2, HB⟩
          case measure => simp [intOf]; omega
      · have hjn : ¬ (j : Int) < (n : Int) := by omega
        have HX := Lib.hid (HNO.out (fun m hm => HN.out m (by omega)))
        go_wp2_with fail
        go_ret
        exact ⟨-1, rfl, ⟨fun h => absurd h (by decide), fun h => absurd h HX.out⟩, HB.out⟩
theorem hasN_any {w : World} {base : Nat} {v : Value} {l : List Nat} (h : w.ownsRow base 3 1 v l.length (l.map encN)) (hl : l.length ≤ 1000) (x : Nat) : Calls Tryz.prog 113 #[v, .int .i64 x] w (BoolP (decide (x ∈ l)) w) := by
  have HI := Lib.hid (idxN_any h hl x)
  have hv : ∃ a n c, v = .slice a n c := by
    rcases shape_own h with ⟨_, rfl⟩ | ⟨g, c, rfl, _⟩
    · exact ⟨_, _, _, rfl⟩
    · exact ⟨_, _, _, rfl⟩
  obtain ⟨a, n, c, rfl⟩ := hv
  clear h
  by_cases hx : x ∈ l
  · rw [decide_eq_true hx]
    go_enter Tryz.func113, Tryz.ntmps113
    go_wp2_with fail
    refine HI.out.mono ?_
    rintro e w1 ⟨r, rfl, hr, hb⟩
    have hr0 := hr.2 hx
    have hr1 : decide (r ≥ 0) = true := decide_eq_true hr0
    have HB := Lib.hid hb
    clear hb hr hx
    go_wp2_with fail
    go_ret
    exact ⟨by first | rfl | (rw [← hr1]), HB.out⟩
  · rw [decide_eq_false hx]
    go_enter Tryz.func113, Tryz.ntmps113
    go_wp2_with fail
    refine HI.out.mono ?_
    rintro e w1 ⟨r, rfl, hr, hb⟩
    have hr0 : ¬ 0 ≤ r := fun h => hx (hr.1 h)
    have hr1 : decide (r ≥ 0) = false := decide_eq_false hr0
    have HB := Lib.hid hb
    clear hb hr hx
    go_wp2_with fail
    go_ret
    exact ⟨by first | rfl | (rw [← hr1]), HB.out⟩

def adjP (p : DPlan) (i : Nat) : List Nat := (p.ctxs.getD i noDCtx).incs
def OrdPost (base : Nat) (l : List Nat) (W : World) (e : Ending) (W' : World) : Prop := ∃ v, e = .returned v ∧ W'.ownsRow base 3 1 v l.length (l.map encN) ∧ IntsOnly base W W'
theorem fold_len {g : List Nat → Nat → List Nat} {b : Nat} (h : ∀ o j, (g o j).length ≤ o.length + b) : ∀ (l : List Nat) (o : List Nat), (l.foldl g o).length ≤ o.length + l.length * b
  | [], o => by simp
  | x :: l, o => by
    have h1 := fold_len h l (g o x)
    have h2 := h o x
    rw [List.foldl_cons, List.length_cons, Nat.succ_mul]
    omega
theorem ord_len {adj : Nat → List Nat} (ha : ∀ i, (adj i).length ≤ 2) : ∀ (f i : Nat) (o : List Nat), (ordIn adj f i o).length + 1 ≤ o.length + 2 ^ f
  | 0, i, o => by unfold ordIn; simp
  | f + 1, i, o => by
    unfold ordIn
    have hp : 0 < 2 ^ f := Nat.pow_pos (by decide)
    split
    · rw [Nat.pow_succ]; omega
    · have h := fold_len (g := fun o j => ordIn adj f j o) (b := 2 ^ f - 1) (fun o j => by have := ord_len ha f j o; omega) (adj i) (o ++ [i])
      have h2 := ha i
      have h3 : (adj i).length * (2 ^ f - 1) ≤ 2 * (2 ^ f - 1) := Nat.mul_le_mul_right _ h2
      rw [List.length_append, List.length_singleton] at h
      rw [Nat.pow_succ]
      omega
theorem fold_next {α β : Type} (g : α → β → α) (l : List β) (z : β) (o : α) (q : Nat) (hq : q < l.length) : (l.take (q + 1)).foldl g o = g ((l.take q).foldl g o) (l.getD q z) := by
  rw [List.take_add_one, List.getElem?_eq_getElem hq, List.foldl_append, List.getD_eq_getElem?_getD, List.getElem?_eq_getElem hq]
  rfl
set_option maxRecDepth 100000 in
set_option maxHeartbeats 8000000 in
theorem order_any (w0 : World) (p : DPlan) (hp : DPlanFine w0 p) : ∀ (F i : Nat), 3 ≤ i + F → i < 3 → ∀ (l : List Nat) (v : Value) (W : World), Below w0.heap.size w0 W → W.ownsRow w0.heap.size 3 1 v l.length (l.map encN) → l.length + 2 ^ F ≤ 20 →
    Calls Tryz.prog 84 #[.agg p.cells.toArray, .int .i64 i, v] W (OrdPost w0.heap.size (ordIn (adjP p) F i l) W)
  | 0, i, h, hi, _, _, _, _, _, _ => absurd hi (by omega)
  | F + 1, i, hif, hi, l, v, W, hB, hO, hl => by
    have HADJ : Hid (∀ i, (adjP p i).length ≤ 2) := fun i => by
      unfold adjP
      by_cases h3 : i < 3
      · exact (hp.incs i h3).2.2
      · have := hp.three
        rw [List.getD_eq_getElem?_getD, List.getElem?_eq_none (by omega)]
        decide
    have HIH : Hid (∀ j : Nat, i < j → j < 3 → ∀ (l : List Nat) (v : Value) (W : World), Below w0.heap.size w0 W → W.ownsRow w0.heap.size 3 1 v l.length (l.map encN) → l.length + 2 ^ F ≤ 20 → Calls Tryz.prog 84 #[.agg p.cells.toArray, .int .i64 j, v] W (OrdPost w0.heap.size (ordIn (adjP p) F j l) W)) := fun j hij hj l v W h1 h2 h3 => order_any w0 p hp F j (by omega) hj l v W h1 h2 h3
    have HCA : Hid (∀ j : Nat, j < 3 → ∀ W, Below w0.heap.size w0 W → Calls Tryz.prog 83 #[.agg p.cells.toArray, .string ⟨(ctxKey j).toArray⟩] W (IntP j W)) := fun j hj W hW => contextAt_any W p (hp.below hW) j hj
    have hc := hp.each i hi
    have hi3 := (hp.incs i hi).1
    have hlen := hp.len
    obtain ⟨g, go, ha0, hg, hcl⟩ := hp.at
    have HCL : Hid (∀ W, Below w0.heap.size w0 W → W.cell? ⟨g, go + i * 3 + 2, none⟩ = some (.slice (p.ctxs.getD i noDCtx).ia (p.ctxs.getD i noDCtx).inn (p.ctxs.getD i noDCtx).ic)) := fun W hW => (hW.cell (p := ⟨g, go + i * 3 + 2, none⟩) hg).trans (hcl i hi).2.2
    have HIN : Hid (∀ q, q < (p.ctxs.getD i noDCtx).inn → ∃ b off, (p.ctxs.getD i noDCtx).ia = some ⟨b, off, none⟩ ∧ i < (adjP p i).getD q 0 ∧ (adjP p i).getD q 0 < 3 ∧ ∀ W, Below w0.heap.size w0 W → W.cell? ⟨b, off + q, none⟩ = some (.string ⟨(ctxKey ((adjP p i).getD q 0)).toArray⟩)) := fun q hq => by
      obtain ⟨b, off, e, hb, hcc⟩ := hc.inc (show 0 < _ by omega)
      have hil := hc.ilen
      have hm : (adjP p i).getD q 0 ∈ adjP p i := by
        unfold adjP
        generalize (p.ctxs.getD i noDCtx).incs = l at hil ⊢
        rw [List.getD_eq_getElem?_getD, List.getElem?_eq_getElem (by omega)]; exact List.getElem_mem _
      exact ⟨b, off, e, (hi3 _ hm).1, (hi3 _ hm).2, fun W hW => (hW.cell (p := ⟨b, off + q, none⟩) hb).trans (hcc q hq)⟩
    have hilen : (p.ctxs.getD i noDCtx).inn = (adjP p i).length := hc.ilen
    have HORD : Hid (ordIn (adjP p) (F + 1) i l = if i ∈ l then l else (adjP p i).foldl (fun o j => ordIn (adjP p) F j o) (l ++ [i])) := rfl
    have HLEN : Hid (∀ q, q ≤ (adjP p i).length → (((adjP p i).take q).foldl (fun o j => ordIn (adjP p) F j o) (l ++ [i])).length ≤ l.length + 1 + q * (2 ^ F - 1)) := fun q hq => by
      have h := fold_len (g := fun o j => ordIn (adjP p) F j o) (b := 2 ^ F - 1) (fun o j => by have := ord_len HADJ.out F j o; omega) ((adjP p i).take q) (l ++ [i])
      rw [List.length_append, List.length_singleton, List.length_take, Nat.min_eq_left hq] at h
      exact h
    have h2 := HADJ.out i
    clear hp hcl hc hi3
    generalize ordIn (adjP p) (F + 1) i l = res at HORD ⊢
    generalize adjP p i = incs at HIN HORD HLEN hilen h2
    generalize p.ctxs.getD i noDCtx = c at HCL HIN hilen
    obtain ⟨_, _, _, _, _, ia, inn, ic, _⟩ := c
    generalize hadj : adjP p = adj at HIH HORD HLEN HADJ
    clear hadj
    obtain ⟨ca, cn, cc, ctxs, ha, hn, hcp, hrs⟩ := p
    simp only at ha0 hlen HCL HIN hilen
    subst ha0
    subst hlen
    have HIH2 : Hid (∀ j : Nat, i < j → j < 3 → ∀ (l : List Nat) (v : Value) (W : World), Below w0.heap.size w0 W → W.ownsRow w0.heap.size 3 1 v l.length (l.map encN) → l.length + 2 ^ F ≤ 20 → Calls Tryz.prog 84 #[.agg #[.slice (some ⟨g, go, none⟩) 3 cc, .slice ha hn hcp], .int .i64 j, v] W (OrdPost w0.heap.size (ordIn adj F j l) W)) := HIH.out
    have HCA2 : Hid (∀ j : Nat, j < 3 → ∀ W, Below w0.heap.size w0 W → Calls Tryz.prog 83 #[.agg #[.slice (some ⟨g, go, none⟩) 3 cc, .slice ha hn hcp], .string ⟨(ctxKey j).toArray⟩] W (IntP j W)) := HCA.out
    clear HIH HCA
    have hF : 1 ≤ 2 ^ F := Nat.pow_pos (by decide)
    have hl2 : l.length + 2 * 2 ^ F ≤ 20 := by rw [Nat.pow_succ] at hl; omega
    show Calls Tryz.prog 84 #[.agg #[.slice (some ⟨g, go, none⟩) 3 cc, .slice ha hn hcp], .int .i64 i, v] W (OrdPost w0.heap.size res W)
    have hWw : w0.heap.size ≤ W.heap.size := hB.size
    have P1 : Hid (Blk (W.alloc (.cells #[.slice (some ⟨g, go, none⟩) 3 cc, .slice ha hn hcp] 29)) W.heap.size [.slice (some ⟨g, go, none⟩) 3 cc, .slice ha hn hcp] 29) := Blk.new W _ _
    have hA : Below W.heap.size W (W.alloc (.cells #[.slice (some ⟨g, go, none⟩) 3 cc, .slice ha hn hcp] 29)) := ext_alloc (Below.refl _ _)
    have HB1 : Hid (Below w0.heap.size w0 (W.alloc (.cells #[.slice (some ⟨g, go, none⟩) 3 cc, .slice ha hn hcp] 29))) := ext_trans hB hA
    have HI1 : Hid (IntsOnly w0.heap.size W (W.alloc (.cells #[.slice (some ⟨g, go, none⟩) 3 cc, .slice ha hn hcp] 29))) := IntsOnly.of_below hA hWw
    have HO1 : Hid ((W.alloc (.cells #[.slice (some ⟨g, go, none⟩) 3 cc, .slice ha hn hcp] 29)).ownsRow w0.heap.size 3 1 v l.length (l.map encN)) := own_more hO hA
    clear hA hO hB hl
    go_enter Tryz.func84, Tryz.ntmps84
    go_upto_region 1 with (fail)
    generalize (W.alloc (.cells #[.slice (some ⟨g, go, none⟩) 3 cc, .slice ha hn hcp] 29)) = w1 at P1 HB1 HI1 HO1 ⊢
    obtain ⟨P, hP⟩ : ∃ P, P = W.heap.size := ⟨_, rfl⟩
    rw [← hP] at P1
    simp only [← hP]
    clear hP
    have HHN := Lib.hid (hasN_any HO1.out (by omega) i)
    as_aux_lemma =>
      go_wp2_with fail
      refine HHN.out.mono ?_
      rintro e w2 ⟨rfl, hb⟩
      have hw1 : w0.heap.size ≤ w1.heap.size := HB1.out.size
      have HB2 := Lib.hid (ext_trans HB1.out hb)
      have HI2 := Lib.hid (HI1.out.trans (IntsOnly.of_below hb hw1))
      have HO2 := Lib.hid (own_more HO1.out hb)
      have P2 := Lib.hid (P1.out.below hb)
      have hw2 : w0.heap.size ≤ w2.heap.size := HB2.out.size
      clear hb HB1 HI1 HO1 P1 HHN hw1
      by_cases hx : i ∈ l
      case pos =>
        obtain rfl : res = l := by rw [HORD.out, if_pos hx]
        rw [decide_eq_true hx]
        have HE : Hid (OrdPost w0.heap.size res W (.returned v) w2) := ⟨v, rfl, HO2.out, HI2.out⟩
        clear HORD HO2 HI2 hx HIH2 HCA2 HIN HCL HLEN
        as_aux_lemma =>
          go_wp2_with fail
          go_ret
          exact HE.out
      have HR : Hid (res = incs.foldl (fun o j => ordIn adj F j o) (l ++ [i])) := by show _ = _; rw [HORD.out, if_neg hx]
      rw [decide_eq_false hx]
      clear HORD hx
      obtain ⟨i0, hi9, hz0, hz1, hz2⟩ := info_parts Tryz.infoIntO
      have hml : l.length + 1 ≤ maxLen := by unfold maxLen; omega
      have hbs : (l.length + 1) * 8 ≤ 140737488355328 := by omega
      have HO2b : Hid ((w2.alloc (.cells #[.int .i64 (i : Int)] 3)).ownsRow w0.heap.size 3 1 v l.length (l.map encN)) := own_more HO2.out (ext_alloc (Below.refl _ _))
      have HB2b : Hid (Below w0.heap.size w0 (w2.alloc (.cells #[.int .i64 (i : Int)] 3))) := ext_alloc HB2.out
      have HI2b : Hid (IntsOnly w0.heap.size W (w2.alloc (.cells #[.int .i64 (i : Int)] 3))) := HI2.out.trans (IntsOnly.of_below (ext_alloc (Below.refl _ _)) hw2)
      have P2b : Hid (Blk (w2.alloc (.cells #[.int .i64 (i : Int)] 3)) P [.slice (some ⟨g, go, none⟩) 3 cc, .slice ha hn hcp] 29) := P2.out.alloc _
      have hsz3 : w0.heap.size ≤ (w2.alloc (.cells #[.int .i64 (i : Int)] 3)).heap.size := by simp; omega
      clear HO2 HB2 HI2 P2
      as_aux_lemma =>
        go_wp2_with (at_builtin; refine wpList_append_own _ rfl (.tmp 13) (.tmp 15) 22 rfl w0.heap.size 3 i0 (.int .i64 0) 1 8 Tryz.underlying22 hi9 hz0 hz1 hz2 rfl (by decide) v l.length (l.map encN) rfl HO2b.out ⟨w2.heap.size, 0, none⟩ 1 1 [.int .i64 (i : Int)] rfl rfl (news_one (by go_simp)) (by simp [Value.oneCell']) hml hbs hsz3 ?_; intro v3 w3 hown3 hgr3 _; refine Hid.out ?_)
        refine Lib.hid ?_
        have hI3 : IntsOnly w0.heap.size (w2.alloc (.cells #[.int .i64 (i : Int)] 3)) w3 := IntsOnly.of_grown HO2b.out hgr3 hsz3
        have HI3 := Lib.hid (HI2b.out.trans hI3)
        have HB3 : Hid (Below w0.heap.size w0 w3) := HB2b.out.trans hI3.below
        have P3 := Lib.hid (hI3.kept _ _ _ P2b.out (by decide))
        have HO3 : Hid (w3.ownsRow w0.heap.size 3 1 v3 (l ++ [i]).length ((l ++ [i]).map encN)) := by
          show World.ownsRow _ _ _ _ _ _ _
          rw [List.length_append, List.map_append]
          exact hown3
        clear hI3 hown3 hgr3 HO2b HB2b HI2b P2b hsz3 hml hbs hi9 hz0 hz1 hz2
        have y2 := HCL.out w3 HB3.out
        have p0 := P3.out.cell 0 rfl
        have hi0 : ¬ ((i : Int) < 0) := by omega
        have hi3 : (i : Int) < 3 := by omega
        as_aux_lemma =>
          go_wp2_with fail
          go_loopw [2, 24] (fun vo it wr => ∃ q : Nat, q ≤ inn ∧ it = .int .i64 q ∧ Hid (Below w0.heap.size w0 wr) ∧ Hid (IntsOnly w0.heap.size W wr) ∧ Hid (Blk wr P [.slice (some ⟨g, go, none⟩) 3 cc, .slice ha hn hcp] 29) ∧ Hid (wr.ownsRow w0.heap.size 3 1 vo ((incs.take q).foldl (fun o j => ordIn adj F j o) (l ++ [i])).length (((incs.take q).foldl (fun o j => ordIn adj F j o) (l ++ [i])).map encN))) (fun _ it _ => inn - (intOf it).toNat)
          case atStart => exact ⟨0, Nat.zero_le _, rfl, HB3, HI3, P3, HO3⟩
          case round =>
            obtain ⟨q, hq, rfl, HB4, HI4, P4, HO4⟩ := hrel
            obtain ⟨vo, rfl⟩ : ∃ x : Value, x = u2 := ⟨_, rfl⟩
            clear p0 y2 HB3 HI3 P3 HO3
            by_cases hlq : q < inn
            case neg =>
              have hqn : ¬ (q : Int) < (inn : Int) := by omega
              have hres : (incs.take q).foldl (fun o j => ordIn adj F j o) (l ++ [i]) = res := by rw [HR.out, List.take_of_length_le (by omega)]
              rw [hres] at HO4
              have HE : Hid (OrdPost w0.heap.size res W (.returned vo) wr) := ⟨vo, rfl, HO4.out, HI4.out⟩
              clear hres HO4 HI4 P4 HB4 HR HLEN HIN HIH2 HCA2 HCL
              as_aux_lemma =>
                go_wp2_with fail
                go_ret
                exact HE.out
            obtain ⟨b, off, rfl, hj1, hj3, hcw⟩ := HIN.out q hlq
            have y0 := hcw wr HB4.out
            have hq0 : ¬ ((q : Int) < 0) := by omega
            have hqi : (q : Int) < (inn : Int) := by omega
            have hnx := Lib.hid (fold_next (fun o j => ordIn adj F j o) incs 0 (l ++ [i]) q (by omega))
            have hln := HLEN.out q (by omega)
            have hq1 : q * (2 ^ F - 1) ≤ 1 * (2 ^ F - 1) := Nat.mul_le_mul_right _ (by omega)
            have hlen9 : ((incs.take q).foldl (fun o j => ordIn adj F j o) (l ++ [i])).length + 2 ^ F ≤ 20 := by omega
            generalize (incs.take q).foldl (fun o j => ordIn adj F j o) (l ++ [i]) = L at HO4 hnx hlen9
            generalize incs.getD q 0 = j at hj1 hj3 y0 hnx
            have HCJ := Lib.hid (HCA2.out j hj3)
            have HJJ := Lib.hid (HIH2.out j hj1 hj3)
            generalize ctxKey j = kj at y0 HCJ
            clear hcw hln hq1
            as_aux_lemma =>
              go_upto_region 7 with (fail)
              have hd : Below wr.heap.size wr wr.drew := ext_drew (Below.refl _ _)
              have hwr : w0.heap.size ≤ wr.heap.size := HB4.out.size
              have B5 := Lib.hid (ext_trans HB4.out hd)
              have I5 := Lib.hid (HI4.out.trans (IntsOnly.of_below hd hwr))
              have O5 := Lib.hid (own_more HO4.out hd)
              have P5 := Lib.hid (P4.out.below hd)
              refine region_seqI (S := fun W => Blk W P [.slice (some ⟨g, go, none⟩) 3 cc, .slice ha hn hcp] 29) [(true, 0), (true, 1), (true, 2), (true, 4), (false, 3), (false, 5), (true, 6)] (by kernel_rfl) (by kernel_rfl) rfl (by kernel_rfl) P5.out ?_
              clear HB4 HI4 HO4 P4 hd
              have hwr5 : w0.heap.size ≤ wr.drew.heap.size := hwr
              generalize wr.drew = wd at B5 I5 O5 P5 hwr5 ⊢
              clear hwr
              simp only [seqOps, List.getD_cons_zero, List.getD_cons_succ]
              refine seqI_take (v := .agg #[.slice (some ⟨g, go, none⟩) 3 cc, .slice ha hn hcp]) rfl (fun W hW => by have q0 := hW.cell 0 rfl; have q1 := hW.cell 1 rfl; go_simp) (fun _ _ _ h => h) ?_
              simp only [Act.put, List.setIfInBounds_toArray, List.set_cons_zero, List.set_cons_succ]
              refine seqI_take (v := .agg #[.slice (some ⟨g, go, none⟩) 3 cc, .slice ha hn hcp]) rfl (fun W hW => by have q0 := hW.cell 0 rfl; have q1 := hW.cell 1 rfl; go_simp) (fun _ _ _ h => h) ?_
              simp only [Act.put, List.setIfInBounds_toArray, List.set_cons_zero, List.set_cons_succ]
              refine seqI_take (v := .string ⟨kj.toArray⟩) rfl (fun W hW => by go_simp) (fun _ _ _ h => h) ?_
              simp only [Act.put, List.setIfInBounds_toArray, List.set_cons_zero, List.set_cons_succ]
              refine seqI_take (v := vo) rfl (fun W hW => by go_simp) (fun _ _ _ h => h) ?_
              simp only [Act.put, List.setIfInBounds_toArray, List.set_cons_zero, List.set_cons_succ]
              refine seqI_call 83 #[.agg #[.slice (some ⟨g, go, none⟩) 3 cc, .slice ha hn hcp], .string ⟨kj.toArray⟩] rfl (by go_simp) (HCJ.out _ B5.out) ?_
              rintro e w5 ⟨rfl, hb⟩
              have B6 := Lib.hid (ext_trans B5.out hb)
              have I6 := Lib.hid (I5.out.trans (IntsOnly.of_below hb hwr5))
              have O6 := Lib.hid (own_more O5.out hb)
              have P6 := Lib.hid (P5.out.below hb)
              clear B5 I5 O5 P5 hwr5
              refine ⟨_, rfl, P6.out, ?_⟩
              simp only [Act.put, List.setIfInBounds_toArray, List.set_cons_zero, List.set_cons_succ]
              refine seqI_call 84 #[.agg #[.slice (some ⟨g, go, none⟩) 3 cc, .slice ha hn hcp], .int .i64 (j : Int), vo] rfl (by go_simp) (HJJ.out L vo w5 B6.out O6.out hlen9) ?_
              rintro e w6 ⟨v6, rfl, ho6, hi6⟩
              have HZ : Hid (Below w0.heap.size w0 w6 ∧ IntsOnly w0.heap.size W w6 ∧ Blk w6 P [.slice (some ⟨g, go, none⟩) 3 cc, .slice ha hn hcp] 29 ∧ w6.ownsRow w0.heap.size 3 1 v6 (ordIn adj F j L).length ((ordIn adj F j L).map encN)) := ⟨B6.out.trans hi6.below, I6.out.trans hi6, hi6.kept _ _ _ P6.out (by decide), ho6⟩
              clear ho6 hi6 B6 I6 O6 P6 hb
              refine ⟨_, rfl, HZ.out.2.2.1, ?_⟩
              simp only [Act.put, List.setIfInBounds_toArray, List.set_cons_zero, List.set_cons_succ]
              refine seqI_take (v := v6) rfl (fun W hW => by go_simp) (fun _ _ _ h => h) ?_
              simp only [Act.put, List.setIfInBounds_toArray, List.set_cons_zero, List.set_cons_succ]
              refine seqI_nil ?_
              go_wp2_with fail
              go_roundw
              case rel => exact ⟨q + 1, by omega, by go_num, HZ.out.1, HZ.out.2.1, HZ.out.2.2.1, by show World.ownsRow _ _ _ _ _ _ _; rw [hnx.out]; exact HZ.out.2.2.2⟩
              case measure => simp [intOf]; omega
end Go.Proofs.YtamlhapiehchoaaGreatDoor

set_option linter.unusedVariables false
set_option linter.unusedSimpArgs false
namespace Go.Proofs.YtamlhapiehchoaaGreatDoor
open Go.RowKit Go.Lib

theorem fold_lt {g : List Nat → Nat → List Nat} (h : ∀ o j, j < 3 → (∀ x ∈ o, x < 3) → ∀ x ∈ g o j, x < 3) : ∀ (l : List Nat) (o : List Nat), (∀ j ∈ l, j < 3) → (∀ x ∈ o, x < 3) → ∀ x ∈ l.foldl g o, x < 3
  | [], o, _, ho => ho
  | x :: l, o, hl, ho => fold_lt h l (g o x) (fun j hj => hl j (List.mem_cons_of_mem _ hj)) (h o x (hl x List.mem_cons_self) ho)
theorem ord_lt {adj : Nat → List Nat} (ha : ∀ i, ∀ j ∈ adj i, j < 3) : ∀ (f i : Nat) (o : List Nat), i < 3 → (∀ x ∈ o, x < 3) → ∀ x ∈ ordIn adj f i o, x < 3
  | 0, i, o, _, ho => by unfold ordIn; exact ho
  | f + 1, i, o, hi, ho => by
    unfold ordIn
    split
    · exact ho
    · exact fold_lt (fun o j hj ho => ord_lt ha f j o hj ho) (adj i) (o ++ [i]) (ha i) (fun x hx => by
        rcases List.mem_append.1 hx with hx | hx
        · exact ho x hx
        · simp at hx; omega)
/-- The contexts that are asked for one. -/
def ordP (p : DPlan) (i : Nat) : List Nat := ordIn (adjP p) 3 i []
theorem adj_lt {w : World} {p : DPlan} (hp : DPlanFine w p) : ∀ i, ∀ j ∈ adjP p i, j < 3 := fun i j hj => by
  unfold adjP at hj
  by_cases h3 : i < 3
  · exact ((hp.incs i h3).1 j hj).2
  · rw [List.getD_eq_getElem?_getD, List.getElem?_eq_none (by have := hp.three; omega)] at hj
    cases hj
theorem ordP_ok {w : World} {p : DPlan} (hp : DPlanFine w p) {i : Nat} (hi : i < 3) : (∀ x ∈ ordP p i, x < 3) ∧ (ordP p i).length ≤ 7 := by
  refine ⟨ord_lt (adj_lt hp) 3 i [] hi (fun x hx => by cases hx), ?_⟩
  have := ord_len (adj := adjP p) (fun i => by
    unfold adjP
    by_cases h3 : i < 3
    · exact (hp.incs i h3).2.2
    · have := hp.three
      rw [List.getD_eq_getElem?_getD, List.getElem?_eq_none (by omega)]
      decide) 3 i []
  simp at this
  unfold ordP
  omega
def ctxRow (p : DPlan) (l : List Nat) : List Value := (l.map fun k => (p.ctxs.getD k noDCtx).cells).flatten
def CtxsPost (p : DPlan) (l : List Nat) (w : World) (e : Ending) (w' : World) : Prop := ∃ v, e = .returned (.tuple #[v, .int .i64 0]) ∧ w'.ownsRow w.heap.size 58 3 v l.length (ctxRow p l) ∧ Below w.heap.size w w'
theorem bl_dop0 (e : Operand → Value) (he : ∀ v, e (.const v) = v) (o : Oper) (w : World) (i0 : Nat) (p0_0 : ByteArray) (a0_1 : Option Addr) (n0_1 : Nat) (m0_1 : Nat) (a0_2 : Option Addr) (n0_2 : Nat) (m0_2 : Nat) (ho : o.op = .buildSlice 26 1 #[(0, .tmp i0)]) (h0 : e (.tmp i0) = .agg #[.string p0_0, .slice a0_1 n0_1 m0_1, .slice a0_2 n0_2 m0_2]) :
   (execOp e o).run Tryz.prog w = .ok (.value (.slice (some ⟨w.heap.size, 0, none⟩) 1 1)) (w.alloc (.cells #[.string p0_0, .slice a0_1 n0_1 m0_1, .slice a0_2 n0_2 m0_2] 58)) := by
  unfold execOp
  rw [ho]
  simp only [List.map_toArray, List.map_cons, List.map_nil, h0]
  kernel_rfl
set_option maxRecDepth 100000 in
set_option maxHeartbeats 8000000 in
theorem open_p (w : World) (p : DPlan) (hp : DPlanFine w p) (i : Nat) (hi : i < 3) : Calls Tryz.prog 48 #[.agg p.cells.toArray, .string ⟨(ctxKey i).toArray⟩] w (CtxsPost p (ordP p i) w) := by
  have HCP : Hid (∀ W, Below w.heap.size w W → Calls Tryz.prog 82 #[.agg p.cells.toArray] W (IntP 0 W)) := fun W hW => dplCheck_any W p (hp.below hW)
  have HCA : Hid (∀ W, Below w.heap.size w W → Calls Tryz.prog 83 #[.agg p.cells.toArray, .string ⟨(ctxKey i).toArray⟩] W (IntP i W)) := fun W hW => contextAt_any W p (hp.below hW) i hi
  have HOR : Hid (∀ W, Below w.heap.size w W → Calls Tryz.prog 84 #[.agg p.cells.toArray, .int .i64 (i : Int), .slice none 0 0] W (OrdPost w.heap.size (ordP p i) W)) := fun W hW => order_any w p hp 3 i (by omega) hi [] (.slice none 0 0) W hW (World.ownsRow_nil _ _ _ _) (by decide)
  obtain ⟨hlt3, hl7⟩ := ordP_ok hp hi
  have HLT := Lib.hid hlt3
  have hlen := hp.len
  obtain ⟨g, go, ha0, hg, hcl⟩ := hp.at
  have HCL : Hid (∀ k : Nat, k < 3 → ∀ W, Below w.heap.size w W → ∃ key : List UInt8, (p.ctxs.getD k noDCtx).key = key ∧ W.cell? ⟨g, go + k * 3, none⟩ = some (.string ⟨key.toArray⟩) ∧ W.cell? ⟨g, go + k * 3 + 1, none⟩ = some (.slice (p.ctxs.getD k noDCtx).ra (p.ctxs.getD k noDCtx).rn (p.ctxs.getD k noDCtx).rc) ∧ W.cell? ⟨g, go + k * 3 + 2, none⟩ = some (.slice (p.ctxs.getD k noDCtx).ia (p.ctxs.getD k noDCtx).inn (p.ctxs.getD k noDCtx).ic)) := fun k hk W hW => by
    obtain ⟨q0, q1, q2⟩ := hcl k hk
    exact ⟨_, hp.keys k hk, (hW.cell (p := ⟨g, go + k * 3, none⟩) hg).trans q0, (hW.cell (p := ⟨g, go + k * 3 + 1, none⟩) hg).trans q1, (hW.cell (p := ⟨g, go + k * 3 + 2, none⟩) hg).trans q2⟩
  have HROW : Hid (∀ q, q < (ordP p i).length → ctxRow p ((ordP p i).take (q + 1)) = ctxRow p ((ordP p i).take q) ++ (p.ctxs.getD ((ordP p i).getD q 0) noDCtx).cells) := fun q hq => by
    unfold ctxRow
    have e : (ordP p i).getD q 0 = (ordP p i)[q] := by rw [List.getD_eq_getElem?_getD, List.getElem?_eq_getElem hq]; rfl
    rw [List.take_add_one, List.getElem?_eq_getElem hq, e]
    simp only [List.map_append, List.flatten_append, Option.toList_some, List.map_cons, List.map_nil, List.flatten_cons, List.flatten_nil, List.append_nil]
  clear hp hcl hlt3
  have HPO : Hid (∀ W' v, W'.ownsRow w.heap.size 58 3 v (ordP p i).length (ctxRow p (ordP p i)) → Below w.heap.size w W' → CtxsPost p (ordP p i) w (.returned (.tuple #[v, .int .i64 0])) W') := fun W' v h1 h2 => ⟨v, rfl, h1, h2⟩
  generalize CtxsPost p (ordP p i) w = PP at HPO ⊢
  generalize hcr : ctxRow p = cr at HROW HPO
  have hcr0 : Hid (cr [] = []) := by rw [← hcr]; rfl
  clear hcr
  generalize ordP p i = l at HOR HLT hl7 HROW HPO
  obtain ⟨ca, cn, cc, ctxs, ha, hn, hcp, hrs⟩ := p
  simp only at ha0 hlen HCL HROW
  subst ha0
  subst hlen
  have HCP2 : Hid (∀ W, Below w.heap.size w W → Calls Tryz.prog 82 #[.agg #[.slice (some ⟨g, go, none⟩) 3 cc, .slice ha hn hcp]] W (IntP 0 W)) := HCP.out
  have HCA2 : Hid (∀ W, Below w.heap.size w W → Calls Tryz.prog 83 #[.agg #[.slice (some ⟨g, go, none⟩) 3 cc, .slice ha hn hcp], .string ⟨(ctxKey i).toArray⟩] W (IntP i W)) := HCA.out
  have HOR2 : Hid (∀ W, Below w.heap.size w W → Calls Tryz.prog 84 #[.agg #[.slice (some ⟨g, go, none⟩) 3 cc, .slice ha hn hcp], .int .i64 (i : Int), .slice none 0 0] W (OrdPost w.heap.size l W)) := HOR.out
  clear HCP HCA HOR
  generalize ctxKey i = ki at HCA2 ⊢
  have hi0 : ¬ ((i : Int) < 0) := by omega
  show Calls Tryz.prog 48 #[.agg #[.slice (some ⟨g, go, none⟩) 3 cc, .slice ha hn hcp], .string ⟨ki.toArray⟩] w PP
  have P1 : Hid (Blk (w.alloc (.cells #[.slice (some ⟨g, go, none⟩) 3 cc, .slice ha hn hcp] 29)) w.heap.size [.slice (some ⟨g, go, none⟩) 3 cc, .slice ha hn hcp] 29) := Blk.new w _ _
  have HB1 : Hid (Below w.heap.size w (w.alloc (.cells #[.slice (some ⟨g, go, none⟩) 3 cc, .slice ha hn hcp] 29))) := ext_alloc (Below.refl _ _)
  go_enter Tryz.func48, Tryz.ntmps48
  go_upto_region 1 with (fail)
  generalize (w.alloc (.cells #[.slice (some ⟨g, go, none⟩) 3 cc, .slice ha hn hcp] 29)) = w1 at P1 HB1 ⊢
  obtain ⟨P, hP⟩ : ∃ P, P = w.heap.size := ⟨_, rfl⟩
  rw [← hP] at P1
  simp only [← hP]
  clear hP
  have p0 := P1.out.cell 0 rfl
  have p1 := P1.out.cell 1 rfl
  as_aux_lemma =>
    go_wp2_with fail
    refine (HCP2.out _ HB1.out).mono ?_
    rintro e w2 ⟨rfl, hb⟩
    have HB2 := Lib.hid (ext_trans HB1.out hb)
    have P2 := Lib.hid (P1.out.below hb)
    clear hb HB1 P1 p0 p1 HCP2
    have p0 := P2.out.cell 0 rfl
    have p1 := P2.out.cell 1 rfl
    as_aux_lemma =>
      go_wp2_with fail
      refine (HCA2.out _ HB2.out).mono ?_
      rintro e w3 ⟨rfl, hb⟩
      have HB3 := Lib.hid (ext_trans HB2.out hb)
      have P3 := Lib.hid (P2.out.below hb)
      clear hb HB2 P2 p0 p1 HCA2
      have p0 := P3.out.cell 0 rfl
      have p1 := P3.out.cell 1 rfl
      as_aux_lemma =>
        go_wp2_with fail
        refine (HOR2.out _ HB3.out).mono ?_
        rintro e w4 ⟨v1, rfl, ho, hi4⟩
        have HB4 := Lib.hid (HB3.out.trans hi4.below)
        have P4 : Hid (Blk w4 P [.slice (some ⟨g, go, none⟩) 3 cc, .slice ha hn hcp] 29) := hi4.kept _ _ _ P3.out (by decide)
        have HO4 := Lib.hid ho
        have HSH := Lib.hid (shape_own ho)
        clear ho hi4 HB3 P3 p0 p1 HOR2
        obtain ⟨i1, hi1, hy0, hy1, hy2⟩ := info_parts Tryz.infoCtxO
        have hlv : ∃ va vc, v1 = .slice va l.length vc := by
          rcases HSH.out with ⟨h0, rfl⟩ | ⟨g, c, rfl, _⟩
          · exact ⟨none, 0, by rw [h0]⟩
          · exact ⟨_, _, rfl⟩
        obtain ⟨va, vc, rfl⟩ := hlv
        clear HSH
        as_aux_lemma =>
          go_wp2_with fail
          go_loopw [8, 25] (fun vo it wr => ∃ q : Nat, q ≤ l.length ∧ it = .int .i64 q ∧ Hid (Below w.heap.size w wr) ∧ Hid (Blk wr P [.slice (some ⟨g, go, none⟩) 3 cc, .slice ha hn hcp] 29) ∧ Hid (wr.ownsRow w.heap.size 3 1 (.slice va l.length vc) l.length (l.map encN)) ∧ Hid (wr.ownsRow w.heap.size 58 3 vo q (cr (l.take q)))) (fun _ it _ => l.length - (intOf it).toNat)
          case atStart => exact ⟨0, Nat.zero_le _, rfl, HB4, P4, HO4, by show World.ownsRow _ _ _ _ _ _ _; rw [List.take_zero, hcr0.out]; exact World.ownsRow_nil _ _ _ _⟩
          case round =>
            obtain ⟨q, hq, rfl, HB5, P5, HO5, HC5⟩ := hrel
            obtain ⟨vo, rfl⟩ : ∃ x : Value, x = u8 := ⟨_, rfl⟩
            clear HB4 P4 HO4
            by_cases hlq : q < l.length
            case neg =>
              have hqn : ¬ (q : Int) < (l.length : Int) := by omega
              have hq9 : q = l.length := by omega
              rw [List.take_of_length_le (by omega)] at HC5
              have HE := Lib.hid (HPO.out wr vo (by rw [← hq9]; exact HC5.out) HB5.out)
              clear hq9
              clear HC5 HO5 P5 HB5 HROW HPO HLT HCL hcr0
              as_aux_lemma =>
                go_wp2_with fail
                exact HE.out
            have hk3 : l.getD q 0 < 3 := HLT.out _ (by rw [List.getD_eq_getElem?_getD, List.getElem?_eq_getElem hlq]; exact List.getElem_mem _)
            have hsh := shape_own HO5.out
            obtain ⟨ga, gc, e9, hga, hgl⟩ : ∃ ga gc, va = some ⟨ga, 0, none⟩ ∧ w.heap.size ≤ ga ∧ ga < wr.heap.size := by
              rcases hsh with ⟨h0, _⟩ | ⟨ga, c, e, h1, h2⟩
              · omega
              · injection e with e1 e2 e3; exact ⟨ga, c, e1, h1, h2⟩
            subst e9
            have y0 : wr.cell? ⟨ga, q, none⟩ = some (.int .i64 ((l.getD q 0 : Nat) : Int)) := by
              rw [HO5.out.cellAt q (by omega)]
              simp [encN, hlq, List.getD_eq_getElem?_getD]
            have hrow := HROW.out q hlq
            obtain ⟨key, hkey, c0, c1, c2⟩ := HCL.out _ hk3 wr HB5.out
            have hcells : (ctxs.getD (l.getD q 0) noDCtx).cells = [.string ⟨key.toArray⟩, .slice (ctxs.getD (l.getD q 0) noDCtx).ra (ctxs.getD (l.getD q 0) noDCtx).rn (ctxs.getD (l.getD q 0) noDCtx).rc, .slice (ctxs.getD (l.getD q 0) noDCtx).ia (ctxs.getD (l.getD q 0) noDCtx).inn (ctxs.getD (l.getD q 0) noDCtx).ic] := by rw [← hkey]; rfl
            rw [hcells] at hrow
            have HRW := Lib.hid hrow
            generalize l.getD q 0 = k at y0 hk3 c0 c1 c2 HRW
            generalize (ctxs.getD k noDCtx).ra = ra at c1 HRW
            generalize (ctxs.getD k noDCtx).rn = rn at c1 HRW
            generalize (ctxs.getD k noDCtx).rc = rc at c1 HRW
            generalize (ctxs.getD k noDCtx).ia = ia at c2 HRW
            generalize (ctxs.getD k noDCtx).inn = inn at c2 HRW
            generalize (ctxs.getD k noDCtx).ic = ic at c2 HRW
            have hq0 : ¬ ((q : Int) < 0) := by omega
            have hql : (q : Int) < (l.length : Int) := by omega
            have hk0 : ¬ ((k : Int) < 0) := by omega
            have hk3i : (k : Int) < 3 := by omega
            have p0 := P5.out.cell 0 rfl
            clear hrow hkey hcells hsh
            have hA : Below wr.heap.size wr (wr.alloc (.cells #[.string ⟨key.toArray⟩, .slice ra rn rc, .slice ia inn ic] 58)) := ext_alloc (Below.refl _ _)
            have HBa := Lib.hid (ext_trans HB5.out hA)
            have Pa := Lib.hid (P5.out.below hA)
            have HOa := Lib.hid (own_more HO5.out hA)
            have HCa := Lib.hid (own_more HC5.out hA)
            have hml : q + 1 ≤ maxLen := by unfold maxLen; omega
            have hbs : (q + 1) * 64 ≤ 140737488355328 := by omega
            have hsz5 : w.heap.size ≤ wr.heap.size := HB5.out.size
            have hsz6 : w.heap.size ≤ (wr.alloc (.cells #[.string ⟨key.toArray⟩, .slice ra rn rc, .slice ia inn ic] 58)).heap.size := by simp; omega
            clear hA HB5 P5 HO5 HC5
            as_aux_lemma =>
              go_wp2_with (first | (refine wpList_val rfl (bl_dop0 _ (fun _ => rfl) _ _ 34 ⟨key.toArray⟩ ra rn rc ia inn ic rfl rfl) ?_) | (at_builtin; refine wpList_append_own _ rfl (.tmp 29) (.tmp 35) 26 rfl w.heap.size 58 i1 _ 3 64 Tryz.underlying26 hi1 hy0 hy1 hy2 rfl (by decide) vo q (cr (l.take q)) rfl HCa.out ⟨wr.heap.size, 0, none⟩ 1 1 [.string ⟨key.toArray⟩, .slice ra rn rc, .slice ia inn ic] rfl rfl (news_alloc _ [.string ⟨key.toArray⟩, .slice ra rn rc, .slice ia inn ic] _) (by simp [Value.oneCell']) hml hbs hsz6 ?_; intro v6 w6 hown6 hgr6 _; refine Hid.out ?_))
              refine Lib.hid ?_
              have HB6 : Hid (Below w.heap.size w w6) := HBa.out.trans (gb_to_below hgr6 hsz6 (fun b hb => by
                rcases shape_own HCa.out with ⟨_, rfl⟩ | ⟨g, c, rfl, h1, _⟩
                · cases hb
                · obtain rfl : g = b := Option.some.inj hb; exact h1))
              have P6 : Hid (Blk w6 P [.slice (some ⟨g, go, none⟩) 3 cc, .slice ha hn hcp] 29) := Pa.out.grown hgr6 (own_blk HCa.out Pa.out (by decide))
              have HO6 : Hid (w6.ownsRow w.heap.size 3 1 (.slice (some ⟨ga, 0, none⟩) l.length vc) l.length (l.map encN)) := own_gb HOa.out hgr6 (own_types HOa.out HCa.out (by decide))
              have HC6 : Hid (w6.ownsRow w.heap.size 58 3 v6 (q + 1) (cr (l.take (q + 1)))) := by
                show World.ownsRow _ _ _ _ _ _ _
                rw [HRW.out]
                exact hown6
              clear hown6 hgr6 HBa Pa HOa HCa hml hbs hsz5 hsz6 HRW
              as_aux_lemma =>
                go_wp2_with fail
                go_roundw
                case rel => exact ⟨q + 1, by omega, by go_num, HB6, P6, HO6, HC6⟩
                case measure => simp [intOf]; omega
end Go.Proofs.YtamlhapiehchoaaGreatDoor

set_option linter.unusedVariables false
set_option linter.unusedSimpArgs false
namespace Go.Proofs.YtamlhapiehchoaaGreatDoor
open Go.RowKit Go.Lib

theorem own_lower {w : World} {base b2 e size : Nat} {v : Value} {n : Nat} {xs : List Value} (h : w.ownsRow base e size v n xs) (hb : b2 ≤ base) : w.ownsRow b2 e size v n xs := ⟨h.1, h.2.imp id (by rintro ⟨g, cap, cur, e, h1, rest⟩; exact ⟨g, cap, cur, e, Nat.le_trans hb h1, rest⟩)⟩
def OnceR (l : List DRule) : Prop := ∀ j k, j < k → k < l.length → ¬ ((l.getD j noDRule).els.str = (l.getD k noDRule).els.str ∧ (l.getD j noDRule).hours = (l.getD k noDRule).hours)
/-- A list of rules of the call's own. -/
structure RulesAt (W : World) (base : Nat) (v : Value) (l : List DRule) : Prop where
  own : W.ownsRow base 63 6 v l.length ((l.map DRule.cells).flatten)
  ok : ∀ r ∈ l, DRuleOk r
  once : OnceR l
theorem RulesAt.keeps {S : Nat} {W W' : World} {base : Nat} {v : Value} {l : List DRule} (h : RulesAt W base v l) (hk : Keeps S W W') (hS : S < base) : RulesAt W' base v l := ⟨own_keeps h.own hk hS, h.ok, h.once⟩
theorem RulesAt.below {W W' : World} {base : Nat} {v : Value} {l : List DRule} (h : RulesAt W base v l) (hb : Below W.heap.size W W') : RulesAt W' base v l := ⟨own_more h.own hb, h.ok, h.once⟩
theorem RulesAt.lower {W : World} {base b2 : Nat} {v : Value} {l : List DRule} (h : RulesAt W base v l) (hb : b2 ≤ base) : RulesAt W b2 v l := ⟨own_lower h.own hb, h.ok, h.once⟩
theorem rules_nil (W : World) (base : Nat) : RulesAt W base (.slice none 0 0) [] := ⟨World.ownsRow_nil _ _ _ _, (fun r h => (by cases h)), (fun j k hj hk => (by cases hk))⟩
theorem once_snoc {l : List DRule} {r : DRule} (h : OnceR l) (hn : (l.any fun o => decide (o.els.str = r.els.str ∧ o.hours = r.hours)) = false) : OnceR (l ++ [r]) := fun j k hj hk => by
  rw [List.length_append, List.length_singleton] at hk
  have e1 : (l ++ [r]).getD j noDRule = l.getD j noDRule := by rw [List.getD_eq_getElem?_getD, List.getElem?_append_left (by omega), ← List.getD_eq_getElem?_getD]
  rw [e1]
  by_cases hkl : k < l.length
  · have e2 : (l ++ [r]).getD k noDRule = l.getD k noDRule := by rw [List.getD_eq_getElem?_getD, List.getElem?_append_left hkl, ← List.getD_eq_getElem?_getD]
    rw [e2]
    exact h j k hj hkl
  · have e2 : (l ++ [r]).getD k noDRule = r := by rw [List.getD_eq_getElem?_getD, List.getElem?_append_right (by omega), show k - l.length = 0 by omega]; rfl
    rw [e2]
    rw [List.any_eq_false] at hn
    have hj2 : j < l.length := by omega
    have := hn (l.getD j noDRule) (by rw [List.getD_eq_getElem?_getD, List.getElem?_eq_getElem hj2]; exact List.getElem_mem _)
    simpa using this
theorem RulesAt.row {W : World} {base : Nat} {a : Option Addr} {n c : Nat} {l : List DRule} (h : RulesAt W base (.slice a n c) l) (hf : l.length ≤ 10) : RuleRow W a n l ∧ n = l.length ∧ n ≤ c := by
  obtain ⟨a9, c9, e, hc⟩ := Cells.of_own h.own (fun x hx => by obtain ⟨y, _, rfl⟩ := List.mem_map.1 hx; rfl) (by decide)
  injection e with e1 e2 e3
  subst e1 e2 e3
  refine ⟨⟨hc, hf, fun i hi => h.ok _ (by rw [List.getD_eq_getElem?_getD, List.getElem?_eq_getElem hi]; exact List.getElem_mem _)⟩, rfl, ?_⟩
  rcases h.own.2 with ⟨e, h0⟩ | ⟨g, cap, cur, e, _, _, h3, _⟩
  · rw [h0]; exact Nat.zero_le _
  · injection e with e1 e2 e3
    subst e3
    exact h3
/-- The hours of a plan in the making. -/
structure HrsAt (W : World) (base : Nat) (v : Value) (l : List Hrs) : Prop where
  own : W.ownsRow base 131 4 v l.length (l.flatMap Hrs.cells)
  each : ∀ x ∈ l, HrsOk W base x
  two : l.length = 2
  keys : ∀ i, i < 2 → (l.getD i noHrs).key = hourKeys.getD i []
theorem HrsAt.keeps {S : Nat} {W W' : World} {base : Nat} {v : Value} {l : List Hrs} (h : HrsAt W base v l) (hk : Keeps S W W') (hS : S < base) : HrsAt W' base v l := ⟨own_keeps h.own hk hS, fun x hx => (h.each x hx).keeps hk hS, h.two, h.keys⟩
theorem HrsOk.other {w w' : World} {base b2 : Nat} {x : Hrs} {v : Value} {n s : Nat} {e : TypeId} {ys : List Value} (h : HrsOk w base x) (h2 : w.ownsRow b2 e s v n ys) (h1e : 133 ≠ e) (h2e : 136 ≠ e) (hg : w.grownBy w' v.ownBlock) : HrsOk w' base x :=
  ⟨own_grown h.own1 h2 h1e hg, own_grown h.own2 h2 h2e hg, h.ok⟩
theorem HrsAt.row {W : World} {base : Nat} {a : Option Addr} {n c : Nat} {l : List Hrs} (h : HrsAt W base (.slice a n c) l) : HrsRow W a n l ∧ n ≤ c := by
  have e0 : l.flatMap Hrs.cells = (l.map Hrs.cells).flatten := List.flatMap_def ..
  have ho := h.own
  rw [e0] at ho
  obtain ⟨a9, c9, e, hc⟩ := Cells.of_own ho (fun x hx => by obtain ⟨y, _, rfl⟩ := List.mem_map.1 hx; rfl) (by decide)
  injection e with e1 e2 e3
  subst e1 e2 e3
  have hm : ∀ i, i < 2 → l.getD i noHrs ∈ l := fun i hi => by
    rw [List.getD_eq_getElem?_getD, List.getElem?_eq_getElem (by rw [h.two]; exact hi)]; exact List.getElem_mem _
  refine ⟨⟨hc, h.two, fun i hi => ((h.each _ (hm i hi)).tri).1, fun i hi => ((h.each _ (hm i hi)).tri).2, fun i hi => (h.each _ (hm i hi)).ok, h.keys⟩, ?_⟩
  rcases ho.2 with ⟨e, h0⟩ | ⟨g, cap, cur, e, _, _, h3, _⟩
  · rw [h0]; exact Nat.zero_le _
  · injection e with e1 e2 e3
    subst e3
    exact h3
end Go.Proofs.YtamlhapiehchoaaGreatDoor

set_option linter.unusedVariables false
set_option linter.unusedSimpArgs false
namespace Go.Proofs.YtamlhapiehchoaaGreatDoor
open Go.RowKit Go.Lib

theorem put_gb {W : World} (g j : Nat) (u : Value) : W.grownBy (W.setCell ⟨g, j, none⟩ u) (some g) := ⟨rfl, rfl, rfl, by simp [World.setCell], fun k hk hn => Below.heap_setCell _ _ _ _ (fun e => hn (by rw [e]))⟩
/-- What a context includes lies in memory: not in block S nor in block g. -/
structure IncF (S g : Nat) (W : World) (i : Nat) (c : DCtx) : Prop where
  up : ∀ j ∈ c.incs, i < j ∧ j < 3
  once : c.incs.Nodup
  few : c.incs.length ≤ 2
  cap : c.inn ≤ c.ic
  cells : Cells W 1 c.ia c.inn (c.incs.map incV)
  off_ : ∀ b o, c.ia = some ⟨b, o, none⟩ → b ≠ S ∧ b ≠ g
theorem cells_keep {W W' : World} {sz : Nat} {a : Option Addr} {n : Nat} {cs : List (List Value)} (h : Cells W sz a n cs) (hs : W.heap.size ≤ W'.heap.size) (hk : ∀ b o, a = some ⟨b, o, none⟩ → b < W.heap.size → W'.heap[b]? = W.heap[b]?) : Cells W' sz a n cs := by
  refine ⟨h.len, h.row.imp id ?_⟩
  rintro ⟨b, off, ha, hl, hc⟩
  exact ⟨b, off, ha, Nat.lt_of_lt_of_le hl hs, fun i hi j hj => (World.cell?_of_block (hk b off ha hl)).trans (hc i hi j hj)⟩
theorem IncF.keeps {S g : Nat} {W W' : World} {i : Nat} {c : DCtx} (h : IncF S g W i c) (hk : Keeps S W W') : IncF S g W' i c := ⟨h.up, h.once, h.few, h.cap, cells_keep h.cells hk.size (fun b o e hb => hk.block b hb (h.off_ b o e).1), h.off_⟩
theorem IncF.put {S g : Nat} {W : World} {i : Nat} {c : DCtx} (h : IncF S g W i c) (j : Nat) (u : Value) : IncF S g (W.setCell ⟨g, j, none⟩ u) i c := ⟨h.up, h.once, h.few, h.cap, cells_keep h.cells (by simp [World.setCell]) (fun b o e hb => Below.heap_setCell _ _ _ _ (h.off_ b o e).2), h.off_⟩
structure PlG (S b0 Q P g cap : Nat) (pz : List Value) (hv : Value) (hrs : List Hrs) (ctxs : List DCtx) (W : World) : Prop where
  q_ : Blk W Q pz 29
  p_ : Blk W P [.slice (some ⟨g, 0, none⟩) 3 cap, hv] 29
  hh : HrsAt W b0 hv hrs
  cx : W.ownsRow b0 58 3 (.slice (some ⟨g, 0, none⟩) 3 cap) 3 ((ctxs.map DCtx.cells).flatten)
  len : ctxs.length = 3
  each : ∀ i, i < 3 → RulesAt W b0 (.slice (ctxs.getD i noDCtx).ra (ctxs.getD i noDCtx).rn (ctxs.getD i noDCtx).rc) (ctxs.getD i noDCtx).rules ∧ (ctxs.getD i noDCtx).rules.length ≤ 10 ∧ (ctxs.getD i noDCtx).key = ctxKey i ∧ IncF S g W i (ctxs.getD i noDCtx)
theorem PlG.keeps {S b0 Q P g cap : Nat} {pz : List Value} {hv : Value} {hrs : List Hrs} {ctxs : List DCtx} {W W' : World} (h : PlG S b0 Q P g cap pz hv hrs ctxs W) (hk : Keeps S W W') (hS : S < b0) (hn : Q ≠ S ∧ P ≠ S) : PlG S b0 Q P g cap pz hv hrs ctxs W' := ⟨h.q_.keeps hk hn.1, h.p_.keeps hk hn.2, h.hh.keeps hk hS, own_keeps h.cx hk hS, h.len, fun i hi => ⟨(h.each i hi).1.keeps hk hS, (h.each i hi).2.1, (h.each i hi).2.2.1, (h.each i hi).2.2.2.keeps hk⟩⟩
theorem set_getD {l : List DCtx} {i j : Nat} {x : DCtx} (hj : j < l.length) : (l.set i x).getD j noDCtx = if i = j then x else l.getD j noDCtx := by
  rw [List.getD_eq_getElem?_getD, List.getD_eq_getElem?_getD, List.getElem?_set]
  by_cases h : i = j
  · subst h; simp [hj]
  · simp [h]
theorem flat_setC : ∀ (l : List DCtx) (r : Nat) (y : DCtx) (v : Value), r < l.length → y.cells = ((l.getD r noDCtx).cells).set 2 v → ((l.set r y).map DCtx.cells).flatten = ((l.map DCtx.cells).flatten).set (r * 3 + 2) v
  | c :: cs, 0, y, v, _, hy => by
    have hy' : y.cells = c.cells.set 2 v := hy
    simp only [List.set_cons_zero, List.map_cons, List.flatten_cons, Nat.zero_mul, Nat.zero_add]
    rw [hy', List.set_append_left _ _ (by show 2 < 3; decide)]
  | c :: cs, r + 1, y, v, hr, hy => by
    have ih := flat_setC cs r y v (by simpa using hr) (by simpa using hy)
    simp only [List.set_cons_succ, List.map_cons, List.flatten_cons]
    have e : (DCtx.cells c).length = 3 := rfl
    rw [List.set_append_right _ _ (by rw [e]; omega), e, show (r + 1) * 3 + 2 - 3 = r * 3 + 2 by omega, ih]
/-- A context gets what it includes. -/
theorem PlG.put {S b0 Q P g cap : Nat} {pz : List Value} {hv : Value} {hrs : List Hrs} {ctxs : List DCtx} {W : World} (h : PlG S b0 Q P g cap pz hv hrs ctxs W) (i : Nat) (hi : i < 3) (a : Option Addr) (n c : Nat) (incs : List Nat) (hinc : IncF S g W i ⟨(ctxs.getD i noDCtx).key, (ctxs.getD i noDCtx).ra, (ctxs.getD i noDCtx).rn, (ctxs.getD i noDCtx).rc, (ctxs.getD i noDCtx).rules, a, n, c, incs⟩) : PlG S b0 Q P g cap pz hv hrs (ctxs.set i ⟨(ctxs.getD i noDCtx).key, (ctxs.getD i noDCtx).ra, (ctxs.getD i noDCtx).rn, (ctxs.getD i noDCtx).rc, (ctxs.getD i noDCtx).rules, a, n, c, incs⟩) (W.setCell ⟨g, i * 3 + 2, none⟩ (.slice a n c)) := by
  have hgb : W.grownBy (W.setCell ⟨g, i * 3 + 2, none⟩ (.slice a n c)) (some g) := put_gb g _ _
  have hQg : Q ≠ g := fun e => own_blk h.cx h.q_ (by decide) (by rw [e]; rfl)
  have hPg : P ≠ g := fun e => own_blk h.cx h.p_ (by decide) (by rw [e]; rfl)
  have hot : ∀ {base e s m : Nat} {v : Value} {xs : List Value}, W.ownsRow base e s v m xs → e ≠ 58 → (W.setCell ⟨g, i * 3 + 2, none⟩ (.slice a n c)).ownsRow base e s v m xs := fun hx he => own_gb hx hgb (fun b hb e2 => own_types hx h.cx he b hb (by rw [← e2]; rfl))
  refine ⟨h.q_.far (p := ⟨g, i * 3 + 2, none⟩) (Ne.symm hQg), h.p_.far (p := ⟨g, i * 3 + 2, none⟩) (Ne.symm hPg), ⟨hot h.hh.own (by decide), fun x hx => ⟨hot (h.hh.each x hx).own1 (by decide), hot (h.hh.each x hx).own2 (by decide), (h.hh.each x hx).ok⟩, h.hh.two, h.hh.keys⟩, ?_, by rw [List.length_set]; exact h.len, fun j hj => ?_⟩
  · have e := flat_setC ctxs i ⟨(ctxs.getD i noDCtx).key, (ctxs.getD i noDCtx).ra, (ctxs.getD i noDCtx).rn, (ctxs.getD i noDCtx).rc, (ctxs.getD i noDCtx).rules, a, n, c, incs⟩ (.slice a n c) (by rw [h.len]; exact hi) rfl
    rw [e]
    exact (h.cx.stored _ _).1
  · rw [set_getD (by rw [h.len]; exact hj)]
    by_cases hij : i = j
    · subst hij
      rw [if_pos rfl]
      obtain ⟨e1, e2, e3, _⟩ := h.each i hi
      exact ⟨⟨hot e1.own (by decide), e1.ok, e1.once⟩, e2, e3, hinc.put _ _⟩
    · rw [if_neg hij]
      obtain ⟨e1, e2, e3, e4⟩ := h.each j hj
      exact ⟨⟨hot e1.own (by decide), e1.ok, e1.once⟩, e2, e3, e4.put _ _⟩
theorem PlG.fine {S b0 Q P g cap : Nat} {pz : List Value} {ha : Option Addr} {hn hc : Nat} {hrs : List Hrs} {ctxs : List DCtx} {W : World} (h : PlG S b0 Q P g cap pz (.slice ha hn hc) hrs ctxs W) : DPlanFine W ⟨some ⟨g, 0, none⟩, 3, cap, ctxs, ha, hn, hc, hrs⟩ := by
  obtain ⟨a9, c9, e, hcc⟩ := Cells.of_own h.cx (fun x hx => by obtain ⟨y, _, rfl⟩ := List.mem_map.1 hx; rfl) (by decide)
  injection e with e1 e2 e3
  subst e1
  obtain ⟨hrw, hcp⟩ := h.hh.row
  refine ⟨hcc, h.len, ?_, fun i hi => ?_, fun i hi => (h.each i hi).2.2.1, fun i hi => ?_, hrw, hcp⟩
  · rcases h.cx.2 with ⟨e, h0⟩ | ⟨g', cap', cur, e, _, _, h3, _⟩
    · cases h0
    · injection e with e1 e2 e3
      subst e3
      exact h3
  · obtain ⟨e1, e2, e3, e4⟩ := h.each i hi
    obtain ⟨f1, f2, f3⟩ := e1.row e2
    exact ⟨f1, f3, e4.cells, e4.cap, e1.once⟩
  · obtain ⟨e1, e2, e3, e4⟩ := h.each i hi
    exact ⟨e4.up, e4.once, e4.few⟩
end Go.Proofs.YtamlhapiehchoaaGreatDoor

set_option linter.unusedVariables false
set_option linter.unusedSimpArgs false
namespace Go.Proofs.YtamlhapiehchoaaGreatDoor
open Go.RowKit Go.Lib

structure IncU (S g i : Nat) (W : World) (u : Value) : Prop where
  is_ : ∃ (a : Option Addr) (n : Nat) (incs : List Nat), u = .slice a n n ∧ (∀ j ∈ incs, i < j ∧ j < 3) ∧ incs.Nodup ∧ incs.length ≤ 2 ∧ Cells W 1 a n (incs.map incV) ∧ ∀ b o, a = some ⟨b, o, none⟩ → b ≠ S ∧ b ≠ g
theorem IncU.keeps {S g i : Nat} {W W' : World} {u : Value} (h : IncU S g i W u) (hk : Keeps S W W') : IncU S g i W' u := by
  obtain ⟨a, n, incs, e, h1, h2, h3, h4, h5⟩ := h.is_
  exact ⟨a, n, incs, e, h1, h2, h3, cells_keep h4 hk.size (fun b o e hb => hk.block b hb (h5 b o e).1), h5⟩
theorem incU_nil (S g i : Nat) (W : World) : IncU S g i W (.slice none 0 0) := ⟨none, 0, [], rfl, (fun j hj => (by cases hj)), List.nodup_nil, by decide, ⟨rfl, Or.inl rfl⟩, (fun b o e => (by cases e))⟩
theorem key1 : ctxKey 1 = [99, 98] := by decide
theorem key2 : ctxKey 2 = [99, 99] := by decide
theorem incU_one (S g i : Nat) (w : World) (x : Nat) (s : List UInt8) (hs : ctxKey x = s) (hx : i < x ∧ x < 3) (hS : S < w.heap.size) (hg : g < w.heap.size) : IncU S g i (w.alloc (.cells #[.string ⟨s.toArray⟩] 9)) (.slice (some ⟨w.heap.size, 0, none⟩) 1 1) := by
  refine ⟨_, 1, [x], rfl, fun j hj => by rw [List.mem_singleton.1 hj]; exact hx, by simp, by simp, ⟨rfl, Or.inr ⟨w.heap.size, 0, rfl, by simp, fun a ha b hb => ?_⟩⟩, fun b o e => by injection e with e; injection e with e1 e2; exact ⟨by omega, by omega⟩⟩
  obtain rfl : a = 0 := by omega
  obtain rfl : b = 0 := by omega
  rw [← hs]
  exact (Blk.new w [.string ⟨(ctxKey x).toArray⟩] 9).cell 0 rfl
theorem incU_two (S g i : Nat) (w : World) (x y : Nat) (s t : List UInt8) (hs : ctxKey x = s) (ht : ctxKey y = t) (hx : i < x ∧ x < 3) (hy : i < y ∧ y < 3) (hne : x ≠ y) (hS : S < w.heap.size) (hg : g < w.heap.size) : IncU S g i (w.alloc (.cells #[.string ⟨s.toArray⟩, .string ⟨t.toArray⟩] 9)) (.slice (some ⟨w.heap.size, 0, none⟩) 2 2) := by
  have hB := Blk.new w [.string ⟨(ctxKey x).toArray⟩, .string ⟨(ctxKey y).toArray⟩] 9
  refine ⟨_, 2, [x, y], rfl, fun j hj => by
    simp only [List.mem_cons, List.not_mem_nil, or_false] at hj
    rcases hj with rfl | rfl
    · exact hx
    · exact hy, by simp [hne], by simp, ⟨rfl, Or.inr ⟨w.heap.size, 0, rfl, by simp, fun a ha b hb => ?_⟩⟩, fun b o e => by injection e with e; injection e with e1 e2; exact ⟨by omega, by omega⟩⟩
  obtain rfl : b = 0 := by omega
  rw [← hs, ← ht]
  match a, ha with
  | 0, _ => exact hB.cell 0 rfl
  | 1, _ => exact hB.cell 1 rfl
structure TabU (S g i m : Nat) (W : World) (v : Value) : Prop where
  is_ : ∃ B, v = .slice (some ⟨B, 0, none⟩) m m ∧ B ≠ S ∧ B < W.heap.size ∧ ∀ z, z < m → ∃ u, W.cell? ⟨B, z, none⟩ = some u ∧ IncU S g i W u
theorem TabU.keeps {S g i m : Nat} {W W' : World} {v : Value} (h : TabU S g i m W v) (hk : Keeps S W W') : TabU S g i m W' v := by
  obtain ⟨B, e, h1, h2, h3⟩ := h.is_
  exact ⟨B, e, h1, Nat.lt_of_lt_of_le h2 hk.size, fun z hz => by
    obtain ⟨u, hu, hi⟩ := h3 z hz
    exact ⟨u, (hk.cell (p := ⟨B, z, none⟩) h2 h1).trans hu, hi.keeps hk⟩⟩
structure PtrU (S g i : Nat) (W : World) (v : Value) : Prop where
  is_ : ∃ B z u, v = .pointer (some ⟨B, z, none⟩) ∧ B ≠ S ∧ B < W.heap.size ∧ W.cell? ⟨B, z, none⟩ = some u ∧ IncU S g i W u
theorem PtrU.keeps {S g i : Nat} {W W' : World} {v : Value} (h : PtrU S g i W v) (hk : Keeps S W W') : PtrU S g i W' v := by
  obtain ⟨B, z, u, e, h1, h2, h3, h4⟩ := h.is_
  exact ⟨B, z, u, e, h1, Nat.lt_of_lt_of_le h2 hk.size, (hk.cell (p := ⟨B, z, none⟩) h2 h1).trans h3, h4.keeps hk⟩
end Go.Proofs.YtamlhapiehchoaaGreatDoor

set_option linter.unusedVariables false
set_option linter.unusedSimpArgs false
namespace Go.Proofs.YtamlhapiehchoaaGreatDoor
open Go.RowKit Go.Lib

theorem Tryz.dplanSz : (Tryz.prog.info? 29).map (·.size) = some 2 := by kernel_rfl
theorem inc_ne {S g i : Nat} {W : World} {c : DCtx} (h : IncF S g W i c) {Q : Nat} {a1 a2 : Option Addr} {n1 n2 c1 c2 : Nat} {ty : TypeId} (hq : Blk W Q [.slice a1 n1 c1, .slice a2 n2 c2] ty) (hn : 0 < c.inn) : ∀ b o, c.ia = some ⟨b, o, none⟩ → b ≠ Q := by
  intro b o e hb
  subst hb
  have hl := h.cells.len1
  rcases h.cells.row with h0 | ⟨b', off, e', _, hc⟩
  · omega
  · rw [e] at e'
    injection e' with e'
    injection e' with e1 e2
    subst e1 e2
    have h1 := hc 0 hn 0 (by decide)
    rw [getD_map incV c.incs 0 0 [] (by omega)] at h1
    have h2 : (some (Value.string ⟨(ctxKey (c.incs.getD 0 0)).toArray⟩) : Option Value) = [Value.slice a1 n1 c1, Value.slice a2 n2 c2][o + 0 * 1 + 0]? := by
      have h3 : W.cell? ⟨b, o + 0 * 1 + 0, none⟩ = [Value.slice a1 n1 c1, Value.slice a2 n2 c2][o + 0 * 1 + 0]? := by
        simp [World.cell?, hq.at_]
      rw [← h3, h1]
      rfl
    match o, h2 with
    | 0, h2 => cases h2
    | 1, h2 => cases h2
    | o + 2, h2 => cases h2
theorem PlG.last {S b0 Q P g cap : Nat} {hv : Value} {hrs : List Hrs} {ctxs : List DCtx} {W : World} (h : PlG S b0 Q P g cap [.slice none 0 0, .slice none 0 0] hv hrs ctxs W) (hPQ : P ≠ Q) (x y : Value) : PlG S b0 Q P g cap [x, y] hv hrs ctxs (W.setCells Q 0 [x, y]) := by
  have hgb : W.grownBy (W.setCells Q 0 [x, y]) (some Q) := setCells_gb Q [x, y] 0
  have hot : ∀ {base e s m : Nat} {v : Value} {xs : List Value}, W.ownsRow base e s v m xs → e ≠ 29 → (W.setCells Q 0 [x, y]).ownsRow base e s v m xs := fun hx he => own_gb hx hgb (fun b hb e2 => own_blk hx h.q_ he (by rw [hb, e2]))
  refine ⟨(h.q_.put 0 x).put 1 y, h.p_.grown hgb (fun e => hPQ (Option.some.inj e).symm), ⟨hot h.hh.own (by decide), fun z hz => ⟨hot (h.hh.each z hz).own1 (by decide), hot (h.hh.each z hz).own2 (by decide), (h.hh.each z hz).ok⟩, h.hh.two, h.hh.keys⟩, hot h.cx (by decide), h.len, fun i hi => ?_⟩
  obtain ⟨e1, e2, e3, e4⟩ := h.each i hi
  refine ⟨⟨hot e1.own (by decide), e1.ok, e1.once⟩, e2, e3, ⟨e4.up, e4.once, e4.few, e4.cap, ?_, e4.off_⟩⟩
  by_cases hn : 0 < (ctxs.getD i noDCtx).inn
  · exact cells_keep e4.cells hgb.size (fun b o e hb => hgb.block b hb (fun e2 => inc_ne e4 h.q_ hn b o e (Option.some.inj e2)))
  · exact ⟨e4.cells.len, Or.inl (by omega)⟩
end Go.Proofs.YtamlhapiehchoaaGreatDoor
