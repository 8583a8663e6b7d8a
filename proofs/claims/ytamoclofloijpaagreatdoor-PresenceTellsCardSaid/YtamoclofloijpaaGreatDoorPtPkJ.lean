/- What is proved here: lemmas and contracts for the statement, put together out of smaller texts (BcnCpt, BcnFlt, BcnDrw). No condition beyond those stated. -/
import Derived.Test.YtamoclofloijpaaGreatDoorPtPkD
import Derived.Test.YtamoclofloijpaaGreatDoorPtPkC
import Derived.Test.YtamoclofloijpaaGreatDoorPtPkA
import Derived.IntWalk
import Derived.Test.YtamoclofloijpaaGreatDoorPtPkE
import Derived.Test.YtamoclofloijpaaGreatDoorPtPkB
import Derived.Test.YtamoclofloijpaaGreatDoorPtPkI
import Derived.Test.YtamoclofloijpaaGreatDoorPtPkF
import Derived.Test.YtamoclofloijpaaGreatDoorShelfRep
import Derived.Test.YtamoclofloijpaaGreatDoorPtPkG
set_option linter.unusedVariables false
set_option linter.unusedSimpArgs false
namespace Go.Proofs.YtamoclofloijpaaGreatDoor
open Go.RowKit Go.Sort Go.Lib

def bcnEqB (x y : Vbcn) : Bool := bcnOrd x y == 0
def cpBPost (base : Nat) (v : Value) (L : List Vbcn) (w : World) (e : Ending) (w' : World) : Prop :=
  ∃ v' ys, e = .returned v' ∧ VbcnRow w' base v' ys ∧ (∀ y ∈ ys, y ∈ L) ∧ ys.length ≤ L.length ∧ w.grownBy w' v.ownBlock
set_option maxRecDepth 100000 in
set_option maxHeartbeats 16000000 in
theorem cpB_any (w : World) (base : Nat) (v : Value) (L : List Vbcn) (h : VbcnRow w base v L) (hl : L.length ≤ 12) :
    Calls Tryz.prog 56 #[v, .func (.func 57) #[] #[]] w (cpBPost base v L w) := by
  unfold VbcnRow at h
  obtain ⟨a, cap, rfl⟩ := own_shape h
  by_cases h2 : L.length < 2
  · have HE : Hid (cpBPost base (.slice a L.length cap) L w (.returned (.slice a L.length cap)) w) := ⟨_, L, rfl, h, fun y hy => hy, Nat.le_refl _, gb_of_below (Below.refl _ _)⟩
    generalize hPP : cpBPost base (.slice a L.length cap) L w = PP at HE ⊢
    generalize L.length = n at HE h2 ⊢
    clear h hl hPP
    have h01 : n = 0 ∨ n = 1 := by omega
    clear h2
    rcases h01 with rfl | rfl
    · go_enter Tryz.func56, Tryz.ntmps56
      go_wp2_with fail
      exact HE.out
    · go_enter Tryz.func56, Tryz.ntmps56
      go_wp2_with fail
      exact HE.out
  obtain ⟨g, rfl, hg0, hg1⟩ := own_pos h (by omega)
  have hcp : L.length ≤ cap ∧ cap ≤ maxLen := by
    rcases h.2 with ⟨e, _⟩ | ⟨g', c', cu, e, _, _, h1, h3, _⟩
    · cases e
    · injection e with _ _ e3
      subst e3
      exact ⟨h1, h3⟩
  have hcm : cap ≤ 9223372036854775807 := by have := hcp.2; unfold maxLen at this; omega
  have hcp1 := hcp.1
  have HO := Lib.hid h
  obtain ⟨n, hn⟩ : ∃ n, n = L.length := ⟨_, rfl⟩
  have HN := Lib.hid hn
  have hn2 : 2 ≤ n := by omega
  have hn12 : n ≤ 12 := by omega
  have hcn : n ≤ cap := by omega
  have HPP : Hid (∀ e W, cpBPost base (.slice (some ⟨g, 0, none⟩) L.length cap) L w e W → cpBPost base (.slice (some ⟨g, 0, none⟩) n cap) L w e W) := fun e W h => by rw [hn]; exact h
  rw [← hn] at HO ⊢
  clear h hl h2 hcp hcp1 hn
  go_enter Tryz.func56, Tryz.ntmps56
  have hn2i : ¬ ((n : Int) < 2) := by omega
  go_wp2_with fail
  clear hn2i
  go_loopw [5] (fun it wr => ∃ k : Nat, 1 ≤ k ∧ k ≤ n ∧ it = .int .i64 k ∧ Hid (wr.ownsRow base 35 6 (.slice (some ⟨g, 0, none⟩) n cap) n ((L.map Vbcn.cells).flatten)) ∧ Hid (w.grownBy wr (some g))) (fun it _ => n - (intOf it).toNat)
  case atStart => exact ⟨1, Nat.le_refl _, by omega, rfl, HO, gb_of_below (Below.refl _ _)⟩
  case round =>
    clear HO
    obtain ⟨k, hk1, hkn, rfl, HO, HG⟩ := hrel
    by_cases hlk : k < n
    case neg =>
      obtain rfl : k = n := by omega
      have HE : Hid (cpBPost base (.slice (some ⟨g, 0, none⟩) k cap) L w (.returned (.slice (some ⟨g, 0, none⟩) k cap)) wr) := ⟨_, L, rfl, by unfold VbcnRow; rw [← HN.out]; exact HO.out, fun y hy => hy, Nat.le_refl _, HG.out⟩
      have hkk : ¬ ((k : Int) < (k : Int)) := by omega
      clear HO HG
      as_aux_lemma =>
        go_wp2_with fail
        go_ret
        exact HE.out
    obtain ⟨k1, rfl⟩ : ∃ k1, k = k1 + 1 := ⟨k - 1, by omega⟩
    have hlki : ((k1 + 1 : Nat) : Int) < (n : Int) := by omega
    have hlk1 : (k1 : Int) < (n : Int) := by omega
    have hwk : IntKind.i64.wrap (k1 : Int) = (k1 : Int) := IntWalk.i64_in _ (by omega)
    have hk10 : ¬ ((k1 : Int) < 0) := by omega
    have hk20 : ¬ ((k1 : Int) + 1 < 0) := by omega
    have hk21 : (k1 : Int) + 1 < (n : Int) := by omega
    have hOd := own_keep HO.out (ext_drew (Below.refl wr.heap.size wr))
    have xc0 := own_field Vbcn.cells (fun _ => rfl) hOd (k1 + 1) 0 default (by have := HN.out; omega) (by omega) rfl
    have yc0 := own_field Vbcn.cells (fun _ => rfl) hOd (k1) 0 default (by have := HN.out; omega) (by omega) rfl
    have xc1 := own_field Vbcn.cells (fun _ => rfl) hOd (k1 + 1) 1 default (by have := HN.out; omega) (by omega) rfl
    have yc1 := own_field Vbcn.cells (fun _ => rfl) hOd (k1) 1 default (by have := HN.out; omega) (by omega) rfl
    have xc2 := own_field Vbcn.cells (fun _ => rfl) hOd (k1 + 1) 2 default (by have := HN.out; omega) (by omega) rfl
    have yc2 := own_field Vbcn.cells (fun _ => rfl) hOd (k1) 2 default (by have := HN.out; omega) (by omega) rfl
    have xc3 := own_field Vbcn.cells (fun _ => rfl) hOd (k1 + 1) 3 default (by have := HN.out; omega) (by omega) rfl
    have yc3 := own_field Vbcn.cells (fun _ => rfl) hOd (k1) 3 default (by have := HN.out; omega) (by omega) rfl
    have xc4 := own_field Vbcn.cells (fun _ => rfl) hOd (k1 + 1) 4 default (by have := HN.out; omega) (by omega) rfl
    have yc4 := own_field Vbcn.cells (fun _ => rfl) hOd (k1) 4 default (by have := HN.out; omega) (by omega) rfl
    have xc5 := own_field Vbcn.cells (fun _ => rfl) hOd (k1 + 1) 5 default (by have := HN.out; omega) (by omega) rfl
    have yc5 := own_field Vbcn.cells (fun _ => rfl) hOd (k1) 5 default (by have := HN.out; omega) (by omega) rfl
    have hgd : g < wr.drew.heap.size := Nat.lt_of_lt_of_le hg1 (gb_below HG.out (ext_drew (Below.refl _ _))).size
    obtain ⟨fx, hfx⟩ : ∃ f, f = L.getD (k1 + 1) default := ⟨_, rfl⟩
    obtain ⟨fy, hfy⟩ : ∃ f, f = L.getD k1 default := ⟨_, rfl⟩
    rw [← hfx] at xc0 xc1 xc2 xc3 xc4 xc5
    rw [← hfy] at yc0 yc1 yc2 yc3 yc4 yc5
    have HEQ2 : Hid (∀ W, Calls Tryz.prog 57 #[.agg #[.string ⟨fx.per.toArray⟩, .string ⟨fx.dev.toArray⟩, .int .i64 fx.st, .int .i64 fx.at_, .int .i64 fx.til, .string ⟨fx.note.toArray⟩], .agg #[.string ⟨fy.per.toArray⟩, .string ⟨fy.dev.toArray⟩, .int .i64 fy.st, .int .i64 fy.at_, .int .i64 fy.til, .string ⟨fy.note.toArray⟩]] W (BoolP (bcnEqB fx fy) W)) := fun W => bcnSame_any fx fy W
    clear hfx hfy
    generalize bcnEqB fx fy = bq at HEQ2
    generalize (⟨fx.per.toArray⟩ : ByteArray) = x0 at xc0 HEQ2
    generalize (⟨fx.dev.toArray⟩ : ByteArray) = x1 at xc1 HEQ2
    generalize fx.st = x2 at xc2 HEQ2
    generalize fx.at_ = x3 at xc3 HEQ2
    generalize fx.til = x4 at xc4 HEQ2
    generalize (⟨fx.note.toArray⟩ : ByteArray) = x5 at xc5 HEQ2
    generalize (⟨fy.per.toArray⟩ : ByteArray) = y0 at yc0 HEQ2
    generalize (⟨fy.dev.toArray⟩ : ByteArray) = y1 at yc1 HEQ2
    generalize fy.st = y2 at yc2 HEQ2
    generalize fy.at_ = y3 at yc3 HEQ2
    generalize fy.til = y4 at yc4 HEQ2
    generalize (⟨fy.note.toArray⟩ : ByteArray) = y5 at yc5 HEQ2
    rw [Nat.add_zero] at xc0 yc0
    have HCE : Hid (∀ W9, Below wr.drew.heap.size wr.drew W9 → (W9.cell? ⟨g, (k1 + 1) * 6, none⟩ = some (.string x0) ∧ W9.cell? ⟨g, (k1 + 1) * 6 + 1, none⟩ = some (.string x1) ∧ W9.cell? ⟨g, (k1 + 1) * 6 + 2, none⟩ = some (.int .i64 x2) ∧ W9.cell? ⟨g, (k1 + 1) * 6 + 3, none⟩ = some (.int .i64 x3) ∧ W9.cell? ⟨g, (k1 + 1) * 6 + 4, none⟩ = some (.int .i64 x4) ∧ W9.cell? ⟨g, (k1 + 1) * 6 + 5, none⟩ = some (.string x5)) ∧ (W9.cell? ⟨g, k1 * 6, none⟩ = some (.string y0) ∧ W9.cell? ⟨g, k1 * 6 + 1, none⟩ = some (.string y1) ∧ W9.cell? ⟨g, k1 * 6 + 2, none⟩ = some (.int .i64 y2) ∧ W9.cell? ⟨g, k1 * 6 + 3, none⟩ = some (.int .i64 y3) ∧ W9.cell? ⟨g, k1 * 6 + 4, none⟩ = some (.int .i64 y4) ∧ W9.cell? ⟨g, k1 * 6 + 5, none⟩ = some (.string y5))) := fun W9 hW => ⟨⟨(hW.cell (p := ⟨g, (k1 + 1) * 6, none⟩) hgd).trans xc0, (hW.cell (p := ⟨g, (k1 + 1) * 6 + 1, none⟩) hgd).trans xc1, (hW.cell (p := ⟨g, (k1 + 1) * 6 + 2, none⟩) hgd).trans xc2, (hW.cell (p := ⟨g, (k1 + 1) * 6 + 3, none⟩) hgd).trans xc3, (hW.cell (p := ⟨g, (k1 + 1) * 6 + 4, none⟩) hgd).trans xc4, (hW.cell (p := ⟨g, (k1 + 1) * 6 + 5, none⟩) hgd).trans xc5⟩, ⟨(hW.cell (p := ⟨g, k1 * 6, none⟩) hgd).trans yc0, (hW.cell (p := ⟨g, k1 * 6 + 1, none⟩) hgd).trans yc1, (hW.cell (p := ⟨g, k1 * 6 + 2, none⟩) hgd).trans yc2, (hW.cell (p := ⟨g, k1 * 6 + 3, none⟩) hgd).trans yc3, (hW.cell (p := ⟨g, k1 * 6 + 4, none⟩) hgd).trans yc4, (hW.cell (p := ⟨g, k1 * 6 + 5, none⟩) hgd).trans yc5⟩⟩
    have HOd := Lib.hid hOd
    have HGd := Lib.hid (gb_below HG.out (ext_drew (Below.refl wr.heap.size wr)))
    clear xc0 xc1 xc2 xc3 xc4 xc5 yc0 yc1 yc2 yc3 yc4 yc5 hOd HO HG
    as_aux_lemma =>
      go_upto_region 6 with (fail)
      refine region_seqI (S := fun W9 => Below wr.drew.heap.size wr.drew W9) [(true, 0), (true, 1), (true, 2), (true, 3), (true, 4), (true, 5), (true, 6), (true, 7), (true, 8), (true, 9), (false, 10)] (by kernel_rfl) (by kernel_rfl) rfl (by kernel_rfl) (Below.refl _ _) ?_
      generalize wr.drew = wd at HCE HOd HGd hgd ⊢
      simp only [seqOps, List.getD_cons_zero, List.getD_cons_succ]
      refine seqI_take (v := .func (.func 57) #[] #[]) rfl (fun W9 hW => by clear hW; go_simp) (fun _ _ _ h => h) ?_
      simp only [Act.put, List.setIfInBounds_toArray, List.set_cons_zero, List.set_cons_succ]
      refine seqI_take (v := .slice (some ⟨g, 0, none⟩) n cap) rfl (fun W9 hW => by clear hW; go_simp) (fun _ _ _ h => h) ?_
      simp only [Act.put, List.setIfInBounds_toArray, List.set_cons_zero, List.set_cons_succ]
      refine seqI_take (v := .int .i64 ((k1 : Int) + 1)) rfl (fun W9 hW => by clear hW; go_simp) (fun _ _ _ h => h) ?_
      simp only [Act.put, List.setIfInBounds_toArray, List.set_cons_zero, List.set_cons_succ]
      refine seqI_take (v := .pointer (some ⟨g, (k1 + 1) * 6, none⟩)) rfl (fun W9 hW => by clear hW; go_simp) (fun _ _ _ h => h) ?_
      simp only [Act.put, List.setIfInBounds_toArray, List.set_cons_zero, List.set_cons_succ]
      refine seqI_take (v := .agg #[.string x0, .string x1, .int .i64 x2, .int .i64 x3, .int .i64 x4, .string x5]) rfl (fun W9 hW => by obtain ⟨⟨m0, m1, m2, m3, m4, m5⟩, ⟨q0, q1, q2, q3, q4, q5⟩⟩ := HCE.out W9 hW; go_simp) (fun _ _ _ h => h) ?_
      simp only [Act.put, List.setIfInBounds_toArray, List.set_cons_zero, List.set_cons_succ]
      refine seqI_take (v := .slice (some ⟨g, 0, none⟩) n cap) rfl (fun W9 hW => by clear hW; go_simp) (fun _ _ _ h => h) ?_
      simp only [Act.put, List.setIfInBounds_toArray, List.set_cons_zero, List.set_cons_succ]
      refine seqI_take (v := .int .i64 ((k1 : Int) + 1)) rfl (fun W9 hW => by clear hW; go_simp) (fun _ _ _ h => h) ?_
      simp only [Act.put, List.setIfInBounds_toArray, List.set_cons_zero, List.set_cons_succ]
      refine seqI_take (v := .int .i64 k1) rfl (fun W9 hW => by clear hW; go_simp) (fun _ _ _ h => h) ?_
      simp only [Act.put, List.setIfInBounds_toArray, List.set_cons_zero, List.set_cons_succ]
      refine seqI_take (v := .pointer (some ⟨g, k1 * 6, none⟩)) rfl (fun W9 hW => by clear hW; go_simp) (fun _ _ _ h => h) ?_
      simp only [Act.put, List.setIfInBounds_toArray, List.set_cons_zero, List.set_cons_succ]
      refine seqI_take (v := .agg #[.string y0, .string y1, .int .i64 y2, .int .i64 y3, .int .i64 y4, .string y5]) rfl (fun W9 hW => by obtain ⟨⟨m0, m1, m2, m3, m4, m5⟩, ⟨q0, q1, q2, q3, q4, q5⟩⟩ := HCE.out W9 hW; go_simp) (fun _ _ _ h => h) ?_
      simp only [Act.put, List.setIfInBounds_toArray, List.set_cons_zero, List.set_cons_succ]
      refine seqI_call _ _ rfl (by go_simp) (HEQ2.out wd) ?_
      rintro e w2 ⟨rfl, hb⟩
      have HO2 := Lib.hid (own_keep HOd.out hb)
      have HG2 := Lib.hid (gb_below HGd.out hb)
      refine ⟨_, rfl, hb, ?_⟩
      simp only [Act.put, List.setIfInBounds_toArray, List.set_cons_zero, List.set_cons_succ]
      refine seqI_nil ?_
      clear hb HCE HOd HGd HEQ2 hgd
      cases bq
      case false =>
        as_aux_lemma =>
          go_wp2_with fail
          go_roundw
          case rel => exact ⟨k1 + 1 + 1, by omega, by omega, by go_num, HO2, HG2⟩
          case measure => simp [intOf]; omega
      have hcapk : ¬ cap = k1 + 1 := by omega
      have hkni : (k1 : Int) + 1 ≤ (n : Int) := by omega
      have hkci : (k1 : Int) + 1 ≤ (cap : Int) := by omega
      have hlkn : k1 + 1 < n := hlk
      as_aux_lemma =>
        go_wp2_with fail
        go_loopw [5, 7] (fun si sk wr => ∃ (i k2 : Nat) (R : List Vbcn), si = .int .i64 i ∧ sk = .int .i64 k2 ∧ 1 ≤ k2 ∧ k2 ≤ n - (k1 + 1) ∧ 1 ≤ i ∧ i ≤ k1 + k2 ∧ Hid (R.length = n ∧ ∀ z, z < n → R.getD z default ∈ L) ∧ Hid (wr.ownsRow base 35 6 (.slice (some ⟨g, 0, none⟩) n cap) n ((R.map Vbcn.cells).flatten)) ∧ Hid (w.grownBy wr (some g))) (fun _ sk _ => n - (intOf sk).toNat)
        case atStart => exact ⟨k1 + 1, 1, L, rfl, rfl, Nat.le_refl _, by omega, by omega, Nat.le_refl _, ⟨HN.out.symm, fun z hz => bcn_mem (by have := HN.out; omega)⟩, HO2, HG2⟩
        case round =>
          clear HO2 HG2
          obtain ⟨i, k2, R, rfl, rfl, hk21, hk2n, hi1, hik, HR, HO, HG⟩ := hrel
          by_cases hlk2 : k2 < n - (k1 + 1)
          case neg =>
            have hk2e : k2 = n - (k1 + 1) := by omega
            have hin : i < n := by omega
            have hRl := HR.out.1
            have hci : ¬ cap = i := by omega
            have hil : (i : Int) ≤ (n : Int) := by omega
            have hic : (i : Int) ≤ (cap : Int) := by omega
            have hcell : ∀ q, q < (n - i) * 6 → (wr.cell? ⟨g, i * 6 + q, none⟩).isSome = true := fun q hq => by
              rw [HO.out.cellAt (i * 6 + q) (by omega)]
              have hf := flat_length Vbcn.cells 6 (fun _ => rfl) R
              rw [List.getElem?_eq_getElem (by rw [hf, hRl]; omega)]
              rfl
            obtain ⟨LZ, hcl⟩ := run_clear_any wr 26 35 (.agg #[.string ⟨#[]⟩, .string ⟨#[]⟩, .int .i64 0, .int .i64 0, .int .i64 0, .string ⟨#[]⟩]) Tryz.underlying26 Tryz.zeroValue35 (by decide) (fun i => by
              match i with
              | 0 => rfl
              | 1 => rfl
              | 2 => rfl
              | 3 => rfl
              | 4 => rfl
              | 5 => rfl
              | i + 6 => rfl) g (i * 6) (n - i) (cap - i) (by omega) hcell (fun q _ => HO.out.frozenAt _)
            have HE : Hid (cpBPost base (.slice (some ⟨g, 0, none⟩) n cap) L w (.returned (.slice (some ⟨g, 0, none⟩) i cap)) (wr.setCells g (i * 6) LZ)) := by
              obtain ⟨ys, hy1, hy2⟩ := own_above LZ wr _ (i * 6) (i * 6) HO.out (Nat.le_refl _)
              have hy3 := own_cutK hy1 (Nat.le_of_lt hin)
              rw [hy2, flat_take Vbcn.cells 6 (fun _ => rfl) R i (by omega)] at hy3
              have hlen : (R.take i).length = i := by rw [List.length_take]; omega
              refine ⟨_, R.take i, rfl, ?_, ?_, ?_, gb_trans HG.out (setCells_gb g LZ (i * 6))⟩
              · unfold VbcnRow
                rw [hlen]
                exact hy3
              · intro y hy
                obtain ⟨z, hz, rfl⟩ := List.getElem_of_mem (List.mem_of_mem_take hy)
                have := HR.out.2 z (by omega)
                rw [List.getD_eq_getElem?_getD, List.getElem?_eq_getElem hz] at this
                exact this
              · rw [hlen]
                have := HN.out
                omega
            have hk2n' : ¬ ((k2 : Int) < (n : Int) - ((k1 : Int) + 1)) := by omega
            clear HO HG HR hcell hRl
            as_aux_lemma =>
              go_wp2_with fail
              go_ret
              exact HE.out
          obtain ⟨k3, rfl⟩ : ∃ k3, k2 = k3 + 1 := ⟨k2 - 1, by omega⟩
          obtain ⟨fx, hfx⟩ : ∃ f, f = R.getD (k1 + 1 + (k3 + 1)) default := ⟨_, rfl⟩
          obtain ⟨fz, hfz⟩ : ∃ f, f = R.getD (k1 + 1 + k3) default := ⟨_, rfl⟩
          have hOd := own_keep HO.out (ext_drew (Below.refl wr.heap.size wr))
          have xc0 := own_field Vbcn.cells (fun _ => rfl) hOd (k1 + 1 + (k3 + 1)) 0 default (by have := HR.out.1; omega) (by omega) rfl
          have yc0 := own_field Vbcn.cells (fun _ => rfl) hOd (k1 + 1 + k3) 0 default (by have := HR.out.1; omega) (by omega) rfl
          have xc1 := own_field Vbcn.cells (fun _ => rfl) hOd (k1 + 1 + (k3 + 1)) 1 default (by have := HR.out.1; omega) (by omega) rfl
          have yc1 := own_field Vbcn.cells (fun _ => rfl) hOd (k1 + 1 + k3) 1 default (by have := HR.out.1; omega) (by omega) rfl
          have xc2 := own_field Vbcn.cells (fun _ => rfl) hOd (k1 + 1 + (k3 + 1)) 2 default (by have := HR.out.1; omega) (by omega) rfl
          have yc2 := own_field Vbcn.cells (fun _ => rfl) hOd (k1 + 1 + k3) 2 default (by have := HR.out.1; omega) (by omega) rfl
          have xc3 := own_field Vbcn.cells (fun _ => rfl) hOd (k1 + 1 + (k3 + 1)) 3 default (by have := HR.out.1; omega) (by omega) rfl
          have yc3 := own_field Vbcn.cells (fun _ => rfl) hOd (k1 + 1 + k3) 3 default (by have := HR.out.1; omega) (by omega) rfl
          have xc4 := own_field Vbcn.cells (fun _ => rfl) hOd (k1 + 1 + (k3 + 1)) 4 default (by have := HR.out.1; omega) (by omega) rfl
          have yc4 := own_field Vbcn.cells (fun _ => rfl) hOd (k1 + 1 + k3) 4 default (by have := HR.out.1; omega) (by omega) rfl
          have xc5 := own_field Vbcn.cells (fun _ => rfl) hOd (k1 + 1 + (k3 + 1)) 5 default (by have := HR.out.1; omega) (by omega) rfl
          have yc5 := own_field Vbcn.cells (fun _ => rfl) hOd (k1 + 1 + k3) 5 default (by have := HR.out.1; omega) (by omega) rfl
          rw [← hfx] at xc0 xc1 xc2 xc3 xc4 xc5
          rw [← hfz] at yc0 yc1 yc2 yc3 yc4 yc5
          rw [show (k1 + 1 + (k3 + 1)) * 6 = (k1 + 1) * 6 + (k3 + 1) * 6 by omega] at xc0 xc1 xc2 xc3 xc4 xc5
          rw [show (k1 + 1 + k3) * 6 = (k1 + 1) * 6 + k3 * 6 by omega] at yc0 yc1 yc2 yc3 yc4 yc5
          rw [Nat.add_zero] at xc0 yc0
          have hgd : g < wr.drew.heap.size := Nat.lt_of_lt_of_le hg1 (gb_below HG.out (ext_drew (Below.refl _ _))).size
          have HEQ2 : Hid (∀ W, Calls Tryz.prog 57 #[.agg #[.string ⟨fx.per.toArray⟩, .string ⟨fx.dev.toArray⟩, .int .i64 fx.st, .int .i64 fx.at_, .int .i64 fx.til, .string ⟨fx.note.toArray⟩], .agg #[.string ⟨fz.per.toArray⟩, .string ⟨fz.dev.toArray⟩, .int .i64 fz.st, .int .i64 fz.at_, .int .i64 fz.til, .string ⟨fz.note.toArray⟩]] W (BoolP (bcnEqB fx fz) W)) := fun W => bcnSame_any fx fz W
          have HFX : Hid (fx ∈ L) := by rw [hfx]; exact HR.out.2 _ (by omega)
          have HSV : Hid (∀ (W : World), W.ownsRow base 35 6 (.slice (some ⟨g, 0, none⟩) n cap) n ((R.map Vbcn.cells).flatten) → (W.setCells g (i * 6) [.string ⟨fx.per.toArray⟩, .string ⟨fx.dev.toArray⟩, .int .i64 fx.st, .int .i64 fx.at_, .int .i64 fx.til, .string ⟨fx.note.toArray⟩]).ownsRow base 35 6 (.slice (some ⟨g, 0, none⟩) n cap) n (((R.set i fx).map Vbcn.cells).flatten)) := fun W h => bcn_put h i (by have := HR.out.1; omega) fx
          clear hfx hfz
          generalize bcnEqB fx fz = bq at HEQ2
          generalize (⟨fx.per.toArray⟩ : ByteArray) = x0 at xc0 HEQ2 HSV
          generalize (⟨fx.dev.toArray⟩ : ByteArray) = x1 at xc1 HEQ2 HSV
          generalize fx.st = x2 at xc2 HEQ2 HSV
          generalize fx.at_ = x3 at xc3 HEQ2 HSV
          generalize fx.til = x4 at xc4 HEQ2 HSV
          generalize (⟨fx.note.toArray⟩ : ByteArray) = x5 at xc5 HEQ2 HSV
          generalize (⟨fz.per.toArray⟩ : ByteArray) = y0 at yc0 HEQ2
          generalize (⟨fz.dev.toArray⟩ : ByteArray) = y1 at yc1 HEQ2
          generalize fz.st = y2 at yc2 HEQ2
          generalize fz.at_ = y3 at yc3 HEQ2
          generalize fz.til = y4 at yc4 HEQ2
          generalize (⟨fz.note.toArray⟩ : ByteArray) = y5 at yc5 HEQ2
          have HCE : Hid (∀ W9, Below wr.drew.heap.size wr.drew W9 → (W9.cell? ⟨g, (k1 + 1) * 6 + (k3 + 1) * 6, none⟩ = some (.string x0) ∧ W9.cell? ⟨g, (k1 + 1) * 6 + (k3 + 1) * 6 + 1, none⟩ = some (.string x1) ∧ W9.cell? ⟨g, (k1 + 1) * 6 + (k3 + 1) * 6 + 2, none⟩ = some (.int .i64 x2) ∧ W9.cell? ⟨g, (k1 + 1) * 6 + (k3 + 1) * 6 + 3, none⟩ = some (.int .i64 x3) ∧ W9.cell? ⟨g, (k1 + 1) * 6 + (k3 + 1) * 6 + 4, none⟩ = some (.int .i64 x4) ∧ W9.cell? ⟨g, (k1 + 1) * 6 + (k3 + 1) * 6 + 5, none⟩ = some (.string x5)) ∧ (W9.cell? ⟨g, (k1 + 1) * 6 + k3 * 6, none⟩ = some (.string y0) ∧ W9.cell? ⟨g, (k1 + 1) * 6 + k3 * 6 + 1, none⟩ = some (.string y1) ∧ W9.cell? ⟨g, (k1 + 1) * 6 + k3 * 6 + 2, none⟩ = some (.int .i64 y2) ∧ W9.cell? ⟨g, (k1 + 1) * 6 + k3 * 6 + 3, none⟩ = some (.int .i64 y3) ∧ W9.cell? ⟨g, (k1 + 1) * 6 + k3 * 6 + 4, none⟩ = some (.int .i64 y4) ∧ W9.cell? ⟨g, (k1 + 1) * 6 + k3 * 6 + 5, none⟩ = some (.string y5))) := fun W9 hW => ⟨⟨(hW.cell (p := ⟨g, (k1 + 1) * 6 + (k3 + 1) * 6, none⟩) hgd).trans xc0, (hW.cell (p := ⟨g, (k1 + 1) * 6 + (k3 + 1) * 6 + 1, none⟩) hgd).trans xc1, (hW.cell (p := ⟨g, (k1 + 1) * 6 + (k3 + 1) * 6 + 2, none⟩) hgd).trans xc2, (hW.cell (p := ⟨g, (k1 + 1) * 6 + (k3 + 1) * 6 + 3, none⟩) hgd).trans xc3, (hW.cell (p := ⟨g, (k1 + 1) * 6 + (k3 + 1) * 6 + 4, none⟩) hgd).trans xc4, (hW.cell (p := ⟨g, (k1 + 1) * 6 + (k3 + 1) * 6 + 5, none⟩) hgd).trans xc5⟩, ⟨(hW.cell (p := ⟨g, (k1 + 1) * 6 + k3 * 6, none⟩) hgd).trans yc0, (hW.cell (p := ⟨g, (k1 + 1) * 6 + k3 * 6 + 1, none⟩) hgd).trans yc1, (hW.cell (p := ⟨g, (k1 + 1) * 6 + k3 * 6 + 2, none⟩) hgd).trans yc2, (hW.cell (p := ⟨g, (k1 + 1) * 6 + k3 * 6 + 3, none⟩) hgd).trans yc3, (hW.cell (p := ⟨g, (k1 + 1) * 6 + k3 * 6 + 4, none⟩) hgd).trans yc4, (hW.cell (p := ⟨g, (k1 + 1) * 6 + k3 * 6 + 5, none⟩) hgd).trans yc5⟩⟩
          have HOd := Lib.hid hOd
          have HGd := Lib.hid (gb_below HG.out (ext_drew (Below.refl wr.heap.size wr)))
          clear xc0 xc1 xc2 xc3 xc4 xc5 yc0 yc1 yc2 yc3 yc4 yc5 hOd HO HG
          have hs2 : ((n - (k1 + 1) : Nat) : Int) = (n : Int) - ((k1 : Int) + 1) := by omega
          have hli1 : (k3 : Int) + 1 < (n : Int) - ((k1 : Int) + 1) := by omega
          have hli2 : (k3 : Int) < (n : Int) - ((k1 : Int) + 1) := by omega
          have hli3 : ¬ ((k3 : Int) + 1 < 0) := by omega
          have hli4 : ¬ ((k3 : Int) < 0) := by omega
          have hwk3 : IntKind.i64.wrap (k3 : Int) = (k3 : Int) := IntWalk.i64_in _ (by omega)
          have hlt3 : k3 + 1 < n - (k1 + 1) := hlk2
          have hlt4 : k3 < n - (k1 + 1) := by omega
          as_aux_lemma =>
            go_upto_region 11 with (fail)
            refine region_seqI (S := fun W9 => Below wr.drew.heap.size wr.drew W9) [(true, 0), (true, 1), (true, 2), (true, 3), (true, 4), (true, 5), (true, 6), (true, 7), (true, 8), (true, 9), (false, 10), (true, 11)] (by kernel_rfl) (by kernel_rfl) rfl (by kernel_rfl) (Below.refl _ _) ?_
            generalize wr.drew = wd at HCE HOd HGd hgd ⊢
            simp only [seqOps, List.getD_cons_zero, List.getD_cons_succ]
            refine seqI_take (v := .func (.func 57) #[] #[]) rfl (fun W9 hW => by clear hW; go_simp) (fun _ _ _ h => h) ?_
            simp only [Act.put, List.setIfInBounds_toArray, List.set_cons_zero, List.set_cons_succ]
            refine seqI_take (v := .slice (some ⟨g, (k1 + 1) * 6, none⟩) (n - (k1 + 1)) (cap - (k1 + 1))) rfl (fun W9 hW => by clear hW; go_simp) (fun _ _ _ h => h) ?_
            simp only [Act.put, List.setIfInBounds_toArray, List.set_cons_zero, List.set_cons_succ]
            refine seqI_take (v := .int .i64 ((k3 : Int) + 1)) rfl (fun W9 hW => by clear hW; go_simp) (fun _ _ _ h => h) ?_
            simp only [Act.put, List.setIfInBounds_toArray, List.set_cons_zero, List.set_cons_succ]
            refine seqI_take (v := .pointer (some ⟨g, (k1 + 1) * 6 + (k3 + 1) * 6, none⟩)) rfl (fun W9 hW => by clear hW; go_simp) (fun _ _ _ h => h) ?_
            simp only [Act.put, List.setIfInBounds_toArray, List.set_cons_zero, List.set_cons_succ]
            refine seqI_take (v := .agg #[.string x0, .string x1, .int .i64 x2, .int .i64 x3, .int .i64 x4, .string x5]) rfl (fun W9 hW => by obtain ⟨⟨m0, m1, m2, m3, m4, m5⟩, ⟨q0, q1, q2, q3, q4, q5⟩⟩ := HCE.out W9 hW; go_simp) (fun _ _ _ h => h) ?_
            simp only [Act.put, List.setIfInBounds_toArray, List.set_cons_zero, List.set_cons_succ]
            refine seqI_take (v := .slice (some ⟨g, (k1 + 1) * 6, none⟩) (n - (k1 + 1)) (cap - (k1 + 1))) rfl (fun W9 hW => by clear hW; go_simp) (fun _ _ _ h => h) ?_
            simp only [Act.put, List.setIfInBounds_toArray, List.set_cons_zero, List.set_cons_succ]
            refine seqI_take (v := .int .i64 ((k3 : Int) + 1)) rfl (fun W9 hW => by clear hW; go_simp) (fun _ _ _ h => h) ?_
            simp only [Act.put, List.setIfInBounds_toArray, List.set_cons_zero, List.set_cons_succ]
            refine seqI_take (v := .int .i64 k3) rfl (fun W9 hW => by clear hW; go_simp) (fun _ _ _ h => h) ?_
            simp only [Act.put, List.setIfInBounds_toArray, List.set_cons_zero, List.set_cons_succ]
            refine seqI_take (v := .pointer (some ⟨g, (k1 + 1) * 6 + k3 * 6, none⟩)) rfl (fun W9 hW => by clear hW; go_simp) (fun _ _ _ h => h) ?_
            simp only [Act.put, List.setIfInBounds_toArray, List.set_cons_zero, List.set_cons_succ]
            refine seqI_take (v := .agg #[.string y0, .string y1, .int .i64 y2, .int .i64 y3, .int .i64 y4, .string y5]) rfl (fun W9 hW => by obtain ⟨⟨m0, m1, m2, m3, m4, m5⟩, ⟨q0, q1, q2, q3, q4, q5⟩⟩ := HCE.out W9 hW; go_simp) (fun _ _ _ h => h) ?_
            simp only [Act.put, List.setIfInBounds_toArray, List.set_cons_zero, List.set_cons_succ]
            refine seqI_call _ _ rfl (by go_simp) (HEQ2.out wd) ?_
            rintro e w2 ⟨rfl, hb⟩
            have hCE2 := HCE.out w2 hb
            have HCE2 := Lib.hid hCE2
            have HO2 := Lib.hid (own_keep HOd.out hb)
            have HG2 := Lib.hid (gb_below HGd.out hb)
            have hg2 : g < w2.heap.size := Nat.lt_of_lt_of_le hgd hb.size
            refine ⟨_, rfl, hb, ?_⟩
            simp only [Act.put, List.setIfInBounds_toArray, List.set_cons_zero, List.set_cons_succ]
            refine seqI_take (v := .bool (!bq)) rfl (fun W9 hW => by clear hW; go_simp) (fun _ _ _ h => h) ?_
            simp only [Act.put, List.setIfInBounds_toArray, List.set_cons_zero, List.set_cons_succ]
            refine seqI_nil ?_
            clear hb HCE HOd HGd HEQ2 hgd hCE2
            cases bq
            case true =>
              clear HSV HCE2
              as_aux_lemma =>
                go_wp2_with fail
                go_roundw
                case rel => exact ⟨i, k3 + 1 + 1, R, rfl, by go_num, by omega, by omega, hi1, by omega, HR, HO2, HG2⟩
                case measure => simp [intOf]; omega
            have HRN : Hid ((R.set i fx).length = n ∧ ∀ z, z < n → (R.set i fx).getD z default ∈ L) := by
              have hiR : i < R.length := by have := HR.out.1; omega
              refine ⟨by rw [List.length_set]; exact HR.out.1, fun z hz => ?_⟩
              rw [bcn_set R i z fx hiR]
              split
              · exact HFX.out
              · exact HR.out.2 z hz
            have HO3 := Lib.hid (HSV.out w2 HO2.out)
            have HG3 : Hid (w.grownBy (w2.setCells g (i * 6) [.string x0, .string x1, .int .i64 x2, .int .i64 x3, .int .i64 x4, .string x5]) (some g)) := gb_trans HG2.out (setCells_gb g [.string x0, .string x1, .int .i64 x2, .int .i64 x3, .int .i64 x4, .string x5] (i * 6))
            have HRG : Hid (w2.rangeAt g ((k1 + 1) * 6 + (k3 + 1) * 6) [.string x0, .string x1, .int .i64 x2, .int .i64 x3, .int .i64 x4, .string x5]) := fun q v hq => by
              match q, hq with
              | 0, hq => injection hq with hq; subst hq; exact HCE2.out.1.1
              | 1, hq => injection hq with hq; subst hq; exact HCE2.out.1.2.1
              | 2, hq => injection hq with hq; subst hq; exact HCE2.out.1.2.2.1
              | 3, hq => injection hq with hq; subst hq; exact HCE2.out.1.2.2.2.1
              | 4, hq => injection hq with hq; subst hq; exact HCE2.out.1.2.2.2.2.1
              | 5, hq => injection hq with hq; subst hq; exact HCE2.out.1.2.2.2.2.2
            have hin : i < n := by omega
            have HTH : Hid (w2.there g (i * 6) 6) := fun q hq => by
              have hf := flat_length Vbcn.cells 6 (fun _ => rfl) R
              refine ⟨?_, HO2.out.frozenAt _⟩
              rw [HO2.out.cellAt (i * 6 + q) (by have := HR.out.1; omega), List.getElem?_eq_getElem (by rw [hf]; have := HR.out.1; omega)]
              rfl
            have hini : (i : Int) < (n : Int) := by omega
            have hi0 : ¬ ((i : Int) < 0) := by omega
            clear HSV HCE2 HO2 HG2 HR
            as_aux_lemma =>
              go_wp2_with (first | (refine wpList_load_mid rfl 35 (.tmp 54) rfl g ((k1 + 1) * 6 + (k3 + 1) * 6) rfl [.string x0, .string x1, .int .i64 x2, .int .i64 x3, .int .i64 x4, .string x5] _ HRG.out Tryz.underlying35 rfl Tryz.bcnSz ?_) | (refine wpList_store_mid rfl 35 (.tmp 56) (.tmp 55) rfl g (i * 6) #[.string x0, .string x1, .int .i64 x2, .int .i64 x3, .int .i64 x4, .string x5] rfl rfl HTH.out Tryz.bcnSz (by simp [Value.oneCell']) ?_; generalize w2.setCells g (i * 6) [.string x0, .string x1, .int .i64 x2, .int .i64 x3, .int .i64 x4, .string x5] = w3 at HO3 HG3 ⊢; clear HTH HRG))
              go_roundw
              case rel => exact ⟨i + 1, k3 + 1 + 1, R.set i fx, by go_num, by go_num, by omega, by omega, by omega, by omega, HRN, HO3, HG3⟩
              case measure => simp [intOf]; omega
end Go.Proofs.YtamoclofloijpaaGreatDoor

set_option linter.unusedVariables false
set_option linter.unusedSimpArgs false
namespace Go.Proofs.YtamoclofloijpaaGreatDoor
open Go.RowKit Go.Sort Go.Lib

set_option maxRecDepth 100000 in
set_option maxHeartbeats 16000000 in
theorem bcnsFault_any (S : Nat) (w : World) (hU : U8W S w) (hS : S ≤ w.heap.size) (base : Nat) (v : Value) (l : List Vbcn) (h : VbcnRow w base v l) (hl : l.length ≤ 1000) (hb : ∀ a ∈ l, BcnB a) :
    Calls Tryz.prog 20 #[v] w (fun e w' => ∃ E : Int, e = .returned (.int .i64 E) ∧ (E = 0 → BcnsOk l) ∧ Below w.heap.size w w') := by
  have HUW : Hid (∀ W, Below w.heap.size w W → U8W S W ∧ S ≤ W.heap.size) := fun W hW => ⟨hU.below hW hS, Nat.le_trans hS hW.size⟩
  clear hU hS
  unfold VbcnRow at h
  obtain ⟨a, cap, rfl⟩ := own_shape h
  have HO := Lib.hid h
  have HB := Lib.hid hb
  obtain ⟨n, hn⟩ : ∃ n, n = l.length := ⟨_, rfl⟩
  have HN := Lib.hid hn
  rw [← hn] at HO hl ⊢
  clear hn h hb
  have hl0 : ¬ (1000 : Int) < (n : Int) := by omega
  go_enter Tryz.func20, Tryz.ntmps20
  go_wp2_with fail
  clear hl0
  go_loopw [10] (fun it wr => ∃ i : Nat, i ≤ n ∧ it = .int .i64 i ∧ Hid (∀ m, m < i → BcnGood (l.getD m default)) ∧ Hid (∀ m, m + 1 < i → bcnCmp (l.getD m default) (l.getD (m + 1) default) < 0) ∧ Hid (Below w.heap.size w wr)) (fun it _ => n - (intOf it).toNat)
  case atStart => exact ⟨0, Nat.zero_le _, rfl, (fun m hm => absurd hm (by omega)), (fun m hm => absurd hm (by omega)), Below.refl _ _⟩
  case round =>
    obtain ⟨i, hi, rfl, HG, HLT, HBW⟩ := hrel
    by_cases hlt : i < n
    case neg =>
      obtain rfl : i = n := by omega
      have hin : ¬ ((i : Int) < (i : Int)) := by omega
      have HE : Hid (BcnsOk l) := BcnsOk.of_steps (fun m hm => HG.out m (by have := HN.out; omega)) (fun m hm => HLT.out m (by have := HN.out; omega))
      as_aux_lemma =>
        go_wp2_with fail
        go_ret
        exact ⟨0, rfl, (fun _ => HE.out), HBW.out⟩
    have hin : (i : Int) < (n : Int) := by omega
    have hil : i < l.length := by have := HN.out; omega
    have hO := own_keep HO.out HBW.out
    obtain ⟨g, rfl, hg0, hgw⟩ := own_pos hO (by omega)
    have HBX := Lib.hid (HB.out _ (getD_mem hil))
    have HPREV : Hid (∀ i1, i = i1 + 1 → ∀ W9, Below w.heap.size w W9 → W9.cell? ⟨g, i1 * 6, none⟩ = some (.string ⟨(l.getD i1 default).per.toArray⟩) ∧ W9.cell? ⟨g, i1 * 6 + 1, none⟩ = some (.string ⟨(l.getD i1 default).dev.toArray⟩) ∧ W9.cell? ⟨g, i1 * 6 + 2, none⟩ = some (.int .i64 (l.getD i1 default).st) ∧ W9.cell? ⟨g, i1 * 6 + 3, none⟩ = some (.int .i64 (l.getD i1 default).at_) ∧ W9.cell? ⟨g, i1 * 6 + 4, none⟩ = some (.int .i64 (l.getD i1 default).til) ∧ W9.cell? ⟨g, i1 * 6 + 5, none⟩ = some (.string ⟨(l.getD i1 default).note.toArray⟩)) := fun i1 e W9 hW => ⟨own_field Vbcn.cells (fun _ => rfl) (own_keep HO.out hW) i1 0 default (by omega) (by omega) rfl, own_field Vbcn.cells (fun _ => rfl) (own_keep HO.out hW) i1 1 default (by omega) (by omega) rfl, own_field Vbcn.cells (fun _ => rfl) (own_keep HO.out hW) i1 2 default (by omega) (by omega) rfl, own_field Vbcn.cells (fun _ => rfl) (own_keep HO.out hW) i1 3 default (by omega) (by omega) rfl, own_field Vbcn.cells (fun _ => rfl) (own_keep HO.out hW) i1 4 default (by omega) (by omega) rfl, own_field Vbcn.cells (fun _ => rfl) (own_keep HO.out hW) i1 5 default (by omega) (by omega) rfl⟩
    have HCM : Hid (∀ i1, i = i1 + 1 → ∀ W, Calls Tryz.prog 55 #[(l.getD i1 default).val, (l.getD i default).val] W fun e w' => e = .returned (.int .i64 (bcnOrd (l.getD i1 default) (l.getD i default))) ∧ Below W.heap.size W w') := fun i1 _ W => (bcnOrd_any _ _ W).mono fun e w' h => ⟨h.1, Grown.below h.2⟩
    have d0 := own_field Vbcn.cells (fun _ => rfl) hO i 0 default hil (by omega) rfl
    have d1 := own_field Vbcn.cells (fun _ => rfl) hO i 1 default hil (by omega) rfl
    have d2 := own_field Vbcn.cells (fun _ => rfl) hO i 2 default hil (by omega) rfl
    have d3 := own_field Vbcn.cells (fun _ => rfl) hO i 3 default hil (by omega) rfl
    have d4 := own_field Vbcn.cells (fun _ => rfl) hO i 4 default hil (by omega) rfl
    have d5 := own_field Vbcn.cells (fun _ => rfl) hO i 5 default hil (by omega) rfl
    have hXV : (l.getD i default).val = .agg #[.string ⟨(l.getD i default).per.toArray⟩, .string ⟨(l.getD i default).dev.toArray⟩, .int .i64 (l.getD i default).st, .int .i64 (l.getD i default).at_, .int .i64 (l.getD i default).til, .string ⟨(l.getD i default).note.toArray⟩] := rfl
    rw [hXV] at HCM
    clear hXV hO
    obtain ⟨x, hx⟩ : ∃ x, x = l.getD i default := ⟨_, rfl⟩
    rw [← hx] at d0 d1 d2 d3 d4 d5 HCM HBX
    have HX := Lib.hid hx
    clear hx
    have HNL : Hid (x.note.length ≤ 101) := notesB_len _ HBX.out.note
    have HMO : Hid (∀ W, Calls Tryz.prog 60 #[.int .i64 x.at_] W (BoolP (isMomB x.at_) W)) := fun W => ((moment2_any _ W).mono (fun e w2 h => ⟨h.1, by rw [← h.2]; exact Below.refl _ _⟩))
    have HK1 : Hid (∀ W, Calls Tryz.prog 58 #[.string ⟨x.per.toArray⟩] W (BoolP (isKeyB x.per) W)) := fun W => ((key2_any _ W (by have := HBX.out.per; omega)).mono (fun e w2 h => ⟨h.1, by rw [← h.2]; exact Below.refl _ _⟩))
    have HK2 : Hid (∀ W, Calls Tryz.prog 58 #[.string ⟨x.dev.toArray⟩] W (BoolP (isKeyB x.dev) W)) := fun W => ((key2_any _ W (by have := HBX.out.dev; omega)).mono (fun e w2 h => ⟨h.1, by rw [← h.2]; exact Below.refl _ _⟩))
    have HIN : Hid (∀ z lo hi W, Calls Tryz.prog 59 #[.int .i64 z, .int .i64 lo, .int .i64 hi] W (BoolP (decide (lo ≤ z) && decide (z ≤ hi)) W)) := fun z lo hi W => ((in2_any z lo hi W).mono (fun e w2 h => ⟨h.1, by rw [← h.2]; exact Below.refl _ _⟩))
    have HPL : Hid (∀ W, Below w.heap.size w W → Calls Tryz.prog 61 #[.string ⟨x.note.toArray⟩] W (BoolP (plainB x.note) W)) := fun W hW => plain2_any S x.note W (HUW.out W hW).1 (HUW.out W hW).2 (by have := HNL.out; omega)
    have HGOOD : Hid (isKeyB x.per = true → isKeyB x.dev = true → (decide (0 ≤ x.st) && decide (x.st ≤ 4)) = true → isMomB x.at_ = true → (decide (x.at_ ≤ x.til) && decide (x.til ≤ 345686400000)) = true → plainB x.note = true → x.note.length ≤ 100 → BcnGood x) := fun h1 h2 h3 h4 h5 h6 h7 => by
      simp only [Bool.and_eq_true, decide_eq_true_eq] at h3 h5
      exact ⟨h1, h2, h3.1, h3.2, h4, h5.1, h5.2, notesB_plain HBX.out.note h6 h7, h7⟩
    obtain ⟨bM, hbM⟩ : ∃ b, b = isMomB x.at_ := ⟨_, rfl⟩
    obtain ⟨bK1, hbK1⟩ : ∃ b, b = isKeyB x.per := ⟨_, rfl⟩
    obtain ⟨bK2, hbK2⟩ : ∃ b, b = isKeyB x.dev := ⟨_, rfl⟩
    obtain ⟨bP, hbP⟩ : ∃ b, b = plainB x.note := ⟨_, rfl⟩
    rw [← hbM] at HMO
    have HEbM := Lib.hid hbM
    rw [← hbK1] at HK1
    have HEbK1 := Lib.hid hbK1
    rw [← hbK2] at HK2
    have HEbK2 := Lib.hid hbK2
    rw [← hbP] at HPL
    have HEbP := Lib.hid hbP
    obtain ⟨bI, hbI⟩ : ∃ b, b = (decide ((0 : Int) ≤ x.st) && decide (x.st ≤ 4)) := ⟨_, rfl⟩
    obtain ⟨bL, hbL⟩ : ∃ b, b = (decide (x.at_ ≤ x.til) && decide (x.til ≤ 345686400000)) := ⟨_, rfl⟩
    have HEbI := Lib.hid hbI
    have HEbL := Lib.hid hbL
    have HINK := HIN.out x.st 0 4
    rw [← hbI] at HINK
    have HINL := HIN.out x.til x.at_ 345686400000
    rw [← hbL] at HINL
    have HINK := Lib.hid HINK
    have HINL := Lib.hid HINL
    clear hbM hbK1 hbK2 hbP hbI hbL HIN
    obtain ⟨m5, hm5⟩ : ∃ m, m = x.note.length := ⟨_, rfl⟩
    have HZ5 := Lib.hid hm5
    have hz5 : (⟨x.note.toArray⟩ : ByteArray).size = m5 := by rw [hm5]; show x.note.toArray.size = _; simp
    clear hm5
    obtain ⟨x2, hx2⟩ : ∃ z, z = x.st := ⟨_, rfl⟩
    obtain ⟨x3, hx3⟩ : ∃ z, z = x.at_ := ⟨_, rfl⟩
    obtain ⟨x4, hx4⟩ : ∃ z, z = x.til := ⟨_, rfl⟩
    obtain ⟨b0, hb0⟩ : ∃ z : ByteArray, z = ⟨x.per.toArray⟩ := ⟨_, rfl⟩
    obtain ⟨b1, hb1⟩ : ∃ z : ByteArray, z = ⟨x.dev.toArray⟩ := ⟨_, rfl⟩
    obtain ⟨b5, hb5⟩ : ∃ z : ByteArray, z = ⟨x.note.toArray⟩ := ⟨_, rfl⟩
    rw [← hx2] at d2 HINK HCM
    rw [← hx3] at d3 HMO HINL HCM
    rw [← hx4] at d4 HINL HCM
    rw [← hb0] at d0 HK1 HCM
    rw [← hb1] at d1 HK2 HCM
    rw [← hb5] at d5 HPL HCM hz5
    rw [Nat.add_zero] at d0
    clear hx2 hx3 hx4 hb0 hb1 hb5
    have X1 : Hid (Blk (wr.alloc (.cells #[.string b0, .string b1, .int .i64 x2, .int .i64 x3, .int .i64 x4, .string b5] 35)) wr.heap.size [.string b0, .string b1, .int .i64 x2, .int .i64 x3, .int .i64 x4, .string b5] 35) := Blk.new _ _ _
    have HB1 : Hid (Below w.heap.size w (wr.alloc (.cells #[.string b0, .string b1, .int .i64 x2, .int .i64 x3, .int .i64 x4, .string b5] 35))) := ext_alloc HBW.out
    as_aux_lemma =>
      go_upto_region 6 with (fail)
      clear d0 d1 d2 d3 d4 d5 HBW
      generalize (wr.alloc (.cells #[.string b0, .string b1, .int .i64 x2, .int .i64 x3, .int .i64 x4, .string b5] 35)) = w1 at X1 HB1 ⊢
      generalize wr.heap.size = B at X1 ⊢
      have c0 := X1.out.cell 0 rfl
      have c1 := X1.out.cell 1 rfl
      have c2 := X1.out.cell 2 rfl
      have c3 := X1.out.cell 3 rfl
      have c4 := X1.out.cell 4 rfl
      have c5 := X1.out.cell 5 rfl
      as_aux_lemma =>
        go_wp2_with fail
        refine (HK1.out _).mono ?_
        rintro e w2 ⟨rfl, hb⟩
        have X2 := Lib.hid (X1.out.below hb)
        have HB2 := Lib.hid (ext_trans HB1.out hb)
        clear hb c0 c1 c2 c3 c4 c5 X1 HB1
        have c0 := X2.out.cell 0 rfl
        have c1 := X2.out.cell 1 rfl
        have c2 := X2.out.cell 2 rfl
        have c3 := X2.out.cell 3 rfl
        have c4 := X2.out.cell 4 rfl
        have c5 := X2.out.cell 5 rfl
        cases bK1
        case false =>
          as_aux_lemma =>
            go_wp2_with fail
            go_ret
            exact ⟨_, rfl, (fun h => absurd h (by decide)), HB2.out⟩
        as_aux_lemma =>
          go_wp2_with fail
          refine (HK2.out _).mono ?_
          rintro e w3 ⟨rfl, hb⟩
          have X3 := Lib.hid (X2.out.below hb)
          have HB3 := Lib.hid (ext_trans HB2.out hb)
          clear hb c0 c1 c2 c3 c4 c5 X2 HB2
          have c0 := X3.out.cell 0 rfl
          have c1 := X3.out.cell 1 rfl
          have c2 := X3.out.cell 2 rfl
          have c3 := X3.out.cell 3 rfl
          have c4 := X3.out.cell 4 rfl
          have c5 := X3.out.cell 5 rfl
          cases bK2
          case false =>
            as_aux_lemma =>
              go_wp2_with fail
              go_ret
              exact ⟨_, rfl, (fun h => absurd h (by decide)), HB3.out⟩
          as_aux_lemma =>
            go_wp2_with fail
            refine (HINK.out _).mono ?_
            rintro e w4 ⟨rfl, hb⟩
            have X4 := Lib.hid (X3.out.below hb)
            have HB4 := Lib.hid (ext_trans HB3.out hb)
            clear hb c0 c1 c2 c3 c4 c5 X3 HB3
            have c0 := X4.out.cell 0 rfl
            have c1 := X4.out.cell 1 rfl
            have c2 := X4.out.cell 2 rfl
            have c3 := X4.out.cell 3 rfl
            have c4 := X4.out.cell 4 rfl
            have c5 := X4.out.cell 5 rfl
            cases bI
            case false =>
              as_aux_lemma =>
                go_wp2_with fail
                go_ret
                exact ⟨_, rfl, (fun h => absurd h (by decide)), HB4.out⟩
            as_aux_lemma =>
              go_wp2_with fail
              refine (HMO.out _).mono ?_
              rintro e w5 ⟨rfl, hb⟩
              have X5 := Lib.hid (X4.out.below hb)
              have HB5 := Lib.hid (ext_trans HB4.out hb)
              clear hb c0 c1 c2 c3 c4 c5 X4 HB4
              have c0 := X5.out.cell 0 rfl
              have c1 := X5.out.cell 1 rfl
              have c2 := X5.out.cell 2 rfl
              have c3 := X5.out.cell 3 rfl
              have c4 := X5.out.cell 4 rfl
              have c5 := X5.out.cell 5 rfl
              cases bM
              case false =>
                as_aux_lemma =>
                  go_wp2_with fail
                  go_ret
                  exact ⟨_, rfl, (fun h => absurd h (by decide)), HB5.out⟩
              as_aux_lemma =>
                go_wp2_with fail
                refine (HINL.out _).mono ?_
                rintro e w6 ⟨rfl, hb⟩
                have X6 := Lib.hid (X5.out.below hb)
                have HB6 := Lib.hid (ext_trans HB5.out hb)
                clear hb c0 c1 c2 c3 c4 c5 X5 HB5
                have c0 := X6.out.cell 0 rfl
                have c1 := X6.out.cell 1 rfl
                have c2 := X6.out.cell 2 rfl
                have c3 := X6.out.cell 3 rfl
                have c4 := X6.out.cell 4 rfl
                have c5 := X6.out.cell 5 rfl
                cases bL
                case false =>
                  as_aux_lemma =>
                    go_wp2_with fail
                    go_ret
                    exact ⟨_, rfl, (fun h => absurd h (by decide)), HB6.out⟩
                as_aux_lemma =>
                  go_wp2_with fail
                  refine (HPL.out _ HB6.out).mono ?_
                  rintro e w7 ⟨rfl, hb⟩
                  have X7 := Lib.hid (X6.out.below hb)
                  have HB7 := Lib.hid (ext_trans HB6.out hb)
                  clear hb c0 c1 c2 c3 c4 c5 X6 HB6
                  have c0 := X7.out.cell 0 rfl
                  have c1 := X7.out.cell 1 rfl
                  have c2 := X7.out.cell 2 rfl
                  have c3 := X7.out.cell 3 rfl
                  have c4 := X7.out.cell 4 rfl
                  have c5 := X7.out.cell 5 rfl
                  cases bP
                  case false =>
                    as_aux_lemma =>
                      go_wp2_with fail
                      go_ret
                      exact ⟨_, rfl, (fun h => absurd h (by decide)), HB7.out⟩
                  by_cases hm5 : m5 ≤ 100
                  case neg =>
                    have hm6 : (100 : Int) < (m5 : Int) := by omega
                    as_aux_lemma =>
                      go_wp2_with fail
                      go_ret
                      exact ⟨_, rfl, (fun h => absurd h (by decide)), HB7.out⟩
                  have hm6 : ¬ (100 : Int) < (m5 : Int) := by omega
                  have HM5 := Lib.hid hm5
                  clear hm5
                  have HGX : Hid (BcnGood x) := HGOOD.out (by first | exact HEbK1.out.symm | exact HEbK1.out) (by first | exact HEbK2.out.symm | exact HEbK2.out) (by first | exact HEbI.out.symm | exact HEbI.out) (by first | exact HEbM.out.symm | exact HEbM.out) (by first | exact HEbL.out.symm | exact HEbL.out) (by first | exact HEbP.out.symm | exact HEbP.out) (by have := HM5.out; have := HZ5.out; omega)
                  as_aux_lemma =>
                    go_upto_region 14 with (fail)
                    have hd : Below w7.heap.size w7 w7.drew := ext_drew (Below.refl _ _)
                    have XD := Lib.hid (X7.out.below hd)
                    have HBD := Lib.hid (ext_trans HB7.out hd)
                    clear hd X7 HB7 c0 c1 c2 c3 c4 c5
                    by_cases hiz : i = 0
                    case pos =>
                      have HIZ := Lib.hid hiz
                      clear hiz HCM HPREV
                      as_aux_lemma =>
                        refine region_seqI (S := fun W9 => Below w7.drew.heap.size w7.drew W9) [(true, 0), (true, 1), (true, 2), (true, 3), (true, 4), (true, 5), (true, 6), (true, 7), (true, 8), (true, 9), (true, 10), (true, 11), (true, 12)] (by kernel_rfl) (by kernel_rfl) rfl (by kernel_rfl) (Below.refl _ _) ?_
                        generalize w7.drew = wd at XD HBD ⊢
                        simp only [seqOps, List.getD_cons_zero, List.getD_cons_succ]
                        refine seqI_take (v := .int .i64 i) rfl (fun W9 hW => by clear hW; go_simp) (fun _ _ _ h => h) ?_
                        simp only [Act.put, List.setIfInBounds_toArray, List.set_cons_zero, List.set_cons_succ]
                        refine seqI_take (v := .bool false) rfl (fun W9 hW => by clear hW; go_simp; exact HIZ.out) (fun _ _ _ h => h) ?_
                        simp only [Act.put, List.setIfInBounds_toArray, List.set_cons_zero, List.set_cons_succ]
                        refine seqI_take (v := .bool false) rfl (fun W9 hW => by clear hW; go_simp) (fun _ _ _ h => h) ?_
                        simp only [Act.put, List.setIfInBounds_toArray, List.set_cons_zero, List.set_cons_succ]
                        refine seqI_skip rfl (fun _ _ _ h => h) ?_
                        simp only [Act.put, List.setIfInBounds_toArray, List.set_cons_zero, List.set_cons_succ]
                        refine seqI_skip rfl (fun _ _ _ h => h) ?_
                        simp only [Act.put, List.setIfInBounds_toArray, List.set_cons_zero, List.set_cons_succ]
                        refine seqI_skip rfl (fun _ _ _ h => h) ?_
                        simp only [Act.put, List.setIfInBounds_toArray, List.set_cons_zero, List.set_cons_succ]
                        refine seqI_skip rfl (fun _ _ _ h => h) ?_
                        simp only [Act.put, List.setIfInBounds_toArray, List.set_cons_zero, List.set_cons_succ]
                        refine seqI_skip rfl (fun _ _ _ h => h) ?_
                        simp only [Act.put, List.setIfInBounds_toArray, List.set_cons_zero, List.set_cons_succ]
                        refine seqI_skip rfl (fun _ _ _ h => h) ?_
                        simp only [Act.put, List.setIfInBounds_toArray, List.set_cons_zero, List.set_cons_succ]
                        refine seqI_skip rfl (fun _ _ _ h => h) ?_
                        simp only [Act.put, List.setIfInBounds_toArray, List.set_cons_zero, List.set_cons_succ]
                        refine seqI_skip rfl (fun _ _ _ h => h) ?_
                        simp only [Act.put, List.setIfInBounds_toArray, List.set_cons_zero, List.set_cons_succ]
                        refine seqI_take (v := .bool false) rfl (fun W9 hW => by clear hW; go_simp) (fun _ _ _ h => h) ?_
                        simp only [Act.put, List.setIfInBounds_toArray, List.set_cons_zero, List.set_cons_succ]
                        refine seqI_take (v := .bool false) rfl (fun W9 hW => by clear hW; go_simp) (fun _ _ _ h => h) ?_
                        simp only [Act.put, List.setIfInBounds_toArray, List.set_cons_zero, List.set_cons_succ]
                        refine seqI_nil ?_
                        as_aux_lemma =>
                          go_wp2_with fail
                          go_roundw
                          case rel => exact ⟨i + 1, by omega, by go_num, (fun m hm => (by
                            by_cases e : m = i
                            · rw [e, ← HX.out]; exact HGX.out
                            · exact HG.out m (by omega))), (fun m hm => absurd hm (by have := HIZ.out; omega)), HBD.out⟩
                          case measure => simp [intOf]; omega
                    obtain ⟨i1, hi1⟩ : ∃ i1, i = i1 + 1 := ⟨i - 1, by omega⟩
                    have HI1 := Lib.hid hi1
                    have hip : 0 < i := by omega
                    have HIP := Lib.hid hip
                    have hw1 : IntKind.i64.wrap ((i : Int) - 1) = (i1 : Int) := by rw [show (i : Int) - 1 = (i1 : Int) by omega]; exact IntWalk.i64_in _ (by omega)
                    have h1n : (i1 : Int) < (n : Int) := by omega
                    have h10 : ¬ ((i1 : Int) < 0) := by omega
                    have HC1 := Lib.hid (HCM.out i1 hi1)
                    have HP1 := Lib.hid (HPREV.out i1 hi1)
                    clear hiz hi1 hip HCM HPREV
                    obtain ⟨r, hr⟩ : ∃ r, r = bcnOrd (l.getD i1 default) x := ⟨_, rfl⟩
                    have HR := Lib.hid hr
                    rw [← hr] at HC1
                    have HC2 : Hid (∀ W, Calls Tryz.prog 55 #[.agg #[.string ⟨(l.getD i1 default).per.toArray⟩, .string ⟨(l.getD i1 default).dev.toArray⟩, .int .i64 (l.getD i1 default).st, .int .i64 (l.getD i1 default).at_, .int .i64 (l.getD i1 default).til, .string ⟨(l.getD i1 default).note.toArray⟩], .agg #[.string b0, .string b1, .int .i64 x2, .int .i64 x3, .int .i64 x4, .string b5]] W fun e w' => e = .returned (.int .i64 r) ∧ Below W.heap.size W w') := HC1.out
                    clear hr HC1
                    generalize (⟨(l.getD i1 default).per.toArray⟩ : ByteArray) = z0 at HP1 HC2
                    generalize (⟨(l.getD i1 default).dev.toArray⟩ : ByteArray) = z1 at HP1 HC2
                    generalize (l.getD i1 default).st = z2 at HP1 HC2
                    generalize (l.getD i1 default).at_ = z3 at HP1 HC2
                    generalize (l.getD i1 default).til = z4 at HP1 HC2
                    generalize (⟨(l.getD i1 default).note.toArray⟩ : ByteArray) = z5 at HP1 HC2
                    have HCE : Hid (∀ W9, Below w7.drew.heap.size w7.drew W9 → (W9.cell? ⟨g, i1 * 6, none⟩ = some (.string z0) ∧ W9.cell? ⟨g, i1 * 6 + 1, none⟩ = some (.string z1) ∧ W9.cell? ⟨g, i1 * 6 + 2, none⟩ = some (.int .i64 z2) ∧ W9.cell? ⟨g, i1 * 6 + 3, none⟩ = some (.int .i64 z3) ∧ W9.cell? ⟨g, i1 * 6 + 4, none⟩ = some (.int .i64 z4) ∧ W9.cell? ⟨g, i1 * 6 + 5, none⟩ = some (.string z5)) ∧ (W9.cell? ⟨B, 0, none⟩ = some (.string b0) ∧ W9.cell? ⟨B, 1, none⟩ = some (.string b1) ∧ W9.cell? ⟨B, 2, none⟩ = some (.int .i64 x2) ∧ W9.cell? ⟨B, 3, none⟩ = some (.int .i64 x3) ∧ W9.cell? ⟨B, 4, none⟩ = some (.int .i64 x4) ∧ W9.cell? ⟨B, 5, none⟩ = some (.string b5))) := fun W9 hW => ⟨HP1.out W9 (ext_trans HBD.out hW), ⟨(XD.out.below hW).cell 0 rfl, (XD.out.below hW).cell 1 rfl, (XD.out.below hW).cell 2 rfl, (XD.out.below hW).cell 3 rfl, (XD.out.below hW).cell 4 rfl, (XD.out.below hW).cell 5 rfl⟩⟩
                    clear HP1
                    as_aux_lemma =>
                      refine region_seqI (S := fun W9 => Below w7.drew.heap.size w7.drew W9) [(true, 0), (true, 1), (true, 2), (true, 3), (true, 4), (true, 5), (true, 6), (true, 7), (true, 8), (false, 9), (true, 10), (true, 11), (true, 12)] (by kernel_rfl) (by kernel_rfl) rfl (by kernel_rfl) (Below.refl _ _) ?_
                      generalize w7.drew = wd at XD HBD HCE ⊢
                      simp only [seqOps, List.getD_cons_zero, List.getD_cons_succ]
                      refine seqI_take (v := .int .i64 i) rfl (fun W9 hW => by clear hW; go_simp) (fun _ _ _ h => h) ?_
                      simp only [Act.put, List.setIfInBounds_toArray, List.set_cons_zero, List.set_cons_succ]
                      refine seqI_take (v := .bool true) rfl (fun W9 hW => by clear hW; go_simp; exact HIP.out) (fun _ _ _ h => h) ?_
                      simp only [Act.put, List.setIfInBounds_toArray, List.set_cons_zero, List.set_cons_succ]
                      refine seqI_take (v := .bool true) rfl (fun W9 hW => by clear hW; go_simp) (fun _ _ _ h => h) ?_
                      simp only [Act.put, List.setIfInBounds_toArray, List.set_cons_zero, List.set_cons_succ]
                      refine seqI_take (v := .slice (some ⟨g, 0, none⟩) n cap) rfl (fun W9 hW => by clear hW; go_simp) (fun _ _ _ h => h) ?_
                      simp only [Act.put, List.setIfInBounds_toArray, List.set_cons_zero, List.set_cons_succ]
                      refine seqI_take (v := .int .i64 i) rfl (fun W9 hW => by clear hW; go_simp) (fun _ _ _ h => h) ?_
                      simp only [Act.put, List.setIfInBounds_toArray, List.set_cons_zero, List.set_cons_succ]
                      refine seqI_take (v := .int .i64 i1) rfl (fun W9 hW => by clear hW; go_simp) (fun _ _ _ h => h) ?_
                      simp only [Act.put, List.setIfInBounds_toArray, List.set_cons_zero, List.set_cons_succ]
                      refine seqI_take (v := .pointer (some ⟨g, i1 * 6, none⟩)) rfl (fun W9 hW => by clear hW; go_simp) (fun _ _ _ h => h) ?_
                      simp only [Act.put, List.setIfInBounds_toArray, List.set_cons_zero, List.set_cons_succ]
                      refine seqI_take (v := .agg #[.string z0, .string z1, .int .i64 z2, .int .i64 z3, .int .i64 z4, .string z5]) rfl (fun W9 hW => by obtain ⟨⟨p0, p1, p2, p3, p4, p5⟩, ⟨q0, q1, q2, q3, q4, q5⟩⟩ := HCE.out W9 hW; clear hW; go_simp) (fun _ _ _ h => h) ?_
                      simp only [Act.put, List.setIfInBounds_toArray, List.set_cons_zero, List.set_cons_succ]
                      refine seqI_take (v := .agg #[.string b0, .string b1, .int .i64 x2, .int .i64 x3, .int .i64 x4, .string b5]) rfl (fun W9 hW => by obtain ⟨⟨p0, p1, p2, p3, p4, p5⟩, ⟨q0, q1, q2, q3, q4, q5⟩⟩ := HCE.out W9 hW; clear hW; go_simp) (fun _ _ _ h => h) ?_
                      simp only [Act.put, List.setIfInBounds_toArray, List.set_cons_zero, List.set_cons_succ]
                      refine seqI_call _ _ rfl (by go_simp) (HC2.out wd) ?_
                      rintro e w9 ⟨rfl, hb⟩
                      have HB9 := Lib.hid (ext_trans HBD.out hb)
                      refine ⟨_, rfl, hb, ?_⟩
                      simp only [Act.put, List.setIfInBounds_toArray, List.set_cons_zero, List.set_cons_succ]
                      clear hb HCE XD HBD HC2
                      by_cases hr0 : r < 0
                      case neg =>
                        have hr1 : 0 ≤ r := by omega
                        refine seqI_take (v := .bool true) rfl (fun W9 hW => by clear hW; go_simp) (fun _ _ _ h => h) ?_
                        simp only [Act.put, List.setIfInBounds_toArray, List.set_cons_zero, List.set_cons_succ]
                        refine seqI_take (v := .bool true) rfl (fun W9 hW => by clear hW; go_simp) (fun _ _ _ h => h) ?_
                        simp only [Act.put, List.setIfInBounds_toArray, List.set_cons_zero, List.set_cons_succ]
                        refine seqI_take (v := .bool true) rfl (fun W9 hW => by clear hW; go_simp) (fun _ _ _ h => h) ?_
                        simp only [Act.put, List.setIfInBounds_toArray, List.set_cons_zero, List.set_cons_succ]
                        refine seqI_nil ?_
                        as_aux_lemma =>
                          go_wp2_with fail
                          go_ret
                          exact ⟨_, rfl, (fun h => absurd h (by decide)), HB9.out⟩
                      have HLR : Hid (bcnCmp (l.getD i1 default) x < 0) := by
                        have q1 := HB.out (l.getD i1 default) (getD_mem (by have := HN.out; have := HI1.out; omega))
                        exact (bcnOrd_neg _ _ ⟨q1.at0, q1.at1⟩ ⟨HBX.out.at0, HBX.out.at1⟩).1 (by rw [← HR.out]; exact hr0)
                      have hr1 : ¬ (0 ≤ r) := by omega
                      refine seqI_take (v := .bool false) rfl (fun W9 hW => by clear hW; go_simp) (fun _ _ _ h => h) ?_
                      simp only [Act.put, List.setIfInBounds_toArray, List.set_cons_zero, List.set_cons_succ]
                      refine seqI_take (v := .bool false) rfl (fun W9 hW => by clear hW; go_simp) (fun _ _ _ h => h) ?_
                      simp only [Act.put, List.setIfInBounds_toArray, List.set_cons_zero, List.set_cons_succ]
                      refine seqI_take (v := .bool false) rfl (fun W9 hW => by clear hW; go_simp) (fun _ _ _ h => h) ?_
                      simp only [Act.put, List.setIfInBounds_toArray, List.set_cons_zero, List.set_cons_succ]
                      refine seqI_nil ?_
                      as_aux_lemma =>
                        go_wp2_with fail
                        go_roundw
                        case rel => exact ⟨i + 1, by omega, by go_num, (fun m hm => (by
                          by_cases e : m = i
                          · rw [e, ← HX.out]; exact HGX.out
                          · exact HG.out m (by omega))), (fun m hm => (by
                          by_cases e : m + 1 = i
                          · rw [e, ← HX.out, show m = i1 by have := HI1.out; omega]; exact HLR.out
                          · exact HLT.out m (by omega))), HB9.out⟩
                        case measure => simp [intOf]; omega
end Go.Proofs.YtamoclofloijpaaGreatDoor

set_option linter.unusedVariables false
set_option linter.unusedSimpArgs false
namespace Go.Proofs.YtamoclofloijpaaGreatDoor
open Go.RowKit Go.Sort Go.Lib

theorem wp_store_i {op : Oper} {a : Act} {w : World} {K : Act → World → Prop} {Q : Exit → Act → World → Prop} {x y : Operand} (ho : op.op = .store 3 x y) (b o : Nat) (v : Int) (u : Value) (hx : a.eval x = .pointer (some ⟨b, o, none⟩)) (hy : a.eval y = .int .i64 v) (c : w.cell? ⟨b, o, none⟩ = some u) (f : w.frozen? ⟨b, o, none⟩ = false)
    (h : K (a.put op.dst undef) (w.setCell ⟨b, o, none⟩ (.int .i64 v))) : op.wp Tryz.prog a w K Q := by
  have hr : (execOp a.eval op).run Tryz.prog w = .ok .skip (w.setCell ⟨b, o, none⟩ (.int .i64 v)) := by
    unfold execOp
    rw [ho]
    simp only [hx, hy]
    go_simp
  unfold Oper.wp
  rw [hr]
  exact h
theorem rep101 : (Lib.repeatL [110] 101) = List.replicate 101 110 := by decide +kernel
def BcnsP (S k m : Nat) (w : World) (e : Ending) (w' : World) : Prop := ∃ v l, e = .returned v ∧ VbcnRow w' w.heap.size v l ∧ l.length ≤ m ∧ (∀ a ∈ l, BcnB a) ∧ StreamOk w' S k ∧ Keeps S w w'
theorem build_bcn (e : Operand → Value) (o : Oper) (w : World) (p0 : ByteArray) (p1 : ByteArray) (z2 : Int) (z3 : Int) (p5 : ByteArray) (ho : o.op = .build 35 #[(0, .tmp 12), (1, .tmp 15), (2, .tmp 17), (3, .tmp 20), (5, .tmp 23)]) (h0 : e (.tmp 12) = .string p0) (h1 : e (.tmp 15) = .string p1) (h2 : e (.tmp 17) = .int .i64 z2) (h3 : e (.tmp 20) = .int .i64 z3) (h5 : e (.tmp 23) = .string p5) :
   (execOp e o).run Tryz.prog w = .ok (.value (.agg #[.string p0, .string p1, .int .i64 z2, .int .i64 z3, .int .i64 0, .string p5])) w := by
  unfold execOp
  rw [ho]
  simp only [List.map_toArray, List.map_cons, List.map_nil, h0, h1, h2, h3, h5]
  kernel_rfl
theorem bl_bcn0 (e : Operand → Value) (he : ∀ v, e (.const v) = v) (o : Oper) (w : World)  (p0 : ByteArray) (p1 : ByteArray) (p2 : ByteArray) (ho : o.op = .buildSlice 82 3 #[(0, .const (.string p0)), (1, .const (.string p1)), (2, .const (.string p2))])  :
   (execOp e o).run Tryz.prog w = .ok (.value (.slice (some ⟨w.heap.size, 0, none⟩) 3 3)) (w.alloc (.cells #[.string p0, .string p1, .string p2] 9)) := by
  unfold execOp
  rw [ho]
  simp only [List.map_toArray, List.map_cons, List.map_nil, he]
  kernel_rfl
theorem bl_bcn1 (e : Operand → Value) (he : ∀ v, e (.const v) = v) (o : Oper) (w : World)  (p0 : ByteArray) (p1 : ByteArray) (ho : o.op = .buildSlice 82 2 #[(0, .const (.string p0)), (1, .const (.string p1))])  :
   (execOp e o).run Tryz.prog w = .ok (.value (.slice (some ⟨w.heap.size, 0, none⟩) 2 2)) (w.alloc (.cells #[.string p0, .string p1] 9)) := by
  unfold execOp
  rw [ho]
  simp only [List.map_toArray, List.map_cons, List.map_nil, he]
  kernel_rfl
theorem bl_bcn2 (e : Operand → Value) (he : ∀ v, e (.const v) = v) (o : Oper) (w : World)  (z0 : Int) (z1 : Int) (z2 : Int) (z3 : Int) (z4 : Int) (ho : o.op = .buildSlice 22 5 #[(0, .const (.int .i64 z0)), (1, .const (.int .i64 z1)), (2, .const (.int .i64 z2)), (3, .const (.int .i64 z3)), (4, .const (.int .i64 z4))])  :
   (execOp e o).run Tryz.prog w = .ok (.value (.slice (some ⟨w.heap.size, 0, none⟩) 5 5)) (w.alloc (.cells #[.int .i64 z0, .int .i64 z1, .int .i64 z2, .int .i64 z3, .int .i64 z4] 3)) := by
  unfold execOp
  rw [ho]
  simp only [List.map_toArray, List.map_cons, List.map_nil, he]
  kernel_rfl
theorem bl_bcn3 (e : Operand → Value) (he : ∀ v, e (.const v) = v) (o : Oper) (w : World) (i0 : Nat) (p0_0 : ByteArray) (p0_1 : ByteArray) (z0_2 : Int) (z0_3 : Int) (z0_4 : Int) (p0_5 : ByteArray) (ho : o.op = .buildSlice 26 1 #[(0, .tmp i0)]) (h0 : e (.tmp i0) = .agg #[.string p0_0, .string p0_1, .int .i64 z0_2, .int .i64 z0_3, .int .i64 z0_4, .string p0_5]) :
   (execOp e o).run Tryz.prog w = .ok (.value (.slice (some ⟨w.heap.size, 0, none⟩) 1 1)) (w.alloc (.cells #[.string p0_0, .string p0_1, .int .i64 z0_2, .int .i64 z0_3, .int .i64 z0_4, .string p0_5] 35)) := by
  unfold execOp
  rw [ho]
  simp only [List.map_toArray, List.map_cons, List.map_nil, h0]
  kernel_rfl
theorem bl_bcn4 (e : Operand → Value) (he : ∀ v, e (.const v) = v) (o : Oper) (w : World) (i3 : Nat) (p0 : ByteArray) (p1 : ByteArray) (p2 : ByteArray) (p3 : ByteArray) (ho : o.op = .buildSlice 82 4 #[(0, .const (.string p0)), (1, .const (.string p1)), (2, .const (.string p2)), (3, .tmp i3)]) (h3 : e (.tmp i3) = .string p3) :
   (execOp e o).run Tryz.prog w = .ok (.value (.slice (some ⟨w.heap.size, 0, none⟩) 4 4)) (w.alloc (.cells #[.string p0, .string p1, .string p2, .string p3] 9)) := by
  unfold execOp
  rw [ho]
  simp only [List.map_toArray, List.map_cons, List.map_nil, he, h3]
  kernel_rfl
set_option maxRecDepth 100000 in
set_option maxHeartbeats 40000000 in
theorem bcns_any (S k m : Nat) (w : World) (h : StreamOk w S k) (hk : k ≤ 900000) (hm : m ≤ 10) : Calls Tryz.prog 19 #[.pointer (some ⟨S, 0, none⟩), .int .i64 m] w (BcnsP S (k + 14 * m + 1) m w) := by
  obtain ⟨i0, hi0, hz0, hz1, hz2⟩ := info_parts Tryz.bcnInfo
  have hSw := h.lt
  have HS0 := Lib.hid h
  clear h
  go_enter Tryz.func19, Tryz.ntmps19
  go_wp2_with fail
  go_loopw [5, 8] (fun vo it wr => ∃ (i : Nat) (L : List Vbcn), i ≤ m ∧ it = .int .i64 i ∧ L.length = i ∧ Hid (∀ a ∈ L, BcnB a) ∧ Hid (VbcnRow wr w.heap.size vo L) ∧ Hid (StreamOk wr S (k + 14 * i)) ∧ Hid (Keeps S w wr)) (fun _ it _ => m - (intOf it).toNat)
  case atStart => exact ⟨0, [], Nat.zero_le _, rfl, rfl, (fun a ha => by cases ha), World.ownsRow_nil _ _ _ _, HS0.out, Keeps.refl _ _⟩
  case round =>
    clear HS0
    obtain ⟨i, L, hi, rfl, hLl, HA, O1, HS1, HK1⟩ := hrel
    obtain ⟨vo, rfl⟩ : ∃ x : Value, x = u5 := ⟨_, rfl⟩
    by_cases hlt : i < m
    case neg =>
      obtain rfl : i = m := by omega
      have hin : ¬ ((i : Int) < (i : Int)) := by omega
      have HST := Lib.hid (stB_any wr w.heap.size vo L O1.out (by omega))
      have HV := Lib.hid (fun b (hb : vo.ownBlock = some b) => (World.ownsRow.lt O1.out b hb).1)
      clear O1
      as_aux_lemma =>
        go_wp2_with fail
        refine HST.out.mono ?_
        rintro e w2 ⟨rfl, hr, hg⟩
        have O2 := Lib.hid hr
        have HLM : Hid ((insL (ltOf bcnOrd) L).length ≤ i ∧ ∀ a ∈ insL (ltOf bcnOrd) L, BcnB a) := ⟨by rw [insL_len]; omega, fun a ha => HA.out a (insL_mem _ _ ha)⟩
        have HS2 : Hid (StreamOk w2 S (k + 14 * i)) := HS1.out.upto ⟨hg.os, hg.tape, hg.output, hg.size, fun j hj => hg.block j (by have := HS1.out.lt; omega) (fun e => by have := HV.out j e.symm; omega)⟩
        have HK2 : Hid (Keeps S w w2) := ⟨hg.os.trans HK1.out.os, hg.tape.trans HK1.out.tape, hg.output.trans HK1.out.output, Nat.le_trans HK1.out.size hg.size, fun j hj hjS => (hg.block j (Nat.lt_of_lt_of_le hj HK1.out.size) (fun e => by have := HV.out j e.symm; omega)).trans (HK1.out.block j hj hjS)⟩
        clear hr hg HS1 HK1 HST HA
        generalize insL (ltOf bcnOrd) L = M at O2 HLM
        as_aux_lemma =>
          go_wp2_with fail
          refine (flip_any S (k + 14 * i) 60 _ HS2.out (by omega) (by omega) (by omega)).mono ?_
          rintro e w3 ⟨fb, rfl, hst, hk'⟩
          have HS3 := Lib.hid hst
          have HK3 := Lib.hid (HK2.out.trans hk')
          have O3 : Hid (VbcnRow w3 w.heap.size vo M) := own_keeps O2.out hk' hSw
          clear hst hk' HS2 HK2 O2
          cases fb
          case true =>
            as_aux_lemma =>
              go_wp2_with fail
              go_ret
              exact ⟨vo, M, rfl, O3.out, HLM.out.1, HLM.out.2, HS3.out, HK3.out⟩
          have HCP := Lib.hid (cpB_any w3 w.heap.size vo M O3.out (by have := HLM.out.1; omega))
          clear O3
          as_aux_lemma =>
            go_wp2_with fail
            refine HCP.out.mono ?_
            rintro e w4 ⟨v', ys, rfl, hr, hmem, hle, hg⟩
            have HE : Hid (BcnsP S (k + 14 * i + 1) i w (.returned v') w4) := ⟨v', ys, rfl, hr, Nat.le_trans hle HLM.out.1, fun a ha => HLM.out.2 a (hmem a ha), HS3.out.upto ⟨hg.os, hg.tape, hg.output, hg.size, fun j hj => hg.block j (by have := HS3.out.lt; omega) (fun e => by have := HV.out j e.symm; omega)⟩, ⟨hg.os.trans HK3.out.os, hg.tape.trans HK3.out.tape, hg.output.trans HK3.out.output, Nat.le_trans HK3.out.size hg.size, fun j hj hjS => (hg.block j (Nat.lt_of_lt_of_le hj HK3.out.size) (fun e => by have := HV.out j e.symm; omega)).trans (HK3.out.block j hj hjS)⟩⟩
            clear hr hmem hle hg
            as_aux_lemma =>
              go_wp2_with fail
              go_ret
              exact HE.out
    have hin : (i : Int) < (m : Int) := by omega
    obtain ⟨w1, hw1⟩ : ∃ x : World, x = wr := ⟨_, rfl⟩
    subst hw1
    as_aux_lemma =>
      go_wp2_with ((refine wpList_val rfl (bl_bcn0 _ (fun _ => rfl) _ _  ⟨#[97, 110, 110]⟩ ⟨#[97, 110, 110]⟩ ⟨#[98, 111, 98]⟩ rfl) ?_))
      refine (some_lit S (k + 14 * i + 0) [[97, 110, 110], [97, 110, 110], [98, 111, 98]] (fun s => s.length ≤ 10) _ _ _ HS1.out (by omega) rfl rfl (by decide) (by decide) (by decide)).mono ?_
      rintro e w2 ⟨s1, rfl, hs1, hst, hk'⟩
      have HLs1 := Lib.hid hs1
      clear hs1
      have HS2 := Lib.hid (hst.mono (k' := k + 14 * i + 1) (by omega))
      have HK2 := Lib.hid (HK1.out.trans hk')
      have O2 := Lib.hid (own_keeps O1.out hk' hSw)
      clear hst hk' HS1 HK1 O1
      as_aux_lemma =>
        go_wp2_with ((refine wpList_val rfl (bl_bcn1 _ (fun _ => rfl) _ _  ⟨#[100, 101, 115, 107]⟩ ⟨#[112, 104, 111, 110, 101]⟩ rfl) ?_))
        refine (some_lit S (k + 14 * i + 1) [[100, 101, 115, 107], [112, 104, 111, 110, 101]] (fun s => s.length ≤ 10) _ _ _ HS2.out (by omega) rfl rfl (by decide) (by decide) (by decide)).mono ?_
        rintro e w3 ⟨s2, rfl, hs2, hst, hk'⟩
        have HLs2 := Lib.hid hs2
        clear hs2
        have HS3 := Lib.hid (hst.mono (k' := k + 14 * i + 2) (by omega))
        have HK3 := Lib.hid (HK2.out.trans hk')
        have O3 := Lib.hid (own_keeps O2.out hk' hSw)
        clear hst hk' HS2 HK2 O2
        as_aux_lemma =>
          go_wp2_with fail
          refine (range_any S (k + 14 * i + 2) 0 4 _ HS3.out (by omega) (by omega) (by omega) (by omega)).mono ?_
          rintro e w4 ⟨z2, rfl, z20, z21, hst, hk'⟩
          have HS4 := Lib.hid (hst.mono (k' := k + 14 * i + 3) (by omega))
          have HK4 := Lib.hid (HK3.out.trans hk')
          have O4 := Lib.hid (own_keeps O3.out hk' hSw)
          clear hst hk' HS3 HK3 O3
          as_aux_lemma =>
            go_wp2_with fail
            refine (range_any S (k + 14 * i + 3) 0 8 _ HS4.out (by omega) (by omega) (by omega) (by omega)).mono ?_
            rintro e w5 ⟨q3, rfl, q30, q31, hst, hk'⟩
            have HS5 := Lib.hid (hst.mono (k' := k + 14 * i + 4) (by omega))
            have HK5 := Lib.hid (HK4.out.trans hk')
            have O5 := Lib.hid (own_keeps O4.out hk' hSw)
            clear hst hk' HS4 HK4 O4
            obtain ⟨z3, hz3⟩ : ∃ z, z = q3 * 5 := ⟨_, rfl⟩
            have wm : IntKind.i64.wrap (q3 * 5) = z3 := by rw [hz3]; exact IntWalk.i64_in _ (by omega)
            have z30 : 0 ≤ z3 := by omega
            have z31 : z3 ≤ 40 := by omega
            clear hz3
            as_aux_lemma =>
              go_wp2_with ((refine wpList_val rfl (bl_bcn0 _ (fun _ => rfl) _ _  ⟨#[]⟩ ⟨#[]⟩ ⟨#[98, 97, 99, 107, 32, 97, 116, 32, 51]⟩ rfl) ?_))
              refine (some_lit S (k + 14 * i + 4) [[], [], [98, 97, 99, 107, 32, 97, 116, 32, 51]] (fun s => s ∈ notesB) _ _ _ HS5.out (by omega) rfl rfl (by decide) (by decide) (by decide)).mono ?_
              rintro e w6 ⟨s5, rfl, hs5, hst, hk'⟩
              have HLs5 := Lib.hid hs5
              clear hs5
              have HS6 := Lib.hid (hst.mono (k' := k + 14 * i + 5) (by omega))
              have HK6 := Lib.hid (HK5.out.trans hk')
              have O6 := Lib.hid (own_keeps O5.out hk' hSw)
              clear hst hk' HS5 HK5 O5
              have hk' : Keeps S w6 (w6.alloc (.cells #[.string ⟨s1.toArray⟩, .string ⟨s2.toArray⟩, .int .i64 z2, .int .i64 z3, .int .i64 0, .string ⟨s5.toArray⟩] 35)) := (Keeps.refl _ _).alloc _
              have HS7 : Hid (StreamOk (w6.alloc (.cells #[.string ⟨s1.toArray⟩, .string ⟨s2.toArray⟩, .int .i64 z2, .int .i64 z3, .int .i64 0, .string ⟨s5.toArray⟩] 35)) S (k + 14 * i + 5)) := HS6.out.below (ext_alloc (Below.refl _ _))
              have HK7 := Lib.hid (HK6.out.trans hk')
              have O7 := Lib.hid (own_keeps O6.out hk' hSw)
              have Q7 : Hid (Blk (w6.alloc (.cells #[.string ⟨s1.toArray⟩, .string ⟨s2.toArray⟩, .int .i64 z2, .int .i64 z3, .int .i64 0, .string ⟨s5.toArray⟩] 35)) w6.heap.size [.string ⟨s1.toArray⟩, .string ⟨s2.toArray⟩, .int .i64 z2, .int .i64 z3, .int .i64 0, .string ⟨s5.toArray⟩] 35) := Blk.new _ _ _
              have HNQ : Hid (vo.ownBlock ≠ some w6.heap.size) := own_before O6.out (Nat.le_refl _)
              have hwQ : w.heap.size ≤ w6.heap.size := HK6.out.size
              clear hk' HS6 HK6 O6
              as_aux_lemma =>
                go_upto_region 5 with (refine wpList_val rfl (build_bcn _ _ _ ⟨s1.toArray⟩ ⟨s2.toArray⟩ z2 z3 ⟨s5.toArray⟩ rfl rfl rfl rfl rfl rfl) ?_)
                generalize (w6.alloc (.cells #[.string ⟨s1.toArray⟩, .string ⟨s2.toArray⟩, .int .i64 z2, .int .i64 z3, .int .i64 0, .string ⟨s5.toArray⟩] 35)) = w7 at HS7 HK7 O7 Q7 ⊢
                obtain ⟨Q, hQ⟩ : ∃ Q, Q = w6.heap.size := ⟨_, rfl⟩
                rw [← hQ] at Q7 HNQ hwQ ⊢
                have hSQ : S < Q := by omega
                have hQS : Q ≠ S := by omega
                clear hQ
                have hd : Below w7.heap.size w7 w7.drew := ext_drew (Below.refl _ _)
                have HSd := Lib.hid (HS7.out.below hd)
                have HKd := Lib.hid (HK7.out.trans (Keeps.of_below hd))
                have Od : Hid (VbcnRow w7.drew w.heap.size vo L) := own_keep O7.out hd
                have Qd := Lib.hid (Q7.out.below hd)
                clear hd HS7 HK7 O7 Q7
                as_aux_lemma =>
                  refine region_seqI (S := fun W9 => W9.cell? ⟨Q, 3, none⟩ = some (.int .i64 z3)) [(true, 0), (true, 1), (true, 2), (false, 3), (false, 4), (true, 5), (true, 6), (false, 7)] (by kernel_rfl) (by kernel_rfl) rfl (by kernel_rfl) (Qd.out.cell 3 rfl) ?_
                  generalize w7.drew = wd at HSd HKd Od Qd ⊢
                  simp only [seqOps, List.getD_cons_zero, List.getD_cons_succ]
                  refine seqI_take (v := .pointer (some ⟨Q, 3, none⟩)) rfl (fun W9 hW => by clear hW; go_simp) (fun _ _ _ h => h) ?_
                  simp only [Act.put, List.setIfInBounds_toArray, List.set_cons_zero, List.set_cons_succ]
                  refine seqI_take (v := .int .i64 z3) rfl (fun W9 hW => by have hc9 := hW; clear hW; go_simp) (fun _ _ _ h => h) ?_
                  simp only [Act.put, List.setIfInBounds_toArray, List.set_cons_zero, List.set_cons_succ]
                  refine seqI_take (v := .pointer (some ⟨S, 0, none⟩)) rfl (fun W9 hW => by clear hW; go_simp) (fun _ _ _ h => h) ?_
                  simp only [Act.put, List.setIfInBounds_toArray, List.set_cons_zero, List.set_cons_succ]
                  refine seqI_do rfl (wp_valA (bl_bcn2 _ (fun _ => rfl) _ _  0 5 7 20 100 rfl) ⟨(Qd.out.below (ext_alloc (Below.refl _ _))).cell 3 rfl, ?_⟩)
                  simp only [Act.put, List.setIfInBounds_toArray, List.set_cons_zero, List.set_cons_succ]
                  refine seqI_call _ _ rfl (by go_simp) (pick_lit S (k + 14 * i + 5) [0, 5, 7, 20, 100] (fun x => 0 ≤ x ∧ x ≤ 100) _ _ _ HSd.out (by omega) rfl rfl (by decide) (by decide) (by decide)) ?_
                  rintro e w8 ⟨p, rfl, ⟨p0, p1⟩, hst, hk'⟩
                  have HS8 := Lib.hid (hst.mono (k' := k + 14 * i + 6) (by omega))
                  have HK8 := Lib.hid (HKd.out.trans hk')
                  have O8 := Lib.hid (own_keeps Od.out hk' hSw)
                  have Q8 := Lib.hid (Qd.out.keeps hk' hQS)
                  clear hst hk' HSd HKd Od Qd
                  obtain ⟨z4, hz4⟩ : ∃ z, z = z3 + p := ⟨_, rfl⟩
                  have wa : IntKind.i64.wrap (z3 + p) = z4 := by rw [hz4]; exact IntWalk.i64_in _ (by omega)
                  have z40 : 0 ≤ z4 := by omega
                  have z41 : z4 ≤ 140 := by omega
                  clear hz4
                  refine ⟨_, rfl, Q8.out.cell 3 rfl, ?_⟩
                  simp only [Act.put, List.setIfInBounds_toArray, List.set_cons_zero, List.set_cons_succ]
                  refine seqI_take (v := .int .i64 z4) rfl (fun W9 hW => by clear hW; go_simp) (fun _ _ _ h => h) ?_
                  simp only [Act.put, List.setIfInBounds_toArray, List.set_cons_zero, List.set_cons_succ]
                  refine seqI_take (v := .pointer (some ⟨Q, 4, none⟩)) rfl (fun W9 hW => by clear hW; go_simp) (fun _ _ _ h => h) ?_
                  simp only [Act.put, List.setIfInBounds_toArray, List.set_cons_zero, List.set_cons_succ]
                  have HS9 : Hid (StreamOk (w8.setCell ⟨Q, 4, none⟩ (.int .i64 z4)) S (k + 14 * i + 6)) := stream_setQ HS8.out hSQ
                  have HK9 : Hid (Keeps S w (w8.setCell ⟨Q, 4, none⟩ (.int .i64 z4))) := HK8.out.setCell_new hwQ _
                  have O9 : Hid (VbcnRow (w8.setCell ⟨Q, 4, none⟩ (.int .i64 z4)) w.heap.size vo L) := own_set1 O8.out HNQ.out
                  have Q9 : Hid (Blk (w8.setCell ⟨Q, 4, none⟩ (.int .i64 z4)) Q [.string ⟨s1.toArray⟩, .string ⟨s2.toArray⟩, .int .i64 z2, .int .i64 z3, .int .i64 z4, .string ⟨s5.toArray⟩] 35) := Q8.out.put 4 _
                  refine seqI_do rfl (wp_store_i rfl Q 4 z4 (.int .i64 0) rfl rfl (Q8.out.cell 4 rfl) (Q8.out.fr 4) ⟨Q9.out.cell 3 rfl, ?_⟩)
                  simp only [Act.put, List.setIfInBounds_toArray, List.set_cons_zero, List.set_cons_succ]
                  refine seqI_nil ?_
                  generalize (w8.setCell ⟨Q, 4, none⟩ (.int .i64 z4)) = w9 at HS9 HK9 O9 Q9 ⊢
                  clear HS8 HK8 O8 Q8 wa wm p0 p1
                  as_aux_lemma =>
                    go_wp2_with fail
                    refine (flip_any S (k + 14 * i + 6) 60 _ HS9.out (by omega) (by omega) (by omega)).mono ?_
                    rintro e w10 ⟨fb, rfl, hst, hk'⟩
                    have HS10 := Lib.hid (hst.mono (k' := k + 14 * i + 7) (by omega))
                    have HK10 := Lib.hid (HK9.out.trans hk')
                    have O10 := Lib.hid (own_keeps O9.out hk' hSw)
                    have Q10 := Lib.hid (Q9.out.keeps hk' hQS)
                    clear hst hk' HS9 HK9 O9 Q9
                    cases fb
                    case false =>
                      as_aux_lemma =>
                        go_upto_region 8 with (fail)
                        obtain ⟨wn, hwn⟩ : ∃ w', w' = (w10.alloc (.cells #[.string ⟨s1.toArray⟩, .string ⟨s2.toArray⟩, .int .i64 z2, .int .i64 z3, .int .i64 z4, .string ⟨s5.toArray⟩] 35)) := ⟨_, rfl⟩
                        have hbn : Below w10.heap.size w10 wn := by rw [hwn]; exact ext_alloc (Below.refl _ _)
                        have HZN : Hid (Blk wn w10.heap.size [.string ⟨s1.toArray⟩, .string ⟨s2.toArray⟩, .int .i64 z2, .int .i64 z3, .int .i64 z4, .string ⟨s5.toArray⟩] 35) := by rw [hwn]; exact Blk.new _ _ _
                        have HNW : Hid (∀ j u, ([.string ⟨s1.toArray⟩, .string ⟨s2.toArray⟩, .int .i64 z2, .int .i64 z3, .int .i64 z4, .string ⟨s5.toArray⟩] : List Value)[j]? = some u → wn.cell? ((⟨w10.heap.size, 0, none⟩ : Addr).add j) = some u) := fun j u hj => by
                          rw [show (⟨w10.heap.size, 0, none⟩ : Addr).add j = ⟨w10.heap.size, j, none⟩ by cases j <;> simp [Addr.add]]
                          exact HZN.out.cell j hj
                        have HON : Hid (wn.ownsRow w.heap.size 35 6 vo L.length ((L.map Vbcn.cells).flatten)) := own_keep O10.out hbn
                        have HSN := Lib.hid (HS10.out.below hbn)
                        have HKN := Lib.hid (HK10.out.trans (Keeps.of_below hbn))
                        have HWN := Lib.hid hwn
                        have HLM : Hid (L.length + 1 ≤ maxLen ∧ (L.length + 1) * 72 ≤ 140737488355328) := ⟨by unfold maxLen; omega, by omega⟩
                        have hbw : w.heap.size ≤ wn.heap.size := HKN.out.size
                        have HRG : Hid (w10.rangeAt Q 0 [.string ⟨s1.toArray⟩, .string ⟨s2.toArray⟩, .int .i64 z2, .int .i64 z3, .int .i64 z4, .string ⟨s5.toArray⟩]) := fun j v hj => by rw [Nat.zero_add]; exact Q10.out.cell j hj
                        clear hbn hwn HS10 HK10 O10 Q10
                        as_aux_lemma =>
                          go_upto_region 9 with (first | (refine wpList_load_mid rfl 35 (.tmp 6) rfl Q 0 rfl [.string ⟨s1.toArray⟩, .string ⟨s2.toArray⟩, .int .i64 z2, .int .i64 z3, .int .i64 z4, .string ⟨s5.toArray⟩] _ HRG.out Tryz.underlying35 rfl Tryz.bcnSz ?_) | ((refine wpList_val rfl (bl_bcn3 _ (fun _ => rfl) _ _ 50 ⟨s1.toArray⟩ ⟨s2.toArray⟩ z2 z3 z4 ⟨s5.toArray⟩ rfl rfl) ?_)) | (at_builtin; rw [← HWN.out]; refine wpList_append_own _ rfl (.tmp 49) (.tmp 51) 26 rfl w.heap.size 35 i0 (.agg #[.string ⟨#[]⟩, .string ⟨#[]⟩, .int .i64 0, .int .i64 0, .int .i64 0, .string ⟨#[]⟩]) 6 72 Tryz.underlying26 hi0 hz0 hz1 hz2 rfl (by decide) vo L.length ((L.map Vbcn.cells).flatten) rfl HON.out ⟨w10.heap.size, 0, none⟩ 1 1 [.string ⟨s1.toArray⟩, .string ⟨s2.toArray⟩, .int .i64 z2, .int .i64 z3, .int .i64 z4, .string ⟨s5.toArray⟩] rfl rfl HNW.out (by intro u hu; simp at hu; rcases hu with rfl | rfl | rfl | rfl | rfl | rfl <;> rfl) HLM.out.1 HLM.out.2 hbw ?_; intro vn wx hon hgn _))
                          have HOX : Hid (VbcnRow wx w.heap.size vn (L ++ [⟨s1, s2, z2, z3, z4, s5⟩])) := by
                            show VbcnRow _ _ _ _
                            unfold VbcnRow
                            rw [List.map_append, List.flatten_append, List.length_append]
                            exact hon
                          have HOB : Hid (∀ b, vo.ownBlock = some b → w.heap.size ≤ b ∧ b < wn.heap.size) := fun b hb => HON.out.lt b hb
                          have HSX : Hid (StreamOk wx S (k + 14 * (i + 1))) := (HSN.out.upto ⟨hgn.os, hgn.tape, hgn.output, hgn.size, fun j hj => hgn.block j (by have := HSN.out.lt; omega) (fun e => by have := (HOB.out j e.symm).1; omega)⟩).mono (by omega)
                          have HKX : Hid (Keeps S w wx) := ⟨hgn.os.trans HKN.out.os, hgn.tape.trans HKN.out.tape, hgn.output.trans HKN.out.output, Nat.le_trans HKN.out.size hgn.size, fun j hj hjS => (hgn.block j (Nat.lt_of_lt_of_le hj HKN.out.size) (fun e => by have := (HOB.out j e.symm).1; omega)).trans (HKN.out.block j hj hjS)⟩
                          have HAX : Hid (∀ y ∈ L ++ [(⟨s1, s2, z2, z3, z4, s5⟩ : Vbcn)], BcnB y) := fun y hy => by
                            rcases List.mem_append.1 hy with hy | hy
                            · exact HA.out y hy
                            · rw [List.mem_singleton.1 hy]
                              exact ⟨by show _ ≤ z3; omega, by show z3 ≤ _; omega, by show _ ≤ z2; omega, by show z2 ≤ _; omega, by show _ ≤ z4; omega, by show z4 ≤ _; omega, HLs1.out, HLs2.out, HLs5.out⟩
                          clear hon hgn HON HSN HKN HWN HNW HZN HOB HRG
                          as_aux_lemma =>
                            go_wp2_with fail
                            go_roundw
                            case rel => exact ⟨i + 1, L ++ [⟨s1, s2, z2, z3, z4, s5⟩], by omega, by go_num, by rw [List.length_append, hLl]; rfl, HAX, HOX, HSX, HKX⟩
                            case measure => simp [intOf]; omega
                    as_aux_lemma =>
                      go_wp2_with ((refine wpList_val rfl (bl_bcn1 _ (fun _ => rfl) _ _  ⟨#[97, 110, 110]⟩ ⟨#[]⟩ rfl) ?_))
                      refine (some_lit S (k + 14 * i + 7) [[97, 110, 110], []] (fun s => s.length ≤ 10) _ _ _ HS10.out (by omega) rfl rfl (by decide) (by decide) (by decide)).mono ?_
                      rintro e w11 ⟨u1, rfl, hu1, hst, hk'⟩
                      have HLu1 := Lib.hid hu1
                      clear hu1
                      have HS11 := Lib.hid (hst.mono (k' := k + 14 * i + 8) (by omega))
                      have HK11 := Lib.hid (HK10.out.trans hk')
                      have O11 := Lib.hid (own_keeps O10.out hk' hSw)
                      have Q11 := Lib.hid (Q10.out.keeps hk' hQS)
                      clear hst hk' HS10 HK10 O10 Q10
                      as_aux_lemma =>
                        go_wp2_with fail
                        refine (odd_any S (k + 14 * i + 8) 0 4 _ HS11.out (by omega) (by omega) (by omega) (by omega)).mono ?_
                        rintro e w12 ⟨y2, rfl, ⟨y20, y21⟩, hst, hk'⟩
                        have HS12 := Lib.hid (hst.mono (k' := k + 14 * i + 10) (by omega))
                        have HK12 := Lib.hid (HK11.out.trans hk')
                        have O12 := Lib.hid (own_keeps O11.out hk' hSw)
                        have Q12 := Lib.hid (Q11.out.keeps hk' hQS)
                        clear hst hk' HS11 HK11 O11 Q11
                        as_aux_lemma =>
                          go_wp2_with fail
                          refine (odd_any S (k + 14 * i + 10) 0 50 _ HS12.out (by omega) (by omega) (by omega) (by omega)).mono ?_
                          rintro e w13 ⟨y4, rfl, ⟨y40, y41⟩, hst, hk'⟩
                          have HS13 := Lib.hid (hst.mono (k' := k + 14 * i + 12) (by omega))
                          have HK13 := Lib.hid (HK12.out.trans hk')
                          have O13 := Lib.hid (own_keeps O12.out hk' hSw)
                          have Q13 := Lib.hid (Q12.out.keeps hk' hQS)
                          clear hst hk' HS12 HK12 O12 Q12
                          as_aux_lemma =>
                            go_wp2_with fail
                            refine (Tryz.strings_Repeat ⟨#[110]⟩ 101 w13 (by decide) (by decide)).mono ?_
                            rintro e w14 ⟨he, hb⟩
                            obtain ⟨rp, hrp⟩ : ∃ x, x = Lib.repeatL [110] 101 := ⟨_, rfl⟩
                            have he2 : e = .returned (.string ⟨rp.toArray⟩) := by rw [hrp]; exact he
                            clear he
                            subst he2
                            have HRP : Hid (rp ∈ notesB) := by
                              show _ ∈ _
                              rw [hrp, rep101]
                              simp [notesB]
                            clear hrp
                            have HS14 := Lib.hid (HS13.out.below hb)
                            have HK14 := Lib.hid (HK13.out.trans (Keeps.of_below hb))
                            have O14 : Hid (VbcnRow w14 w.heap.size vo L) := own_keep O13.out hb
                            have Q14 := Lib.hid (Q13.out.below hb)
                            clear hb HS13 HK13 O13 Q13
                            as_aux_lemma =>
                              go_wp2_with ((refine wpList_val rfl (bl_bcn4 _ (fun _ => rfl) _ _ 42 ⟨#[32, 120]⟩ ⟨#[97, 32, 32, 98]⟩ ⟨#[10]⟩ ⟨rp.toArray⟩ rfl rfl) ?_))
                              refine (some_lit S (k + 14 * i + 12) [[32, 120], [97, 32, 32, 98], [10], rp] (fun s => s ∈ notesB) _ _ _ HS14.out (by omega) rfl rfl (by simp) (by simp) (by intro x hx; simp only [List.mem_cons, List.not_mem_nil, or_false] at hx; rcases hx with rfl | rfl | rfl | rfl; exact (by decide); exact (by decide); exact (by decide); exact HRP.out)).mono ?_
                              rintro e w15 ⟨u5, rfl, hu5, hst, hk'⟩
                              have HLu5 := Lib.hid hu5
                              clear hu5
                              have HS15 := Lib.hid (hst.mono (k' := k + 14 * i + 13) (by omega))
                              have HK15 := Lib.hid (HK14.out.trans hk')
                              have O15 := Lib.hid (own_keeps O14.out hk' hSw)
                              have Q15 := Lib.hid (Q14.out.keeps hk' hQS)
                              clear hst hk' HS14 HK14 O14 Q14
                              have sc0 := Q15.out.cell 0 rfl
                              have sf0 := Q15.out.fr 0
                              have sc2 := Q15.out.cell 2 rfl
                              have sf2 := Q15.out.fr 2
                              have sc4 := Q15.out.cell 4 rfl
                              have sf4 := Q15.out.fr 4
                              have sc5 := Q15.out.cell 5 rfl
                              have sf5 := Q15.out.fr 5
                              as_aux_lemma =>
                                go_upto_region 8 with (fail)
                                clear sc0 sf0 sc2 sf2 sc4 sf4 sc5 sf5
                                have HS16 : Hid (StreamOk ((((w15.setCell ⟨Q, 0, none⟩ (.string ⟨u1.toArray⟩)).setCell ⟨Q, 2, none⟩ (.int .i64 y2)).setCell ⟨Q, 4, none⟩ (.int .i64 y4)).setCell ⟨Q, 5, none⟩ (.string ⟨u5.toArray⟩)) S (k + 14 * i + 13)) := (stream_setQ (stream_setQ (stream_setQ (stream_setQ HS15.out hSQ) hSQ) hSQ) hSQ)
                                have HK16 : Hid (Keeps S w ((((w15.setCell ⟨Q, 0, none⟩ (.string ⟨u1.toArray⟩)).setCell ⟨Q, 2, none⟩ (.int .i64 y2)).setCell ⟨Q, 4, none⟩ (.int .i64 y4)).setCell ⟨Q, 5, none⟩ (.string ⟨u5.toArray⟩))) := ((((HK15.out.setCell_new hwQ _).setCell_new hwQ _).setCell_new hwQ _).setCell_new hwQ _)
                                have O16 : Hid (VbcnRow ((((w15.setCell ⟨Q, 0, none⟩ (.string ⟨u1.toArray⟩)).setCell ⟨Q, 2, none⟩ (.int .i64 y2)).setCell ⟨Q, 4, none⟩ (.int .i64 y4)).setCell ⟨Q, 5, none⟩ (.string ⟨u5.toArray⟩)) w.heap.size vo L) := (own_set1 (own_set1 (own_set1 (own_set1 O15.out HNQ.out) HNQ.out) HNQ.out) HNQ.out)
                                have Q16 : Hid (Blk ((((w15.setCell ⟨Q, 0, none⟩ (.string ⟨u1.toArray⟩)).setCell ⟨Q, 2, none⟩ (.int .i64 y2)).setCell ⟨Q, 4, none⟩ (.int .i64 y4)).setCell ⟨Q, 5, none⟩ (.string ⟨u5.toArray⟩)) Q [.string ⟨u1.toArray⟩, .string ⟨s2.toArray⟩, .int .i64 y2, .int .i64 z3, .int .i64 y4, .string ⟨u5.toArray⟩] 35) := ((((Q15.out.put 0 _).put 2 _).put 4 _).put 5 _)
                                generalize ((((w15.setCell ⟨Q, 0, none⟩ (.string ⟨u1.toArray⟩)).setCell ⟨Q, 2, none⟩ (.int .i64 y2)).setCell ⟨Q, 4, none⟩ (.int .i64 y4)).setCell ⟨Q, 5, none⟩ (.string ⟨u5.toArray⟩)) = w16 at HS16 HK16 O16 Q16 ⊢
                                clear HS15 HK15 O15 Q15
                                obtain ⟨wn, hwn⟩ : ∃ w', w' = (w16.alloc (.cells #[.string ⟨u1.toArray⟩, .string ⟨s2.toArray⟩, .int .i64 y2, .int .i64 z3, .int .i64 y4, .string ⟨u5.toArray⟩] 35)) := ⟨_, rfl⟩
                                have hbn : Below w16.heap.size w16 wn := by rw [hwn]; exact ext_alloc (Below.refl _ _)
                                have HZN : Hid (Blk wn w16.heap.size [.string ⟨u1.toArray⟩, .string ⟨s2.toArray⟩, .int .i64 y2, .int .i64 z3, .int .i64 y4, .string ⟨u5.toArray⟩] 35) := by rw [hwn]; exact Blk.new _ _ _
                                have HNW : Hid (∀ j u, ([.string ⟨u1.toArray⟩, .string ⟨s2.toArray⟩, .int .i64 y2, .int .i64 z3, .int .i64 y4, .string ⟨u5.toArray⟩] : List Value)[j]? = some u → wn.cell? ((⟨w16.heap.size, 0, none⟩ : Addr).add j) = some u) := fun j u hj => by
                                  rw [show (⟨w16.heap.size, 0, none⟩ : Addr).add j = ⟨w16.heap.size, j, none⟩ by cases j <;> simp [Addr.add]]
                                  exact HZN.out.cell j hj
                                have HON : Hid (wn.ownsRow w.heap.size 35 6 vo L.length ((L.map Vbcn.cells).flatten)) := own_keep O16.out hbn
                                have HSN := Lib.hid (HS16.out.below hbn)
                                have HKN := Lib.hid (HK16.out.trans (Keeps.of_below hbn))
                                have HWN := Lib.hid hwn
                                have HLM : Hid (L.length + 1 ≤ maxLen ∧ (L.length + 1) * 72 ≤ 140737488355328) := ⟨by unfold maxLen; omega, by omega⟩
                                have hbw : w.heap.size ≤ wn.heap.size := HKN.out.size
                                have HRG : Hid (w16.rangeAt Q 0 [.string ⟨u1.toArray⟩, .string ⟨s2.toArray⟩, .int .i64 y2, .int .i64 z3, .int .i64 y4, .string ⟨u5.toArray⟩]) := fun j v hj => by rw [Nat.zero_add]; exact Q16.out.cell j hj
                                clear hbn hwn HS16 HK16 O16 Q16
                                as_aux_lemma =>
                                  go_upto_region 9 with (first | (refine wpList_load_mid rfl 35 (.tmp 6) rfl Q 0 rfl [.string ⟨u1.toArray⟩, .string ⟨s2.toArray⟩, .int .i64 y2, .int .i64 z3, .int .i64 y4, .string ⟨u5.toArray⟩] _ HRG.out Tryz.underlying35 rfl Tryz.bcnSz ?_) | ((refine wpList_val rfl (bl_bcn3 _ (fun _ => rfl) _ _ 50 ⟨u1.toArray⟩ ⟨s2.toArray⟩ y2 z3 y4 ⟨u5.toArray⟩ rfl rfl) ?_)) | (at_builtin; rw [← HWN.out]; refine wpList_append_own _ rfl (.tmp 49) (.tmp 51) 26 rfl w.heap.size 35 i0 (.agg #[.string ⟨#[]⟩, .string ⟨#[]⟩, .int .i64 0, .int .i64 0, .int .i64 0, .string ⟨#[]⟩]) 6 72 Tryz.underlying26 hi0 hz0 hz1 hz2 rfl (by decide) vo L.length ((L.map Vbcn.cells).flatten) rfl HON.out ⟨w16.heap.size, 0, none⟩ 1 1 [.string ⟨u1.toArray⟩, .string ⟨s2.toArray⟩, .int .i64 y2, .int .i64 z3, .int .i64 y4, .string ⟨u5.toArray⟩] rfl rfl HNW.out (by intro u hu; simp at hu; rcases hu with rfl | rfl | rfl | rfl | rfl | rfl <;> rfl) HLM.out.1 HLM.out.2 hbw ?_; intro vn wx hon hgn _))
                                  have HOX : Hid (VbcnRow wx w.heap.size vn (L ++ [⟨u1, s2, y2, z3, y4, u5⟩])) := by
                                    show VbcnRow _ _ _ _
                                    unfold VbcnRow
                                    rw [List.map_append, List.flatten_append, List.length_append]
                                    exact hon
                                  have HOB : Hid (∀ b, vo.ownBlock = some b → w.heap.size ≤ b ∧ b < wn.heap.size) := fun b hb => HON.out.lt b hb
                                  have HSX : Hid (StreamOk wx S (k + 14 * (i + 1))) := (HSN.out.upto ⟨hgn.os, hgn.tape, hgn.output, hgn.size, fun j hj => hgn.block j (by have := HSN.out.lt; omega) (fun e => by have := (HOB.out j e.symm).1; omega)⟩).mono (by omega)
                                  have HKX : Hid (Keeps S w wx) := ⟨hgn.os.trans HKN.out.os, hgn.tape.trans HKN.out.tape, hgn.output.trans HKN.out.output, Nat.le_trans HKN.out.size hgn.size, fun j hj hjS => (hgn.block j (Nat.lt_of_lt_of_le hj HKN.out.size) (fun e => by have := (HOB.out j e.symm).1; omega)).trans (HKN.out.block j hj hjS)⟩
                                  have HAX : Hid (∀ y ∈ L ++ [(⟨u1, s2, y2, z3, y4, u5⟩ : Vbcn)], BcnB y) := fun y hy => by
                                    rcases List.mem_append.1 hy with hy | hy
                                    · exact HA.out y hy
                                    · rw [List.mem_singleton.1 hy]
                                      exact ⟨by show _ ≤ z3; omega, by show z3 ≤ _; omega, by show _ ≤ y2; omega, by show y2 ≤ _; omega, by show _ ≤ y4; omega, by show y4 ≤ _; omega, HLu1.out, HLs2.out, HLu5.out⟩
                                  clear hon hgn HON HSN HKN HWN HNW HZN HOB HRG
                                  as_aux_lemma =>
                                    go_wp2_with fail
                                    go_roundw
                                    case rel => exact ⟨i + 1, L ++ [⟨u1, s2, y2, z3, y4, u5⟩], by omega, by go_num, by rw [List.length_append, hLl]; rfl, HAX, HOX, HSX, HKX⟩
                                    case measure => simp [intOf]; omega
def RightB (S k m : Nat) (w : World) (e : Ending) (w' : World) : Prop := ∃ v l, e = .returned v ∧ VbcnRow w' w.heap.size v l ∧ l.length ≤ m ∧ (∀ a ∈ l, BcnB a) ∧ BcnsOk l ∧ StreamOk w' S k ∧ Keeps S w w'
set_option maxRecDepth 100000 in
set_option maxHeartbeats 8000000 in
theorem rightBcns_any (S k m : Nat) (w : World) (h : StreamOk w S k) (hU : U8W S w) (hk : k ≤ 800000) (hm : m ≤ 10) : Calls Tryz.prog 5 #[.pointer (some ⟨S, 0, none⟩), .int .i64 m] w (RightB S (k + 1000) m w) := by
  have hSw := h.lt
  have HS0 := Lib.hid h
  have HU0 : Hid (∀ W, Keeps S w W → U8W S W) := fun W hW => hU.keeps hW hSw
  clear h hU
  go_enter Tryz.func5, Tryz.ntmps5
  go_wp2_with fail
  go_loopw [6] (fun it wr => ∃ i : Nat, i ≤ 5 ∧ it = .int .i64 i ∧ Hid (StreamOk wr S (k + 150 * i)) ∧ Hid (Keeps S w wr)) (fun it _ => 5 - (intOf it).toNat)
  case atStart => exact ⟨0, by omega, rfl, HS0.out, Keeps.refl _ _⟩
  case round =>
    clear HS0
    obtain ⟨i, hi, rfl, HS1, HK1⟩ := hrel
    by_cases hlt : i < 5
    case neg =>
      have hin : ¬ ((i : Int) < 5) := by omega
      have HE : Hid (RightB S (k + 1000) m w (.returned (.slice none 0 0)) wr) := ⟨_, [], rfl, World.ownsRow_nil _ _ _ _, Nat.zero_le _, (fun a ha => by cases ha), BcnsOk.nil, HS1.out.mono (by omega), HK1.out⟩
      as_aux_lemma =>
        go_wp2_with fail
        go_ret
        exact HE.out
    have hin : (i : Int) < 5 := by omega
    as_aux_lemma =>
      go_wp2_with fail
      refine (bcns_any S (k + 150 * i) m _ HS1.out (by omega) hm).mono ?_
      rintro e w2 ⟨v, l, rfl, hr, hl, hab, hst, hk'⟩
      have HR := Lib.hid hr
      have HAB := Lib.hid hab
      have HS2 : Hid (StreamOk w2 S (k + 150 * (i + 1))) := hst.mono (by omega)
      have HK2 := Lib.hid (HK1.out.trans hk')
      have hbw : w.heap.size ≤ wr.heap.size := HK1.out.size
      have HF := Lib.hid (bcnsFault_any S w2 (HU0.out w2 HK2.out) (by have := HS2.out.lt; omega) _ v l hr (by omega) hab)
      clear hr hab hst hk' HS1 HK1
      as_aux_lemma =>
        go_wp2_with fail
        refine HF.out.mono ?_
        rintro e w3 ⟨E, rfl, hE, hb⟩
        have HS3 := Lib.hid (HS2.out.below hb)
        have HK3 := Lib.hid (HK2.out.ext hb)
        have HR3 : Hid (VbcnRow w3 w.heap.size v l) := own_le (own_keep HR.out hb) hbw
        have HEE := Lib.hid hE
        clear hE hb HS2 HK2 HR HF
        by_cases hE0 : E = 0
        · subst hE0
          have HE : Hid (RightB S (k + 1000) m w (.returned v) w3) := ⟨v, l, rfl, HR3.out, hl, HAB.out, HEE.out rfl, HS3.out.mono (by omega), HK3.out⟩
          as_aux_lemma =>
            go_wp2_with fail
            go_ret
            exact HE.out
        · have hEb : (E == 0) = false := by simpa using hE0
          as_aux_lemma =>
            go_wp2_with fail
            go_roundw
            case rel => exact ⟨i + 1, by omega, by go_num, HS3, HK3⟩
            case measure => simp [intOf]; omega
end Go.Proofs.YtamoclofloijpaaGreatDoor
