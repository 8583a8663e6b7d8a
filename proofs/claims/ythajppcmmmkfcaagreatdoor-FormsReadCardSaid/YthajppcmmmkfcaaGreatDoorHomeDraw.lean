/- What is proved here: homes that a stream hands out. Condition: the stream lies in memory as stated. -/
import Derived.Test.YthajppcmmmkfcaaGreatDoorPicks
import Derived.Test.YthajppcmmmkfcaaGreatDoorPlanBuild
import Derived.Test.YthajppcmmmkfcaaGreatDoorResCell
import Derived.Test.YthajppcmmmkfcaaGreatDoorFormBytes
set_option linter.unusedVariables false
set_option linter.unusedSimpArgs false
namespace Go.Proofs.YthajppcmmmkfcaaGreatDoor
open Go.RowKit

theorem bs_home8 (e : Operand → Value) (he : ∀ v, e (.const v) = v) (o : Oper) (w : World) (i0 : Nat) (i1 : Nat) (i2 : Nat) (i3 : Nat) (i4 : Nat) (i5 : Nat) (i6 : Nat) (i7 : Nat) (p0_0 : ByteArray) (p0_1 : ByteArray) (p1_0 : ByteArray) (p1_1 : ByteArray) (p2_0 : ByteArray) (p2_1 : ByteArray) (p3_0 : ByteArray) (p3_1 : ByteArray) (p4_0 : ByteArray) (p4_1 : ByteArray) (p5_0 : ByteArray) (p5_1 : ByteArray) (p6_0 : ByteArray) (p6_1 : ByteArray) (p7_0 : ByteArray) (p7_1 : ByteArray) (ho : o.op = .buildSlice 75 8 #[(0, .tmp i0), (1, .tmp i1), (2, .tmp i2), (3, .tmp i3), (4, .tmp i4), (5, .tmp i5), (6, .tmp i6), (7, .tmp i7)]) (h0 : e (.tmp i0) = .agg #[.string p0_0, .string p0_1]) (h1 : e (.tmp i1) = .agg #[.string p1_0, .string p1_1]) (h2 : e (.tmp i2) = .agg #[.string p2_0, .string p2_1]) (h3 : e (.tmp i3) = .agg #[.string p3_0, .string p3_1]) (h4 : e (.tmp i4) = .agg #[.string p4_0, .string p4_1]) (h5 : e (.tmp i5) = .agg #[.string p5_0, .string p5_1]) (h6 : e (.tmp i6) = .agg #[.string p6_0, .string p6_1]) (h7 : e (.tmp i7) = .agg #[.string p7_0, .string p7_1]) :
   (execOp e o).run Tryz.prog w = .ok (.value (.slice (some ⟨w.heap.size, 0, none⟩) 8 8)) (w.alloc (.cells #[.string p0_0, .string p0_1, .string p1_0, .string p1_1, .string p2_0, .string p2_1, .string p3_0, .string p3_1, .string p4_0, .string p4_1, .string p5_0, .string p5_1, .string p6_0, .string p6_1, .string p7_0, .string p7_1] 29)) := by
  unfold execOp
  rw [ho]
  simp only [List.map_toArray, List.map_cons, List.map_nil, h0, h1, h2, h3, h4, h5, h6, h7]
  kernel_rfl
/-- A home is handed out. -/
def HomeDPost (S k : Nat) (w : World) (e : Ending) (w' : World) : Prop :=
  ∃ code area : List UInt8, e = .returned (.agg #[.string ⟨code.toArray⟩, .string ⟨area.toArray⟩]) ∧ code.length ≤ 100 ∧ area.length ≤ 100 ∧ StreamOk w' S k ∧ Keeps S w w'

def homes8 : List (List UInt8 × List UInt8) := [([52, 57], [51, 48]), ([52, 57], [51, 48]), ([52, 57], [52]), ([52, 57], []), ([49], [50, 48]), ([49], []), ([53, 53], [49]), ([53, 53], [])]

set_option maxRecDepth 100000 in
set_option maxHeartbeats 4000000 in
theorem home_drawn (S k : Nat) (w : World) (h : StreamOk w S k) (hk : k ≤ 10000000) :
    Calls Tryz.prog 8 #[.pointer (some ⟨S, 0, none⟩)] w (HomeDPost S (k + 3) w) := by
  have HS := Lib.hid h
  have hlt := h.lt
  clear h
  go_enter Tryz.func8, Tryz.ntmps8
  go_wp2_with fail
  refine (flip_any S k 20 _ (HS.out.below (ext_alloc (Below.refl _ _))) (by omega) (by decide) (by decide)).mono ?_
  rintro e w1 ⟨fl, rfl, hst1, hk1⟩
  have HK1 := Lib.hid (((Keeps.refl S w).alloc _).trans hk1)
  have HS1 := Lib.hid hst1
  have hne : w.heap.size ≠ S := by omega
  have a0 : w1.cell? ⟨w.heap.size, 0, none⟩ = some (.string ⟨#[]⟩) := (hk1.cell (p := ⟨w.heap.size, 0, none⟩) (by simp) hne).trans (by go_simp)
  have a1 : w1.cell? ⟨w.heap.size, 1, none⟩ = some (.string ⟨#[]⟩) := (hk1.cell (p := ⟨w.heap.size, 1, none⟩) (by simp) hne).trans (by go_simp)
  have af : ∀ j, w1.frozen? ⟨w.heap.size, j, none⟩ = false := fun j => (hk1.frozen (p := ⟨w.heap.size, j, none⟩) (by simp) hne).trans (by go_simp)
  have hz1 : w.heap.size < w1.heap.size := by have := hk1.size; simp at this; omega
  have hS1 : S < w1.heap.size := hst1.lt
  clear hst1 hk1
  cases fl
  · skip
    as_aux_lemma =>
      go_wp2_with (refine wpList_val rfl (bs_home8 _ (fun _ => rfl) _ _ _ _ _ _ _ _ _ _ _ _ _ _ _ _ _ _ _ _ _ _ _ _ _ _ rfl rfl rfl rfl rfl rfl rfl rfl rfl) ?_)
      refine (next_any S (k + 1) 8 _ (HS1.out.below (ext_alloc (Below.refl _ _))) (by omega) (by decide) (by decide)).mono ?_
      rintro e w3 ⟨r, rfl, r0, r1, hst3, hk3⟩
      obtain ⟨r, rfl⟩ := Int.eq_ofNat_of_zero_le r0
      have hr : r < 8 := by omega
      have HK3 := Lib.hid ((HK1.out.alloc _).trans hk3)
      have HS3 := Lib.hid hst3
      have b0 : w3.cell? ⟨w.heap.size, 0, none⟩ = some (.string ⟨#[]⟩) := (hk3.cell (p := ⟨w.heap.size, 0, none⟩) (by show w.heap.size < _; simp; omega) hne).trans (by go_simp)
      have b1 : w3.cell? ⟨w.heap.size, 1, none⟩ = some (.string ⟨#[]⟩) := (hk3.cell (p := ⟨w.heap.size, 1, none⟩) (by show w.heap.size < _; simp; omega) hne).trans (by go_simp)
      have bf : ∀ j, w3.frozen? ⟨w.heap.size, j, none⟩ = false := fun j => (hk3.frozen (p := ⟨w.heap.size, j, none⟩) (by show w.heap.size < _; simp; omega) hne).trans (by go_simp)
      obtain ⟨code, area, q0, q1, hc, ha⟩ : ∃ code area : List UInt8, w3.cell? ⟨w1.heap.size, r * 2, none⟩ = some (.string ⟨code.toArray⟩) ∧ w3.cell? ⟨w1.heap.size, r * 2 + 1, none⟩ = some (.string ⟨area.toArray⟩) ∧ code.length ≤ 100 ∧ area.length ≤ 100 := by
        refine ⟨(homes8.getD r ([], [])).1, (homes8.getD r ([], [])).2, ?_, ?_, ?_, ?_⟩
        · refine (hk3.cell (p := ⟨w1.heap.size, r * 2, none⟩) (by simp) (by show w1.heap.size ≠ S; omega)).trans ?_
          rw [new_cell]
          match r, hr with
          | 0, _ | 1, _ | 2, _ | 3, _ | 4, _ | 5, _ | 6, _ | 7, _ => rfl
        · refine (hk3.cell (p := ⟨w1.heap.size, r * 2 + 1, none⟩) (by simp) (by show w1.heap.size ≠ S; omega)).trans ?_
          rw [new_cell]
          match r, hr with
          | 0, _ | 1, _ | 2, _ | 3, _ | 4, _ | 5, _ | 6, _ | 7, _ => rfl
        · match r, hr with
          | 0, _ | 1, _ | 2, _ | 3, _ | 4, _ | 5, _ | 6, _ | 7, _ => decide
        · match r, hr with
          | 0, _ | 1, _ | 2, _ | 3, _ | 4, _ | 5, _ | 6, _ | 7, _ => decide
      have hz3 : w1.heap.size < w3.heap.size := by have := hk3.size; simp at this; omega
      have hSW : S < w.heap.size := hlt
      have hwz : w.heap.size < w3.heap.size := by omega
      have HF : Hid (HomeDPost S (k + 3) w (.returned (.agg #[.string ⟨code.toArray⟩, .string ⟨area.toArray⟩])) ((w3.setCell ⟨w.heap.size, 0, none⟩ (.string ⟨code.toArray⟩)).setCell ⟨w.heap.size, 1, none⟩ (.string ⟨area.toArray⟩))) := ⟨code, area, rfl, hc, ha, (HS3.out.upto (((Below.refl (S + 1) w3).setCell (by show S + 1 ≤ w.heap.size; omega) _).setCell (by show S + 1 ≤ w.heap.size; omega) _)).mono (by omega), (HK3.out.setCell_new (p := ⟨w.heap.size, 0, none⟩) (Nat.le_refl _) _).setCell_new (p := ⟨w.heap.size, 1, none⟩) (Nat.le_refl _) _⟩
      clear hst3 hk3 a0 a1 af HK1 HS1 HK3 HS3 HS hc ha
      as_aux_lemma =>
        go_wp2_with fail
        refine bodyPost_ret (?_ : _ = Result.ok (.agg #[.string ⟨code.toArray⟩, .string ⟨area.toArray⟩]) _) rfl HF.out
        exact results_cell1 (t := 2) (by rfl) _ _ _ Tryz.isAgg29 Tryz.sizeOf29 (by rfl) [.string ⟨code.toArray⟩, .string ⟨area.toArray⟩] rfl (fun j v hj => by
          match j, hj with
          | 0, hj => rw [← Option.some.inj hj]; exact (World.cell?_setCell_other _ _ _ _ (by simp)).trans (World.cell?_setCell_same _ _ _ b0)
          | 1, hj => rw [← Option.some.inj hj]; exact World.cell?_setCell_same _ _ _ ((World.cell?_setCell_other _ _ _ _ (by simp)).trans b1)
          | n + 2, hj => simp at hj)
  · skip
    as_aux_lemma =>
      go_wp2_with fail
      refine (some_any S (k + 1) w1.heap.size 3 3 [[52, 57], [57], []] (fun x => x.length ≤ 100) _ (HS1.out.below (ext_alloc (Below.refl _ _))) (by omega) (by simp) (by omega) (by omega) (by omega) (fun i hi => by match i, hi with | 0, _ | 1, _ | 2, _ => go_simp) (fun i hi => by match i, hi with | 0, _ | 1, _ | 2, _ => decide)).mono ?_
      rintro e w2 ⟨code, rfl, hc, hst2, hk2⟩
      have HK2 := Lib.hid ((HK1.out.alloc _).trans hk2)
      have HS2 := Lib.hid hst2
      have hz2 : w1.heap.size < w2.heap.size := by have := hk2.size; simp at this; omega
      have hS2 : S < w2.heap.size := hst2.lt
      have HU := Lib.hid (And.intro a0 (And.intro a1 af))
      have HV : Hid (∀ j v, w1.cell? ⟨w.heap.size, j, none⟩ = some v → w2.cell? ⟨w.heap.size, j, none⟩ = some v) := fun j v h => (hk2.cell (p := ⟨w.heap.size, j, none⟩) (by show w.heap.size < _; simp; omega) hne).trans ((World.cell?_alloc_lt _ _ _ hz1).trans h)
      have HW : Hid (∀ j, w2.frozen? ⟨w.heap.size, j, none⟩ = false) := fun j => (hk2.frozen (p := ⟨w.heap.size, j, none⟩) (by show w.heap.size < _; simp; omega) hne).trans (by go_simp)
      clear hst2 hk2 a0 a1 af HK1 HS1 HS
      as_aux_lemma =>
        go_wp2_with fail
        refine (some_any S (k + 2) w2.heap.size 3 3 [[50, 48], [51], [120]] (fun x => x.length ≤ 100) _ (HS2.out.below (ext_alloc (Below.refl _ _))) (by omega) (by simp) (by omega) (by omega) (by omega) (fun i hi => by match i, hi with | 0, _ | 1, _ | 2, _ => go_simp) (fun i hi => by match i, hi with | 0, _ | 1, _ | 2, _ => decide)).mono ?_
        rintro e w3 ⟨area, rfl, ha, hst3, hk3⟩
        have HK3 := Lib.hid ((HK2.out.alloc _).trans hk3)
        have HS3 := Lib.hid hst3
        have b0 : w3.cell? ⟨w.heap.size, 0, none⟩ = some (.string ⟨#[]⟩) := (hk3.cell (p := ⟨w.heap.size, 0, none⟩) (by show w.heap.size < _; simp; omega) hne).trans ((World.cell?_alloc_lt _ _ _ (by show w.heap.size < _; omega)).trans (HV.out 0 _ HU.out.1))
        have b1 : w3.cell? ⟨w.heap.size, 1, none⟩ = some (.string ⟨#[]⟩) := (hk3.cell (p := ⟨w.heap.size, 1, none⟩) (by show w.heap.size < _; simp; omega) hne).trans ((World.cell?_alloc_lt _ _ _ (by show w.heap.size < _; omega)).trans (HV.out 1 _ HU.out.2.1))
        have hwz2 : w.heap.size < w2.heap.size := by omega
        have bf : ∀ j, w3.frozen? ⟨w.heap.size, j, none⟩ = false := fun j => (hk3.frozen (p := ⟨w.heap.size, j, none⟩) (by show w.heap.size < _; simp; omega) hne).trans (by have := HW.out j; go_simp)
        have hz3 : w2.heap.size < w3.heap.size := by have := hk3.size; simp at this; omega
        have hwz : w.heap.size < w3.heap.size := by omega
        have HF : Hid (HomeDPost S (k + 3) w (.returned (.agg #[.string ⟨code.toArray⟩, .string ⟨area.toArray⟩])) ((w3.setCell ⟨w.heap.size, 0, none⟩ (.string ⟨code.toArray⟩)).setCell ⟨w.heap.size, 1, none⟩ (.string ⟨area.toArray⟩))) := ⟨code, area, rfl, hc, ha, (HS3.out.upto (((Below.refl (S + 1) w3).setCell (by show S + 1 ≤ w.heap.size; omega) _).setCell (by show S + 1 ≤ w.heap.size; omega) _)).mono (by omega), (HK3.out.setCell_new (p := ⟨w.heap.size, 0, none⟩) (Nat.le_refl _) _).setCell_new (p := ⟨w.heap.size, 1, none⟩) (Nat.le_refl _) _⟩
        clear hst3 hk3 HK3 HS3 hc ha HU HV HW HK2 HS2
        as_aux_lemma =>
          go_wp2_with fail
          refine bodyPost_ret (?_ : _ = Result.ok (.agg #[.string ⟨code.toArray⟩, .string ⟨area.toArray⟩]) _) rfl HF.out
          exact results_cell1 (t := 2) (by rfl) _ _ _ Tryz.isAgg29 Tryz.sizeOf29 (by rfl) [.string ⟨code.toArray⟩, .string ⟨area.toArray⟩] rfl (fun j v hj => by
            match j, hj with
            | 0, hj => rw [← Option.some.inj hj]; exact (World.cell?_setCell_other _ _ _ _ (by simp)).trans (World.cell?_setCell_same _ _ _ b0)
            | 1, hj => rw [← Option.some.inj hj]; exact World.cell?_setCell_same _ _ _ ((World.cell?_setCell_other _ _ _ _ (by simp)).trans b1)
            | n + 2, hj => simp at hj)
end Go.Proofs.YthajppcmmmkfcaaGreatDoor
