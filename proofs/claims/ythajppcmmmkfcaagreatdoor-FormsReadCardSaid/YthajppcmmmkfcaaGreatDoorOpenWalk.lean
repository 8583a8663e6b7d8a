/- What is proved here: what open of package number answers. Condition: the plan lies in memory as stated. -/
import Derived.Test.YthajppcmmmkfcaaGreatDoorHomeWalk
import Derived.Test.YthajppcmmmkfcaaGreatDoorPlanAll
set_option linter.unusedVariables false
set_option linter.unusedSimpArgs false
namespace Go.Proofs.YthajppcmmmkfcaaGreatDoor
open Go.RowKit

/-- What open answers. -/
def OpenPost (l : List Ctry) (code area : List UInt8) (w : World) (e : Ending) (w' : World) : Prop :=
  ((∃ c, planErr l = 0 ∧ homeC l code area = some c ∧ e = .returned (.tuple #[.agg c.cells.toArray, .agg (homeX c area).cells.toArray, .int .i64 0])) ∨ (∃ er : Int, er ≠ 0 ∧ (planErr l = er ∨ planErr l = 0 ∧ er = 8 ∧ homeC l code area = none) ∧ e = .returned (.tuple #[.agg noCtry.cells.toArray, .agg noArea.cells.toArray, .int .i64 er]))) ∧ Below w.heap.size w w'

theorem stores2 {H : Nat} {w wr : World} (tc : wr.there (H + 1) 0 4) (td : wr.there (H + 1 + 1) 0 3) (hb : Below w.heap.size w wr) (hH : w.heap.size ≤ H) (t1 t2 : Tmp) (cs ds : List Value) (hc : cs.length = 4) (hd : ds.length = 3) (oc : cs.toArray.all (·.oneCell') = true) (od : ds.toArray.all (·.oneCell') = true) : ∃ W8 W9 : World,
    (∀ (ops : Array Oper) (rest : List Oper) (op : Oper) (a : Act) (Q : Exit → Act → World → Prop), op.guard = none → op.op = .store 68 (.tmp 4) (.tmp t1) → a.eval (.tmp 4) = .pointer (some ⟨H + 1, 0, none⟩) → a.eval (.tmp t1) = .agg cs.toArray → wpList Tryz.prog ops Q rest (a.put op.dst undef) W8 → wpList Tryz.prog ops Q (op :: rest) a wr) ∧
    (∀ (ops : Array Oper) (rest : List Oper) (op : Oper) (a : Act) (Q : Exit → Act → World → Prop), op.guard = none → op.op = .store 72 (.tmp 5) (.tmp t2) → a.eval (.tmp 5) = .pointer (some ⟨H + 1 + 1, 0, none⟩) → a.eval (.tmp t2) = .agg ds.toArray → wpList Tryz.prog ops Q rest (a.put op.dst undef) W9 → wpList Tryz.prog ops Q (op :: rest) a W8) ∧
    (∀ j v, cs[j]? = some v → W9.cell? ⟨H + 1, j, none⟩ = some v) ∧ (∀ j v, ds[j]? = some v → W9.cell? ⟨H + 1 + 1, j, none⟩ = some v) ∧ Below w.heap.size w W9 := by
  have t2' : (wr.setCells (H + 1) 0 cs).there (H + 1 + 1) 0 3 := World.there_setCells td _ _ _
  have r1 := World.rangeAt_setCells_same wr (H + 1) 0 cs (by rw [hc]; exact tc)
  have r2 := World.rangeAt_setCells_same (wr.setCells (H + 1) 0 cs) (H + 1 + 1) 0 ds (by rw [hd]; exact t2')
  have z1 : cs.toArray.size = 4 := by simpa using hc
  have z2 : ds.toArray.size = 3 := by simpa using hd
  refine ⟨wr.setCells (H + 1) 0 cs, (wr.setCells (H + 1) 0 cs).setCells (H + 1 + 1) 0 ds, fun ops rest op a Q hg ho hx hy hh => wpList_store_mid hg 68 (.tmp 4) (.tmp t1) ho (H + 1) 0 cs.toArray hx hy (by rw [z1]; exact tc) (by rw [z1]; exact ctry_size) oc (by rw [List.toList_toArray]; exact hh), fun ops rest op a Q hg ho hx hy hh => wpList_store_mid hg 72 (.tmp 5) (.tmp t2) ho (H + 1 + 1) 0 ds.toArray hx hy (by rw [z2]; exact t2') (by rw [z2]; exact area_size) od (by rw [List.toList_toArray]; exact hh), fun j v hj => ?_, fun j v hj => ?_, setCells_ext (by omega) _ _ _ (setCells_ext (by omega) _ _ _ hb)⟩
  · have := World.rangeAt_setCells_apart r1 (H + 1 + 1) 0 ds (Or.inl (by omega)) j v hj
    rwa [Nat.zero_add] at this
  · have := r2 j v hj
    rwa [Nat.zero_add] at this

set_option maxRecDepth 100000 in
set_option maxHeartbeats 4000000 in
theorem open_any (w : World) (a : Option Addr) (n cap : Nat) (l : List Ctry) (hr : CtryRow w a n l) (hcap : n ≤ cap) (hne : 1 ≤ n) (code area : List UInt8) : Calls Tryz.prog 48 #[.slice a n cap, .agg #[.string ⟨code.toArray⟩, .string ⟨area.toArray⟩]] w (OpenPost l code area w) := by
  have HR := Lib.hid hr
  clear hr
  go_enter Tryz.func48, Tryz.ntmps48
  go_wp2_with fail
  refine (checkPlan_any _ a n cap l (HR.out.below (ext_alloc (ext_alloc (ext_alloc (Below.refl _ _))))) hcap).mono ?_
  rintro e w1 ⟨rfl, hb1⟩
  have HB1 : Hid (Below w.heap.size w w1) := ext_trans (ext_alloc (ext_alloc (ext_alloc (Below.refl _ _)))) hb1
  have h0 : w1.cell? ⟨w.heap.size, 0, none⟩ = some (.string ⟨code.toArray⟩) := (hb1.cell (p := ⟨w.heap.size, 0, none⟩) (by simp; omega)).trans (by go_simp)
  have h1 : w1.cell? ⟨w.heap.size, 1, none⟩ = some (.string ⟨area.toArray⟩) := (hb1.cell (p := ⟨w.heap.size, 1, none⟩) (by simp; omega)).trans (by go_simp)
  have htc : Hid (w1.there (w.heap.size + 1) 0 4) := thereB (fun j hj => by
    match j, hj with
    | 0, _ | 1, _ | 2, _ | 3, _ => exact ⟨by go_simp, by go_simp⟩) hb1 (by simp)
  have htd : Hid (w1.there (w.heap.size + 1 + 1) 0 3) := thereB (fun j hj => by
    match j, hj with
    | 0, _ | 1, _ | 2, _ => exact ⟨by go_simp, by go_simp⟩) hb1 (by simp)
  have hz1 : w.heap.size + 3 ≤ w1.heap.size := by have := hb1.size; simp at this; omega
  have HZ := Lib.hid hz1
  have hzl : w.heap.size < w1.heap.size := by omega
  have HRN := Lib.hid (HR.out.below HB1.out)
  clear hb1 hz1
  have HEQ : Hid (∀ E, planErr l = E → planErr l = E) := fun E h => h
  generalize hE : planErr l = E
  have HEE := Lib.hid (HEQ.out E hE)
  clear hE HEQ
  by_cases he : E = 0
  · subst he
    as_aux_lemma =>
      go_wp2_with fail
      refine (home_any _ a n cap l HRN.out hcap hne code area).mono ?_
      rintro e w2 ⟨⟨c, hcase⟩, hb2⟩
      rcases hcase with ⟨hs, rfl⟩ | ⟨hs, rfl⟩
      · have HS := Lib.hid hs
        clear hs
        generalize hxx : homeX c area = x
        have HXX := Lib.hid hxx
        clear hxx
        obtain ⟨xp, xl, xh⟩ := x
        obtain ⟨code2, abroad, trunk, aa, an, ac, areas⟩ := c
        simp only [Ctry.cells, Area.cells]
        obtain ⟨W8, W9, hd1, hd2, he1, he2, he3⟩ := stores2 (thereB htc.out hb2 (by have := HZ.out; omega)) (thereB htd.out hb2 (by have := HZ.out; omega)) (ext_trans HB1.out hb2) (Nat.le_refl _) 18 19 [.string ⟨code2.toArray⟩, .string ⟨abroad.toArray⟩, .string ⟨trunk.toArray⟩, .slice aa an ac] [.string ⟨xp.toArray⟩, .int .i64 xl, .int .i64 xh] rfl rfl (by simp [Value.oneCell', Area.cells]) (by simp [Value.oneCell', Area.cells])
        have HD1 := Lib.hid hd1
        have HD2 := Lib.hid hd2
        have HE := Lib.hid (And.intro he1 (And.intro he2 he3))
        clear hd1 hd2 he1 he2 he3 h0 h1 hb2
        as_aux_lemma =>
          go_wp2_with (first | (refine HD1.out _ _ _ _ _ (by rfl) (by rfl) (by rfl) (by rfl) ?_) | (refine HD2.out _ _ _ _ _ (by rfl) (by rfl) (by rfl) (by rfl) ?_))
          refine bodyPost_ret (?_ : _ = Result.ok (.tuple #[.agg [.string ⟨code2.toArray⟩, .string ⟨abroad.toArray⟩, .string ⟨trunk.toArray⟩, .slice aa an ac].toArray, .agg [.string ⟨xp.toArray⟩, .int .i64 xl, .int .i64 xh].toArray, .int .i64 0]) _) rfl ?_
          · exact results_cell3 (t := 4) (t2 := 5) (u := 6) (by rfl) _ _ _ Tryz.isAgg68 Tryz.sizeOf68 (by rfl) Tryz.isAgg72 Tryz.sizeOf72 (by rfl) [.string ⟨code2.toArray⟩, .string ⟨abroad.toArray⟩, .string ⟨trunk.toArray⟩, .slice aa an ac] rfl HE.out.1 [.string ⟨xp.toArray⟩, .int .i64 xl, .int .i64 xh] rfl HE.out.2.1
          exact ⟨Or.inl ⟨_, HEE.out, HS.out, by rw [HXX.out]; rfl⟩, HE.out.2.2⟩
      · have HS := Lib.hid hs
        clear hs
        simp only [Ctry.cells, Area.cells, noCtry, noArea]
        obtain ⟨W8, W9, hd1, hd2, he1, he2, he3⟩ := stores2 (thereB htc.out hb2 (by have := HZ.out; omega)) (thereB htd.out hb2 (by have := HZ.out; omega)) (ext_trans HB1.out hb2) (Nat.le_refl _) 18 19 [.string ⟨#[]⟩, .string ⟨#[]⟩, .string ⟨#[]⟩, .slice none 0 0] [.string ⟨#[]⟩, .int .i64 0, .int .i64 0] rfl rfl (by simp [Value.oneCell', Area.cells]) (by simp [Value.oneCell', Area.cells])
        have HD1 := Lib.hid hd1
        have HD2 := Lib.hid hd2
        have HE := Lib.hid (And.intro he1 (And.intro he2 he3))
        clear hd1 hd2 he1 he2 he3 h0 h1 hb2
        as_aux_lemma =>
          go_wp2_with (first | (refine HD1.out _ _ _ _ _ (by rfl) (by rfl) (by rfl) (by rfl) ?_) | (refine HD2.out _ _ _ _ _ (by rfl) (by rfl) (by rfl) (by rfl) ?_))
          refine bodyPost_ret (?_ : _ = Result.ok (.tuple #[.agg [.string ⟨#[]⟩, .string ⟨#[]⟩, .string ⟨#[]⟩, .slice none 0 0].toArray, .agg [.string ⟨#[]⟩, .int .i64 0, .int .i64 0].toArray, .int .i64 8]) _) rfl ?_
          · exact results_cell3 (t := 4) (t2 := 5) (u := 6) (by rfl) _ _ _ Tryz.isAgg68 Tryz.sizeOf68 (by rfl) Tryz.isAgg72 Tryz.sizeOf72 (by rfl) [.string ⟨#[]⟩, .string ⟨#[]⟩, .string ⟨#[]⟩, .slice none 0 0] rfl HE.out.1 [.string ⟨#[]⟩, .int .i64 0, .int .i64 0] rfl HE.out.2.1
          exact ⟨Or.inr ⟨8, by decide, Or.inr ⟨HEE.out, rfl, HS.out⟩, rfl⟩, HE.out.2.2⟩
  · obtain ⟨W8, W9, hd1, hd2, he1, he2, he3⟩ := stores2 htc.out htd.out HB1.out (Nat.le_refl _) 12 13 [.string ⟨#[]⟩, .string ⟨#[]⟩, .string ⟨#[]⟩, .slice none 0 0] [.string ⟨#[]⟩, .int .i64 0, .int .i64 0] rfl rfl (by simp [Value.oneCell']) (by simp [Value.oneCell'])
    have HD1 := Lib.hid hd1
    have HD2 := Lib.hid hd2
    have HE := Lib.hid (And.intro he1 (And.intro he2 he3))
    clear hd1 hd2 he1 he2 he3 h0 h1
    as_aux_lemma =>
      go_wp2_with (first | (refine HD1.out _ _ _ _ _ (by rfl) (by rfl) (by rfl) (by rfl) ?_) | (refine HD2.out _ _ _ _ _ (by rfl) (by rfl) (by rfl) (by rfl) ?_))
      refine bodyPost_ret (?_ : _ = Result.ok (.tuple #[.agg #[.string ⟨#[]⟩, .string ⟨#[]⟩, .string ⟨#[]⟩, .slice none 0 0], .agg #[.string ⟨#[]⟩, .int .i64 0, .int .i64 0], .int .i64 E]) _) rfl ?_
      · exact results_cell3 (t := 4) (t2 := 5) (u := 6) (by rfl) _ _ _ Tryz.isAgg68 Tryz.sizeOf68 (by rfl) Tryz.isAgg72 Tryz.sizeOf72 (by rfl) [.string ⟨#[]⟩, .string ⟨#[]⟩, .string ⟨#[]⟩, .slice none 0 0] rfl HE.out.1 [.string ⟨#[]⟩, .int .i64 0, .int .i64 0] rfl HE.out.2.1
      exact ⟨Or.inr ⟨E, he, Or.inl HEE.out, rfl⟩, HE.out.2.2⟩
end Go.Proofs.YthajppcmmmkfcaaGreatDoor
