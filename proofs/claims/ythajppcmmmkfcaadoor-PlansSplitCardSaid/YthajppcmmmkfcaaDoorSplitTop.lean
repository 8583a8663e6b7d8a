/- What is proved here: what Split of package number answers. Condition: the plan lies in memory as stated. -/
import Derived.Test.YthajppcmmmkfcaaDoorSplitWalk
set_option linter.unusedVariables false
set_option linter.unusedSimpArgs false
namespace Go.Proofs.YthajppcmmmkfcaaDoor
open Go.RowKit

def PartsPost (x : Spl) (w : World) (e : Ending) (w' : World) : Prop := e = .returned (.tuple #[.agg #[.string ⟨x.code.toArray⟩, .string ⟨x.area.toArray⟩, .string ⟨x.rest.toArray⟩], .int .i64 x.err]) ∧ Below w.heap.size w w'
def splitTop (l : List Ctry) (s : List UInt8) : Spl := if planErr l = 0 then splitP l s else noSpl (planErr l)

theorem row3 (w : World) (B : Nat) (v0 v1 v2 : Value) : ((w.setCell ⟨B, 0, none⟩ v0).setCell ⟨B, 1, none⟩ v1).setCell ⟨B, 2, none⟩ v2 = w.setCells B 0 [v0, v1, v2] := rfl
theorem there3 {w : World} {B : Nat} {v0 v1 v2 : Value} (h0 : w.cell? ⟨B, 0, none⟩ = some v0) (h1 : w.cell? ⟨B, 1, none⟩ = some v1) (h2 : w.cell? ⟨B, 2, none⟩ = some v2) (hf : ∀ j, w.frozen? ⟨B, j, none⟩ = false) : w.there B 0 3 := fun j hj => by
  match j, hj with
  | 0, _ => exact ⟨by rw [h0]; rfl, hf _⟩
  | 1, _ => exact ⟨by rw [h1]; rfl, hf _⟩
  | 2, _ => exact ⟨by rw [h2]; rfl, hf _⟩

set_option maxRecDepth 100000 in
set_option maxHeartbeats 2000000 in
theorem numSplit_any (w : World) (a : Option Addr) (n cap : Nat) (l : List Ctry) (hr : CtryRow w a n l) (hcap : n ≤ cap) (hne : 1 ≤ n) (hna : ∀ i, i < l.length → 1 ≤ (l.getD i noCtry).an) (s : List UInt8) (hs : s.length ≤ 1000) : Calls Tryd.prog 6 #[.slice a n cap, .string ⟨s.toArray⟩] w (PartsPost (splitTop l s) w) := by
  have HR := Lib.hid hr
  have HNA := Lib.hid hna
  have HDEF : Hid (splitTop l s = if planErr l = 0 then splitP l s else noSpl (planErr l)) := rfl
  generalize splitTop l s = R at HDEF ⊢
  clear hr hna
  go_enter Tryd.func6, Tryd.ntmps6
  go_wp2_with fail
  refine (checkPlan_any _ _ n cap l (HR.out.below (ext_alloc (Below.refl _ _))) hcap).mono ?_
  rintro e w1 ⟨rfl, hb1⟩
  obtain ⟨qc, qf⟩ := bcell hb1
  have hz0 : w.heap.size < w1.heap.size := by have := hb1.size; simp at this; omega
  have HB1 : Hid (Below w.heap.size w w1) := ext_trans (ext_alloc (Below.refl _ _)) hb1
  have r0 : w1.cell? ⟨w.heap.size, 0, none⟩ = some (.string ⟨#[]⟩) := (qc _ 0 (by simp)).trans (by go_simp)
  have r1 : w1.cell? ⟨w.heap.size, 1, none⟩ = some (.string ⟨#[]⟩) := (qc _ 1 (by simp)).trans (by go_simp)
  have r2 : w1.cell? ⟨w.heap.size, 2, none⟩ = some (.string ⟨#[]⟩) := (qc _ 2 (by simp)).trans (by go_simp)
  have rf : ∀ j, w1.frozen? ⟨w.heap.size, j, none⟩ = false := fun j => (qf _ j (by simp)).trans (by go_simp)
  have HR1 := Lib.hid (HR.out.below HB1.out)
  clear qc qf hb1
  generalize planErr l = E at HDEF ⊢
  as_aux_lemma =>
    by_cases he : E = 0
    · subst he
      have HD : Hid (R = splitP l s) := HDEF.out
      as_aux_lemma =>
        go_wp2_with fail
        refine (split_any _ _ n cap l HR1.out hne HNA.out s hs).mono ?_
        rintro e w2 ⟨y0, y1, y2, ya, yn, yc, y4, y5, y6, rfl, hb2⟩
        obtain ⟨qc, qf⟩ := bcell hb2
        have HB2 := Lib.hid (ext_trans HB1.out hb2)
        have s0 := (qc _ 0 hz0).trans r0
        have s1 := (qc _ 1 hz0).trans r1
        have s2 := (qc _ 2 hz0).trans r2
        have sf : ∀ j, w2.frozen? ⟨w.heap.size, j, none⟩ = false := fun j => (qf _ j hz0).trans (rf j)
        have hz2 : w.heap.size < w2.heap.size := Nat.lt_of_lt_of_le hz0 hb2.size
        clear qc qf hb2 r0 r1 r2 rf
        generalize splitP l s = X at HD ⊢
        obtain ⟨err, code, area, rest⟩ := X
        simp only
        have HTX : Hid (w2.there w.heap.size 0 3) := there3 s0 s1 s2 sf
        as_aux_lemma =>
          go_wp2_with fail
          rw [row3]
          have HC9 := Lib.hid (World.rangeAt_setCells_same w2 w.heap.size 0 [.string ⟨code.toArray⟩, .string ⟨area.toArray⟩, .string ⟨rest.toArray⟩] (HTX.out))
          have HB9 := Lib.hid (setCells_ext (B := w.heap.size) (Nat.le_refl _) [.string ⟨code.toArray⟩, .string ⟨area.toArray⟩, .string ⟨rest.toArray⟩] w2 0 HB2.out)
          generalize World.setCells w2 w.heap.size 0 _ = W9 at HC9 HB9 ⊢
          refine bodyPost_ret (?_ : _ = Result.ok (.tuple #[.agg #[.string ⟨code.toArray⟩, .string ⟨area.toArray⟩, .string ⟨rest.toArray⟩], .int .i64 err]) _) rfl ?_
          · exact results_cell2 (t := 4) (u := 5) (by rfl) _ _ _ Tryd.isAgg30 Tryd.sizeOf30 (by rfl) [.string ⟨code.toArray⟩, .string ⟨area.toArray⟩, .string ⟨rest.toArray⟩] rfl (fun j v hj => Lib.cell?_alloc_some _ (by have := HC9.out j v hj; rw [Nat.zero_add] at this; exact this))
          exact ⟨by rw [HD.out], ext_alloc HB9.out⟩
    · have HD : Hid (R = noSpl E) := by show _ = _; rw [HDEF.out, if_neg he]
      have HTX : Hid (w1.there w.heap.size 0 3) := there3 r0 r1 r2 rf
      as_aux_lemma =>
        go_wp2_with fail
        rw [row3]
        have HC9 := Lib.hid (World.rangeAt_setCells_same w1 w.heap.size 0 [.string ⟨#[]⟩, .string ⟨#[]⟩, .string ⟨#[]⟩] (HTX.out))
        have HB9 := Lib.hid (setCells_ext (B := w.heap.size) (Nat.le_refl _) [.string ⟨#[]⟩, .string ⟨#[]⟩, .string ⟨#[]⟩] w1 0 HB1.out)
        generalize World.setCells w1 w.heap.size 0 _ = W9 at HC9 HB9 ⊢
        refine bodyPost_ret (?_ : _ = Result.ok (.tuple #[.agg #[.string ⟨#[]⟩, .string ⟨#[]⟩, .string ⟨#[]⟩], .int .i64 E]) _) rfl ?_
        · exact results_cell2 (t := 4) (u := 5) (by rfl) _ _ _ Tryd.isAgg30 Tryd.sizeOf30 (by rfl) [.string ⟨#[]⟩, .string ⟨#[]⟩, .string ⟨#[]⟩] rfl (fun j v hj => by have := HC9.out j v hj; rw [Nat.zero_add] at this; exact this)
        exact ⟨by rw [HD.out]; rfl, HB9.out⟩
end Go.Proofs.YthajppcmmmkfcaaDoor
