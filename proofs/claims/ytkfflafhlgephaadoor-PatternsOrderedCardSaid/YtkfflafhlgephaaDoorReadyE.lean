/- What is proved here: what dialplan.Least answers at the one pattern that the statements' test of readiness asks for. Condition: a table of the library lies as its initialiser lays it. -/
import Derived.Test.YtkfflafhlgephaaDoorReadyD
namespace Go.Proofs.YtkfflafhlgephaaDoor
open Go.RowKit
set_option linter.unusedVariables false
set_option linter.unusedSimpArgs false

/-- The table that counts zeros from below. -/
def tabL : List Int := [0, 1, 28, 2, 29, 14, 24, 3, 30, 22, 20, 15, 25, 17, 4, 8, 31, 27, 13, 23, 21, 19, 16, 7, 26, 12, 18, 6, 11, 5, 10, 9]
def TabAt (w : World) : Prop := 0 < w.heap.size ∧ ∀ i, i < 32 → w.cell? ⟨0, i, none⟩ = some (.int .u8 (tabL.getD i 0))
theorem TabAt.below {w w' : World} (h : TabAt w) (hb : Below w.heap.size w w') : TabAt w' :=
  ⟨Nat.lt_of_lt_of_le h.1 hb.size, fun i hi => (hb.cell (p := ⟨0, i, none⟩) h.1).trans (h.2 i hi)⟩
theorem TabAt.keeps {w w' : World} {S : Nat} (h : TabAt w) (hb : Keeps S w w') (hS : 0 ≠ S) : TabAt w' :=
  ⟨Nat.lt_of_lt_of_le h.1 hb.size, fun i hi => (hb.cell (p := ⟨0, i, none⟩) h.1 hS).trans (h.2 i hi)⟩

theorem zeros_4080 (w : World) (h : TabAt w) : Calls Tryd.prog 82 #[.int .u16 4080] w fun e w' => e = .returned (.int .i64 4) ∧ w = w' := by
  have hc : w.cell? ⟨0, 14, none⟩ = some (.int .u8 4) := h.2 14 (by omega)
  have e0 : IntKind.u16.wrap (-4080) = 61456 := by decide
  have e1 : bits BinOp.and IntKind.u16 4080 61456 = 16 := by decide
  clear h
  go_enter Tryd.func82, Tryd.ntmps82
  go_wp2
  go_ret
  exact ⟨rfl, rfl⟩
theorem zeros_8 (w : World) (h : TabAt w) : Calls Tryd.prog 82 #[.int .u16 8] w fun e w' => e = .returned (.int .i64 3) ∧ w = w' := by
  have hc : w.cell? ⟨0, 7, none⟩ = some (.int .u8 3) := h.2 7 (by omega)
  have e0 : IntKind.u16.wrap (-8) = 65528 := by decide
  have e1 : bits BinOp.and IntKind.u16 8 65528 = 8 := by decide
  clear h
  go_enter Tryd.func82, Tryd.ntmps82
  go_wp2
  go_ret
  exact ⟨rfl, rfl⟩

set_option maxHeartbeats 1000000 in
theorem takes_at (w : World) (g cap : Nat) (i : Nat) (m : Int) (hi : i < 2) (hc : w.cell? ⟨g, i, none⟩ = some (.int .u16 m)) :
    Calls Tryd.prog 81 #[.agg #[.slice (some ⟨g, 0, none⟩) 2 cap, .int .u8 0], .int .i64 i] w fun e w' => e = .returned (.tuple #[.int .u16 m, .bool false]) ∧ Below w.heap.size w w' := by
  have hg : g < w.heap.size := by
    rcases Nat.lt_or_ge g w.heap.size with h | h
    · exact h
    · simp [World.cell?, Array.getElem?_eq_none h] at hc
  go_enter Tryd.func81, Tryd.ntmps81
  go_wp2_with fail
  go_ret2
  exact ⟨rfl, (by (try show Below _ _ _); repeat (with_reducible first | exact Below.refl _ _ | assumption | exact Hid.out (by assumption) | refine ext_alloc ?_ | refine ext_drewN ?_ | refine ext_drew ?_ | refine ext_setCell ?_ (Nat.le_refl _) | refine ext_setCell ?_ (Nat.le_succ _) | refine ext_trans ?_ (by assumption) | (refine ext_setCell ?_ (by simp)) | (refine ext_setCell ?_ (by simp at *; omega))))⟩

set_option maxHeartbeats 1000000 in
theorem takes_end (w : World) (g cap : Nat) :
    Calls Tryd.prog 81 #[.agg #[.slice (some ⟨g, 0, none⟩) 2 cap, .int .u8 0], .int .i64 2] w fun e w' => e = .returned (.tuple #[.int .u16 0, .bool true]) ∧ Below w.heap.size w w' := by
  go_enter Tryd.func81, Tryd.ntmps81
  go_wp2_with fail
  go_quiet (fail)
  go_wp2_with fail
  go_ret2
  exact ⟨rfl, (by (try show Below _ _ _); repeat (with_reducible first | exact Below.refl _ _ | assumption | exact Hid.out (by assumption) | refine ext_alloc ?_ | refine ext_drewN ?_ | refine ext_drew ?_ | refine ext_setCell ?_ (Nat.le_refl _) | refine ext_setCell ?_ (Nat.le_succ _) | refine ext_trans ?_ (by assumption) | (refine ext_setCell ?_ (by simp)) | (refine ext_setCell ?_ (by simp at *; omega))))⟩

theorem Tryd.infoByte : (Tryd.prog.info? 5).map (fun i => (i.zero, i.size, i.bytes)) = some (some (.int .u8 0), 1, 1) := by kernel_rfl

set_option maxRecDepth 100000 in
set_option maxHeartbeats 2000000 in
theorem shared_N1 (w : World) (q g cap : Nat) (hq : q < w.heap.size) (hg : g < w.heap.size) (h0 : w.cell? ⟨q, 0, none⟩ = some (.slice (some ⟨g, 0, none⟩) 2 cap)) (h1 : w.cell? ⟨q, 1, none⟩ = some (.int .u8 0)) (h2 : w.cell? ⟨g, 0, none⟩ = some (.int .u16 4080)) (h3 : w.cell? ⟨g, 1, none⟩ = some (.int .u16 8)) (ht : TabAt w) :
    Calls Tryd.prog 41 #[.slice (some ⟨q, 0, none⟩) 1 1] w fun e w' => e = .returned (.tuple #[.string ⟨#[50, 49]⟩, .bool true]) ∧ Below w.heap.size w w' := by
  obtain ⟨i0, hi, hz0, hz1, hz2⟩ := info_parts Tryd.infoByte
  have HT := Lib.hid ht
  clear ht
  have e0 : bits BinOp.and IntKind.u16 4095 4080 = 4080 := by decide
  have e1 : bits BinOp.and IntKind.u16 4095 8 = 8 := by decide
  have e2 : bits BinOp.and IntKind.u16 4095 0 = 0 := by decide
  go_enter Tryd.func41, Tryd.ntmps41
  go_wp2_with fail
  refine wp_loop_rounds 3 ?_
  rw [rounds_succ]
  go_wp2_with fail
  refine wp_loop_rounds 2 ?_
  rw [rounds_succ]
  go_wp2_with fail
  refine (takes_at _ g cap 0 4080 (by omega) (by go_simp)).mono ?_
  rintro e w1 ⟨rfl, hB1⟩
  obtain ⟨q1, -⟩ := bcell hB1
  go_wp2_with fail
  rw [rounds_succ]
  go_wp2_with fail
  refine (zeros_4080 _ (HT.out.below (by (try show Below _ _ _); repeat (with_reducible first | exact Below.refl _ _ | assumption | exact Hid.out (by assumption) | refine ext_alloc ?_ | refine ext_drewN ?_ | refine ext_drew ?_ | refine ext_setCell ?_ (Nat.le_refl _) | refine ext_setCell ?_ (Nat.le_succ _) | refine ext_trans ?_ (by assumption) | (refine ext_setCell ?_ (by simp)) | (refine ext_setCell ?_ (by simp at *; omega)))))).mono ?_
  rintro e w' ⟨rfl, rfl⟩
  have H0 := Lib.hid h0
  have H1 := Lib.hid h1
  have H2 := Lib.hid h2
  have H3 := Lib.hid h3
  have z1 : w.heap.size ≤ w1.heap.size := by have := hB1.size; simp at this; omega
  have hW1 : Below w.heap.size w w1 := (by (try show Below _ _ _); repeat (with_reducible first | exact Below.refl _ _ | assumption | exact Hid.out (by assumption) | refine ext_alloc ?_ | refine ext_drewN ?_ | refine ext_drew ?_ | refine ext_setCell ?_ (Nat.le_refl _) | refine ext_setCell ?_ (Nat.le_succ _) | refine ext_trans ?_ (by assumption) | (refine ext_setCell ?_ (by simp)) | (refine ext_setCell ?_ (by simp at *; omega))))
  go_wp2_with (at_builtin; refine wpList_append_own _ rfl (.tmp 43) (.tmp 47) 148 rfl w.heap.size 5 i0 (.int .u8 0) 1 1 Tryd.underlying148 hi hz0 hz1 hz2 rfl (by decide) (.slice none 0 0) 0 [] (by simp [Act.eval]) (World.ownsRow_nil _ _ _ _) ⟨w1.heap.size, 0, none⟩ 1 1 [.int .u8 50] (by simp [Act.eval]) rfl (news_one (by first | (go_simp; done) | (go_simp; rfl))) (by simp [Value.oneCell']) (by simp [maxLen]) (by omega) (by simp; omega) ?_; intro v2 w2 hown2 hgr2 _)
  have hW2 : Below w.heap.size w w2 := (hW1.alloc z1 _).grown hgr2 (by simp; omega) (fun k e => by cases e)
  clear h0 h1 h2 h3 q1 hB1
  have h0w2 : w2.cell? ⟨q, 0, none⟩ = some (.slice (some ⟨g, 0, none⟩) 2 cap) := (hW2.cell (p := ⟨q, 0, none⟩) hq).trans H0.out
  have h1w2 : w2.cell? ⟨q, 1, none⟩ = some (.int .u8 0) := (hW2.cell (p := ⟨q, 1, none⟩) hq).trans H1.out
  have h2w2 : w2.cell? ⟨g, 0, none⟩ = some (.int .u16 4080) := (hW2.cell (p := ⟨g, 0, none⟩) hg).trans H2.out
  have h3w2 : w2.cell? ⟨g, 1, none⟩ = some (.int .u16 8) := (hW2.cell (p := ⟨g, 1, none⟩) hg).trans H3.out
  have hqw2 : q < w2.heap.size := Nat.lt_of_lt_of_le hq hW2.size
  have hgw2 : g < w2.heap.size := Nat.lt_of_lt_of_le hg hW2.size

  have HO2 : Hid (w2.ownsRow w.heap.size 5 1 v2 1 [.int .u8 50]) := hown2
  have n2 : ∃ g2 c2, v2 = .slice (some ⟨g2, 0, none⟩) 1 c2 ∧ w.heap.size ≤ g2 := by
    rcases hown2.2 with ⟨h, h'⟩ | ⟨g, cap, cur, h, h1, h2, h3, h4, h5, h6⟩
    · cases h'
    · exact ⟨g, cap, h, h1⟩
  obtain ⟨g2, c2, hv2, hg2⟩ := n2
  rw [hv2]
  rw [hv2] at HO2
  have Hv2 := Lib.hid hv2
  clear hown2 hv2 hgr2
  rw [rounds_succ]
  go_wp2_with fail
  refine wp_loop_rounds 2 ?_
  rw [rounds_succ]
  go_wp2_with fail
  refine (takes_at _ g cap 1 8 (by omega) (by go_simp)).mono ?_
  rintro e w3 ⟨rfl, hB3⟩
  go_wp2_with fail
  rw [rounds_succ]
  go_wp2_with fail
  have hW3 : Below w.heap.size w w3 := (by (try show Below _ _ _); repeat (with_reducible first | exact Below.refl _ _ | assumption | exact Hid.out (by assumption) | refine ext_alloc ?_ | refine ext_drewN ?_ | refine ext_drew ?_ | refine ext_setCell ?_ (Nat.le_refl _) | refine ext_setCell ?_ (Nat.le_succ _) | refine ext_trans ?_ (by assumption) | (refine ext_setCell ?_ (by simp)) | (refine ext_setCell ?_ (by simp at *; omega))))
  have z3 : w.heap.size ≤ w3.heap.size := hW3.size
  refine (zeros_8 _ (HT.out.below hW3)).mono ?_
  rintro e w' ⟨rfl, rfl⟩
  have HO3 : Hid (w3.ownsRow w.heap.size 5 1 (.slice (some ⟨g2, 0, none⟩) 1 c2) 1 [.int .u8 50]) := HO2.out.kept_below ((ext_alloc (Below.refl _ _)).trans (hB3.mono (by simp)))
  go_wp2_with (at_builtin; refine wpList_append_own _ rfl (.tmp 43) (.tmp 47) 148 rfl w.heap.size 5 i0 (.int .u8 0) 1 1 Tryd.underlying148 hi hz0 hz1 hz2 rfl (by decide) (.slice (some ⟨g2, 0, none⟩) 1 c2) 1 [.int .u8 50] (by simp [Act.eval]) (HO3.out.alloc _) ⟨w3.heap.size, 0, none⟩ 1 1 [.int .u8 49] (by simp [Act.eval]) rfl (news_one (by first | (go_simp; done) | (go_simp; rfl))) (by simp [Value.oneCell']) (by simp [maxLen]) (by omega) (by simp; omega) ?_; intro v4 w4 hown4 hgr4 _)
  have hgr4' : w3.heap.size ≤ w4.heap.size := by have := hgr4.size; simp at this; omega
  have hW4 : Below w.heap.size w w4 := (hW3.alloc z3 _).grown hgr4 (by simp; omega) (fun k e => by cases e; exact hg2)
  have h0w4 : w4.cell? ⟨q, 0, none⟩ = some (.slice (some ⟨g, 0, none⟩) 2 cap) := (hW4.cell (p := ⟨q, 0, none⟩) hq).trans H0.out
  have h1w4 : w4.cell? ⟨q, 1, none⟩ = some (.int .u8 0) := (hW4.cell (p := ⟨q, 1, none⟩) hq).trans H1.out
  have h2w4 : w4.cell? ⟨g, 0, none⟩ = some (.int .u16 4080) := (hW4.cell (p := ⟨g, 0, none⟩) hg).trans H2.out
  have h3w4 : w4.cell? ⟨g, 1, none⟩ = some (.int .u16 8) := (hW4.cell (p := ⟨g, 1, none⟩) hg).trans H3.out
  have hqw4 : q < w4.heap.size := Nat.lt_of_lt_of_le hq hW4.size
  have hgw4 : g < w4.heap.size := Nat.lt_of_lt_of_le hg hW4.size

  have n4 : ∃ g4 c4, v4 = .slice (some ⟨g4, 0, none⟩) 2 c4 ∧ w.heap.size ≤ g4 := by
    rcases hown4.2 with ⟨h, h'⟩ | ⟨g, cap, cur, h, h1, h2, h3, h4, h5, h6⟩
    · cases h'
    · exact ⟨g, cap, h, h1⟩
  have HO4 : Hid (w4.ownsRow w.heap.size 5 1 v4 2 [.int .u8 50, .int .u8 49]) := hown4
  obtain ⟨g4, c4, hv4, hg4⟩ := n4
  rw [hv4]
  rw [hv4] at HO4
  have Hv4 := Lib.hid hv4
  clear hown4 hv4 hgr4
  rw [rounds_succ]
  go_wp2_with fail
  refine wp_loop_rounds 2 ?_
  rw [rounds_succ]
  go_wp2_with fail
  refine (takes_end _ g cap).mono ?_
  rintro e w5 ⟨rfl, hB5⟩
  go_wp2_with fail
  rw [rounds_succ]
  have HO5 : Hid (w5.ownsRow w.heap.size 5 1 (.slice (some ⟨g4, 0, none⟩) 2 c4) 2 [.int .u8 50, .int .u8 49]) := HO4.out.kept_below ((ext_alloc (Below.refl _ _)).trans (hB5.mono (by simp)))
  have k0 : w5.cell? ⟨g4, 0, none⟩ = some (.int .u8 50) := HO5.out.cellAt 0 (by omega)
  have k1 : w5.cell? ⟨g4, 1, none⟩ = some (.int .u8 49) := HO5.out.cellAt 1 (by omega)
  have hload : (loadCells ⟨g4, 0, none⟩ 2).run Tryd.prog w5 = .ok (([50, 49] : List Int).map (Value.int .u8)).toArray w5 := by
    have := run_loadCells_list (P := Tryd.prog) w5 ⟨g4, 0, none⟩ [.int .u8 50, .int .u8 49] (fun j v hj => by
      match j, hj with
      | 0, hj => (simp at hj; subst hj; simpa [Addr.add] using k0)
      | 1, hj => (simp at hj; subst hj; simpa [Addr.add] using k1)
      | j + 2, hj => simp at hj)
    exact this
  have hconv : (convert 148 9 (.slice (some ⟨g4, 0, none⟩) 2 c4)).run Tryd.prog w5 = .ok (.string ⟨#[50, 49]⟩) w5 := by
    rw [run_convert_bytes_string w5 148 9 5 _ _ _ Tryd.underlying148 Tryd.underlying5 Tryd.underlying9, run_bytesToString w5 ⟨g4, 0, none⟩ 2 c4 [50, 49] hload]
    rfl
  have hW5 : Below w.heap.size w w5 := (by (try show Below _ _ _); repeat (with_reducible first | exact Below.refl _ _ | assumption | exact Hid.out (by assumption) | refine ext_alloc ?_ | refine ext_drewN ?_ | refine ext_drew ?_ | refine ext_setCell ?_ (Nat.le_refl _) | refine ext_setCell ?_ (Nat.le_succ _) | refine ext_trans ?_ (by assumption) | (refine ext_setCell ?_ (by simp)) | (refine ext_setCell ?_ (by simp at *; omega))))
  clear hload k0 k1
  go_wp2_with fail
  go_ret2
  exact ⟨rfl, hW5⟩

set_option maxRecDepth 100000 in
set_option maxHeartbeats 1000000 in
theorem least_ready (w : World) (ht : TabAt w) : Calls Tryd.prog 19 #[.string ⟨#[78, 49]⟩] w fun e w' => e = .returned (.tuple #[.string ⟨#[50, 49]⟩, .int .i64 0]) ∧ Below w.heap.size w w' := by
  have HT := Lib.hid ht
  clear ht
  go_enter Tryd.func19, Tryd.ntmps19
  go_wp2_with fail
  refine (read_N1 _).mono ?_
  rintro e w1 ⟨g, cap, rfl, hg, c0, c1, hB1⟩
  go_wp2_with fail
  refine (shared_N1 _ _ g cap ?_ ?_ ?_ ?_ ?_ ?_ ?_).mono ?_
  · simp
  · simp; omega
  · go_simp
  · go_simp
  · go_simp
  · go_simp
  · exact HT.out.below (ext_alloc (ext_alloc hB1))
  rintro e w2 ⟨rfl, hB2⟩
  go_wp2_with fail
  go_ret2
  exact ⟨rfl, (by (try show Below _ _ _); repeat (with_reducible first | exact Below.refl _ _ | assumption | exact Hid.out (by assumption) | refine ext_alloc ?_ | refine ext_drewN ?_ | refine ext_drew ?_ | refine ext_setCell ?_ (Nat.le_refl _) | refine ext_setCell ?_ (Nat.le_succ _) | refine ext_trans ?_ (by assumption) | (refine ext_setCell ?_ (by simp)) | (refine ext_setCell ?_ (by simp at *; omega))))⟩
end Go.Proofs.YtkfflafhlgephaaDoor
