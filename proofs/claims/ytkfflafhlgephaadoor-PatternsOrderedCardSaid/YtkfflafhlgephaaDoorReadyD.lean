/- What is proved here: what dialplan.Least answers at the one pattern that the statements' test of readiness asks for. Condition: a table of the library lies as its initialiser lays it. -/
import Derived.Test.YtkfflafhlgephaaDoorNumber
import Derived.LoopN
import Derived.Deep.AppendLies
import Derived.Deep.RegionLaw
import Derived.Outline
namespace Go.Proofs.YtkfflafhlgephaaDoor
open Go.RowKit
set_option linter.unusedVariables false
set_option linter.unusedSimpArgs false

def signsL : List UInt8 := [35, 42, 48, 49, 50, 51, 52, 53, 54, 55, 56, 57]
theorem signs_index (c : Int) (w : World) :
    Calls Tryd.prog 104 #[.string ⟨#[35, 42, 48, 49, 50, 51, 52, 53, 54, 55, 56, 57]⟩, .int .u8 c] w fun e w' => e = .returned (.int .i64 (Lib.indexByte signsL c.toNat.toUInt8)) ∧ w' = w := Tryd.strings_IndexByte ⟨#[35, 42, 48, 49, 50, 51, 52, 53, 54, 55, 56, 57]⟩ c w

theorem only_49 (w : World) : Calls Tryd.prog 84 #[.int .u8 49] w fun e w' => e = .returned (.int .u16 8) ∧ w = w' := by
  have hcon := signs_index 49 w
  rw [show Lib.indexByte signsL (49 : Int).toNat.toUInt8 = 3 by decide] at hcon
  go_enter Tryd.func84, Tryd.ntmps84
  go_wp2_with (go_at_call 104; refine hcon.mono ?_; rintro e w' ⟨rfl, rfl⟩)
  go_ret
  exact ⟨rfl, rfl⟩
theorem only_50 (w : World) : Calls Tryd.prog 84 #[.int .u8 50] w fun e w' => e = .returned (.int .u16 16) ∧ w = w' := by
  have hcon := signs_index 50 w
  rw [show Lib.indexByte signsL (50 : Int).toNat.toUInt8 = 4 by decide] at hcon
  go_enter Tryd.func84, Tryd.ntmps84
  go_wp2_with (go_at_call 104; refine hcon.mono ?_; rintro e w' ⟨rfl, rfl⟩)
  go_ret
  exact ⟨rfl, rfl⟩
theorem only_51 (w : World) : Calls Tryd.prog 84 #[.int .u8 51] w fun e w' => e = .returned (.int .u16 32) ∧ w = w' := by
  have hcon := signs_index 51 w
  rw [show Lib.indexByte signsL (51 : Int).toNat.toUInt8 = 5 by decide] at hcon
  go_enter Tryd.func84, Tryd.ntmps84
  go_wp2_with (go_at_call 104; refine hcon.mono ?_; rintro e w' ⟨rfl, rfl⟩)
  go_ret
  exact ⟨rfl, rfl⟩
theorem only_52 (w : World) : Calls Tryd.prog 84 #[.int .u8 52] w fun e w' => e = .returned (.int .u16 64) ∧ w = w' := by
  have hcon := signs_index 52 w
  rw [show Lib.indexByte signsL (52 : Int).toNat.toUInt8 = 6 by decide] at hcon
  go_enter Tryd.func84, Tryd.ntmps84
  go_wp2_with (go_at_call 104; refine hcon.mono ?_; rintro e w' ⟨rfl, rfl⟩)
  go_ret
  exact ⟨rfl, rfl⟩
theorem only_53 (w : World) : Calls Tryd.prog 84 #[.int .u8 53] w fun e w' => e = .returned (.int .u16 128) ∧ w = w' := by
  have hcon := signs_index 53 w
  rw [show Lib.indexByte signsL (53 : Int).toNat.toUInt8 = 7 by decide] at hcon
  go_enter Tryd.func84, Tryd.ntmps84
  go_wp2_with (go_at_call 104; refine hcon.mono ?_; rintro e w' ⟨rfl, rfl⟩)
  go_ret
  exact ⟨rfl, rfl⟩
theorem only_54 (w : World) : Calls Tryd.prog 84 #[.int .u8 54] w fun e w' => e = .returned (.int .u16 256) ∧ w = w' := by
  have hcon := signs_index 54 w
  rw [show Lib.indexByte signsL (54 : Int).toNat.toUInt8 = 8 by decide] at hcon
  go_enter Tryd.func84, Tryd.ntmps84
  go_wp2_with (go_at_call 104; refine hcon.mono ?_; rintro e w' ⟨rfl, rfl⟩)
  go_ret
  exact ⟨rfl, rfl⟩
theorem only_55 (w : World) : Calls Tryd.prog 84 #[.int .u8 55] w fun e w' => e = .returned (.int .u16 512) ∧ w = w' := by
  have hcon := signs_index 55 w
  rw [show Lib.indexByte signsL (55 : Int).toNat.toUInt8 = 9 by decide] at hcon
  go_enter Tryd.func84, Tryd.ntmps84
  go_wp2_with (go_at_call 104; refine hcon.mono ?_; rintro e w' ⟨rfl, rfl⟩)
  go_ret
  exact ⟨rfl, rfl⟩
theorem only_56 (w : World) : Calls Tryd.prog 84 #[.int .u8 56] w fun e w' => e = .returned (.int .u16 1024) ∧ w = w' := by
  have hcon := signs_index 56 w
  rw [show Lib.indexByte signsL (56 : Int).toNat.toUInt8 = 10 by decide] at hcon
  go_enter Tryd.func84, Tryd.ntmps84
  go_wp2_with (go_at_call 104; refine hcon.mono ?_; rintro e w' ⟨rfl, rfl⟩)
  go_ret
  exact ⟨rfl, rfl⟩
theorem only_57 (w : World) : Calls Tryd.prog 84 #[.int .u8 57] w fun e w' => e = .returned (.int .u16 2048) ∧ w = w' := by
  have hcon := signs_index 57 w
  rw [show Lib.indexByte signsL (57 : Int).toNat.toUInt8 = 11 by decide] at hcon
  go_enter Tryd.func84, Tryd.ntmps84
  go_wp2_with (go_at_call 104; refine hcon.mono ?_; rintro e w' ⟨rfl, rfl⟩)
  go_ret
  exact ⟨rfl, rfl⟩

set_option maxHeartbeats 1000000 in
theorem from_29 (w : World) : Calls Tryd.prog 102 #[.int .u8 50, .int .u8 57] w fun e w' => e = .returned (.int .u16 4080) ∧ w = w' := by
  go_enter Tryd.func102, Tryd.ntmps102
  go_wp2_with fail
  refine wp_loop_rounds 9 ?_
  rw [rounds_succ]
  go_wp2_with (go_at_call 84; refine (only_50 _).mono ?_; rintro e w' ⟨rfl, rfl⟩)
  rw [rounds_succ]
  go_wp2_with (go_at_call 84; refine (only_51 _).mono ?_; rintro e w' ⟨rfl, rfl⟩)
  rw [rounds_succ]
  go_wp2_with (go_at_call 84; refine (only_52 _).mono ?_; rintro e w' ⟨rfl, rfl⟩)
  rw [rounds_succ]
  go_wp2_with (go_at_call 84; refine (only_53 _).mono ?_; rintro e w' ⟨rfl, rfl⟩)
  rw [rounds_succ]
  go_wp2_with (go_at_call 84; refine (only_54 _).mono ?_; rintro e w' ⟨rfl, rfl⟩)
  rw [rounds_succ]
  go_wp2_with (go_at_call 84; refine (only_55 _).mono ?_; rintro e w' ⟨rfl, rfl⟩)
  rw [rounds_succ]
  go_wp2_with (go_at_call 84; refine (only_56 _).mono ?_; rintro e w' ⟨rfl, rfl⟩)
  rw [rounds_succ]
  go_wp2_with (go_at_call 84; refine (only_57 _).mono ?_; rintro e w' ⟨rfl, rfl⟩)
  rw [rounds_succ]
  go_wp2_with fail
  go_ret
  exact ⟨rfl, rfl⟩

set_option maxHeartbeats 1000000 in
theorem element_N1 (w : World) : Calls Tryd.prog 76 #[.string ⟨#[78, 49]⟩] w fun e w' => e = .returned (.tuple #[.int .u16 4080, .int .i64 1]) ∧ w = w' := by
  go_enter Tryd.func76, Tryd.ntmps76
  go_wp2_with (go_at_call 102; refine (from_29 _).mono ?_; rintro e w' ⟨rfl, rfl⟩)
  go_ret2
  exact ⟨rfl, rfl⟩

set_option maxHeartbeats 1000000 in
theorem element_1 (w : World) : Calls Tryd.prog 76 #[.string ⟨#[49]⟩] w fun e w' => e = .returned (.tuple #[.int .u16 8, .int .i64 1]) ∧ w = w' := by
  have hcon := fun w => signs_index 49 w
  rw [show Lib.indexByte signsL (49 : Int).toNat.toUInt8 = 3 by decide] at hcon
  go_enter Tryd.func76, Tryd.ntmps76
  go_wp2_with (first | (go_at_call 104; refine (hcon _).mono ?_; rintro e w' ⟨rfl, rfl⟩) | (go_at_call 84; refine (only_49 _).mono ?_; rintro e w' ⟨rfl, rfl⟩))
  go_ret2
  exact ⟨rfl, rfl⟩

theorem Tryd.infoMask : (Tryd.prog.info? 141).map (fun i => (i.zero, i.size, i.bytes)) = some (some (.int .u16 0), 1, 2) := by kernel_rfl

/-- What has been read so far lies in a block of its own. -/
structure RdAt (w wr : World) (k : Nat) : Prop where
  row : ∃ v, wr.cell? ⟨w.heap.size + 1, 0, none⟩ = some v ∧ wr.ownsRow (w.heap.size + 2) 141 1 v k (([.int .u16 4080, .int .u16 8] : List Value).take k)
  tail : wr.cell? ⟨w.heap.size + 1, 1, none⟩ = some (.int .u8 0)
  fro : wr.frozen? ⟨w.heap.size + 1, 0, none⟩ = false
  res0 : wr.cell? ⟨w.heap.size, 0, none⟩ = some (.slice none 0 0)
  res1 : wr.cell? ⟨w.heap.size, 1, none⟩ = some (.int .u8 0)
  fro0 : ∀ j, wr.frozen? ⟨w.heap.size, j, none⟩ = false
  low : Below w.heap.size w wr
  size : w.heap.size + 2 ≤ wr.heap.size

def strLen : Value → Nat | .string s => s.size | _ => 0

theorem rd_next {w wr X w1 : World} {k : Nat} {v : Value} {row : Option Nat} (h : RdAt w wr k) (hX : Below wr.heap.size wr X) (hg : X.grownBy w1 row) (hr : ∀ b, row = some b → w.heap.size + 2 ≤ b)
    (hown : w1.ownsRow (w.heap.size + 2) 141 1 v (k + 1) (([.int .u16 4080, .int .u16 8] : List Value).take (k + 1))) : RdAt w (w1.setCell ⟨w.heap.size + 1, 0, none⟩ v) (k + 1) := by
  have hb : ∀ b, b < w.heap.size + 2 → w1.heap[b]? = wr.heap[b]? := fun b hb => (hg.block b (by have := hX.size; have := h.size; omega) (fun e => by have := hr b e.symm; omega)).trans (hX.block b (by have := h.size; omega))
  have hc : ∀ b o, b < w.heap.size + 2 → w1.cell? ⟨b, o, none⟩ = wr.cell? ⟨b, o, none⟩ := fun b o h => World.cell?_of_block (w := wr) (a := ⟨b, o, none⟩) (hb b h)
  have hf : ∀ b o, b < w.heap.size + 2 → w1.frozen? ⟨b, o, none⟩ = wr.frozen? ⟨b, o, none⟩ := fun b o h => World.frozen?_of_block (w := wr) (a := ⟨b, o, none⟩) (hb b h)
  obtain ⟨v0, hv0, _⟩ := h.row
  refine ⟨⟨v, World.cell?_setCell_same _ _ _ ((hc _ _ (by omega)).trans hv0), ownsRow_setCell_below hown (by show w.heap.size + 1 < _; omega) v⟩, ?_, ?_, ?_, ?_, ?_, ?_, ?_⟩
  · exact (World.cell?_setCell_other _ _ _ _ (by simp)).trans ((hc _ _ (by omega)).trans h.tail)
  · rw [World.frozen?_setCell]; exact (hf _ _ (by omega)).trans h.fro
  · exact (World.cell?_setCell_other _ _ _ _ (by simp)).trans ((hc _ _ (by omega)).trans h.res0)
  · exact (World.cell?_setCell_other _ _ _ _ (by simp)).trans ((hc _ _ (by omega)).trans h.res1)
  · intro j; rw [World.frozen?_setCell]; exact (hf _ _ (by omega)).trans (h.fro0 j)
  · exact ((h.low.trans (hX.mono (by have := h.size; omega))).grown hg (by have := h.size; have := hX.size; omega) (fun b e => by have := hr b e; omega)).setCell (by show w.heap.size ≤ w.heap.size + 1; omega) v
  · have := hg.size; have := hX.size; have := h.size; simp; omega

def ReadPost (w : World) (e : Ending) (w' : World) : Prop := ∃ (g cap : Nat), e = .returned (.tuple #[.agg #[.slice (some ⟨g, 0, none⟩) 2 cap, .int .u8 0], .int .i64 0]) ∧ g < w'.heap.size ∧ w'.cell? ⟨g, 0, none⟩ = some (.int .u16 4080) ∧ w'.cell? ⟨g, 1, none⟩ = some (.int .u16 8) ∧ Below w.heap.size w w'

set_option maxRecDepth 100000 in
set_option maxHeartbeats 2000000 in
theorem read_N1 (w : World) : Calls Tryd.prog 39 #[.string ⟨#[78, 49]⟩] w (ReadPost w) := by
  obtain ⟨i0, hi, hz0, hz1, hz2⟩ := info_parts Tryd.infoMask
  go_enter Tryd.func39, Tryd.ntmps39
  go_wp2_with fail
  go_loopw [5] (fun s5 wr => (s5 = .string ⟨#[78, 49]⟩ ∧ RdAt w wr 0 ∧ wr.cell? ⟨w.heap.size + 1, 0, none⟩ = some (.slice none 0 0)) ∨ (s5 = .string ⟨#[49]⟩ ∧ RdAt w wr 1) ∨ (s5 = .string ⟨#[]⟩ ∧ RdAt w wr 2)) (fun s5 _ => strLen s5)
  case atStart => exact Or.inl ⟨rfl, ⟨⟨.slice none 0 0, by simp, World.ownsRow_nil _ _ _ _⟩, by simp, by simp, by simp, by simp, by simp, (by (try show Below _ _ _); repeat (with_reducible first | exact Below.refl _ _ | assumption | exact Hid.out (by assumption) | refine ext_alloc ?_ | refine ext_drewN ?_ | refine ext_drew ?_ | refine ext_setCell ?_ (Nat.le_refl _) | refine ext_setCell ?_ (Nat.le_succ _) | refine ext_trans ?_ (by assumption) | (refine ext_setCell ?_ (by simp)) | (refine ext_setCell ?_ (by simp at *; omega)))), by simp⟩, by simp⟩
  case round =>
    rcases hrel with ⟨rfl, R, hv⟩ | ⟨rfl, R⟩ | ⟨rfl, R⟩
    · have HR := Lib.hid R
      have t1 := R.tail
      have t2 := R.fro
      have zz : w.heap.size + 1 < wr.heap.size := by have := R.size; omega
      have zz0 : w.heap.size < wr.heap.size := by omega
      clear R
      go_wp2_with (go_at_call 76; refine (element_N1 _).mono ?_; rintro e w' ⟨rfl, rfl⟩)
      go_region_law (refine step_append_lies _ rfl (.tmp 34) (.tmp 36) 93 rfl (w.heap.size + 2) 141 i0 (.int .u16 0) 1 2 Tryd.underlying93 hi hz0 hz1 hz2 rfl (by decide) (.slice none 0 0) 0 [] (by simp [Act.eval, Act.put]) ⟨rfl, Or.inl ⟨rfl, rfl⟩⟩ ⟨wr.heap.size, 0, none⟩ 1 1 [.int .u16 4080] (by simp [Act.eval, Act.put]) rfl (news_one (by go_simp)) (by simp [Value.oneCell']) (by omega) (by simp [maxLen]) (by omega) (by simp; omega) _ rfl ?_; intro g cap w1 hown1 hgr1 hwh1 hg1; have hbl1 := below_of_grown_none hgr1; obtain ⟨qc1, qf1⟩ := bcell hbl1)
      all_goals
        go_simp
        go_wp2_with fail
        go_roundw
        case rel => exact Or.inr (Or.inl ⟨congrArg Value.string (by decide), rd_next HR.out (by (try show Below _ _ _); repeat (with_reducible first | exact Below.refl _ _ | assumption | exact Hid.out (by assumption) | refine ext_alloc ?_ | refine ext_drewN ?_ | refine ext_drew ?_ | refine ext_setCell ?_ (Nat.le_refl _) | refine ext_setCell ?_ (Nat.le_succ _) | refine ext_trans ?_ (by assumption) | (refine ext_setCell ?_ (by simp)) | (refine ext_setCell ?_ (by simp at *; omega)))) hgr1 (fun b e => by cases e) hown1⟩)
        case measure => decide
    · obtain ⟨v, hv, hown⟩ := R.row
      have HR := Lib.hid R
      have t1 := R.tail
      have t2 := R.fro
      have zz : w.heap.size + 1 < wr.heap.size := by have := R.size; omega
      have zz0 : w.heap.size < wr.heap.size := by omega
      clear R
      obtain ⟨g0, cap0, rfl, hg0⟩ : ∃ g0 cap0, v = .slice (some ⟨g0, 0, none⟩) 1 cap0 ∧ w.heap.size + 2 ≤ g0 := by
        rcases hown.2 with ⟨h, h'⟩ | ⟨g, cap, cur, h, h1, h2, h3, h4, h5, h6⟩
        · cases h'
        · exact ⟨g, cap, h, h1⟩
      have nz : ¬ w.heap.size + 1 = g0 := by omega
      have HO := Lib.hid hown
      clear hown
      go_wp2_with (go_at_call 76; refine (element_1 _).mono ?_; rintro e w' ⟨rfl, rfl⟩)
      go_region_law (refine step_append_lies _ rfl (.tmp 34) (.tmp 36) 93 rfl (w.heap.size + 2) 141 i0 (.int .u16 0) 1 2 Tryd.underlying93 hi hz0 hz1 hz2 rfl (by decide) (.slice (some ⟨g0, 0, none⟩) 1 cap0) 1 [.int .u16 4080] (by simp [Act.eval, Act.put]) (by first | exact (HO.out.drew).alloc _ | exact (HO.out.alloc _).drew) ⟨wr.heap.size, 0, none⟩ 1 1 [.int .u16 8] (by simp [Act.eval, Act.put]) rfl (news_one (by go_simp)) (by simp [Value.oneCell']) (by omega) (by simp [maxLen]) (by omega) (by simp; omega) _ rfl ?_; intro g cap w1 hown1 hgr1 hwh1 hg1; obtain ⟨qc1, qf1⟩ := kept_of_grown hgr1)
      all_goals
        go_simp
        go_wp2_with fail
        go_roundw
        case rel => exact Or.inr (Or.inr ⟨congrArg Value.string (by decide), rd_next HR.out (by (try show Below _ _ _); repeat (with_reducible first | exact Below.refl _ _ | assumption | exact Hid.out (by assumption) | refine ext_alloc ?_ | refine ext_drewN ?_ | refine ext_drew ?_ | refine ext_setCell ?_ (Nat.le_refl _) | refine ext_setCell ?_ (Nat.le_succ _) | refine ext_trans ?_ (by assumption) | (refine ext_setCell ?_ (by simp)) | (refine ext_setCell ?_ (by simp at *; omega)))) hgr1 (fun b e => by cases e; exact hg0) hown1⟩)
        case measure => decide
    · obtain ⟨v, hv, hown⟩ := R.row
      have t1 := R.tail
      have t2 := R.fro
      have z0 := R.res0
      have z1 := R.res1
      have z2 := R.fro0
      have HL := Lib.hid R.low
      clear R
      obtain ⟨g0, cap0, rfl, hg0⟩ : ∃ g0 cap0, v = .slice (some ⟨g0, 0, none⟩) 2 cap0 ∧ w.heap.size + 2 ≤ g0 := by
        rcases hown.2 with ⟨h, h'⟩ | ⟨g, cap, cur, h, h1, h2, h3, h4, h5, h6⟩
        · cases h'
        · exact ⟨g, cap, h, h1⟩
      have hlt := (hown.lt g0 rfl).2
      have e0 := hown.cellAt 0 (by omega)
      have e1 := hown.cellAt 1 (by omega)
      have E0 : Hid (wr.cell? ⟨g0, 0, none⟩ = some (.int .u16 4080)) := e0
      have E1 : Hid (wr.cell? ⟨g0, 1, none⟩ = some (.int .u16 8)) := e1
      clear hown e0 e1
      go_wp2_with fail
      refine bodyPost_ret (v := .tuple #[.agg #[.slice (some ⟨g0, 0, none⟩) 2 cap0, .int .u8 0], .int .i64 0]) (by simp [results, Tryd.results39, go_sem, z0, z1]) rfl ⟨g0, cap0, rfl, by simpa using hlt, ?_, ?_, ?_⟩
      · rw [World.cell?_setCell_other _ _ _ _ (by simp <;> omega), World.cell?_setCell_other _ _ _ _ (by simp <;> omega)]; exact E0.out
      · rw [World.cell?_setCell_other _ _ _ _ (by simp <;> omega), World.cell?_setCell_other _ _ _ _ (by simp <;> omega)]; exact E1.out
      · exact ext_setCell (ext_setCell HL.out (Nat.le_refl _)) (Nat.le_refl _)

end Go.Proofs.YtkfflafhlgephaaDoor
