/- What is proved here: lemmas and contracts for the statement, put together out of smaller texts (EqStr, ReadyD, ReadyE, ReadyQ, ReadyV, Tariff, ClassOf, Price, MediaMath, Ready). No condition beyond those stated. -/
import Derived.Test.YtleagenhnchjdaaGreatDoorRaPkG
import Derived.Test.YtleagenhnchjdaaGreatDoorShelfHas
import Derived.Test.YtleagenhnchjdaaGreatDoorRaPkA
import Derived.LoopN
import Derived.Deep.AppendLies
import Derived.Deep.RegionLaw
import Derived.Outline
import Derived.Test.YtleagenhnchjdaaGreatDoorRaPkB
import Derived.Deep.RegionWith
import Derived.StillTailTactics
import Derived.IntWalk
import Derived.WalkArith
set_option linter.unusedVariables false
set_option linter.unusedSimpArgs false
namespace Go.Proofs.YtleagenhnchjdaaGreatDoor
open Go.RowKit

theorem eqStr_none (w : World) (a a2 : Option Addr) (c c2 : Nat) : Calls Tryz.prog 24 #[.slice a 0 c, .slice a2 0 c2] w fun e w' => e = .returned (.bool true) ∧ Below w.heap.size w w' := by
  go_enter Tryz.func24, Tryz.ntmps24
  go_wp2_with fail
  go_loopw [13] (fun i wr => i = .int .i64 0 ∧ Hid (Below w.heap.size w wr)) (fun _ _ => 0)
  case atStart => exact ⟨rfl, (by (try show Below _ _ _); repeat (with_reducible first | exact Below.refl _ _ | assumption | exact Hid.out (by assumption) | refine ext_alloc ?_ | refine ext_drewN ?_ | refine ext_drew ?_ | refine ext_setCell ?_ (Nat.le_refl _) | refine ext_setCell ?_ (Nat.le_succ _) | refine ext_trans ?_ (by assumption) | (refine ext_setCell ?_ (by simp)) | (refine ext_setCell ?_ (by simp at *; omega))))⟩
  case round =>
    obtain ⟨rfl, HB⟩ := hrel
    go_wp2_with fail
    go_ret
    exact ⟨rfl, (by (try show Below _ _ _); repeat (with_reducible first | exact Below.refl _ _ | assumption | exact Hid.out (by assumption) | refine ext_alloc ?_ | refine ext_drewN ?_ | refine ext_drew ?_ | refine ext_setCell ?_ (Nat.le_refl _) | refine ext_setCell ?_ (Nat.le_succ _) | refine ext_trans ?_ (by assumption) | (refine ext_setCell ?_ (by simp)) | (refine ext_setCell ?_ (by simp at *; omega))))⟩
theorem eqStr_any {w : World} {base base2 : Nat} {v v2 : Value} {n n2 : Nat} {xs ys : List (List UInt8)} (h : w.ownsRow base 9 1 v n (xs.map encS)) (h2 : w.ownsRow base2 9 1 v2 n2 (ys.map encS)) (he : xs = ys) (hn : n ≤ 100000) :
    Calls Tryz.prog 24 #[v, v2] w fun e w' => e = .returned (.bool true) ∧ Below w.heap.size w w' := by
  subst he
  have hl : xs.length = n := by have := h.1; simpa using this
  have hl2 : xs.length = n2 := by have := h2.1; simpa using this
  subst hl
  subst hl2
  by_cases h0 : xs.length = 0
  · obtain ⟨a, c, rfl⟩ := own_shape h
    obtain ⟨a2, c2, rfl⟩ := own_shape h2
    rw [h0]
    exact eqStr_none w a a2 c c2
  · obtain ⟨m, hm⟩ : ∃ m, xs.length = m + 1 := ⟨xs.length - 1, by omega⟩
    rw [hm] at h h2 hn
    obtain ⟨g, c, rfl, _, _⟩ := own_row1 h
    obtain ⟨g2, c2, rfl, _, _⟩ := own_row1 h2
    refine (Tryz.slices_eqS g 0 (m + 1) c g2 0 (m + 1) c2 (xs.map fun x => ⟨x.toArray⟩) (xs.map fun x => ⟨x.toArray⟩) w (by simp; omega) (by simp; omega) (by omega) (by omega) (fun j hj => ?_) (fun j hj => ?_)).mono ?_
    · have hj' : j < xs.length := by simpa using hj
      rw [Nat.zero_add, h.cellAt j (by omega)]
      simp [encS, hj']
    · have hj' : j < xs.length := by simpa using hj
      rw [Nat.zero_add, h2.cellAt j (by omega)]
      simp [encS, hj']
    · rintro e w' ⟨rfl, q, rfl⟩
      exact ⟨by simp, ext_drewN (Below.refl _ _)⟩
end Go.Proofs.YtleagenhnchjdaaGreatDoor

namespace Go.Proofs.YtleagenhnchjdaaGreatDoor
open Go.RowKit
set_option linter.unusedVariables false
set_option linter.unusedSimpArgs false

def signsL : List UInt8 := [35, 42, 48, 49, 50, 51, 52, 53, 54, 55, 56, 57]
theorem signs_index (c : Int) (w : World) :
    Calls Tryz.prog 160 #[.string ⟨#[35, 42, 48, 49, 50, 51, 52, 53, 54, 55, 56, 57]⟩, .int .u8 c] w fun e w' => e = .returned (.int .i64 (Lib.indexByte signsL c.toNat.toUInt8)) ∧ w' = w := Tryz.strings_IndexByte ⟨#[35, 42, 48, 49, 50, 51, 52, 53, 54, 55, 56, 57]⟩ c w

theorem only_49 (w : World) : Calls Tryz.prog 164 #[.int .u8 49] w fun e w' => e = .returned (.int .u16 8) ∧ w = w' := by
  have hcon := signs_index 49 w
  rw [show Lib.indexByte signsL (49 : Int).toNat.toUInt8 = 3 by decide] at hcon
  go_enter Tryz.func164, Tryz.ntmps164
  go_wp2_with (go_at_call 160; refine hcon.mono ?_; rintro e w' ⟨rfl, rfl⟩)
  go_ret
  exact ⟨rfl, rfl⟩
theorem only_50 (w : World) : Calls Tryz.prog 164 #[.int .u8 50] w fun e w' => e = .returned (.int .u16 16) ∧ w = w' := by
  have hcon := signs_index 50 w
  rw [show Lib.indexByte signsL (50 : Int).toNat.toUInt8 = 4 by decide] at hcon
  go_enter Tryz.func164, Tryz.ntmps164
  go_wp2_with (go_at_call 160; refine hcon.mono ?_; rintro e w' ⟨rfl, rfl⟩)
  go_ret
  exact ⟨rfl, rfl⟩
theorem only_51 (w : World) : Calls Tryz.prog 164 #[.int .u8 51] w fun e w' => e = .returned (.int .u16 32) ∧ w = w' := by
  have hcon := signs_index 51 w
  rw [show Lib.indexByte signsL (51 : Int).toNat.toUInt8 = 5 by decide] at hcon
  go_enter Tryz.func164, Tryz.ntmps164
  go_wp2_with (go_at_call 160; refine hcon.mono ?_; rintro e w' ⟨rfl, rfl⟩)
  go_ret
  exact ⟨rfl, rfl⟩
theorem only_52 (w : World) : Calls Tryz.prog 164 #[.int .u8 52] w fun e w' => e = .returned (.int .u16 64) ∧ w = w' := by
  have hcon := signs_index 52 w
  rw [show Lib.indexByte signsL (52 : Int).toNat.toUInt8 = 6 by decide] at hcon
  go_enter Tryz.func164, Tryz.ntmps164
  go_wp2_with (go_at_call 160; refine hcon.mono ?_; rintro e w' ⟨rfl, rfl⟩)
  go_ret
  exact ⟨rfl, rfl⟩
theorem only_53 (w : World) : Calls Tryz.prog 164 #[.int .u8 53] w fun e w' => e = .returned (.int .u16 128) ∧ w = w' := by
  have hcon := signs_index 53 w
  rw [show Lib.indexByte signsL (53 : Int).toNat.toUInt8 = 7 by decide] at hcon
  go_enter Tryz.func164, Tryz.ntmps164
  go_wp2_with (go_at_call 160; refine hcon.mono ?_; rintro e w' ⟨rfl, rfl⟩)
  go_ret
  exact ⟨rfl, rfl⟩
theorem only_54 (w : World) : Calls Tryz.prog 164 #[.int .u8 54] w fun e w' => e = .returned (.int .u16 256) ∧ w = w' := by
  have hcon := signs_index 54 w
  rw [show Lib.indexByte signsL (54 : Int).toNat.toUInt8 = 8 by decide] at hcon
  go_enter Tryz.func164, Tryz.ntmps164
  go_wp2_with (go_at_call 160; refine hcon.mono ?_; rintro e w' ⟨rfl, rfl⟩)
  go_ret
  exact ⟨rfl, rfl⟩
theorem only_55 (w : World) : Calls Tryz.prog 164 #[.int .u8 55] w fun e w' => e = .returned (.int .u16 512) ∧ w = w' := by
  have hcon := signs_index 55 w
  rw [show Lib.indexByte signsL (55 : Int).toNat.toUInt8 = 9 by decide] at hcon
  go_enter Tryz.func164, Tryz.ntmps164
  go_wp2_with (go_at_call 160; refine hcon.mono ?_; rintro e w' ⟨rfl, rfl⟩)
  go_ret
  exact ⟨rfl, rfl⟩
theorem only_56 (w : World) : Calls Tryz.prog 164 #[.int .u8 56] w fun e w' => e = .returned (.int .u16 1024) ∧ w = w' := by
  have hcon := signs_index 56 w
  rw [show Lib.indexByte signsL (56 : Int).toNat.toUInt8 = 10 by decide] at hcon
  go_enter Tryz.func164, Tryz.ntmps164
  go_wp2_with (go_at_call 160; refine hcon.mono ?_; rintro e w' ⟨rfl, rfl⟩)
  go_ret
  exact ⟨rfl, rfl⟩
theorem only_57 (w : World) : Calls Tryz.prog 164 #[.int .u8 57] w fun e w' => e = .returned (.int .u16 2048) ∧ w = w' := by
  have hcon := signs_index 57 w
  rw [show Lib.indexByte signsL (57 : Int).toNat.toUInt8 = 11 by decide] at hcon
  go_enter Tryz.func164, Tryz.ntmps164
  go_wp2_with (go_at_call 160; refine hcon.mono ?_; rintro e w' ⟨rfl, rfl⟩)
  go_ret
  exact ⟨rfl, rfl⟩

set_option maxHeartbeats 1000000 in
theorem from_29 (w : World) : Calls Tryz.prog 162 #[.int .u8 50, .int .u8 57] w fun e w' => e = .returned (.int .u16 4080) ∧ w = w' := by
  go_enter Tryz.func162, Tryz.ntmps162
  go_wp2_with fail
  refine wp_loop_rounds 9 ?_
  rw [rounds_succ]
  go_wp2_with (go_at_call 164; refine (only_50 _).mono ?_; rintro e w' ⟨rfl, rfl⟩)
  rw [rounds_succ]
  go_wp2_with (go_at_call 164; refine (only_51 _).mono ?_; rintro e w' ⟨rfl, rfl⟩)
  rw [rounds_succ]
  go_wp2_with (go_at_call 164; refine (only_52 _).mono ?_; rintro e w' ⟨rfl, rfl⟩)
  rw [rounds_succ]
  go_wp2_with (go_at_call 164; refine (only_53 _).mono ?_; rintro e w' ⟨rfl, rfl⟩)
  rw [rounds_succ]
  go_wp2_with (go_at_call 164; refine (only_54 _).mono ?_; rintro e w' ⟨rfl, rfl⟩)
  rw [rounds_succ]
  go_wp2_with (go_at_call 164; refine (only_55 _).mono ?_; rintro e w' ⟨rfl, rfl⟩)
  rw [rounds_succ]
  go_wp2_with (go_at_call 164; refine (only_56 _).mono ?_; rintro e w' ⟨rfl, rfl⟩)
  rw [rounds_succ]
  go_wp2_with (go_at_call 164; refine (only_57 _).mono ?_; rintro e w' ⟨rfl, rfl⟩)
  rw [rounds_succ]
  go_wp2_with fail
  go_ret
  exact ⟨rfl, rfl⟩

set_option maxHeartbeats 1000000 in
theorem element_N1 (w : World) : Calls Tryz.prog 116 #[.string ⟨#[78, 49]⟩] w fun e w' => e = .returned (.tuple #[.int .u16 4080, .int .i64 1]) ∧ w = w' := by
  go_enter Tryz.func116, Tryz.ntmps116
  go_wp2_with (go_at_call 162; refine (from_29 _).mono ?_; rintro e w' ⟨rfl, rfl⟩)
  go_ret2
  exact ⟨rfl, rfl⟩

set_option maxHeartbeats 1000000 in
theorem element_1 (w : World) : Calls Tryz.prog 116 #[.string ⟨#[49]⟩] w fun e w' => e = .returned (.tuple #[.int .u16 8, .int .i64 1]) ∧ w = w' := by
  have hcon := fun w => signs_index 49 w
  rw [show Lib.indexByte signsL (49 : Int).toNat.toUInt8 = 3 by decide] at hcon
  go_enter Tryz.func116, Tryz.ntmps116
  go_wp2_with (first | (go_at_call 160; refine (hcon _).mono ?_; rintro e w' ⟨rfl, rfl⟩) | (go_at_call 164; refine (only_49 _).mono ?_; rintro e w' ⟨rfl, rfl⟩))
  go_ret2
  exact ⟨rfl, rfl⟩

theorem Tryz.infoMask : (Tryz.prog.info? 200).map (fun i => (i.zero, i.size, i.bytes)) = some (some (.int .u16 0), 1, 2) := by kernel_rfl

/-- What has been read so far lies in a block of its own. -/
structure RdAt (w wr : World) (k : Nat) : Prop where
  row : ∃ v, wr.cell? ⟨w.heap.size + 1, 0, none⟩ = some v ∧ wr.ownsRow (w.heap.size + 2) 200 1 v k (([.int .u16 4080, .int .u16 8] : List Value).take k)
  tail : wr.cell? ⟨w.heap.size + 1, 1, none⟩ = some (.int .u8 0)
  fro : wr.frozen? ⟨w.heap.size + 1, 0, none⟩ = false
  res0 : wr.cell? ⟨w.heap.size, 0, none⟩ = some (.slice none 0 0)
  res1 : wr.cell? ⟨w.heap.size, 1, none⟩ = some (.int .u8 0)
  fro0 : ∀ j, wr.frozen? ⟨w.heap.size, j, none⟩ = false
  low : Below w.heap.size w wr
  size : w.heap.size + 2 ≤ wr.heap.size

def rdyLen : Value → Nat | .string s => s.size | _ => 0

theorem rd_next {w wr X w1 : World} {k : Nat} {v : Value} {row : Option Nat} (h : RdAt w wr k) (hX : Below wr.heap.size wr X) (hg : X.grownBy w1 row) (hr : ∀ b, row = some b → w.heap.size + 2 ≤ b)
    (hown : w1.ownsRow (w.heap.size + 2) 200 1 v (k + 1) (([.int .u16 4080, .int .u16 8] : List Value).take (k + 1))) : RdAt w (w1.setCell ⟨w.heap.size + 1, 0, none⟩ v) (k + 1) := by
  have hb : ∀ b, b < w.heap.size + 2 → w1.heap[b]? = wr.heap[b]? := fun b hb => (hg.block b (by have := hX.size; have := h.size; omega) (fun e => by have := hr b e.symm; omega)).trans (hX.block b (by have := h.size; omega))
  have hc : ∀ b o, b < w.heap.size + 2 → w1.cell? ⟨b, o, none⟩ = wr.cell? ⟨b, o, none⟩ := fun b o h => World.cell?_of_block (w := wr) (a := ⟨b, o, none⟩) (hb b h)
  have hf : ∀ b o, b < w.heap.size + 2 → w1.frozen? ⟨b, o, none⟩ = wr.frozen? ⟨b, o, none⟩ := fun b o h => World.frozen?_of_block (w := wr) (a := ⟨b, o, none⟩) (hb b h)
  obtain ⟨v0, hv0, _⟩ := h.row
  refine ⟨⟨v, World.cell?_setCell_same _ _ _ ((hc _ _ (by omega)).trans hv0), ownsRow_setCell_below hown (by show w.heap.size + 1 < _; omega) v⟩, ?_, ?_, ?_, ?_, ?_, ?_, ?_⟩
  · exact (World.cell?_setCell_other _ _ _ _ (by simp)).trans ((hc _ _ (by omega)).trans h.tail)
  · rw [World.frozen?_setCell]; exact (hf _ _ (by omega)).trans h.fro
  · exact (World.cell?_setCell_other _ _ _ _ (by simp)).trans ((hc _ _ (by omega)).trans h.res0)
  · exact (World.cell?_setCell_other _ _ _ _ (by simp)).trans ((hc _ _ (by omega)).trans h.res1)
  · intro j; rw [World.frozen?_setCell]; exact (hf _ _ (by omega)).trans (h.fro0 j)
  · exact ((h.low.trans (hX.mono (by have := h.size; omega))).grown hg (by have := h.size; have := hX.size; omega) (fun b e => by have := hr b e; omega)).setCell (by show w.heap.size ≤ w.heap.size + 1; omega) v
  · have := hg.size; have := hX.size; have := h.size; simp; omega

def ReadPost (w : World) (e : Ending) (w' : World) : Prop := ∃ (g cap : Nat), e = .returned (.tuple #[.agg #[.slice (some ⟨g, 0, none⟩) 2 cap, .int .u8 0], .int .i64 0]) ∧ g < w'.heap.size ∧ w'.cell? ⟨g, 0, none⟩ = some (.int .u16 4080) ∧ w'.cell? ⟨g, 1, none⟩ = some (.int .u16 8) ∧ Below w.heap.size w w'

set_option maxRecDepth 100000 in
set_option maxHeartbeats 2000000 in
theorem read_N1 (w : World) : Calls Tryz.prog 84 #[.string ⟨#[78, 49]⟩] w (ReadPost w) := by
  obtain ⟨i0, hi, hz0, hz1, hz2⟩ := info_parts Tryz.infoMask
  go_enter Tryz.func84, Tryz.ntmps84
  go_wp2_with fail
  go_loopw [5] (fun s5 wr => (s5 = .string ⟨#[78, 49]⟩ ∧ RdAt w wr 0 ∧ wr.cell? ⟨w.heap.size + 1, 0, none⟩ = some (.slice none 0 0)) ∨ (s5 = .string ⟨#[49]⟩ ∧ RdAt w wr 1) ∨ (s5 = .string ⟨#[]⟩ ∧ RdAt w wr 2)) (fun s5 _ => rdyLen s5)
  case atStart => exact Or.inl ⟨rfl, ⟨⟨.slice none 0 0, by simp, World.ownsRow_nil _ _ _ _⟩, by simp, by simp, by simp, by simp, by simp, (by (try show Below _ _ _); repeat (with_reducible first | exact Below.refl _ _ | assumption | exact Hid.out (by assumption) | refine ext_alloc ?_ | refine ext_drewN ?_ | refine ext_drew ?_ | refine ext_setCell ?_ (Nat.le_refl _) | refine ext_setCell ?_ (Nat.le_succ _) | refine ext_trans ?_ (by assumption) | (refine ext_setCell ?_ (by simp)) | (refine ext_setCell ?_ (by simp at *; omega)))), by simp⟩, by simp⟩
  case round =>
    rcases hrel with ⟨rfl, R, hv⟩ | ⟨rfl, R⟩ | ⟨rfl, R⟩
    · have HR := Lib.hid R
      have t1 := R.tail
      have t2 := R.fro
      have zz : w.heap.size + 1 < wr.heap.size := by have := R.size; omega
      have zz0 : w.heap.size < wr.heap.size := by omega
      clear R
      go_wp2_with (go_at_call 116; refine (element_N1 _).mono ?_; rintro e w' ⟨rfl, rfl⟩)
      go_region_law (refine step_append_lies _ rfl (.tmp 34) (.tmp 36) 159 rfl (w.heap.size + 2) 200 i0 (.int .u16 0) 1 2 Tryz.underlying159 hi hz0 hz1 hz2 rfl (by decide) (.slice none 0 0) 0 [] (by simp [Act.eval, Act.put]) ⟨rfl, Or.inl ⟨rfl, rfl⟩⟩ ⟨wr.heap.size, 0, none⟩ 1 1 [.int .u16 4080] (by simp [Act.eval, Act.put]) rfl (news_one (by go_simp)) (by simp [Value.oneCell']) (by omega) (by simp [maxLen]) (by omega) (by simp; omega) _ rfl ?_; intro g cap w1 hown1 hgr1 hwh1 hg1; have hbl1 := below_of_grown_none hgr1; obtain ⟨qc1, qf1⟩ := bcell hbl1)
      all_goals
        go_simp
        go_wp2_with fail
        go_roundw
        case rel => exact Or.inr (Or.inl ⟨congrArg Value.string (by decide), rd_next HR.out (by (try show Below _ _ _); repeat (with_reducible first | exact Below.refl _ _ | assumption | exact Hid.out (by assumption) | refine ext_alloc ?_ | refine ext_drewN ?_ | refine ext_drew ?_ | refine ext_setCell ?_ (Nat.le_refl _) | refine ext_setCell ?_ (Nat.le_succ _) | refine ext_trans ?_ (by assumption) | (refine ext_setCell ?_ (by simp)) | (refine ext_setCell ?_ (by simp at *; omega)))) hgr1 (fun b e => by cases e) hown1⟩)
        case measure => decide
    · obtain ⟨v, hv, hown⟩ := R.row
      have HR := Lib.hid R
      have t1 := R.tail
      have t2 := R.fro
      have zz : w.heap.size + 1 < wr.heap.size := by have := R.size; omega
      have zz0 : w.heap.size < wr.heap.size := by omega
      clear R
      obtain ⟨g0, cap0, rfl, hg0⟩ : ∃ g0 cap0, v = .slice (some ⟨g0, 0, none⟩) 1 cap0 ∧ w.heap.size + 2 ≤ g0 := by
        rcases hown.2 with ⟨h, h'⟩ | ⟨g, cap, cur, h, h1, h2, h3, h4, h5, h6⟩
        · cases h'
        · exact ⟨g, cap, h, h1⟩
      have nz : ¬ w.heap.size + 1 = g0 := by omega
      have HO := Lib.hid hown
      clear hown
      go_wp2_with (go_at_call 116; refine (element_1 _).mono ?_; rintro e w' ⟨rfl, rfl⟩)
      go_region_law (refine step_append_lies _ rfl (.tmp 34) (.tmp 36) 159 rfl (w.heap.size + 2) 200 i0 (.int .u16 0) 1 2 Tryz.underlying159 hi hz0 hz1 hz2 rfl (by decide) (.slice (some ⟨g0, 0, none⟩) 1 cap0) 1 [.int .u16 4080] (by simp [Act.eval, Act.put]) (by first | exact (HO.out.drew).alloc _ | exact (HO.out.alloc _).drew) ⟨wr.heap.size, 0, none⟩ 1 1 [.int .u16 8] (by simp [Act.eval, Act.put]) rfl (news_one (by go_simp)) (by simp [Value.oneCell']) (by omega) (by simp [maxLen]) (by omega) (by simp; omega) _ rfl ?_; intro g cap w1 hown1 hgr1 hwh1 hg1; obtain ⟨qc1, qf1⟩ := kept_of_grown hgr1)
      all_goals
        go_simp
        go_wp2_with fail
        go_roundw
        case rel => exact Or.inr (Or.inr ⟨congrArg Value.string (by decide), rd_next HR.out (by (try show Below _ _ _); repeat (with_reducible first | exact Below.refl _ _ | assumption | exact Hid.out (by assumption) | refine ext_alloc ?_ | refine ext_drewN ?_ | refine ext_drew ?_ | refine ext_setCell ?_ (Nat.le_refl _) | refine ext_setCell ?_ (Nat.le_succ _) | refine ext_trans ?_ (by assumption) | (refine ext_setCell ?_ (by simp)) | (refine ext_setCell ?_ (by simp at *; omega)))) hgr1 (fun b e => by cases e; exact hg0) hown1⟩)
        case measure => decide
    · obtain ⟨v, hv, hown⟩ := R.row
      have t1 := R.tail
      have t2 := R.fro
      have z0 := R.res0
      have z1 := R.res1
      have z2 := R.fro0
      have HL := Lib.hid R.low
      clear R
      obtain ⟨g0, cap0, rfl, hg0⟩ : ∃ g0 cap0, v = .slice (some ⟨g0, 0, none⟩) 2 cap0 ∧ w.heap.size + 2 ≤ g0 := by
        rcases hown.2 with ⟨h, h'⟩ | ⟨g, cap, cur, h, h1, h2, h3, h4, h5, h6⟩
        · cases h'
        · exact ⟨g, cap, h, h1⟩
      have hlt := (hown.lt g0 rfl).2
      have e0 := hown.cellAt 0 (by omega)
      have e1 := hown.cellAt 1 (by omega)
      have E0 : Hid (wr.cell? ⟨g0, 0, none⟩ = some (.int .u16 4080)) := e0
      have E1 : Hid (wr.cell? ⟨g0, 1, none⟩ = some (.int .u16 8)) := e1
      clear hown e0 e1
      go_wp2_with fail
      refine bodyPost_ret (v := .tuple #[.agg #[.slice (some ⟨g0, 0, none⟩) 2 cap0, .int .u8 0], .int .i64 0]) (by simp [results, Tryz.results84, go_sem, z0, z1]) rfl ⟨g0, cap0, rfl, by simpa using hlt, ?_, ?_, ?_⟩
      · rw [World.cell?_setCell_other _ _ _ _ (by simp <;> omega), World.cell?_setCell_other _ _ _ _ (by simp <;> omega)]; exact E0.out
      · rw [World.cell?_setCell_other _ _ _ _ (by simp <;> omega), World.cell?_setCell_other _ _ _ _ (by simp <;> omega)]; exact E1.out
      · exact ext_setCell (ext_setCell HL.out (Nat.le_refl _)) (Nat.le_refl _)

end Go.Proofs.YtleagenhnchjdaaGreatDoor

namespace Go.Proofs.YtleagenhnchjdaaGreatDoor
open Go.RowKit
set_option linter.unusedVariables false
set_option linter.unusedSimpArgs false

/-- The table that counts zeros from below. -/
def tabL : List Int := [0, 1, 28, 2, 29, 14, 24, 3, 30, 22, 20, 15, 25, 17, 4, 8, 31, 27, 13, 23, 21, 19, 16, 7, 26, 12, 18, 6, 11, 5, 10, 9]
def TabAt (w : World) : Prop := 1 < w.heap.size ∧ ∀ i, i < 32 → w.cell? ⟨1, i, none⟩ = some (.int .u8 (tabL.getD i 0))
theorem TabAt.below {w w' : World} (h : TabAt w) (hb : Below w.heap.size w w') : TabAt w' :=
  ⟨Nat.lt_of_lt_of_le h.1 hb.size, fun i hi => (hb.cell (p := ⟨1, i, none⟩) h.1).trans (h.2 i hi)⟩
theorem TabAt.keeps {w w' : World} {S : Nat} (h : TabAt w) (hb : Keeps S w w') (hS : 1 ≠ S) : TabAt w' :=
  ⟨Nat.lt_of_lt_of_le h.1 hb.size, fun i hi => (hb.cell (p := ⟨1, i, none⟩) h.1 hS).trans (h.2 i hi)⟩

theorem zeros_4080 (w : World) (h : TabAt w) : Calls Tryz.prog 118 #[.int .u16 4080] w fun e w' => e = .returned (.int .i64 4) ∧ w = w' := by
  have hc : w.cell? ⟨1, 14, none⟩ = some (.int .u8 4) := h.2 14 (by omega)
  have e0 : IntKind.u16.wrap (-4080) = 61456 := by decide
  have e1 : bits BinOp.and IntKind.u16 4080 61456 = 16 := by decide
  clear h
  go_enter Tryz.func118, Tryz.ntmps118
  go_wp2
  go_ret
  exact ⟨rfl, rfl⟩
theorem zeros_8 (w : World) (h : TabAt w) : Calls Tryz.prog 118 #[.int .u16 8] w fun e w' => e = .returned (.int .i64 3) ∧ w = w' := by
  have hc : w.cell? ⟨1, 7, none⟩ = some (.int .u8 3) := h.2 7 (by omega)
  have e0 : IntKind.u16.wrap (-8) = 65528 := by decide
  have e1 : bits BinOp.and IntKind.u16 8 65528 = 8 := by decide
  clear h
  go_enter Tryz.func118, Tryz.ntmps118
  go_wp2
  go_ret
  exact ⟨rfl, rfl⟩

set_option maxHeartbeats 1000000 in
theorem takes_at (w : World) (g cap : Nat) (i : Nat) (m : Int) (hi : i < 2) (hc : w.cell? ⟨g, i, none⟩ = some (.int .u16 m)) :
    Calls Tryz.prog 117 #[.agg #[.slice (some ⟨g, 0, none⟩) 2 cap, .int .u8 0], .int .i64 i] w fun e w' => e = .returned (.tuple #[.int .u16 m, .bool false]) ∧ Below w.heap.size w w' := by
  have hg : g < w.heap.size := by
    rcases Nat.lt_or_ge g w.heap.size with h | h
    · exact h
    · simp [World.cell?, Array.getElem?_eq_none h] at hc
  go_enter Tryz.func117, Tryz.ntmps117
  go_wp2_with fail
  go_ret2
  exact ⟨rfl, (by (try show Below _ _ _); repeat (with_reducible first | exact Below.refl _ _ | assumption | exact Hid.out (by assumption) | refine ext_alloc ?_ | refine ext_drewN ?_ | refine ext_drew ?_ | refine ext_setCell ?_ (Nat.le_refl _) | refine ext_setCell ?_ (Nat.le_succ _) | refine ext_trans ?_ (by assumption) | (refine ext_setCell ?_ (by simp)) | (refine ext_setCell ?_ (by simp at *; omega))))⟩

set_option maxHeartbeats 1000000 in
theorem takes_end (w : World) (g cap : Nat) :
    Calls Tryz.prog 117 #[.agg #[.slice (some ⟨g, 0, none⟩) 2 cap, .int .u8 0], .int .i64 2] w fun e w' => e = .returned (.tuple #[.int .u16 0, .bool true]) ∧ Below w.heap.size w w' := by
  go_enter Tryz.func117, Tryz.ntmps117
  go_wp2_with fail
  go_quiet (fail)
  go_wp2_with fail
  go_ret2
  exact ⟨rfl, (by (try show Below _ _ _); repeat (with_reducible first | exact Below.refl _ _ | assumption | exact Hid.out (by assumption) | refine ext_alloc ?_ | refine ext_drewN ?_ | refine ext_drew ?_ | refine ext_setCell ?_ (Nat.le_refl _) | refine ext_setCell ?_ (Nat.le_succ _) | refine ext_trans ?_ (by assumption) | (refine ext_setCell ?_ (by simp)) | (refine ext_setCell ?_ (by simp at *; omega))))⟩

theorem infoByteR : (Tryz.prog.info? 5).map (fun i => (i.zero, i.size, i.bytes)) = some (some (.int .u8 0), 1, 1) := by kernel_rfl

set_option maxRecDepth 100000 in
set_option maxHeartbeats 2000000 in
theorem shared_N1 (w : World) (q g cap : Nat) (hq : q < w.heap.size) (hg : g < w.heap.size) (h0 : w.cell? ⟨q, 0, none⟩ = some (.slice (some ⟨g, 0, none⟩) 2 cap)) (h1 : w.cell? ⟨q, 1, none⟩ = some (.int .u8 0)) (h2 : w.cell? ⟨g, 0, none⟩ = some (.int .u16 4080)) (h3 : w.cell? ⟨g, 1, none⟩ = some (.int .u16 8)) (ht : TabAt w) :
    Calls Tryz.prog 85 #[.slice (some ⟨q, 0, none⟩) 1 1] w fun e w' => e = .returned (.tuple #[.string ⟨#[50, 49]⟩, .bool true]) ∧ Below w.heap.size w w' := by
  obtain ⟨i0, hi, hz0, hz1, hz2⟩ := info_parts infoByteR
  have HT := Lib.hid ht
  clear ht
  have e0 : bits BinOp.and IntKind.u16 4095 4080 = 4080 := by decide
  have e1 : bits BinOp.and IntKind.u16 4095 8 = 8 := by decide
  have e2 : bits BinOp.and IntKind.u16 4095 0 = 0 := by decide
  go_enter Tryz.func85, Tryz.ntmps85
  go_wp2_with fail
  refine wp_loop_rounds 3 ?_
  rw [rounds_succ]
  go_wp2_with fail
  refine wp_loop_rounds 2 ?_
  rw [rounds_succ]
  go_wp2_with fail
  refine (takes_at _ g cap 0 4080 (by omega) (by go_simp)).mono ?_
  rintro e w1 ⟨rfl, hB1⟩
  obtain ⟨q1, -⟩ := bcell hB1
  go_wp2_with fail
  rw [rounds_succ]
  go_wp2_with fail
  refine (zeros_4080 _ (HT.out.below (by (try show Below _ _ _); repeat (with_reducible first | exact Below.refl _ _ | assumption | exact Hid.out (by assumption) | refine ext_alloc ?_ | refine ext_drewN ?_ | refine ext_drew ?_ | refine ext_setCell ?_ (Nat.le_refl _) | refine ext_setCell ?_ (Nat.le_succ _) | refine ext_trans ?_ (by assumption) | (refine ext_setCell ?_ (by simp)) | (refine ext_setCell ?_ (by simp at *; omega)))))).mono ?_
  rintro e w' ⟨rfl, rfl⟩
  have H0 := Lib.hid h0
  have H1 := Lib.hid h1
  have H2 := Lib.hid h2
  have H3 := Lib.hid h3
  have z1 : w.heap.size ≤ w1.heap.size := by have := hB1.size; simp at this; omega
  have hW1 : Below w.heap.size w w1 := (by (try show Below _ _ _); repeat (with_reducible first | exact Below.refl _ _ | assumption | exact Hid.out (by assumption) | refine ext_alloc ?_ | refine ext_drewN ?_ | refine ext_drew ?_ | refine ext_setCell ?_ (Nat.le_refl _) | refine ext_setCell ?_ (Nat.le_succ _) | refine ext_trans ?_ (by assumption) | (refine ext_setCell ?_ (by simp)) | (refine ext_setCell ?_ (by simp at *; omega))))
  go_wp2_with (at_builtin; refine wpList_append_own _ rfl (.tmp 43) (.tmp 47) 136 rfl w.heap.size 5 i0 (.int .u8 0) 1 1 Tryz.underlying136 hi hz0 hz1 hz2 rfl (by decide) (.slice none 0 0) 0 [] (by simp [Act.eval]) (World.ownsRow_nil _ _ _ _) ⟨w1.heap.size, 0, none⟩ 1 1 [.int .u8 50] (by simp [Act.eval]) rfl (news_one (by first | (go_simp; done) | (go_simp; rfl))) (by simp [Value.oneCell']) (by simp [maxLen]) (by omega) (by simp; omega) ?_; intro v2 w2 hown2 hgr2 _)
  have hW2 : Below w.heap.size w w2 := (hW1.alloc z1 _).grown hgr2 (by simp; omega) (fun k e => by cases e)
  clear h0 h1 h2 h3 q1 hB1
  have h0w2 : w2.cell? ⟨q, 0, none⟩ = some (.slice (some ⟨g, 0, none⟩) 2 cap) := (hW2.cell (p := ⟨q, 0, none⟩) hq).trans H0.out
  have h1w2 : w2.cell? ⟨q, 1, none⟩ = some (.int .u8 0) := (hW2.cell (p := ⟨q, 1, none⟩) hq).trans H1.out
  have h2w2 : w2.cell? ⟨g, 0, none⟩ = some (.int .u16 4080) := (hW2.cell (p := ⟨g, 0, none⟩) hg).trans H2.out
  have h3w2 : w2.cell? ⟨g, 1, none⟩ = some (.int .u16 8) := (hW2.cell (p := ⟨g, 1, none⟩) hg).trans H3.out
  have hqw2 : q < w2.heap.size := Nat.lt_of_lt_of_le hq hW2.size
  have hgw2 : g < w2.heap.size := Nat.lt_of_lt_of_le hg hW2.size

  have HO2 : Hid (w2.ownsRow w.heap.size 5 1 v2 1 [.int .u8 50]) := hown2
  have n2 : ∃ g2 c2, v2 = .slice (some ⟨g2, 0, none⟩) 1 c2 ∧ w.heap.size ≤ g2 := by
    rcases hown2.2 with ⟨h, h'⟩ | ⟨g, cap, cur, h, h1, h2, h3, h4, h5, h6⟩
    · cases h'
    · exact ⟨g, cap, h, h1⟩
  obtain ⟨g2, c2, hv2, hg2⟩ := n2
  rw [hv2]
  rw [hv2] at HO2
  have Hv2 := Lib.hid hv2
  clear hown2 hv2 hgr2
  rw [rounds_succ]
  go_wp2_with fail
  refine wp_loop_rounds 2 ?_
  rw [rounds_succ]
  go_wp2_with fail
  refine (takes_at _ g cap 1 8 (by omega) (by go_simp)).mono ?_
  rintro e w3 ⟨rfl, hB3⟩
  go_wp2_with fail
  rw [rounds_succ]
  go_wp2_with fail
  have hW3 : Below w.heap.size w w3 := (by (try show Below _ _ _); repeat (with_reducible first | exact Below.refl _ _ | assumption | exact Hid.out (by assumption) | refine ext_alloc ?_ | refine ext_drewN ?_ | refine ext_drew ?_ | refine ext_setCell ?_ (Nat.le_refl _) | refine ext_setCell ?_ (Nat.le_succ _) | refine ext_trans ?_ (by assumption) | (refine ext_setCell ?_ (by simp)) | (refine ext_setCell ?_ (by simp at *; omega))))
  have z3 : w.heap.size ≤ w3.heap.size := hW3.size
  refine (zeros_8 _ (HT.out.below hW3)).mono ?_
  rintro e w' ⟨rfl, rfl⟩
  have HO3 : Hid (w3.ownsRow w.heap.size 5 1 (.slice (some ⟨g2, 0, none⟩) 1 c2) 1 [.int .u8 50]) := HO2.out.kept_below ((ext_alloc (Below.refl _ _)).trans (hB3.mono (by simp)))
  go_wp2_with (at_builtin; refine wpList_append_own _ rfl (.tmp 43) (.tmp 47) 136 rfl w.heap.size 5 i0 (.int .u8 0) 1 1 Tryz.underlying136 hi hz0 hz1 hz2 rfl (by decide) (.slice (some ⟨g2, 0, none⟩) 1 c2) 1 [.int .u8 50] (by simp [Act.eval]) (HO3.out.alloc _) ⟨w3.heap.size, 0, none⟩ 1 1 [.int .u8 49] (by simp [Act.eval]) rfl (news_one (by first | (go_simp; done) | (go_simp; rfl))) (by simp [Value.oneCell']) (by simp [maxLen]) (by omega) (by simp; omega) ?_; intro v4 w4 hown4 hgr4 _)
  have hgr4' : w3.heap.size ≤ w4.heap.size := by have := hgr4.size; simp at this; omega
  have hW4 : Below w.heap.size w w4 := (hW3.alloc z3 _).grown hgr4 (by simp; omega) (fun k e => by cases e; exact hg2)
  have h0w4 : w4.cell? ⟨q, 0, none⟩ = some (.slice (some ⟨g, 0, none⟩) 2 cap) := (hW4.cell (p := ⟨q, 0, none⟩) hq).trans H0.out
  have h1w4 : w4.cell? ⟨q, 1, none⟩ = some (.int .u8 0) := (hW4.cell (p := ⟨q, 1, none⟩) hq).trans H1.out
  have h2w4 : w4.cell? ⟨g, 0, none⟩ = some (.int .u16 4080) := (hW4.cell (p := ⟨g, 0, none⟩) hg).trans H2.out
  have h3w4 : w4.cell? ⟨g, 1, none⟩ = some (.int .u16 8) := (hW4.cell (p := ⟨g, 1, none⟩) hg).trans H3.out
  have hqw4 : q < w4.heap.size := Nat.lt_of_lt_of_le hq hW4.size
  have hgw4 : g < w4.heap.size := Nat.lt_of_lt_of_le hg hW4.size

  have n4 : ∃ g4 c4, v4 = .slice (some ⟨g4, 0, none⟩) 2 c4 ∧ w.heap.size ≤ g4 := by
    rcases hown4.2 with ⟨h, h'⟩ | ⟨g, cap, cur, h, h1, h2, h3, h4, h5, h6⟩
    · cases h'
    · exact ⟨g, cap, h, h1⟩
  have HO4 : Hid (w4.ownsRow w.heap.size 5 1 v4 2 [.int .u8 50, .int .u8 49]) := hown4
  obtain ⟨g4, c4, hv4, hg4⟩ := n4
  rw [hv4]
  rw [hv4] at HO4
  have Hv4 := Lib.hid hv4
  clear hown4 hv4 hgr4
  rw [rounds_succ]
  go_wp2_with fail
  refine wp_loop_rounds 2 ?_
  rw [rounds_succ]
  go_wp2_with fail
  refine (takes_end _ g cap).mono ?_
  rintro e w5 ⟨rfl, hB5⟩
  go_wp2_with fail
  rw [rounds_succ]
  have HO5 : Hid (w5.ownsRow w.heap.size 5 1 (.slice (some ⟨g4, 0, none⟩) 2 c4) 2 [.int .u8 50, .int .u8 49]) := HO4.out.kept_below ((ext_alloc (Below.refl _ _)).trans (hB5.mono (by simp)))
  have k0 : w5.cell? ⟨g4, 0, none⟩ = some (.int .u8 50) := HO5.out.cellAt 0 (by omega)
  have k1 : w5.cell? ⟨g4, 1, none⟩ = some (.int .u8 49) := HO5.out.cellAt 1 (by omega)
  have hload : (loadCells ⟨g4, 0, none⟩ 2).run Tryz.prog w5 = .ok (([50, 49] : List Int).map (Value.int .u8)).toArray w5 := by
    have := run_loadCells_list (P := Tryz.prog) w5 ⟨g4, 0, none⟩ [.int .u8 50, .int .u8 49] (fun j v hj => by
      match j, hj with
      | 0, hj => (simp at hj; subst hj; simpa [Addr.add] using k0)
      | 1, hj => (simp at hj; subst hj; simpa [Addr.add] using k1)
      | j + 2, hj => simp at hj)
    exact this
  have hconv : (convert 136 9 (.slice (some ⟨g4, 0, none⟩) 2 c4)).run Tryz.prog w5 = .ok (.string ⟨#[50, 49]⟩) w5 := by
    rw [run_convert_bytes_string w5 136 9 5 _ _ _ Tryz.underlying136 Tryz.underlying5 Tryz.underlying9, run_bytesToString w5 ⟨g4, 0, none⟩ 2 c4 [50, 49] hload]
    rfl
  have hW5 : Below w.heap.size w w5 := (by (try show Below _ _ _); repeat (with_reducible first | exact Below.refl _ _ | assumption | exact Hid.out (by assumption) | refine ext_alloc ?_ | refine ext_drewN ?_ | refine ext_drew ?_ | refine ext_setCell ?_ (Nat.le_refl _) | refine ext_setCell ?_ (Nat.le_succ _) | refine ext_trans ?_ (by assumption) | (refine ext_setCell ?_ (by simp)) | (refine ext_setCell ?_ (by simp at *; omega))))
  clear hload k0 k1
  go_wp2_with fail
  go_ret2
  exact ⟨rfl, hW5⟩

set_option maxRecDepth 100000 in
set_option maxHeartbeats 1000000 in
theorem least_ready (w : World) (ht : TabAt w) : Calls Tryz.prog 40 #[.string ⟨#[78, 49]⟩] w fun e w' => e = .returned (.tuple #[.string ⟨#[50, 49]⟩, .int .i64 0]) ∧ Below w.heap.size w w' := by
  have HT := Lib.hid ht
  clear ht
  go_enter Tryz.func40, Tryz.ntmps40
  go_wp2_with fail
  refine (read_N1 _).mono ?_
  rintro e w1 ⟨g, cap, rfl, hg, c0, c1, hB1⟩
  go_wp2_with fail
  refine (shared_N1 _ _ g cap ?_ ?_ ?_ ?_ ?_ ?_ ?_).mono ?_
  · simp
  · simp; omega
  · go_simp
  · go_simp
  · go_simp
  · go_simp
  · exact HT.out.below (ext_alloc (ext_alloc hB1))
  rintro e w2 ⟨rfl, hB2⟩
  go_wp2_with fail
  go_ret2
  exact ⟨rfl, (by (try show Below _ _ _); repeat (with_reducible first | exact Below.refl _ _ | assumption | exact Hid.out (by assumption) | refine ext_alloc ?_ | refine ext_drewN ?_ | refine ext_drew ?_ | refine ext_setCell ?_ (Nat.le_refl _) | refine ext_setCell ?_ (Nat.le_succ _) | refine ext_trans ?_ (by assumption) | (refine ext_setCell ?_ (by simp)) | (refine ext_setCell ?_ (by simp at *; omega))))⟩
end Go.Proofs.YtleagenhnchjdaaGreatDoor

namespace Go.Proofs.YtleagenhnchjdaaGreatDoor
open Go.RowKit
set_option linter.unusedVariables false

theorem within_q (n lo hi : Int) (w : World) (h1 : lo ≤ n) (h2 : n ≤ hi) :
    Calls Tryz.prog 165 #[.int .i64 n, .int .i64 lo, .int .i64 hi] w fun e w' => e = .returned (.bool true) ∧ w = w' := by
  go_enter Tryz.func165, Tryz.ntmps165
  go_wp2
  go_ret
  exact ⟨rfl, rfl⟩

def anAgent : Value := .agg #[.string ⟨#[97]⟩, .slice none 0 0, .int .i64 0, .int .i64 5, .slice none 0 0, .int .i64 0]

set_option maxHeartbeats 1000000 in
theorem checkAgent_one (w : World) :
    Calls Tryz.prog 119 #[anAgent] w fun e w' => e = .returned (.int .i64 0) ∧ Below w.heap.size w w' := by
  unfold anAgent
  go_enter Tryz.func119, Tryz.ntmps119
  go_wp2_with fail
  refine wp_loop_rounds 1 ?_
  rw [rounds_succ]
  go_wp2_with fail
  refine wp_loop_rounds 1 ?_
  rw [rounds_succ]
  go_wp2_with (go_at_call 165; refine (within_q _ _ _ _ (by omega) (by omega)).mono ?_; rintro e w' ⟨rfl, rfl⟩)
  go_ret
  exact ⟨rfl, (Below.refl _ _).alloc (Nat.le_refl _) _⟩

theorem isKey_a (w : World) : Calls Tryz.prog 49 #[.string ⟨#[97]⟩] w fun e w' => e = .returned (.bool true) ∧ Below w.heap.size w w' := isKey_any [97] w (by decide)

set_option maxHeartbeats 1000000 in
theorem checkAgents_one (w : World) (b : Nat) (hb : b < w.heap.size) (h0 : w.cell? ⟨b, 0, none⟩ = some (.string ⟨#[97]⟩)) (h1 : w.cell? ⟨b, 1, none⟩ = some (.slice none 0 0)) (h2 : w.cell? ⟨b, 2, none⟩ = some (.int .i64 0)) (h3 : w.cell? ⟨b, 3, none⟩ = some (.int .i64 5)) (h4 : w.cell? ⟨b, 4, none⟩ = some (.slice none 0 0)) (h5 : w.cell? ⟨b, 5, none⟩ = some (.int .i64 0)) :
    Calls Tryz.prog 86 #[.slice (some ⟨b, 0, none⟩) 1 1] w fun e w' => e = .returned (.int .i64 0) ∧ Below w.heap.size w w' := by
  go_enter Tryz.func86, Tryz.ntmps86
  go_wp2_with fail
  refine wp_loop_rounds 2 ?_
  rw [rounds_succ]
  go_wp2_with fail
  refine (isKey_a _).mono ?_
  rintro e w1 ⟨rfl, hB1⟩
  obtain ⟨hc, hf⟩ := bcell hB1
  go_wp2_with fail
  go_quiet (fail)
  go_wp2_with fail
  refine (checkAgent_one _).mono ?_
  rintro e w2 ⟨rfl, hB2⟩
  go_wp2_with fail
  rw [rounds_succ]
  go_wp2_with fail
  go_ret
  exact ⟨rfl, (by (try show Below _ _ _); repeat (with_reducible first | exact Below.refl _ _ | assumption | exact Hid.out (by assumption) | refine ext_alloc ?_ | refine ext_drewN ?_ | refine ext_drew ?_ | refine ext_setCell ?_ (Nat.le_refl _) | refine ext_setCell ?_ (Nat.le_succ _) | refine ext_trans ?_ (by assumption) | (refine ext_setCell ?_ (by simp)) | (refine ext_setCell ?_ (by simp at *; omega))))⟩

theorem present1_any (at_ f t : Int) (w : World) (b : Nat) (hb : b < w.heap.size) (hc : w.cell? ⟨b, 0, none⟩ = some (.int .i64 at_)) (h1 : f ≤ at_) (h2 : at_ < t) :
    Calls Tryz.prog 120 #[.agg #[.int .i64 f, .int .i64 t], .pointer (some ⟨b, 0, none⟩)] w fun e w' => e = .returned (.bool true) ∧ Below w.heap.size w w' := by
  go_enter Tryz.func120, Tryz.ntmps120
  go_wp2_with fail
  go_ret
  exact ⟨rfl, (by (try show Below _ _ _); repeat (with_reducible first | exact Below.refl _ _ | assumption | exact Hid.out (by assumption) | refine ext_alloc ?_ | refine ext_drewN ?_ | refine ext_drew ?_ | refine ext_setCell ?_ (Nat.le_refl _) | refine ext_setCell ?_ (Nat.le_succ _) | refine ext_trans ?_ (by assumption) | (refine ext_setCell ?_ (by simp)) | (refine ext_setCell ?_ (by simp at *; omega))))⟩

theorem containsFunc_nil (f : Value) (w : World) :
    Calls Tryz.prog 121 #[.slice none 0 0, f] w fun e w' => e = .returned (.bool false) ∧ w = w' := by
  go_enter Tryz.func121, Tryz.ntmps121
  go_wp2
  refine wp_loop_rounds 1 ?_
  rw [rounds_succ]
  go_wp2
  go_ret
  exact ⟨rfl, rfl⟩

set_option maxHeartbeats 1000000 in
theorem present_one (w : World) :
    Calls Tryz.prog 87 #[anAgent, .int .i64 4] w fun e w' => e = .returned (.bool true) ∧ Below w.heap.size w w' := by
  unfold anAgent
  go_enter Tryz.func87, Tryz.ntmps87
  go_wp2_with fail
  refine (present1_any 4 0 5 _ (w.heap.size + 1) (by simp) (by simp) (by omega) (by omega)).mono ?_
  rintro e w1 ⟨rfl, hB1⟩
  obtain ⟨hc, hf⟩ := bcell hB1
  go_wp2_with fail
  refine (containsFunc_nil _ _).mono ?_
  rintro e w2 ⟨rfl, rfl⟩
  go_wp2_with fail
  go_ret
  exact ⟨rfl, (by (try show Below _ _ _); repeat (with_reducible first | exact Below.refl _ _ | assumption | exact Hid.out (by assumption) | refine ext_alloc ?_ | refine ext_drewN ?_ | refine ext_drew ?_ | refine ext_setCell ?_ (Nat.le_refl _) | refine ext_setCell ?_ (Nat.le_succ _) | refine ext_trans ?_ (by assumption) | (refine ext_setCell ?_ (by simp)) | (refine ext_setCell ?_ (by simp at *; omega))))⟩

set_option maxHeartbeats 1000000 in
theorem present_ready (w : World) :
    Calls Tryz.prog 41 #[anAgent, .int .i64 4] w fun e w' => e = .returned (.tuple #[.bool true, .int .i64 0]) ∧ Below w.heap.size w w' := by
  unfold anAgent
  go_enter Tryz.func41, Tryz.ntmps41
  go_wp2_with fail
  refine (checkAgents_one _ (w.heap.size + 1) (by simp) (by simp) (by simp) (by simp) (by simp) (by simp) (by simp)).mono ?_
  rintro e w1 ⟨rfl, hB1⟩
  obtain ⟨hc, hf⟩ := bcell hB1
  go_wp2_with fail
  refine (isMoment_any _ _).mono ?_
  rintro e w2 ⟨rfl, rfl⟩
  go_wp2_with fail
  refine (present_one _).mono ?_
  rintro e w3 ⟨rfl, hB3⟩
  go_wp2_with fail
  go_ret2
  exact ⟨rfl, (by (try show Below _ _ _); repeat (with_reducible first | exact Below.refl _ _ | assumption | exact Hid.out (by assumption) | refine ext_alloc ?_ | refine ext_drewN ?_ | refine ext_drew ?_ | refine ext_setCell ?_ (Nat.le_refl _) | refine ext_setCell ?_ (Nat.le_succ _) | refine ext_trans ?_ (by assumption) | (refine ext_setCell ?_ (by simp)) | (refine ext_setCell ?_ (by simp at *; omega))))⟩
end Go.Proofs.YtleagenhnchjdaaGreatDoor

namespace Go.Proofs.YtleagenhnchjdaaGreatDoor
open Go.RowKit
set_option linter.unusedVariables false

theorem within_v (n lo hi : Int) (w : World) (h1 : lo ≤ n) (h2 : n ≤ hi) :
    Calls Tryz.prog 89 #[.int .i64 n, .int .i64 lo, .int .i64 hi] w fun e w' => e = .returned (.bool true) ∧ w = w' := by
  go_enter Tryz.func89, Tryz.ntmps89
  go_wp2
  go_ret
  exact ⟨rfl, rfl⟩

theorem isKey_b (w : World) : Calls Tryz.prog 49 #[.string ⟨#[98]⟩] w fun e w' => e = .returned (.bool true) ∧ Below w.heap.size w w' := isKey_any [98] w (by decide)
theorem isKey_m (w : World) : Calls Tryz.prog 49 #[.string ⟨#[109]⟩] w fun e w' => e = .returned (.bool true) ∧ Below w.heap.size w w' := isKey_any [109] w (by decide)

def aBox : Value := .agg #[.string ⟨#[98]⟩, .int .i64 1, .int .i64 1, .int .i64 0, .int .i64 0, .slice none 0 0, .bool false, .int .i64 0, .int .i64 0]
def aMess : Value := .agg #[.string ⟨#[109]⟩, .string ⟨#[]⟩, .int .i64 0, .int .i64 1, .int .i64 1, .int .i64 0]

set_option maxHeartbeats 1000000 in
theorem checkBox_one (w : World) :
    Calls Tryz.prog 122 #[aBox] w fun e w' => e = .returned (.int .i64 0) ∧ Below w.heap.size w w' := by
  unfold aBox
  go_enter Tryz.func122, Tryz.ntmps122
  go_wp2_with (go_at_call 89; refine (within_v _ _ _ _ (by omega) (by omega)).mono ?_; rintro e w' ⟨rfl, rfl⟩)
  refine wp_loop_rounds 1 ?_
  rw [rounds_succ]
  go_wp2_with (go_at_call 89; refine (within_v _ _ _ _ (by omega) (by omega)).mono ?_; rintro e w' ⟨rfl, rfl⟩)
  go_ret
  exact ⟨rfl, (by (try show Below _ _ _); repeat (with_reducible first | exact Below.refl _ _ | assumption | exact Hid.out (by assumption) | refine ext_alloc ?_ | refine ext_drewN ?_ | refine ext_drew ?_ | refine ext_setCell ?_ (Nat.le_refl _) | refine ext_setCell ?_ (Nat.le_succ _) | refine ext_trans ?_ (by assumption) | (refine ext_setCell ?_ (by simp)) | (refine ext_setCell ?_ (by simp at *; omega))))⟩

set_option maxHeartbeats 1000000 in
theorem checkBoxes_one (w : World) (b : Nat) (hb : b < w.heap.size) (h0 : w.cell? ⟨b, 0, none⟩ = some (.string ⟨#[98]⟩)) (h1 : w.cell? ⟨b, 1, none⟩ = some (.int .i64 1)) (h2 : w.cell? ⟨b, 2, none⟩ = some (.int .i64 1)) (h3 : w.cell? ⟨b, 3, none⟩ = some (.int .i64 0)) (h4 : w.cell? ⟨b, 4, none⟩ = some (.int .i64 0)) (h5 : w.cell? ⟨b, 5, none⟩ = some (.slice none 0 0)) (h6 : w.cell? ⟨b, 6, none⟩ = some (.bool false)) (h7 : w.cell? ⟨b, 7, none⟩ = some (.int .i64 0)) (h8 : w.cell? ⟨b, 8, none⟩ = some (.int .i64 0)) :
    Calls Tryz.prog 88 #[.slice (some ⟨b, 0, none⟩) 1 1] w fun e w' => e = .returned (.int .i64 0) ∧ Below w.heap.size w w' := by
  go_enter Tryz.func88, Tryz.ntmps88
  go_wp2_with fail
  refine wp_loop_rounds 2 ?_
  rw [rounds_succ]
  go_wp2_with fail
  refine (isKey_b _).mono ?_
  rintro e w1 ⟨rfl, hB1⟩
  obtain ⟨hc, hf⟩ := bcell hB1
  go_wp2_with fail
  go_quiet (fail)
  go_wp2_with fail
  refine (checkBox_one _).mono ?_
  rintro e w2 ⟨rfl, hB2⟩
  go_wp2_with fail
  rw [rounds_succ]
  go_wp2_with fail
  go_ret
  exact ⟨rfl, (by (try show Below _ _ _); repeat (with_reducible first | exact Below.refl _ _ | assumption | exact Hid.out (by assumption) | refine ext_alloc ?_ | refine ext_drewN ?_ | refine ext_drew ?_ | refine ext_setCell ?_ (Nat.le_refl _) | refine ext_setCell ?_ (Nat.le_succ _) | refine ext_trans ?_ (by assumption) | (refine ext_setCell ?_ (by simp)) | (refine ext_setCell ?_ (by simp at *; omega))))⟩

set_option maxHeartbeats 1000000 in
theorem ends_one (w : World) : Calls Tryz.prog 90 #[aBox, aMess] w fun e w' => e = .returned (.int .i64 86400000) ∧ Below w.heap.size w w' := by
  unfold aBox aMess
  go_enter Tryz.func90, Tryz.ntmps90
  go_wp2_with fail
  go_ret
  exact ⟨rfl, (by (try show Below _ _ _); repeat (with_reducible first | exact Below.refl _ _ | assumption | exact Hid.out (by assumption) | refine ext_alloc ?_ | refine ext_drewN ?_ | refine ext_drew ?_ | refine ext_setCell ?_ (Nat.le_refl _) | refine ext_setCell ?_ (Nat.le_succ _) | refine ext_trans ?_ (by assumption) | (refine ext_setCell ?_ (by simp)) | (refine ext_setCell ?_ (by simp at *; omega))))⟩

set_option maxHeartbeats 2000000 in
theorem ends_ready (w : World) : Calls Tryz.prog 42 #[aBox, aMess] w fun e w' => e = .returned (.tuple #[.int .i64 86400000, .int .i64 0]) ∧ Below w.heap.size w w' := by
  unfold aBox aMess
  go_enter Tryz.func42, Tryz.ntmps42
  go_wp2_with fail
  refine (checkBoxes_one _ _ ?_ ?_ ?_ ?_ ?_ ?_ ?_ ?_ ?_ ?_).mono ?_
  iterate 10 (focus (first | (simp; done) | (go_simp; done)))
  rintro e w1 ⟨rfl, hB1⟩
  obtain ⟨hc, hf⟩ := bcell hB1
  go_wp2_with fail
  refine (isKey_m _).mono ?_
  rintro e w2 ⟨rfl, hB2⟩
  obtain ⟨hc2, hf2⟩ := bcell hB2
  have hz0 : w.heap.size < w1.heap.size := by have := hB1.size; simp at this; omega
  have hz1 : w.heap.size + 1 < w1.heap.size := by have := hB1.size; simp at this; omega
  go_wp2_with (first | (go_at_call 50; refine (isMoment_any _ _).mono ?_; rintro e w' ⟨rfl, rfl⟩) | (go_at_call 89; refine (within_v _ _ _ _ (by omega) (by omega)).mono ?_; rintro e w' ⟨rfl, rfl⟩))
  refine (ends_one _).mono ?_
  rintro e w3 ⟨rfl, hB3⟩
  go_wp2_with fail
  go_ret2
  exact ⟨rfl, (by (try show Below _ _ _); repeat (with_reducible first | exact Below.refl _ _ | assumption | exact Hid.out (by assumption) | refine ext_alloc ?_ | refine ext_drewN ?_ | refine ext_drew ?_ | refine ext_setCell ?_ (Nat.le_refl _) | refine ext_setCell ?_ (Nat.le_succ _) | refine ext_trans ?_ (by assumption) | (refine ext_setCell ?_ (by simp)) | (refine ext_setCell ?_ (by simp at *; omega))))⟩
end Go.Proofs.YtleagenhnchjdaaGreatDoor

namespace Go.Proofs.YtleagenhnchjdaaGreatDoor
open Go.RowKit
set_option linter.unusedVariables false

structure Cls where
  pre : List UInt8
  name : List UInt8
  setup : Int
  first : Int
  step : Int
  rate : Int

def Cls.cells (c : Cls) : List Value := [.string ⟨c.pre.toArray⟩, .string ⟨c.name.toArray⟩, .int .i64 c.setup, .int .i64 c.first, .int .i64 c.step, .int .i64 c.rate]
def noCls : Cls := ⟨[], [], 0, 0, 0, 0⟩

/-- A slice of classes that lies in memory. -/
def ClsRow (w : World) (a : Option Addr) (n : Nat) (cs : List Cls) : Prop :=
  n = cs.length ∧ n ≤ 200 ∧ (n = 0 ∨ ∃ b off, a = some ⟨b, off, none⟩ ∧ b < w.heap.size ∧ ∀ i, i < n → ∀ j, j < 6 → w.cell? ⟨b, off + i * 6 + j, none⟩ = (cs.getD i noCls).cells[j]?)

theorem ClsRow.below {w w' : World} {a : Option Addr} {n : Nat} {cs : List Cls} (h : ClsRow w a n cs) (hb : Below w.heap.size w w') : ClsRow w' a n cs := by
  obtain ⟨h1, h2, h3⟩ := h
  refine ⟨h1, h2, h3.imp id ?_⟩
  rintro ⟨b, off, ha, hl, hc⟩
  exact ⟨b, off, ha, Nat.lt_of_lt_of_le hl hb.size, fun i hi j hj => (hb.cell (p := ⟨b, off + i * 6 + j, none⟩) hl).trans (hc i hi j hj)⟩

/-- A slice of strings that lies in memory. -/
def StrRow (w : World) (a : Option Addr) (n : Nat) (ss : List (List UInt8)) : Prop :=
  n = ss.length ∧ n ≤ 200 ∧ (n = 0 ∨ ∃ b off, a = some ⟨b, off, none⟩ ∧ b < w.heap.size ∧ ∀ i, i < n → w.cell? ⟨b, off + i, none⟩ = some (.string ⟨(ss.getD i []).toArray⟩))

theorem StrRow.below {w w' : World} {a : Option Addr} {n : Nat} {ss : List (List UInt8)} (h : StrRow w a n ss) (hb : Below w.heap.size w w') : StrRow w' a n ss := by
  obtain ⟨h1, h2, h3⟩ := h
  refine ⟨h1, h2, h3.imp id ?_⟩
  rintro ⟨b, off, ha, hl, hc⟩
  exact ⟨b, off, ha, Nat.lt_of_lt_of_le hl hb.size, fun i hi => (hb.cell (p := ⟨b, off + i, none⟩) hl).trans (hc i hi)⟩

theorem within_a (n lo hi : Int) (w : World) (h1 : lo ≤ n) (h2 : n ≤ hi) :
    Calls Tryz.prog 57 #[.int .i64 n, .int .i64 lo, .int .i64 hi] w fun e w' => e = .returned (.bool true) ∧ w = w' := by
  go_enter Tryz.func57, Tryz.ntmps57
  go_wp2
  go_ret
  exact ⟨rfl, rfl⟩

/-- What the numbers of a class may begin with. -/
def isPreB (l : List UInt8) : Bool := l.isEmpty || (Lib.hasPrefix l [43] && (decide ((Lib.trimPrefix l [43]).length ≤ 15) && allIn (Lib.trimPrefix l [43]) digitSet))

theorem isPrefix_any (l : List UInt8) (w : World) (hs : l.length ≤ 9223372036854775807) :
    Calls Tryz.prog 114 #[.string ⟨l.toArray⟩] w fun e w' => e = .returned (.bool (isPreB l)) ∧ Below w.heap.size w w' := by
  have hcon := Tryz.strings_CutPrefix ⟨l.toArray⟩ ⟨#[43]⟩ w
  have hle : (Lib.trimPrefix l [43]).length ≤ l.length := by unfold Lib.trimPrefix; split <;> simp
  have hd : Hid (isPreB l = (l.isEmpty || (Lib.hasPrefix l [43] && (decide ((Lib.trimPrefix l [43]).length ≤ 15) && (Lib.trimS (Lib.trimPrefix l [43]) digitSet).isEmpty)))) := by rfl
  change Calls _ _ _ w fun e w' => e = .returned (.tuple #[.string ⟨(Lib.trimPrefix l [43]).toArray⟩, .bool (Lib.hasPrefix l [43])]) ∧ w' = w at hcon
  generalize Lib.trimPrefix l [43] = d at hcon hd hle
  generalize Lib.hasPrefix l [43] = b at hcon hd
  have hcon2 := fun w => trim_digits ⟨d.toArray⟩ w (by show d.length ≤ _; omega)
  change ∀ w, Calls _ _ _ w fun e w' => e = .returned (.string ⟨(Lib.trimS d digitSet).toArray⟩) ∧ Below w.heap.size w w' at hcon2
  generalize Lib.trimS d digitSet = r at hcon2 hd
  cases hl : l with
  | nil =>
    subst hl
    cases b <;>
    · go_enter Tryz.func114, Tryz.ntmps114
      go_wp2_with (first | (go_at_call 93; refine hcon.mono ?_; rintro e w' ⟨rfl, rfl⟩) | (go_at_call 95; refine (hcon2 _).mono ?_; rintro e w' ⟨rfl, hB⟩))
      go_ret
      exact ⟨by rw [hd.out]; rfl, Below.refl _ _⟩
  | cons c l' =>
    rw [hl] at hcon hd
    have hne : (c :: l').isEmpty = false := rfl
    cases b with
    | false =>
      go_enter Tryz.func114, Tryz.ntmps114
      go_wp2_with (first | (go_at_call 93; refine hcon.mono ?_; rintro e w' ⟨rfl, rfl⟩) | (go_at_call 95; refine (hcon2 _).mono ?_; rintro e w' ⟨rfl, hB⟩))
      go_ret
      exact ⟨by rw [hd.out]; rfl, Below.refl _ _⟩
    | true =>
      by_cases h15 : d.length ≤ 15
      · go_enter Tryz.func114, Tryz.ntmps114
        go_wp2_with (first | (go_at_call 93; refine hcon.mono ?_; rintro e w' ⟨rfl, rfl⟩) | (go_at_call 95; refine (hcon2 _).mono ?_; rintro e w' ⟨rfl, hB⟩))
        go_ret
        exact ⟨by rw [hd.out, decide_eq_true h15]; rfl, hB⟩
      · go_enter Tryz.func114, Tryz.ntmps114
        go_wp2_with (first | (go_at_call 93; refine hcon.mono ?_; rintro e w' ⟨rfl, rfl⟩) | (go_at_call 95; refine (hcon2 _).mono ?_; rintro e w' ⟨rfl, hB⟩))
        go_ret
        exact ⟨by rw [hd.out, decide_eq_false (by omega)]; rfl, Below.refl _ _⟩

structure GoodCls (c : Cls) : Prop where
  pre : isPreB c.pre = true
  preLen : c.pre.length ≤ 1000
  name : isKeyB c.name = true
  nameLen : c.name.length ≤ 1000
  setup0 : 0 ≤ c.setup
  setup1 : c.setup ≤ 1000000
  rate0 : 0 ≤ c.rate
  rate1 : c.rate ≤ 1000000
  first0 : 0 ≤ c.first
  first1 : c.first ≤ 86400000
  step0 : 1 ≤ c.step
  step1 : c.step ≤ 86400000

theorem cls_cells {w : World} {b off i : Nat} {c : Cls} (h : ∀ j, j < 6 → w.cell? ⟨b, off + i * 6 + j, none⟩ = c.cells[j]?) :
    w.cell? ⟨b, off + i * 6, none⟩ = some (.string ⟨c.pre.toArray⟩) ∧ w.cell? ⟨b, off + i * 6 + 1, none⟩ = some (.string ⟨c.name.toArray⟩) ∧ w.cell? ⟨b, off + i * 6 + 2, none⟩ = some (.int .i64 c.setup) ∧ w.cell? ⟨b, off + i * 6 + 3, none⟩ = some (.int .i64 c.first) ∧ w.cell? ⟨b, off + i * 6 + 4, none⟩ = some (.int .i64 c.step) ∧ w.cell? ⟨b, off + i * 6 + 5, none⟩ = some (.int .i64 c.rate) :=
  ⟨h 0 (by omega), h 1 (by omega), h 2 (by omega), h 3 (by omega), h 4 (by omega), h 5 (by omega)⟩

set_option maxHeartbeats 1000000 in
theorem checkTariff_ok (w : World) (a : Option Addr) (n cap : Nat) (cs : List Cls) (free : Int) (a2 : Option Addr) (n2 cap2 : Nat) (ss : List (List UInt8))
    (hr : ClsRow w a n cs) (hg : ∀ i, i < n → GoodCls (cs.getD i noCls)) (ho : ∀ i, 0 < i → i < n → leS (cs.getD i noCls).pre (cs.getD (i - 1) noCls).pre = false) (hs : StrRow w a2 n2 ss) (hi : ∀ i, i < n2 → isKeyB (ss.getD i []) = true ∧ (ss.getD i []).length ≤ 1000) (ho2 : ∀ i, 0 < i → i < n2 → leS (ss.getD i []) (ss.getD (i - 1) []) = false) (hf0 : 0 ≤ free) (hf1 : free ≤ 2592000000) :
    Calls Tryz.prog 78 #[.agg #[.slice a n cap, .int .i64 free, .slice a2 n2 cap2]] w fun e w' => e = .returned (.int .i64 0) ∧ Below w.heap.size w w' := by
  obtain ⟨hn, hn2, hr⟩ := hr
  have Hg := Lib.hid hg
  have Hr := Lib.hid hr
  have Hn := Lib.hid hn
  have Ho := Lib.hid ho
  have Hi := Lib.hid hi
  have Ho2 := Lib.hid ho2
  clear hg hr hn ho hi ho2
  obtain ⟨hn3, hn4, hs⟩ := hs
  have Hn3 := Lib.hid hn3
  have Hs := Lib.hid hs
  clear hs hn3
  go_enter Tryz.func78, Tryz.ntmps78
  go_wp2_with fail
  go_loopw [14] (fun i wr => ∃ k : Nat, k ≤ n ∧ i = .int .i64 k ∧ Hid (Below (w.alloc (.cells #[.slice a n cap, .int .i64 free, .slice a2 n2 cap2] 29)).heap.size (w.alloc (.cells #[.slice a n cap, .int .i64 free, .slice a2 n2 cap2] 29)) wr)) (fun i _ => n - (intOf i).toNat)
  case atStart => exact ⟨0, Nat.zero_le _, rfl, Below.refl _ _⟩
  case round =>
    obtain ⟨k, hk, rfl, HB⟩ := hrel
    by_cases hlt : k < n
    · have g := Hg.out k hlt
      rcases Hr.out with h0 | ⟨b, off, rfl, hb, hc⟩
      · omega
      have hbw : Below w.heap.size w wr := ext_trans (ext_alloc (Below.refl _ _)) HB.out
      obtain ⟨c0, c1, c2, c3, c4, c5⟩ := cls_cells (w := wr) (fun j hj => (hbw.cell (p := ⟨b, off + k * 6 + j, none⟩) hb).trans (hc k hlt j hj))
      have x0 : wr.cell? ⟨w.heap.size, 0, none⟩ = some (.slice (some ⟨b, off, none⟩) n cap) := (HB.out.cell (p := ⟨w.heap.size, 0, none⟩) (by simp)).trans (by simp)
      have zr : w.heap.size < wr.heap.size := by have := HB.out.size; simp at this; omega
      have zb : b < wr.heap.size := by omega
      have HX : Hid (∀ j, 0 < k → j < 6 → wr.cell? ⟨b, off + (k - 1) * 6 + j, none⟩ = (cs.getD (k - 1) noCls).cells[j]?) := fun j h0 hj => (hbw.cell (p := ⟨b, off + (k - 1) * 6 + j, none⟩) hb).trans (hc (k - 1) (by omega) j hj)
      have HO : Hid (0 < k → leS (cs.getD k noCls).pre (cs.getD (k - 1) noCls).pre = false) := fun h => Ho.out k h hlt
      clear hc Hr
      generalize cs.getD k noCls = cl at g c0 c1 c2 c3 c4 c5 HO
      generalize cs.getD (k - 1) noCls = pv at HX HO
      go_wp2_with fail
      refine (isPrefix_any _ _ (by have := g.preLen; omega)).mono ?_
      rw [g.pre]
      rintro e w1 ⟨rfl, hB1⟩
      obtain ⟨q1, -⟩ := bcell hB1
      go_wp2_with fail
      refine (isKey_any _ _ (by have := g.nameLen; omega)).mono ?_
      rw [g.name]
      rintro e w2 ⟨rfl, hB2⟩
      obtain ⟨q2, -⟩ := bcell hB2
      have z1 : wr.heap.size < w1.heap.size := by have := hB1.size; simp at this; omega
      have zb1 : b < w1.heap.size := by omega
      have zw1 : w.heap.size < w1.heap.size := by omega
      obtain ⟨g1, g2, g3, g4, g5, g6, g7, g8, g9, g10, g11, g12⟩ := g
      clear g1 g3
      go_wp2_with (go_at_call 57; refine (within_a _ _ _ _ (by omega) (by omega)).mono ?_; rintro e w' ⟨rfl, rfl⟩)
      by_cases hk0 : k = 0
      · subst hk0
        go_quiet (fail)
        go_wp2_with fail
        go_roundw
        case rel => exact ⟨1, by omega, rfl, (by (try show Below _ _ _); repeat (with_reducible first | exact Below.refl _ _ | assumption | exact Hid.out (by assumption) | refine ext_alloc ?_ | refine ext_drewN ?_ | refine ext_drew ?_ | refine ext_setCell ?_ (Nat.le_refl _) | refine ext_setCell ?_ (Nat.le_succ _) | refine ext_trans ?_ (by assumption) | (refine ext_setCell ?_ (by simp)) | (refine ext_setCell ?_ (by simp at *; omega))))⟩
        case measure => simp [intOf]; omega
      · have p0 : wr.cell? ⟨b, off + (k - 1) * 6, none⟩ = some (.string ⟨pv.pre.toArray⟩) := HX.out 0 (by omega) (by omega)
        have kp : (0 : Int) < (k : Int) := by omega
        have kp2 : 0 < k := by omega
        have kq : ((k : Int) - 1).toNat = k - 1 := by omega
        have kr : 0 ≤ (k : Int) - 1 := by omega
        have ks : (k : Int) - 1 < n := by omega
        obtain ⟨o1, o2⟩ := leS_false (HO.out kp2)
        go_quiet (fail)
        go_wp2_with fail
        go_roundw
        case rel => exact ⟨k + 1, by omega, by go_num, (by (try show Below _ _ _); repeat (with_reducible first | exact Below.refl _ _ | assumption | exact Hid.out (by assumption) | refine ext_alloc ?_ | refine ext_drewN ?_ | refine ext_drew ?_ | refine ext_setCell ?_ (Nat.le_refl _) | refine ext_setCell ?_ (Nat.le_succ _) | refine ext_trans ?_ (by assumption) | (refine ext_setCell ?_ (by simp)) | (refine ext_setCell ?_ (by simp at *; omega))))⟩
        case measure => simp [intOf]; omega
    · obtain ⟨wo, rfl⟩ : ∃ wo : World, wo = wr := ⟨_, rfl⟩
      have x1 : wo.cell? ⟨w.heap.size, 1, none⟩ = some (.int .i64 free) := (HB.out.cell (p := ⟨w.heap.size, 1, none⟩) (by simp)).trans (by simp)
      have x2 : wo.cell? ⟨w.heap.size, 2, none⟩ = some (.slice a2 n2 cap2) := (HB.out.cell (p := ⟨w.heap.size, 2, none⟩) (by simp)).trans (by simp)
      go_wp2_with (go_at_call 57; refine (within_a _ _ _ _ (by omega) (by omega)).mono ?_; rintro e w' ⟨rfl, rfl⟩)
      go_loopw [79] (fun i wr => ∃ k : Nat, k ≤ n2 ∧ i = .int .i64 k ∧ Hid (Below (w.alloc (.cells #[.slice a n cap, .int .i64 free, .slice a2 n2 cap2] 29)).heap.size (w.alloc (.cells #[.slice a n cap, .int .i64 free, .slice a2 n2 cap2] 29)) wr)) (fun i _ => n2 - (intOf i).toNat)
      case atStart => exact ⟨0, Nat.zero_le _, rfl, HB⟩
      case round =>
        obtain ⟨k, hk, rfl, HB⟩ := hrel
        have hbw : Below w.heap.size w wr := ext_trans (ext_alloc (Below.refl _ _)) HB.out
        have x2 : wr.cell? ⟨w.heap.size, 2, none⟩ = some (.slice a2 n2 cap2) := (HB.out.cell (p := ⟨w.heap.size, 2, none⟩) (by simp)).trans (by simp)
        have zr : w.heap.size < wr.heap.size := by have := HB.out.size; simp at this; omega
        by_cases hlt : k < n2
        · obtain ⟨g1, g2⟩ := Hi.out k hlt
          rcases Hs.out with h0 | ⟨b, off, rfl, hb, hc⟩
          · omega
          have zb : b < wr.heap.size := by omega
          have c0 := (hbw.cell (p := ⟨b, off + k, none⟩) hb).trans (hc k hlt)
          have HX : Hid (0 < k → wr.cell? ⟨b, off + (k - 1), none⟩ = some (.string ⟨(ss.getD (k - 1) []).toArray⟩)) := fun h0 => (hbw.cell (p := ⟨b, off + (k - 1), none⟩) hb).trans (hc (k - 1) (by omega))
          have HO : Hid (0 < k → leS (ss.getD k []) (ss.getD (k - 1) []) = false) := fun h => Ho2.out k h hlt
          clear hc Hs
          generalize ss.getD k [] = cl at g1 g2 c0 HO
          generalize ss.getD (k - 1) [] = pv at HX HO
          go_wp2_with fail
          refine (isKey_any _ _ (by omega)).mono ?_
          rw [g1]
          rintro e w2 ⟨rfl, hB2⟩
          obtain ⟨q2, -⟩ := bcell hB2
          clear g1
          by_cases hk0 : k = 0
          · subst hk0
            go_wp2_with fail
            go_roundw
            case rel => exact ⟨1, by omega, rfl, (by (try show Below _ _ _); repeat (with_reducible first | exact Below.refl _ _ | assumption | exact Hid.out (by assumption) | refine ext_alloc ?_ | refine ext_drewN ?_ | refine ext_drew ?_ | refine ext_setCell ?_ (Nat.le_refl _) | refine ext_setCell ?_ (Nat.le_succ _) | refine ext_trans ?_ (by assumption) | (refine ext_setCell ?_ (by simp)) | (refine ext_setCell ?_ (by simp at *; omega))))⟩
            case measure => simp [intOf]; omega
          · have p0 := HX.out (by omega)
            have kp : (0 : Int) < (k : Int) := by omega
            have kp2 : 0 < k := by omega
            have kq : ((k : Int) - 1).toNat = k - 1 := by omega
            have kr : 0 ≤ (k : Int) - 1 := by omega
            have ks : (k : Int) - 1 < n2 := by omega
            obtain ⟨o1, o2⟩ := leS_false (HO.out kp2)
            go_wp2_with fail
            go_roundw
            case rel => exact ⟨k + 1, by omega, by go_num, (by (try show Below _ _ _); repeat (with_reducible first | exact Below.refl _ _ | assumption | exact Hid.out (by assumption) | refine ext_alloc ?_ | refine ext_drewN ?_ | refine ext_drew ?_ | refine ext_setCell ?_ (Nat.le_refl _) | refine ext_setCell ?_ (Nat.le_succ _) | refine ext_trans ?_ (by assumption) | (refine ext_setCell ?_ (by simp)) | (refine ext_setCell ?_ (by simp at *; omega))))⟩
            case measure => simp [intOf]; omega
        · go_wp2_with fail
          go_ret
          exact ⟨rfl, hbw⟩
end Go.Proofs.YtleagenhnchjdaaGreatDoor

namespace Go.Proofs.YtleagenhnchjdaaGreatDoor
open Go.RowKit
set_option linter.unusedVariables false

/-- The classes are in order, each before the next. -/
def Sorted (cs : List Cls) : Prop := ∀ i, 0 < i → i < cs.length → leS (cs.getD i noCls).pre (cs.getD (i - 1) noCls).pre = false

theorem Sorted.lt {cs : List Cls} (h : Sorted cs) : ∀ (i d : Nat), i + (d + 1) < cs.length → Op.bytesLess (cs.getD i noCls).pre (cs.getD (i + (d + 1)) noCls).pre = true
  | i, 0, hi => by have := h (i + 1) (by omega) hi; exact less_of_leS this
  | i, d + 1, hi => by
    have h1 := Sorted.lt h i d (by omega)
    have h2 := less_of_leS (h (i + (d + 1) + 1) (by omega) (by omega))
    exact less_trans h1 h2

theorem Sorted.lt' {cs : List Cls} (h : Sorted cs) {i j : Nat} (hij : i < j) (hj : j < cs.length) : Op.bytesLess (cs.getD i noCls).pre (cs.getD j noCls).pre = true := by
  have := h.lt i (j - i - 1) (by omega)
  rwa [show i + (j - i - 1 + 1) = j by omega] at this

def cmpAt (cs : List Cls) (t : List UInt8) (i : Nat) : Int := Lib.compareBytes (cs.getD i noCls).pre t

theorem cmpAt_mono {cs : List Cls} (h : Sorted cs) {t : List UInt8} {i j : Nat} (hij : i ≤ j) (hj : j < cs.length) (hc : cmpAt cs t j < 0) : cmpAt cs t i < 0 := by
  rcases Nat.lt_or_eq_of_le hij with h' | rfl
  · unfold cmpAt at hc ⊢
    rw [cmp_neg] at hc ⊢
    exact less_trans (h.lt' h' hj) hc
  · exact hc

def findPre (cs : List Cls) (t : List UInt8) : Option Cls := cs.find? (fun c => c.pre == t)

theorem find_hit {cs : List Cls} (h : Sorted cs) {t : List UInt8} {i : Nat} (hi : i < cs.length) (hc : cmpAt cs t i = 0) : findPre cs t = some (cs.getD i noCls) := by
  unfold cmpAt at hc
  rw [cmp_zero] at hc
  unfold findPre
  rw [List.find?_eq_some_iff_getElem]
  have e : cs.getD i noCls = cs[i] := by simp [List.getD_eq_getElem?_getD, List.getElem?_eq_getElem hi]
  refine ⟨by simpa using hc, i, hi, e.symm, fun j hj => ?_⟩
  have e2 : cs.getD j noCls = cs[j] := by simp [List.getD_eq_getElem?_getD, List.getElem?_eq_getElem (Nat.lt_trans hj hi)]
  have := h.lt' hj hi
  rw [hc, e2] at this
  simp only [Bool.not_eq_true', beq_eq_false_iff_ne]
  intro e3
  rw [e3, less_irrefl] at this
  cases this

theorem find_miss {cs : List Cls} (h : Sorted cs) {t : List UInt8} {i : Nat} (hi : i ≤ cs.length) (h1 : ∀ m, m < i → cmpAt cs t m < 0) (h2 : ∀ m, i ≤ m → m < cs.length → ¬ cmpAt cs t m < 0) (h3 : i < cs.length → cmpAt cs t i ≠ 0) : findPre cs t = none := by
  unfold findPre
  rw [List.find?_eq_none]
  intro c hc hp
  obtain ⟨j, hj, rfl⟩ := List.getElem_of_mem hc
  have e : cs.getD j noCls = cs[j] := by simp [List.getD_eq_getElem?_getD, List.getElem?_eq_getElem hj]
  have hp' : cs[j].pre = t := by simpa using hp
  have hz : cmpAt cs t j = 0 := by unfold cmpAt; rw [cmp_zero, e]; exact hp'
  by_cases hji : j < i
  · have := h1 j hji; omega
  · by_cases hje : j = i
    · subst hje; exact h3 hj hz
    · have hlt : i < j := by omega
      have := h2 i (Nat.le_refl _) (by omega)
      apply this
      unfold cmpAt
      rw [cmp_neg]
      have hl := h.lt' hlt hj
      rw [e, hp'] at hl
      exact hl

theorem cls1_any (p n t : List UInt8) (a b c d : Int) (w : World) :
    Calls Tryz.prog 80 #[.agg #[.string ⟨p.toArray⟩, .string ⟨n.toArray⟩, .int .i64 a, .int .i64 b, .int .i64 c, .int .i64 d], .string ⟨t.toArray⟩] w fun e w' => e = .returned (.int .i64 (Lib.compareBytes p t)) ∧ Below w.heap.size w w' := by
  have hcon := fun w => Tryz.strings_Compare ⟨p.toArray⟩ ⟨t.toArray⟩ w
  change ∀ w, Calls _ _ _ w fun e w' => e = .returned (.int .i64 (Lib.compareBytes p t)) ∧ w' = w at hcon
  generalize Lib.compareBytes p t = r at hcon ⊢
  go_enter Tryz.func80, Tryz.ntmps80
  go_wp2_with (go_at_call 81; refine (hcon _).mono ?_; rintro e w' ⟨rfl, rfl⟩)
  go_ret
  exact ⟨rfl, (by (try show Below _ _ _); repeat (with_reducible first | exact Below.refl _ _ | assumption | exact Hid.out (by assumption) | refine ext_alloc ?_ | refine ext_drewN ?_ | refine ext_drew ?_ | refine ext_setCell ?_ (Nat.le_refl _) | refine ext_setCell ?_ (Nat.le_succ _) | refine ext_trans ?_ (by assumption) | (refine ext_setCell ?_ (by simp)) | (refine ext_setCell ?_ (by simp at *; omega))))⟩

/-- What the search comes to. -/
def Found (cs : List Cls) (t : List UInt8) (n : Nat) (w : World) (e : Ending) (w' : World) : Prop :=
  Below w.heap.size w w' ∧ ((∃ i, i < n ∧ e = .returned (.tuple #[.int .i64 (i : Nat), .bool true]) ∧ findPre cs t = some (cs.getD i noCls)) ∨ ∃ i : Int, e = .returned (.tuple #[.int .i64 i, .bool false]) ∧ findPre cs t = none)

set_option maxHeartbeats 1000000 in
theorem search_any (w : World) (a : Option Addr) (n cap : Nat) (cs : List Cls) (t : List UInt8) (hr : ClsRow w a n cs) (ho : Sorted cs) :
    Calls Tryz.prog 79 #[.slice a n cap, .string ⟨t.toArray⟩, .func (.func 80) #[] #[]] w (Found cs t n w) := by
  obtain ⟨hn, hn2, hr⟩ := hr
  have Hn := Lib.hid hn
  have Hr := Lib.hid hr
  have Ho := Lib.hid ho
  clear hn hr ho
  go_enter Tryz.func79, Tryz.ntmps79
  go_wp2_with fail
  go_loopw [9, 10] (fun s9 s10 wr => ∃ i j : Nat, i ≤ j ∧ j ≤ n ∧ s9 = .int .i64 i ∧ s10 = .int .i64 j ∧ Hid (Below w.heap.size w wr) ∧ Hid (∀ m, m < i → cmpAt cs t m < 0) ∧ Hid (∀ m, j ≤ m → m < n → 0 ≤ cmpAt cs t m)) (fun s9 s10 _ => (intOf s10).toNat - (intOf s9).toNat)
  case atStart => exact ⟨0, n, Nat.zero_le _, Nat.le_refl _, rfl, rfl, Below.refl _ _, fun m hm => absurd hm (by omega), fun m h1 h2 => absurd h1 (by omega)⟩
  case round =>
    obtain ⟨i, j, hij, hjn, rfl, rfl, HB, HL, HU⟩ := hrel
    by_cases hlt : i < j
    · rcases Hr.out with h0 | ⟨b, off, rfl, hb, hc⟩
      · omega
      obtain ⟨c0, c1, c2, c3, c4, c5⟩ := cls_cells (w := wr) (fun q hq => (HB.out.cell (p := ⟨b, off + ((i + j) / 2) * 6 + q, none⟩) hb).trans (hc ((i + j) / 2) (by omega) q hq))
      have hcmp : Hid (cmpAt cs t ((i + j) / 2) = Lib.compareBytes (cs.getD ((i + j) / 2) noCls).pre t) := rfl
      clear hc Hr
      generalize cs.getD ((i + j) / 2) noCls = cl at c0 c1 c2 c3 c4 c5 hcmp
      go_wp2_with fail
      refine (cls1_any _ _ _ _ _ _ _ _).mono ?_
      rintro e w1 ⟨rfl, hB1⟩
      generalize Lib.compareBytes cl.pre t = r at hcmp
      by_cases hr0 : r < 0
      · go_wp2_with fail
        go_roundw
        case rel => exact ⟨(i + j) / 2 + 1, j, by omega, hjn, by go_num, rfl, ext_trans HB.out hB1, fun m hm => cmpAt_mono Ho.out (j := (i + j) / 2) (by omega) (by rw [← Hn.out]; omega) (by rw [hcmp.out]; exact hr0), HU⟩
        case measure => simp [intOf]; omega
      · go_wp2_with fail
        go_roundw
        case rel => exact ⟨i, (i + j) / 2, by omega, by omega, rfl, by go_num, ext_trans HB.out hB1, HL, fun m h1 h2 => Int.not_lt.1 (fun hm => absurd (show r < 0 by rw [← hcmp.out]; exact cmpAt_mono Ho.out h1 (by rw [← Hn.out]; exact h2) hm) (by omega))⟩
        case measure => simp [intOf]; omega
    · obtain rfl : i = j := by omega
      by_cases hin : i < n
      · rcases Hr.out with h0 | ⟨b, off, rfl, hb, hc⟩
        · omega
        obtain ⟨c0, c1, c2, c3, c4, c5⟩ := cls_cells (w := wr) (fun q hq => (HB.out.cell (p := ⟨b, off + i * 6 + q, none⟩) hb).trans (hc i hin q hq))
        have hcmp : Hid (cmpAt cs t i = Lib.compareBytes (cs.getD i noCls).pre t) := rfl
        have hin2 : (i : Int) < (n : Int) := by omega
        clear hc Hr
        generalize hcl : cs.getD i noCls = cl at c0 c1 c2 c3 c4 c5 hcmp
        have Hcl := Lib.hid hcl
        clear hcl
        go_wp2_with fail
        refine (cls1_any _ _ _ _ _ _ _ _).mono ?_
        rintro e w1 ⟨rfl, hB1⟩
        generalize Lib.compareBytes cl.pre t = r at hcmp
        by_cases hr0 : r = 0
        · subst hr0
          go_wp2_with fail
          go_ret2
          exact ⟨ext_trans HB.out hB1, Or.inl ⟨i, hin, rfl, find_hit Ho.out (by rw [← Hn.out]; exact hin) hcmp.out⟩⟩
        · have hr1 : (r == 0) = false := by simpa using hr0
          go_wp2_with fail
          go_ret2
          exact ⟨ext_trans HB.out hB1, Or.inr ⟨_, rfl, find_miss Ho.out (by rw [← Hn.out]; omega) HL.out (by rw [← Hn.out]; exact fun m h1 h2 => Int.not_lt.2 (HU.out m h1 h2)) (fun _ => by rw [hcmp.out]; exact hr0)⟩⟩
      · have hin2 : ¬ (i : Int) < (n : Int) := by omega
        go_wp2_with fail
        go_ret2
        exact ⟨HB.out, Or.inr ⟨_, rfl, find_miss Ho.out (by rw [← Hn.out]; omega) HL.out (by rw [← Hn.out]; exact fun m h1 h2 => Int.not_lt.2 (HU.out m h1 h2)) (fun h => absurd h (by rw [← Hn.out]; omega))⟩⟩

def FoundP (cs : List Cls) (t : List UInt8) (n : Nat) (i : Int) (f : Bool) : Prop := (f = true → ∃ m : Nat, m < n ∧ i = m ∧ findPre cs t = some (cs.getD m noCls)) ∧ (f = false → findPre cs t = none)
def Found2 (cs : List Cls) (t : List UInt8) (n : Nat) (w : World) (e : Ending) (w' : World) : Prop :=
  ∃ (i : Int) (f : Bool), e = .returned (.tuple #[.int .i64 i, .bool f]) ∧ Below w.heap.size w w' ∧ FoundP cs t n i f

theorem search_str (w : World) (a : Option Addr) (n cap : Nat) (cs : List Cls) (t : List UInt8) (s : ByteArray) (hs : s.data.toList = t) (hr : ClsRow w a n cs) (ho : Sorted cs) :
    Calls Tryz.prog 79 #[.slice a n cap, .string s, .func (.func 80) #[] #[]] w (Found2 cs t n w) := by
  have h := search_any w a n cap cs t hr ho
  have e : (⟨t.toArray⟩ : ByteArray) = s := by rw [← hs]
  rw [e] at h
  refine h.mono ?_
  rintro e w' ⟨hb, ⟨i, hi, rfl, hf⟩ | ⟨i, rfl, hf⟩⟩
  · exact ⟨_, _, rfl, hb, (fun _ => ⟨i, hi, rfl, hf⟩), (fun h => by cases h)⟩
  · exact ⟨_, _, rfl, hb, (fun h => by cases h), fun _ => hf⟩

theorem extract_take (l : List UInt8) (k : Nat) : ((⟨l.toArray⟩ : ByteArray).extract 0 k).data.toList = l.take k := by
  simp [ByteArray.extract, ByteArray.copySlice]

def priceI (c : Cls) (talk : Int) : Int := if talk = 0 then 0 else c.setup + c.rate * ((max 0 (talk - c.first) + c.step - 1) / c.step)

set_option maxHeartbeats 1000000 in
theorem price_any (c : Cls) (talk : Int) (w : World) (g : GoodCls c) (h0 : 0 ≤ talk) (h1 : talk ≤ 86400000) :
    Calls Tryz.prog 83 #[.agg #[.string ⟨c.pre.toArray⟩, .string ⟨c.name.toArray⟩, .int .i64 c.setup, .int .i64 c.first, .int .i64 c.step, .int .i64 c.rate], .int .i64 talk] w fun e w' => e = .returned (.int .i64 (priceI c talk)) ∧ Below w.heap.size w w' := by
  obtain ⟨g1, g2, g3, g4, g5, g6, g7, g8, g9, g10, g11, g12⟩ := g
  clear g1 g3
  have hd : Hid (priceI c talk = if talk = 0 then 0 else c.setup + c.rate * ((max 0 (talk - c.first) + c.step - 1) / c.step)) := rfl
  by_cases ht : talk = 0
  · subst ht
    go_enter Tryz.func83, Tryz.ntmps83
    go_wp2_with fail
    go_ret
    exact ⟨by rw [hd.out]; rfl, (by (try show Below _ _ _); repeat (with_reducible first | exact Below.refl _ _ | assumption | exact Hid.out (by assumption) | refine ext_alloc ?_ | refine ext_drewN ?_ | refine ext_drew ?_ | refine ext_setCell ?_ (Nat.le_refl _) | refine ext_setCell ?_ (Nat.le_succ _) | refine ext_trans ?_ (by assumption) | (refine ext_setCell ?_ (by simp)) | (refine ext_setCell ?_ (by simp at *; omega))))⟩
  · have ht2 : (talk == 0) = false := by simpa using ht
    go_enter Tryz.func83, Tryz.ntmps83
    go_wp2_with fail
    generalize hv : max 0 (talk - c.first) = v at hd
    have v0 : 0 ≤ v := by omega
    have v1 : v ≤ 86400000 := by omega
    clear hv
    have q0 : 0 ≤ (v + c.step - 1) / c.step := Int.ediv_nonneg (by omega) (by omega)
    have q1 : (v + c.step - 1) / c.step ≤ 172800000 := Int.ediv_le_of_le_mul (by omega) (by have : (172800000 : Int) * 1 ≤ 172800000 * c.step := Int.mul_le_mul_of_nonneg_left g11 (by omega); omega)
    have m0 : 0 ≤ c.rate * ((v + c.step - 1) / c.step) := Int.mul_nonneg g7 q0
    have m1 : c.rate * ((v + c.step - 1) / c.step) ≤ 1000000 * 172800000 := Int.mul_le_mul g8 q1 q0 (by omega)
    have w1 : IntKind.i64.wrap (v + c.step) = v + c.step := IntWalk.i64_in _ (by omega)
    have w2 : IntKind.i64.wrap (v + c.step - 1) = v + c.step - 1 := IntWalk.i64_in _ (by omega)
    have w3 : IntKind.i64.wrap (c.rate * ((v + c.step - 1) / c.step)) = c.rate * ((v + c.step - 1) / c.step) := IntWalk.i64_in _ (by omega)
    have w4 : IntKind.i64.wrap (c.setup + c.rate * ((v + c.step - 1) / c.step)) = c.setup + c.rate * ((v + c.step - 1) / c.step) := IntWalk.i64_in _ (by omega)
    have w5 : (v + c.step - 1).tdiv c.step = (v + c.step - 1) / c.step := Int.tdiv_eq_ediv_of_nonneg (by omega)
    have w6 : IntKind.i64.wrap ((v + c.step - 1) / c.step) = (v + c.step - 1) / c.step := IntWalk.i64_in _ (by omega)
    have w7 : ¬ c.step = 0 := by omega
    clear q0 q1 m0 m1
    go_quiet (fail)
    go_wp2_with fail
    go_ret
    exact ⟨by rw [hd.out, if_neg ht]; rfl, (by (try show Below _ _ _); repeat (with_reducible first | exact Below.refl _ _ | assumption | exact Hid.out (by assumption) | refine ext_alloc ?_ | refine ext_drewN ?_ | refine ext_drew ?_ | refine ext_setCell ?_ (Nat.le_refl _) | refine ext_setCell ?_ (Nat.le_succ _) | refine ext_trans ?_ (by assumption) | (refine ext_setCell ?_ (by simp)) | (refine ext_setCell ?_ (by simp at *; omega))))⟩

/-- The class of a number: that of the longest of its beginnings of at most k bytes. -/
def clsTo (cs : List Cls) (l : List UInt8) : Nat → Option Cls
  | 0 => findPre cs (l.take 0)
  | k + 1 => (findPre cs (l.take (k + 1))).or (clsTo cs l k)

def clsOf (cs : List Cls) (l : List UInt8) : Option Cls := clsTo cs l l.length

def ClsPost (cs : List Cls) (l : List UInt8) (w : World) (e : Ending) (w' : World) : Prop :=
  Below w.heap.size w w' ∧ ((∃ c ∈ cs, e = .returned (.tuple #[.agg #[.string ⟨c.pre.toArray⟩, .string ⟨c.name.toArray⟩, .int .i64 c.setup, .int .i64 c.first, .int .i64 c.step, .int .i64 c.rate], .bool true]) ∧ clsOf cs l = some c) ∨
    (e = .returned (.tuple #[.agg #[.string ⟨#[]⟩, .string ⟨#[]⟩, .int .i64 0, .int .i64 0, .int .i64 0, .int .i64 0], .bool false]) ∧ clsOf cs l = none))

set_option maxRecDepth 100000 in
set_option maxHeartbeats 1000000 in
theorem classOf_any (w : World) (a : Option Addr) (n cap : Nat) (cs : List Cls) (v1 v2 : Value) (l : List UInt8) (hr : ClsRow w a n cs) (ho : Sorted cs) (hl : l.length ≤ 1000) :
    Calls Tryz.prog 36 #[.agg #[.slice a n cap, v1, v2], .string ⟨l.toArray⟩] w (ClsPost cs l w) := by
  have Hr := Lib.hid hr
  have Ho := Lib.hid ho
  clear hr ho
  go_enter Tryz.func36, Tryz.ntmps36
  go_wp2_with fail
  go_loopw [6] (fun s6 wr => ∃ k : Nat, k ≤ l.length + 1 ∧ s6 = .int .i64 ((k : Int) - 1) ∧ Hid (Below ((w.alloc (.cells #[.slice a n cap, v1, v2] 29)).alloc (.cells #[.string ⟨#[]⟩, .string ⟨#[]⟩, .int .i64 0, .int .i64 0, .int .i64 0, .int .i64 0] 86)).heap.size ((w.alloc (.cells #[.slice a n cap, v1, v2] 29)).alloc (.cells #[.string ⟨#[]⟩, .string ⟨#[]⟩, .int .i64 0, .int .i64 0, .int .i64 0, .int .i64 0] 86)) wr) ∧ Hid (clsOf cs l = match k with | 0 => none | m + 1 => clsTo cs l m)) (fun s6 _ => ((intOf s6) + 1).toNat)
  case atStart => exact ⟨l.length + 1, Nat.le_refl _, by go_num, Below.refl _ _, rfl⟩
  case round =>
    obtain ⟨k, hk, rfl, HB, HC⟩ := hrel
    have hbw : Below w.heap.size w wr := ext_trans (ext_alloc (ext_alloc (Below.refl _ _))) HB.out
    have x0 : wr.cell? ⟨w.heap.size, 0, none⟩ = some (.slice a n cap) := (HB.out.cell (p := ⟨w.heap.size, 0, none⟩) (by simp; omega)).trans (by simp)
    cases k with
    | zero =>
      have r0 : wr.cell? ⟨w.heap.size + 1, 0, none⟩ = some (.string ⟨#[]⟩) := (HB.out.cell (p := ⟨w.heap.size + 1, 0, none⟩) (by simp)).trans (by simp)
      have r1 : wr.cell? ⟨w.heap.size + 1, 1, none⟩ = some (.string ⟨#[]⟩) := (HB.out.cell (p := ⟨w.heap.size + 1, 1, none⟩) (by simp)).trans (by simp)
      have r2 : wr.cell? ⟨w.heap.size + 1, 2, none⟩ = some (.int .i64 0) := (HB.out.cell (p := ⟨w.heap.size + 1, 2, none⟩) (by simp)).trans (by simp)
      have r3 : wr.cell? ⟨w.heap.size + 1, 3, none⟩ = some (.int .i64 0) := (HB.out.cell (p := ⟨w.heap.size + 1, 3, none⟩) (by simp)).trans (by simp)
      have r4 : wr.cell? ⟨w.heap.size + 1, 4, none⟩ = some (.int .i64 0) := (HB.out.cell (p := ⟨w.heap.size + 1, 4, none⟩) (by simp)).trans (by simp)
      have r5 : wr.cell? ⟨w.heap.size + 1, 5, none⟩ = some (.int .i64 0) := (HB.out.cell (p := ⟨w.heap.size + 1, 5, none⟩) (by simp)).trans (by simp)
      have rf : ∀ j, wr.frozen? ⟨w.heap.size + 1, j, none⟩ = false := fun j => (HB.out.frozen (p := ⟨w.heap.size + 1, j, none⟩) (by simp)).trans (by simp)
      go_wp2_with fail
      refine bodyPost_ret (v := .tuple #[.agg #[.string ⟨#[]⟩, .string ⟨#[]⟩, .int .i64 0, .int .i64 0, .int .i64 0, .int .i64 0], .bool false]) (by simp [results, Tryz.results36, go_sem, r0, r1, r2, r3, r4, r5]) rfl ⟨?_, Or.inr ⟨rfl, HC.out⟩⟩
      exact (by (try show Below _ _ _); repeat (with_reducible first | exact Below.refl _ _ | assumption | exact Hid.out (by assumption) | refine ext_alloc ?_ | refine ext_drewN ?_ | refine ext_drew ?_ | refine ext_setCell ?_ (Nat.le_refl _) | refine ext_setCell ?_ (Nat.le_succ _) | refine ext_trans ?_ (by assumption) | (refine ext_setCell ?_ (by simp)) | (refine ext_setCell ?_ (by simp at *; omega))))
    | succ k =>
      have hk1 : ((k + 1 : Nat) : Int) - 1 = (k : Int) := by omega
      rw [hk1]
      clear hk1
      have kl : (k : Int) ≤ (l.length : Int) := by omega
      have kl2 : k ≤ l.length := by omega
      go_wp2_with fail
      go_region_with (go_at_call 79; refine (search_str _ a n cap cs (l.take k) _ (extract_take l k) ?hx Ho.out).mono ?_; exact Hr.out.below (ext_drew hbw); rintro e w1 ⟨i, f, rfl, hB1, hfp⟩)
      have hw1 : Below w.heap.size w w1 := ext_trans (ext_drew hbw) hB1
      have HB1 : Hid (Below ((w.alloc (.cells #[.slice a n cap, v1, v2] 29)).alloc (.cells #[.string ⟨#[]⟩, .string ⟨#[]⟩, .int .i64 0, .int .i64 0, .int .i64 0, .int .i64 0] 86)).heap.size ((w.alloc (.cells #[.slice a n cap, v1, v2] 29)).alloc (.cells #[.string ⟨#[]⟩, .string ⟨#[]⟩, .int .i64 0, .int .i64 0, .int .i64 0, .int .i64 0] 86)) w1) := ext_trans (ext_drew HB.out) hB1
      cases f with
      | false =>
        have hnone := hfp.2 rfl
        go_wp2_with fail
        go_roundw
        case rel => exact ⟨k, by omega, rfl, HB1, by
          show clsOf cs l = _
          rw [HC.out]
          cases k with
          | zero => exact hnone
          | succ m => show (findPre cs (l.take (m + 1))).or (clsTo cs l m) = _; rw [hnone]; rfl⟩
        case measure => simp [intOf]
      | true =>
        obtain ⟨m, hm, rfl, hsome⟩ := hfp.1 rfl
        have hrow := Hr.out.below hw1
        obtain ⟨hn1, hn2, hrow⟩ := hrow
        have hmem : Hid (cs.getD m noCls ∈ cs) := by
          show cs.getD m noCls ∈ cs
          have hm2 : m < cs.length := by omega
          rw [List.getD_eq_getElem?_getD, List.getElem?_eq_getElem hm2]; exact List.getElem_mem hm2
        have hfin : Hid (clsOf cs l = some (cs.getD m noCls)) := by
          show clsOf cs l = _
          rw [HC.out]
          cases k with
          | zero => exact hsome
          | succ q => show (findPre cs (l.take (q + 1))).or (clsTo cs l q) = _; rw [hsome]; rfl
        have Hn1 := Lib.hid hn1
        clear hn1 hsome hfp
        rcases hrow with h0 | ⟨b, off, rfl, hb, hc⟩
        · omega
        obtain ⟨c0, c1, c2, c3, c4, c5⟩ := cls_cells (hc m hm)
        clear hc
        have x1 : w1.cell? ⟨w.heap.size, 0, none⟩ = some (.slice (some ⟨b, off, none⟩) n cap) := (HB1.out.cell (p := ⟨w.heap.size, 0, none⟩) (by simp; omega)).trans (by simp)
        have r0 : w1.cell? ⟨w.heap.size + 1, 0, none⟩ = some (.string ⟨#[]⟩) := (HB1.out.cell (p := ⟨w.heap.size + 1, 0, none⟩) (by simp)).trans (by simp)
        have r1 : w1.cell? ⟨w.heap.size + 1, 1, none⟩ = some (.string ⟨#[]⟩) := (HB1.out.cell (p := ⟨w.heap.size + 1, 1, none⟩) (by simp)).trans (by simp)
        have r2 : w1.cell? ⟨w.heap.size + 1, 2, none⟩ = some (.int .i64 0) := (HB1.out.cell (p := ⟨w.heap.size + 1, 2, none⟩) (by simp)).trans (by simp)
        have r3 : w1.cell? ⟨w.heap.size + 1, 3, none⟩ = some (.int .i64 0) := (HB1.out.cell (p := ⟨w.heap.size + 1, 3, none⟩) (by simp)).trans (by simp)
        have r4 : w1.cell? ⟨w.heap.size + 1, 4, none⟩ = some (.int .i64 0) := (HB1.out.cell (p := ⟨w.heap.size + 1, 4, none⟩) (by simp)).trans (by simp)
        have r5 : w1.cell? ⟨w.heap.size + 1, 5, none⟩ = some (.int .i64 0) := (HB1.out.cell (p := ⟨w.heap.size + 1, 5, none⟩) (by simp)).trans (by simp)
        have rf : ∀ j, w1.frozen? ⟨w.heap.size + 1, j, none⟩ = false := fun j => (HB1.out.frozen (p := ⟨w.heap.size + 1, j, none⟩) (by simp)).trans (by simp)
        have Hb1 := Lib.hid HB1.out
        generalize cs.getD m noCls = cl at c0 c1 c2 c3 c4 c5 hmem hfin
        go_wp2_with fail
        refine bodyPost_ret (v := .tuple #[.agg #[.string ⟨cl.pre.toArray⟩, .string ⟨cl.name.toArray⟩, .int .i64 cl.setup, .int .i64 cl.first, .int .i64 cl.step, .int .i64 cl.rate], .bool true]) (by simp [results, Tryz.results36, go_sem, r0, r1, r2, r3, r4, r5]) rfl ⟨?_, Or.inl ⟨cl, hmem.out, rfl, hfin.out⟩⟩
        exact (by (try show Below _ _ _); repeat (with_reducible first | exact Below.refl _ _ | assumption | exact Hid.out (by assumption) | refine ext_alloc ?_ | refine ext_drewN ?_ | refine ext_drew ?_ | refine ext_setCell ?_ (Nat.le_refl _) | refine ext_setCell ?_ (Nat.le_succ _) | refine ext_trans ?_ (by assumption) | (refine ext_setCell ?_ (by simp)) | (refine ext_setCell ?_ (by simp at *; omega))))
end Go.Proofs.YtleagenhnchjdaaGreatDoor

namespace Go.Proofs.YtleagenhnchjdaaGreatDoor
open Go.RowKit
set_option linter.unusedVariables false

/-- A tariff that is right, in memory. -/
structure TariffAt (w : World) (a : Option Addr) (n : Nat) (cs : List Cls) (free : Int) (a2 : Option Addr) (n2 : Nat) (ss : List (List UInt8)) : Prop where
  row : ClsRow w a n cs
  good : ∀ i, i < n → GoodCls (cs.getD i noCls)
  sorted : Sorted cs
  ins : StrRow w a2 n2 ss
  keys : ∀ i, i < n2 → isKeyB (ss.getD i []) = true ∧ (ss.getD i []).length ≤ 1000
  order : ∀ i, 0 < i → i < n2 → leS (ss.getD i []) (ss.getD (i - 1) []) = false
  free0 : 0 ≤ free
  free1 : free ≤ 2592000000

theorem TariffAt.below {w w' : World} {a : Option Addr} {n : Nat} {cs : List Cls} {free : Int} {a2 : Option Addr} {n2 : Nat} {ss : List (List UInt8)} (h : TariffAt w a n cs free a2 n2 ss) (hb : Below w.heap.size w w') : TariffAt w' a n cs free a2 n2 ss :=
  ⟨h.row.below hb, h.good, h.sorted, h.ins.below hb, h.keys, h.order, h.free0, h.free1⟩

theorem checkTariff_at {w : World} {a : Option Addr} {n cap : Nat} {cs : List Cls} {free : Int} {a2 : Option Addr} {n2 cap2 : Nat} {ss : List (List UInt8)} (h : TariffAt w a n cs free a2 n2 ss) :
    Calls Tryz.prog 78 #[.agg #[.slice a n cap, .int .i64 free, .slice a2 n2 cap2]] w fun e w' => e = .returned (.int .i64 0) ∧ Below w.heap.size w w' :=
  checkTariff_ok w a n cap cs free a2 n2 cap2 ss h.row h.good (fun i h0 hi => h.sorted i h0 (by rw [← h.row.1]; exact hi)) h.ins h.keys h.order h.free0 h.free1

theorem TariffAt.mem {w : World} {a : Option Addr} {n : Nat} {cs : List Cls} {free : Int} {a2 : Option Addr} {n2 : Nat} {ss : List (List UInt8)} (h : TariffAt w a n cs free a2 n2 ss) {c : Cls} (hc : c ∈ cs) : GoodCls c := by
  obtain ⟨j, hj, rfl⟩ := List.getElem_of_mem hc
  have := h.good j (by rw [h.row.1]; exact hj)
  simpa [List.getD_eq_getElem?_getD, List.getElem?_eq_getElem hj] using this

def PricePost (cs : List Cls) (l : List UInt8) (talk : Int) (w : World) (e : Ending) (w' : World) : Prop :=
  Below w.heap.size w w' ∧ e = .returned (.tuple #[.int .i64 (match clsOf cs l with | some c => priceI c talk | none => 0), .int .i64 (match clsOf cs l with | some _ => 0 | none => 8)])

set_option maxHeartbeats 1000000 in
theorem price_at {w : World} {a : Option Addr} {n cap : Nat} {cs : List Cls} {free : Int} {a2 : Option Addr} {n2 cap2 : Nat} {ss : List (List UInt8)} (h : TariffAt w a n cs free a2 n2 ss) (l : List UInt8) (hl : isNumB l = true) (hl2 : l.length ≤ 1000) (talk : Int) (t0 : 0 ≤ talk) (t1 : talk ≤ 86400000) :
    Calls Tryz.prog 43 #[.agg #[.slice a n cap, .int .i64 free, .slice a2 n2 cap2], .string ⟨l.toArray⟩, .int .i64 talk] w (PricePost cs l talk w) := by
  have H := Lib.hid h
  clear h
  go_enter Tryz.func43, Tryz.ntmps43
  go_wp2_with fail
  refine (checkTariff_at (H.out.below (ext_alloc (Below.refl _ _)))).mono ?_
  rintro e w1 ⟨rfl, hB1⟩
  obtain ⟨q1, -⟩ := bcell hB1
  go_wp2_with fail
  refine (isNumber_any _ _ (by show l.length ≤ _; omega)).mono ?_
  rw [show isNumB (⟨l.toArray⟩ : ByteArray).data.toList = true from hl]
  rintro e w2 ⟨rfl, hB2⟩
  obtain ⟨q2, -⟩ := bcell hB2
  have z0 : w.heap.size < w1.heap.size := by have := hB1.size; simp at this; omega
  clear hl
  have hw2 : Below w.heap.size w w2 := (by (try show Below _ _ _); repeat (with_reducible first | exact Below.refl _ _ | assumption | exact Hid.out (by assumption) | refine ext_alloc ?_ | refine ext_drewN ?_ | refine ext_drew ?_ | refine ext_setCell ?_ (Nat.le_refl _) | refine ext_setCell ?_ (Nat.le_succ _) | refine ext_trans ?_ (by assumption) | (refine ext_setCell ?_ (by simp)) | (refine ext_setCell ?_ (by simp at *; omega))))
  go_wp2_with (go_at_call 57; refine (within_a _ _ _ _ (by omega) (by omega)).mono ?_; rintro e w' ⟨rfl, rfl⟩)
  refine (classOf_any _ _ _ _ cs _ _ l (H.out.row.below hw2) H.out.sorted hl2).mono ?_
  rintro e w3 ⟨hB3, ⟨c, hc, rfl, hcl⟩ | ⟨rfl, hcl⟩⟩
  · have hfin : Hid (PricePost cs l talk w = fun e w' => Below w.heap.size w w' ∧ e = .returned (.tuple #[.int .i64 (priceI c talk), .int .i64 0])) := by
      funext e w'; simp only [PricePost, hcl]
    have g := H.out.mem hc
    have G := Lib.hid g
    clear g hcl
    go_wp2_with fail
    refine (price_any c talk _ G.out t0 t1).mono ?_
    rintro e w4 ⟨rfl, hB4⟩
    go_wp2_with fail
    go_ret2
    rw [hfin.out]
    exact ⟨(by (try show Below _ _ _); repeat (with_reducible first | exact Below.refl _ _ | assumption | exact Hid.out (by assumption) | refine ext_alloc ?_ | refine ext_drewN ?_ | refine ext_drew ?_ | refine ext_setCell ?_ (Nat.le_refl _) | refine ext_setCell ?_ (Nat.le_succ _) | refine ext_trans ?_ (by assumption) | (refine ext_setCell ?_ (by simp)) | (refine ext_setCell ?_ (by simp at *; omega)))), rfl⟩
  · have hfin : Hid (PricePost cs l talk w = fun e w' => Below w.heap.size w w' ∧ e = .returned (.tuple #[.int .i64 0, .int .i64 8])) := by
      funext e w'; simp only [PricePost, hcl]
    clear hcl
    go_wp2_with fail
    go_ret2
    rw [hfin.out]
    exact ⟨(by (try show Below _ _ _); repeat (with_reducible first | exact Below.refl _ _ | assumption | exact Hid.out (by assumption) | refine ext_alloc ?_ | refine ext_drewN ?_ | refine ext_drew ?_ | refine ext_setCell ?_ (Nat.le_refl _) | refine ext_setCell ?_ (Nat.le_succ _) | refine ext_trans ?_ (by assumption) | (refine ext_setCell ?_ (by simp)) | (refine ext_setCell ?_ (by simp at *; omega)))), rfl⟩
end Go.Proofs.YtleagenhnchjdaaGreatDoor

namespace Go.Proofs.YtleagenhnchjdaaGreatDoor
open Go.RowKit

/-- What a byte expands to. -/
def expandI (b : Int) : Int :=
  if (255 - b) / 128 = 1 then -(((2 * ((255 - b) % 16) + 33) * 2 ^ ((255 - b) / 16 % 8).toNat - 33) * 4) - 1 else ((2 * ((255 - b) % 16) + 33) * 2 ^ ((255 - b) / 16 % 8).toNat - 33) * 4

theorem all_bytesI {p : Int → Bool} (h : (List.range 256).all (fun n => p (n : Int)) = true) (b : Int) (h0 : 0 ≤ b) (h1 : b ≤ 255) : p b = true := by
  obtain ⟨n, rfl⟩ := Int.eq_ofNat_of_zero_le h0
  exact List.all_eq_true.1 h n (List.mem_range.2 (by omega))

theorem expand_wraps (b : Int) (h0 : 0 ≤ b) (h1 : b ≤ 255) :
    wrap64 (wrap64 (wrap64 ((2 * ((255 - b) % 16) + 33) * 2 ^ ((255 - b) / 16 % 8).toNat) - 33) * 4) = ((2 * ((255 - b) % 16) + 33) * 2 ^ ((255 - b) / 16 % 8).toNat - 33) * 4 ∧
    wrap64 (wrap64 (-wrap64 (wrap64 (wrap64 ((2 * ((255 - b) % 16) + 33) * 2 ^ ((255 - b) / 16 % 8).toNat) - 33) * 4)) - 1) = -(((2 * ((255 - b) % 16) + 33) * 2 ^ ((255 - b) / 16 % 8).toNat - 33) * 4) - 1 := by
  have := all_bytesI (p := fun b => decide (wrap64 (wrap64 (wrap64 ((2 * ((255 - b) % 16) + 33) * 2 ^ ((255 - b) / 16 % 8).toNat) - 33) * 4) = ((2 * ((255 - b) % 16) + 33) * 2 ^ ((255 - b) / 16 % 8).toNat - 33) * 4 ∧
    wrap64 (wrap64 (-wrap64 (wrap64 (wrap64 ((2 * ((255 - b) % 16) + 33) * 2 ^ ((255 - b) / 16 % 8).toNat) - 33) * 4)) - 1) = -(((2 * ((255 - b) % 16) + 33) * 2 ^ ((255 - b) / 16 % 8).toNat - 33) * 4) - 1)) (by decide +kernel) b h0 h1
  exact of_decide_eq_true this

/-- The exponent of a magnitude. -/
def expoTo (m : Int) : Nat → Nat
  | 0 => 7
  | f + 1 => if 2 ^ (7 - (f + 1) + 6) ≤ m then expoTo m f else 7 - (f + 1)
def expo (m : Int) : Nat := expoTo m 7
def magn (s : Int) : Int := min ((if s < 0 then -s - 1 else s) / 4) 8158 + 33
def compI (s : Int) : Int := 255 - ((if s < 0 then 128 else 0) + 16 * (expo (magn s) : Int) + (magn s / 2 ^ (expo (magn s) + 1) - 16))

theorem expoTo_up0 (m : Int) (h : 64 ≤ m) : expoTo m (7 - 0) = expoTo m (7 - 1) := by
  show (if (2 : Int) ^ (7 - (6 + 1) + 6) ≤ m then _ else _) = _
  rw [show (2 : Int) ^ (7 - (6 + 1) + 6) = 64 by decide, if_pos h]
theorem expoTo_out0 (m : Int) (h : ¬ 64 ≤ m) : expoTo m (7 - 0) = 0 := by
  show (if (2 : Int) ^ (7 - (6 + 1) + 6) ≤ m then _ else _) = _
  rw [show (2 : Int) ^ (7 - (6 + 1) + 6) = 64 by decide, if_neg h]
theorem expoTo_up1 (m : Int) (h : 128 ≤ m) : expoTo m (7 - 1) = expoTo m (7 - 2) := by
  show (if (2 : Int) ^ (7 - (5 + 1) + 6) ≤ m then _ else _) = _
  rw [show (2 : Int) ^ (7 - (5 + 1) + 6) = 128 by decide, if_pos h]
theorem expoTo_out1 (m : Int) (h : ¬ 128 ≤ m) : expoTo m (7 - 1) = 1 := by
  show (if (2 : Int) ^ (7 - (5 + 1) + 6) ≤ m then _ else _) = _
  rw [show (2 : Int) ^ (7 - (5 + 1) + 6) = 128 by decide, if_neg h]
theorem expoTo_up2 (m : Int) (h : 256 ≤ m) : expoTo m (7 - 2) = expoTo m (7 - 3) := by
  show (if (2 : Int) ^ (7 - (4 + 1) + 6) ≤ m then _ else _) = _
  rw [show (2 : Int) ^ (7 - (4 + 1) + 6) = 256 by decide, if_pos h]
theorem expoTo_out2 (m : Int) (h : ¬ 256 ≤ m) : expoTo m (7 - 2) = 2 := by
  show (if (2 : Int) ^ (7 - (4 + 1) + 6) ≤ m then _ else _) = _
  rw [show (2 : Int) ^ (7 - (4 + 1) + 6) = 256 by decide, if_neg h]
theorem expoTo_up3 (m : Int) (h : 512 ≤ m) : expoTo m (7 - 3) = expoTo m (7 - 4) := by
  show (if (2 : Int) ^ (7 - (3 + 1) + 6) ≤ m then _ else _) = _
  rw [show (2 : Int) ^ (7 - (3 + 1) + 6) = 512 by decide, if_pos h]
theorem expoTo_out3 (m : Int) (h : ¬ 512 ≤ m) : expoTo m (7 - 3) = 3 := by
  show (if (2 : Int) ^ (7 - (3 + 1) + 6) ≤ m then _ else _) = _
  rw [show (2 : Int) ^ (7 - (3 + 1) + 6) = 512 by decide, if_neg h]
theorem expoTo_up4 (m : Int) (h : 1024 ≤ m) : expoTo m (7 - 4) = expoTo m (7 - 5) := by
  show (if (2 : Int) ^ (7 - (2 + 1) + 6) ≤ m then _ else _) = _
  rw [show (2 : Int) ^ (7 - (2 + 1) + 6) = 1024 by decide, if_pos h]
theorem expoTo_out4 (m : Int) (h : ¬ 1024 ≤ m) : expoTo m (7 - 4) = 4 := by
  show (if (2 : Int) ^ (7 - (2 + 1) + 6) ≤ m then _ else _) = _
  rw [show (2 : Int) ^ (7 - (2 + 1) + 6) = 1024 by decide, if_neg h]
theorem expoTo_up5 (m : Int) (h : 2048 ≤ m) : expoTo m (7 - 5) = expoTo m (7 - 6) := by
  show (if (2 : Int) ^ (7 - (1 + 1) + 6) ≤ m then _ else _) = _
  rw [show (2 : Int) ^ (7 - (1 + 1) + 6) = 2048 by decide, if_pos h]
theorem expoTo_out5 (m : Int) (h : ¬ 2048 ≤ m) : expoTo m (7 - 5) = 5 := by
  show (if (2 : Int) ^ (7 - (1 + 1) + 6) ≤ m then _ else _) = _
  rw [show (2 : Int) ^ (7 - (1 + 1) + 6) = 2048 by decide, if_neg h]
theorem expoTo_up6 (m : Int) (h : 4096 ≤ m) : expoTo m (7 - 6) = expoTo m (7 - 7) := by
  show (if (2 : Int) ^ (7 - (0 + 1) + 6) ≤ m then _ else _) = _
  rw [show (2 : Int) ^ (7 - (0 + 1) + 6) = 4096 by decide, if_pos h]
theorem expoTo_out6 (m : Int) (h : ¬ 4096 ≤ m) : expoTo m (7 - 6) = 6 := by
  show (if (2 : Int) ^ (7 - (0 + 1) + 6) ≤ m then _ else _) = _
  rw [show (2 : Int) ^ (7 - (0 + 1) + 6) = 4096 by decide, if_neg h]
theorem expoTo_out7 (m : Int) : expoTo m (7 - 7) = 7 := rfl

theorem expo_cases (m : Int) (h0 : 33 ≤ m) (h1 : m ≤ 8191) : (32 ≤ m ∧ m < 64 ∧ expo m = 0) ∨ (64 ≤ m ∧ m < 128 ∧ expo m = 1) ∨ (128 ≤ m ∧ m < 256 ∧ expo m = 2) ∨ (256 ≤ m ∧ m < 512 ∧ expo m = 3) ∨ (512 ≤ m ∧ m < 1024 ∧ expo m = 4) ∨ (1024 ≤ m ∧ m < 2048 ∧ expo m = 5) ∨ (2048 ≤ m ∧ m < 4096 ∧ expo m = 6) ∨ (4096 ≤ m ∧ m < 8192 ∧ expo m = 7) := by
  unfold expo
  simp only [expoTo]
  repeat' split
  all_goals omega

theorem magn_range (s : Int) (h0 : -32768 ≤ s) (h1 : s ≤ 32767) : 33 ≤ magn s ∧ magn s ≤ 8191 := by
  unfold magn; split <;> omega

/-- What a byte with a sign, an exponent and a fraction expands to. -/
theorem expand_parts (sg e f : Int) (hs : sg = 0 ∨ sg = 128) (h0 : 0 ≤ e) (h1 : e ≤ 7) (f0 : 0 ≤ f) (f1 : f ≤ 15) :
    expandI (255 - (sg + 16 * e + f)) = if sg = 128 then -(((2 * f + 33) * 2 ^ e.toNat - 33) * 4) - 1 else ((2 * f + 33) * 2 ^ e.toNat - 33) * 4 := by
  unfold expandI
  have a1 : (255 - (255 - (sg + 16 * e + f))) % 16 = f := by omega
  have a2 : (255 - (255 - (sg + 16 * e + f))) / 16 % 8 = e := by omega
  rw [a1, a2]
  rcases hs with rfl | rfl
  · rw [if_neg (by omega), if_neg (by omega)]
  · rw [if_pos (by omega), if_pos rfl]

/-- Where a sample comes to, by its magnitude. -/
def backTo (m : Int) : Int := if m < 64 then (m / 2 * 2 + 1 - 33) * 4 else if m < 128 then (m / 4 * 4 + 2 - 33) * 4 else if m < 256 then (m / 8 * 8 + 4 - 33) * 4 else if m < 512 then (m / 16 * 16 + 8 - 33) * 4 else if m < 1024 then (m / 32 * 32 + 16 - 33) * 4 else if m < 2048 then (m / 64 * 64 + 32 - 33) * 4 else if m < 4096 then (m / 128 * 128 + 64 - 33) * 4 else (m / 256 * 256 + 128 - 33) * 4

theorem comp_back (s : Int) (h0 : -32768 ≤ s) (h1 : s ≤ 32767) : (0 ≤ compI s ∧ compI s ≤ 255) ∧ expandI (compI s) = if s < 0 then -(backTo (magn s)) - 1 else backTo (magn s) := by
  obtain ⟨m0, m1⟩ := magn_range s h0 h1
  unfold compI
  generalize magn s = m at m0 m1
  have hsg : (if s < 0 then (128 : Int) else 0) = 0 ∨ (if s < 0 then (128 : Int) else 0) = 128 := by split <;> omega
  have hsg2 : ((if s < 0 then (128 : Int) else 0) = 128) ↔ s < 0 := by split <;> simp [*]
  generalize (if s < 0 then (128 : Int) else 0) = sg at hsg hsg2
  rcases expo_cases m m0 m1 with ⟨a, b, c⟩ | ⟨a, b, c⟩ | ⟨a, b, c⟩ | ⟨a, b, c⟩ | ⟨a, b, c⟩ | ⟨a, b, c⟩ | ⟨a, b, c⟩ | ⟨a, b, c⟩
  · rw [c]
    have f0 : 0 ≤ m / 2 ^ (0 + 1) - 16 := by omega
    have f1 : m / 2 ^ (0 + 1) - 16 ≤ 15 := by omega
    refine ⟨by omega, ?_⟩
    rw [expand_parts sg ((0 : Nat) : Int) _ hsg (by omega) (by omega) f0 f1]
    have hb : backTo m = ((2 * (m / 2 ^ (0 + 1) - 16) + 33) * 2 ^ ((0 : Nat) : Int).toNat - 33) * 4 := by
      unfold backTo
      simp only [Int.toNat_natCast]
      (repeat rw [if_neg (by omega)])
      (try rw [if_pos (by omega)])
      omega
    rw [hb]
    by_cases hs : s < 0
    · rw [if_pos (hsg2.2 hs), if_pos hs]
    · rw [if_neg (fun h => hs (hsg2.1 h)), if_neg hs]
  · rw [c]
    have f0 : 0 ≤ m / 2 ^ (1 + 1) - 16 := by omega
    have f1 : m / 2 ^ (1 + 1) - 16 ≤ 15 := by omega
    refine ⟨by omega, ?_⟩
    rw [expand_parts sg ((1 : Nat) : Int) _ hsg (by omega) (by omega) f0 f1]
    have hb : backTo m = ((2 * (m / 2 ^ (1 + 1) - 16) + 33) * 2 ^ ((1 : Nat) : Int).toNat - 33) * 4 := by
      unfold backTo
      simp only [Int.toNat_natCast]
      (repeat rw [if_neg (by omega)])
      (try rw [if_pos (by omega)])
      omega
    rw [hb]
    by_cases hs : s < 0
    · rw [if_pos (hsg2.2 hs), if_pos hs]
    · rw [if_neg (fun h => hs (hsg2.1 h)), if_neg hs]
  · rw [c]
    have f0 : 0 ≤ m / 2 ^ (2 + 1) - 16 := by omega
    have f1 : m / 2 ^ (2 + 1) - 16 ≤ 15 := by omega
    refine ⟨by omega, ?_⟩
    rw [expand_parts sg ((2 : Nat) : Int) _ hsg (by omega) (by omega) f0 f1]
    have hb : backTo m = ((2 * (m / 2 ^ (2 + 1) - 16) + 33) * 2 ^ ((2 : Nat) : Int).toNat - 33) * 4 := by
      unfold backTo
      simp only [Int.toNat_natCast]
      (repeat rw [if_neg (by omega)])
      (try rw [if_pos (by omega)])
      omega
    rw [hb]
    by_cases hs : s < 0
    · rw [if_pos (hsg2.2 hs), if_pos hs]
    · rw [if_neg (fun h => hs (hsg2.1 h)), if_neg hs]
  · rw [c]
    have f0 : 0 ≤ m / 2 ^ (3 + 1) - 16 := by omega
    have f1 : m / 2 ^ (3 + 1) - 16 ≤ 15 := by omega
    refine ⟨by omega, ?_⟩
    rw [expand_parts sg ((3 : Nat) : Int) _ hsg (by omega) (by omega) f0 f1]
    have hb : backTo m = ((2 * (m / 2 ^ (3 + 1) - 16) + 33) * 2 ^ ((3 : Nat) : Int).toNat - 33) * 4 := by
      unfold backTo
      simp only [Int.toNat_natCast]
      (repeat rw [if_neg (by omega)])
      (try rw [if_pos (by omega)])
      omega
    rw [hb]
    by_cases hs : s < 0
    · rw [if_pos (hsg2.2 hs), if_pos hs]
    · rw [if_neg (fun h => hs (hsg2.1 h)), if_neg hs]
  · rw [c]
    have f0 : 0 ≤ m / 2 ^ (4 + 1) - 16 := by omega
    have f1 : m / 2 ^ (4 + 1) - 16 ≤ 15 := by omega
    refine ⟨by omega, ?_⟩
    rw [expand_parts sg ((4 : Nat) : Int) _ hsg (by omega) (by omega) f0 f1]
    have hb : backTo m = ((2 * (m / 2 ^ (4 + 1) - 16) + 33) * 2 ^ ((4 : Nat) : Int).toNat - 33) * 4 := by
      unfold backTo
      simp only [Int.toNat_natCast]
      (repeat rw [if_neg (by omega)])
      (try rw [if_pos (by omega)])
      omega
    rw [hb]
    by_cases hs : s < 0
    · rw [if_pos (hsg2.2 hs), if_pos hs]
    · rw [if_neg (fun h => hs (hsg2.1 h)), if_neg hs]
  · rw [c]
    have f0 : 0 ≤ m / 2 ^ (5 + 1) - 16 := by omega
    have f1 : m / 2 ^ (5 + 1) - 16 ≤ 15 := by omega
    refine ⟨by omega, ?_⟩
    rw [expand_parts sg ((5 : Nat) : Int) _ hsg (by omega) (by omega) f0 f1]
    have hb : backTo m = ((2 * (m / 2 ^ (5 + 1) - 16) + 33) * 2 ^ ((5 : Nat) : Int).toNat - 33) * 4 := by
      unfold backTo
      simp only [Int.toNat_natCast]
      (repeat rw [if_neg (by omega)])
      (try rw [if_pos (by omega)])
      omega
    rw [hb]
    by_cases hs : s < 0
    · rw [if_pos (hsg2.2 hs), if_pos hs]
    · rw [if_neg (fun h => hs (hsg2.1 h)), if_neg hs]
  · rw [c]
    have f0 : 0 ≤ m / 2 ^ (6 + 1) - 16 := by omega
    have f1 : m / 2 ^ (6 + 1) - 16 ≤ 15 := by omega
    refine ⟨by omega, ?_⟩
    rw [expand_parts sg ((6 : Nat) : Int) _ hsg (by omega) (by omega) f0 f1]
    have hb : backTo m = ((2 * (m / 2 ^ (6 + 1) - 16) + 33) * 2 ^ ((6 : Nat) : Int).toNat - 33) * 4 := by
      unfold backTo
      simp only [Int.toNat_natCast]
      (repeat rw [if_neg (by omega)])
      (try rw [if_pos (by omega)])
      omega
    rw [hb]
    by_cases hs : s < 0
    · rw [if_pos (hsg2.2 hs), if_pos hs]
    · rw [if_neg (fun h => hs (hsg2.1 h)), if_neg hs]
  · rw [c]
    have f0 : 0 ≤ m / 2 ^ (7 + 1) - 16 := by omega
    have f1 : m / 2 ^ (7 + 1) - 16 ≤ 15 := by omega
    refine ⟨by omega, ?_⟩
    rw [expand_parts sg ((7 : Nat) : Int) _ hsg (by omega) (by omega) f0 f1]
    have hb : backTo m = ((2 * (m / 2 ^ (7 + 1) - 16) + 33) * 2 ^ ((7 : Nat) : Int).toNat - 33) * 4 := by
      unfold backTo
      simp only [Int.toNat_natCast]
      (repeat rw [if_neg (by omega)])
      (try rw [if_pos (by omega)])
      omega
    rw [hb]
    by_cases hs : s < 0
    · rw [if_pos (hsg2.2 hs), if_pos hs]
    · rw [if_neg (fun h => hs (hsg2.1 h)), if_neg hs]

theorem comp_range (s : Int) (h0 : -32768 ≤ s) (h1 : s ≤ 32767) : 0 ≤ compI s ∧ compI s ≤ 255 := (comp_back s h0 h1).1

set_option maxHeartbeats 4000000 in
theorem back_mono (a b : Int) (h : a ≤ b) (h0 : 33 ≤ a) (h1 : b ≤ 8191) : backTo a ≤ backTo b ∧ 0 ≤ backTo a ∧ backTo b ≤ 32124 := by
  unfold backTo
  refine ⟨?_, ?_, ?_⟩ <;> (repeat' split) <;> omega

theorem comp_mono (s t : Int) (h : s ≤ t) (h0 : -32768 ≤ s) (h1 : t ≤ 32767) : expandI (compI s) ≤ expandI (compI t) := by
  rw [(comp_back s h0 (by omega)).2, (comp_back t (by omega) h1).2]
  have ms := magn_range s h0 (by omega)
  have mt := magn_range t (by omega) h1
  by_cases hs : s < 0
  · by_cases ht : t < 0
    · rw [if_pos hs, if_pos ht]
      have : magn t ≤ magn s := by unfold magn; rw [if_pos hs, if_pos ht]; omega
      have := back_mono _ _ this mt.1 ms.2
      omega
    · rw [if_pos hs, if_neg ht]
      have a := back_mono _ _ (Int.le_refl (magn s)) ms.1 ms.2
      have b := back_mono _ _ (Int.le_refl (magn t)) mt.1 mt.2
      omega
  · rw [if_neg hs, if_neg (by omega)]
    have : magn s ≤ magn t := by unfold magn; rw [if_neg hs, if_neg (by omega)]; omega
    exact (back_mono _ _ this ms.1 mt.2).1

theorem comp_near (s : Int) (h0 : -32768 ≤ s) (h1 : s ≤ 32767) : max (expandI (compI s) - s) (s - expandI (compI s)) ≤ max s (-s) / 16 + 132 := by
  rw [(comp_back s h0 h1).2]
  obtain ⟨m0, m1⟩ := magn_range s h0 h1
  by_cases hs : s < 0
  · rw [if_pos hs]
    have hm : magn s = min ((-s - 1) / 4) 8158 + 33 := by unfold magn; rw [if_pos hs]
    generalize magn s = m at *
    unfold backTo
    (repeat' split) <;> omega
  · rw [if_neg hs]
    have hm : magn s = min (s / 4) 8158 + 33 := by unfold magn; rw [if_neg hs]
    generalize magn s = m at *
    unfold backTo
    (repeat' split) <;> omega

theorem expand_sample (b : Int) (h0 : 0 ≤ b) (h1 : b ≤ 255) : -32768 ≤ expandI b ∧ expandI b ≤ 32767 ∧ compI (expandI b) = b :=
  of_decide_eq_true (all_bytesI (p := fun b => decide (-32768 ≤ expandI b ∧ expandI b ≤ 32767 ∧ compI (expandI b) = b)) (by decide +kernel) b h0 h1)
end Go.Proofs.YtleagenhnchjdaaGreatDoor

namespace Go.Proofs.YtleagenhnchjdaaGreatDoor
open Go.RowKit
set_option linter.unusedVariables false
set_option linter.unusedSimpArgs false

set_option maxHeartbeats 1000000 in
theorem errs_zero (w : World) (b n cap : Nat) (hn : n ≤ 100) (hc : ∀ i, i < n → w.cell? ⟨b, i, none⟩ = some (.int .i64 0)) :
    Calls Tryz.prog 12 #[.slice (some ⟨b, 0, none⟩) n cap] w fun e w' => e = .returned (.int .i64 0) ∧ w = w' := by
  have Hc := Lib.hid hc
  clear hc
  go_enter Tryz.func12, Tryz.ntmps12
  go_wp2_with fail
  go_loop [7] (fun i => ∃ k : Nat, k ≤ n ∧ i = .int .i64 k) (fun i => n - (intOf i).toNat)
  case atStart => exact ⟨0, Nat.zero_le _, rfl⟩
  case round =>
    obtain ⟨k, hk, rfl⟩ := hrel
    by_cases hlt : k < n
    · have hc := Hc.out k hlt
      go_wp2_with fail
      go_round
      case rel => exact ⟨k + 1, by omega, by go_num⟩
      case measure => simp [intOf]; omega
    · go_wp2_with fail
      go_ret
      exact ⟨rfl, rfl⟩

theorem expand_any (b : Int) (w : World) (h0 : 0 ≤ b) (h1 : b ≤ 255) :
    Calls Tryz.prog 44 #[.int .u8 b] w fun e w' => e = .returned (.int .i64 (expandI b)) ∧ w = w' := by
  have hw := Lib.hid (expand_wraps b h0 h1)
  by_cases hs : (255 - b) / 128 = 1
  · have hd : Hid (expandI b = -(((2 * ((255 - b) % 16) + 33) * 2 ^ ((255 - b) / 16 % 8).toNat - 33) * 4) - 1) := by show expandI b = _; unfold expandI; rw [if_pos hs]
    have hs2 : ((255 - b) / 128 == 1) = true := by simpa using hs
    clear hs
    go_enter Tryz.func44, Tryz.ntmps44
    go_wp2_with fail
    go_ret
    exact ⟨ret_int (by rw [hd.out]; exact hw.out.2), rfl⟩
  · have hd : Hid (expandI b = ((2 * ((255 - b) % 16) + 33) * 2 ^ ((255 - b) / 16 % 8).toNat - 33) * 4) := by show expandI b = _; unfold expandI; rw [if_neg hs]
    have hs2 : ((255 - b) / 128 == 1) = false := by simpa using hs
    clear hs
    go_enter Tryz.func44, Tryz.ntmps44
    go_wp2_with fail
    go_ret
    exact ⟨ret_int (by rw [hd.out]; exact hw.out.1), rfl⟩

def aClass : Cls := ⟨[43, 49], [97], 0, 0, 1000, 7⟩
theorem aClass_good : GoodCls aClass := ⟨by decide, by decide, by decide, by decide, by decide, by decide, by decide, by decide, by decide, by decide, by decide, by decide⟩

theorem ready_tariff (w : World) (b : Nat) (hb : b < w.heap.size) (h0 : w.cell? ⟨b, 0, none⟩ = some (.string ⟨#[43, 49]⟩)) (h1 : w.cell? ⟨b, 1, none⟩ = some (.string ⟨#[97]⟩)) (h2 : w.cell? ⟨b, 2, none⟩ = some (.int .i64 0)) (h3 : w.cell? ⟨b, 3, none⟩ = some (.int .i64 0)) (h4 : w.cell? ⟨b, 4, none⟩ = some (.int .i64 1000)) (h5 : w.cell? ⟨b, 5, none⟩ = some (.int .i64 7)) :
    TariffAt w (some ⟨b, 0, none⟩) 1 [aClass] 0 none 0 [] where
  row := ⟨rfl, by omega, Or.inr ⟨b, 0, rfl, hb, fun i hi j hj => by
    obtain rfl : i = 0 := by omega
    match j, hj with
    | 0, _ => exact h0
    | 1, _ => exact h1
    | 2, _ => exact h2
    | 3, _ => exact h3
    | 4, _ => exact h4
    | 5, _ => exact h5⟩⟩
  good := fun i hi => by
    obtain rfl : i = 0 := by omega
    exact aClass_good
  sorted := fun i h0 h1 => by simp at h1; omega
  ins := ⟨rfl, by omega, Or.inl rfl⟩
  keys := fun i hi => by omega
  order := fun i h0 h1 => by omega
  free0 := by omega
  free1 := by omega

set_option maxHeartbeats 1000000 in
theorem price_ready (w : World) (b : Nat) (hb : b < w.heap.size) (h0 : w.cell? ⟨b, 0, none⟩ = some (.string ⟨#[43, 49]⟩)) (h1 : w.cell? ⟨b, 1, none⟩ = some (.string ⟨#[97]⟩)) (h2 : w.cell? ⟨b, 2, none⟩ = some (.int .i64 0)) (h3 : w.cell? ⟨b, 3, none⟩ = some (.int .i64 0)) (h4 : w.cell? ⟨b, 4, none⟩ = some (.int .i64 1000)) (h5 : w.cell? ⟨b, 5, none⟩ = some (.int .i64 7)) :
    Calls Tryz.prog 43 #[.agg #[.slice (some ⟨b, 0, none⟩) 1 1, .int .i64 0, .slice none 0 0], .string ⟨#[43, 49, 50, 48, 48]⟩, .int .i64 1500] w fun e w' => e = .returned (.tuple #[.int .i64 14, .int .i64 0]) ∧ Below w.heap.size w w' := by
  refine (price_at (ready_tariff w b hb h0 h1 h2 h3 h4 h5) [43, 49, 50, 48, 48] (by decide) (by decide) 1500 (by omega) (by omega)).mono ?_
  rintro e w' ⟨hB, rfl⟩
  exact ⟨rfl, hB⟩

theorem expand_128 (w : World) : Calls Tryz.prog 44 #[.int .u8 128] w fun e w' => e = .returned (.int .i64 32124) ∧ w = w' := expand_any 128 w (by omega) (by omega)

set_option maxRecDepth 100000 in
set_option maxHeartbeats 2000000 in
theorem ready_true (w : World) (ht : TabAt w) : Calls Tryz.prog 16 #[] w fun e w' => e = .returned (.bool true) ∧ Below w.heap.size w w' := by
  have HT := Lib.hid ht
  clear ht
  go_enter Tryz.func16, Tryz.ntmps16
  go_wp2_with fail
  refine (least_ready _ HT.out).mono ?_
  rintro e w1 ⟨rfl, hB1⟩
  go_wp2_with fail
  refine (present_ready _).mono ?_
  rintro e w2 ⟨rfl, hB2⟩
  go_wp2_with fail
  refine (ends_ready _).mono ?_
  rintro e w3 ⟨rfl, hB3⟩
  go_wp2_with fail
  refine (price_ready _ _ ?_ ?_ ?_ ?_ ?_ ?_ ?_).mono ?_
  · simp
  iterate 6 (focus (go_simp; done))
  rintro e w4 ⟨rfl, hB4⟩
  go_wp2_with fail
  refine (errs_zero _ _ 4 4 (by omega) ?_).mono ?_
  · intro i hi
    match i, hi with
    | 0, _ => go_simp
    | 1, _ => go_simp
    | 2, _ => go_simp
    | 3, _ => go_simp
  rintro e w5 ⟨rfl, rfl⟩
  go_wp2_with fail
  refine (expand_128 _).mono ?_
  rintro e w6 ⟨rfl, rfl⟩
  go_wp2_with fail
  go_ret
  exact ⟨rfl, (by (try show Below _ _ _); repeat (with_reducible first | exact Below.refl _ _ | assumption | exact Hid.out (by assumption) | refine ext_alloc ?_ | refine ext_drewN ?_ | refine ext_drew ?_ | refine ext_setCell ?_ (Nat.le_refl _) | refine ext_setCell ?_ (Nat.le_succ _) | refine ext_trans ?_ (by assumption) | (refine ext_setCell ?_ (by simp)) | (refine ext_setCell ?_ (by simp at *; omega))))⟩
end Go.Proofs.YtleagenhnchjdaaGreatDoor
