/- What is proved here: what only, from, digits of package dialplan answer at the sets that the patterns of a stream have. No condition. -/
import Derived.Test.YtkfflafhlgephaaDoorReadyE
import Derived.Test.YtkfflafhlgephaaDoorPatOrder
namespace Go.Proofs.YtkfflafhlgephaaDoor
open Go.RowKit
set_option linter.unusedVariables false
set_option linter.unusedSimpArgs false

theorem only_35 (w : World) : Calls Tryd.prog 84 #[.int .u8 35] w fun e w' => e = .returned (.int .u16 1) ∧ w = w' := by
  have hcon := signs_index 35 w
  rw [show Lib.indexByte signsL (35 : Int).toNat.toUInt8 = 0 by decide] at hcon
  go_enter Tryd.func84, Tryd.ntmps84
  go_wp2_with (go_at_call 104; refine hcon.mono ?_; rintro e w' ⟨rfl, rfl⟩)
  go_ret
  exact ⟨rfl, rfl⟩
theorem only_42 (w : World) : Calls Tryd.prog 84 #[.int .u8 42] w fun e w' => e = .returned (.int .u16 2) ∧ w = w' := by
  have hcon := signs_index 42 w
  rw [show Lib.indexByte signsL (42 : Int).toNat.toUInt8 = 1 by decide] at hcon
  go_enter Tryd.func84, Tryd.ntmps84
  go_wp2_with (go_at_call 104; refine hcon.mono ?_; rintro e w' ⟨rfl, rfl⟩)
  go_ret
  exact ⟨rfl, rfl⟩
theorem only_48 (w : World) : Calls Tryd.prog 84 #[.int .u8 48] w fun e w' => e = .returned (.int .u16 4) ∧ w = w' := by
  have hcon := signs_index 48 w
  rw [show Lib.indexByte signsL (48 : Int).toNat.toUInt8 = 2 by decide] at hcon
  go_enter Tryd.func84, Tryd.ntmps84
  go_wp2_with (go_at_call 104; refine hcon.mono ?_; rintro e w' ⟨rfl, rfl⟩)
  go_ret
  exact ⟨rfl, rfl⟩
/-- The sign of a number. -/
def signN (i : Nat) : UInt8 := signsL.getD i 0
theorem only_at (i : Nat) (hi : i < 12) (w : World) : Calls Tryd.prog 84 #[.int .u8 (signN i).toNat] w fun e w' => e = .returned (.int .u16 ((2 ^ i : Nat) : Int)) ∧ w = w' := by
  match i, hi with
  | 0, _ => exact only_35 w
  | 1, _ => exact only_42 w
  | 2, _ => exact only_48 w
  | 3, _ => exact only_49 w
  | 4, _ => exact only_50 w
  | 5, _ => exact only_51 w
  | 6, _ => exact only_52 w
  | 7, _ => exact only_53 w
  | 8, _ => exact only_54 w
  | 9, _ => exact only_55 w
  | 10, _ => exact only_56 w
  | 11, _ => exact only_57 w

set_option maxHeartbeats 1000000 in
theorem from_48_57 (w : World) : Calls Tryd.prog 102 #[.int .u8 48, .int .u8 57] w fun e w' => e = .returned (.int .u16 4092) ∧ w = w' := by
  go_enter Tryd.func102, Tryd.ntmps102
  go_wp2_with fail
  refine wp_loop_rounds 11 ?_
  rw [rounds_succ]
  go_wp2_with (go_at_call 84; refine (only_48 _).mono ?_; rintro e w' ⟨rfl, rfl⟩)
  rw [rounds_succ]
  go_wp2_with (go_at_call 84; refine (only_49 _).mono ?_; rintro e w' ⟨rfl, rfl⟩)
  rw [rounds_succ]
  go_wp2_with (go_at_call 84; refine (only_50 _).mono ?_; rintro e w' ⟨rfl, rfl⟩)
  rw [rounds_succ]
  go_wp2_with (go_at_call 84; refine (only_51 _).mono ?_; rintro e w' ⟨rfl, rfl⟩)
  rw [rounds_succ]
  go_wp2_with (go_at_call 84; refine (only_52 _).mono ?_; rintro e w' ⟨rfl, rfl⟩)
  rw [rounds_succ]
  go_wp2_with (go_at_call 84; refine (only_53 _).mono ?_; rintro e w' ⟨rfl, rfl⟩)
  rw [rounds_succ]
  go_wp2_with (go_at_call 84; refine (only_54 _).mono ?_; rintro e w' ⟨rfl, rfl⟩)
  rw [rounds_succ]
  go_wp2_with (go_at_call 84; refine (only_55 _).mono ?_; rintro e w' ⟨rfl, rfl⟩)
  rw [rounds_succ]
  go_wp2_with (go_at_call 84; refine (only_56 _).mono ?_; rintro e w' ⟨rfl, rfl⟩)
  rw [rounds_succ]
  go_wp2_with (go_at_call 84; refine (only_57 _).mono ?_; rintro e w' ⟨rfl, rfl⟩)
  rw [rounds_succ]
  go_wp2_with fail
  go_ret
  exact ⟨rfl, rfl⟩
set_option maxHeartbeats 1000000 in
theorem from_49_57 (w : World) : Calls Tryd.prog 102 #[.int .u8 49, .int .u8 57] w fun e w' => e = .returned (.int .u16 4088) ∧ w = w' := by
  go_enter Tryd.func102, Tryd.ntmps102
  go_wp2_with fail
  refine wp_loop_rounds 10 ?_
  rw [rounds_succ]
  go_wp2_with (go_at_call 84; refine (only_49 _).mono ?_; rintro e w' ⟨rfl, rfl⟩)
  rw [rounds_succ]
  go_wp2_with (go_at_call 84; refine (only_50 _).mono ?_; rintro e w' ⟨rfl, rfl⟩)
  rw [rounds_succ]
  go_wp2_with (go_at_call 84; refine (only_51 _).mono ?_; rintro e w' ⟨rfl, rfl⟩)
  rw [rounds_succ]
  go_wp2_with (go_at_call 84; refine (only_52 _).mono ?_; rintro e w' ⟨rfl, rfl⟩)
  rw [rounds_succ]
  go_wp2_with (go_at_call 84; refine (only_53 _).mono ?_; rintro e w' ⟨rfl, rfl⟩)
  rw [rounds_succ]
  go_wp2_with (go_at_call 84; refine (only_54 _).mono ?_; rintro e w' ⟨rfl, rfl⟩)
  rw [rounds_succ]
  go_wp2_with (go_at_call 84; refine (only_55 _).mono ?_; rintro e w' ⟨rfl, rfl⟩)
  rw [rounds_succ]
  go_wp2_with (go_at_call 84; refine (only_56 _).mono ?_; rintro e w' ⟨rfl, rfl⟩)
  rw [rounds_succ]
  go_wp2_with (go_at_call 84; refine (only_57 _).mono ?_; rintro e w' ⟨rfl, rfl⟩)
  rw [rounds_succ]
  go_wp2_with fail
  go_ret
  exact ⟨rfl, rfl⟩
set_option maxHeartbeats 1000000 in
theorem from_50_52 (w : World) : Calls Tryd.prog 102 #[.int .u8 50, .int .u8 52] w fun e w' => e = .returned (.int .u16 112) ∧ w = w' := by
  go_enter Tryd.func102, Tryd.ntmps102
  go_wp2_with fail
  refine wp_loop_rounds 4 ?_
  rw [rounds_succ]
  go_wp2_with (go_at_call 84; refine (only_50 _).mono ?_; rintro e w' ⟨rfl, rfl⟩)
  rw [rounds_succ]
  go_wp2_with (go_at_call 84; refine (only_51 _).mono ?_; rintro e w' ⟨rfl, rfl⟩)
  rw [rounds_succ]
  go_wp2_with (go_at_call 84; refine (only_52 _).mono ?_; rintro e w' ⟨rfl, rfl⟩)
  rw [rounds_succ]
  go_wp2_with fail
  go_ret
  exact ⟨rfl, rfl⟩
set_option maxHeartbeats 1000000 in
theorem from_49_51 (w : World) : Calls Tryd.prog 102 #[.int .u8 49, .int .u8 51] w fun e w' => e = .returned (.int .u16 56) ∧ w = w' := by
  go_enter Tryd.func102, Tryd.ntmps102
  go_wp2_with fail
  refine wp_loop_rounds 4 ?_
  rw [rounds_succ]
  go_wp2_with (go_at_call 84; refine (only_49 _).mono ?_; rintro e w' ⟨rfl, rfl⟩)
  rw [rounds_succ]
  go_wp2_with (go_at_call 84; refine (only_50 _).mono ?_; rintro e w' ⟨rfl, rfl⟩)
  rw [rounds_succ]
  go_wp2_with (go_at_call 84; refine (only_51 _).mono ?_; rintro e w' ⟨rfl, rfl⟩)
  rw [rounds_succ]
  go_wp2_with fail
  go_ret
  exact ⟨rfl, rfl⟩
set_option maxHeartbeats 1000000 in
theorem from_49_49 (w : World) : Calls Tryd.prog 102 #[.int .u8 49, .int .u8 49] w fun e w' => e = .returned (.int .u16 8) ∧ w = w' := by
  go_enter Tryd.func102, Tryd.ntmps102
  go_wp2_with fail
  refine wp_loop_rounds 2 ?_
  rw [rounds_succ]
  go_wp2_with (go_at_call 84; refine (only_49 _).mono ?_; rintro e w' ⟨rfl, rfl⟩)
  rw [rounds_succ]
  go_wp2_with fail
  go_ret
  exact ⟨rfl, rfl⟩
set_option maxHeartbeats 1000000 in
theorem from_50_50 (w : World) : Calls Tryd.prog 102 #[.int .u8 50, .int .u8 50] w fun e w' => e = .returned (.int .u16 16) ∧ w = w' := by
  go_enter Tryd.func102, Tryd.ntmps102
  go_wp2_with fail
  refine wp_loop_rounds 2 ?_
  rw [rounds_succ]
  go_wp2_with (go_at_call 84; refine (only_50 _).mono ?_; rintro e w' ⟨rfl, rfl⟩)
  rw [rounds_succ]
  go_wp2_with fail
  go_ret
  exact ⟨rfl, rfl⟩
set_option maxHeartbeats 1000000 in
theorem from_53_53 (w : World) : Calls Tryd.prog 102 #[.int .u8 53, .int .u8 53] w fun e w' => e = .returned (.int .u16 128) ∧ w = w' := by
  go_enter Tryd.func102, Tryd.ntmps102
  go_wp2_with fail
  refine wp_loop_rounds 2 ?_
  rw [rounds_succ]
  go_wp2_with (go_at_call 84; refine (only_53 _).mono ?_; rintro e w' ⟨rfl, rfl⟩)
  rw [rounds_succ]
  go_wp2_with fail
  go_ret
  exact ⟨rfl, rfl⟩
set_option maxHeartbeats 1000000 in
theorem from_57_57 (w : World) : Calls Tryd.prog 102 #[.int .u8 57, .int .u8 57] w fun e w' => e = .returned (.int .u16 2048) ∧ w = w' := by
  go_enter Tryd.func102, Tryd.ntmps102
  go_wp2_with fail
  refine wp_loop_rounds 2 ?_
  rw [rounds_succ]
  go_wp2_with (go_at_call 84; refine (only_57 _).mono ?_; rintro e w' ⟨rfl, rfl⟩)
  rw [rounds_succ]
  go_wp2_with fail
  go_ret
  exact ⟨rfl, rfl⟩
set_option maxRecDepth 100000 in
theorem ones_24 (w : World) : Calls Tryd.prog 118 #[.int .u16 24] w fun e w' => e = .returned (.int .i64 2) ∧ ∃ q, w' = w.drewN q := by
  have e1 : bits BinOp.and IntKind.u16 24 255 = 24 := by decide
  go_enter Tryd.func118, Tryd.ntmps118
  go_wp2_with fail
  go_quiet (fail)
  go_wp2_with fail
  go_ret
  exact ⟨ret_int (by first | rfl | decide), _, rfl⟩
set_option maxRecDepth 100000 in
theorem ones_2064 (w : World) : Calls Tryd.prog 118 #[.int .u16 2064] w fun e w' => e = .returned (.int .i64 2) ∧ ∃ q, w' = w.drewN q := by
  have e1 : bits BinOp.and IntKind.u16 2064 255 = 16 := by decide
  go_enter Tryd.func118, Tryd.ntmps118
  go_wp2_with fail
  go_quiet (fail)
  go_wp2_with fail
  go_ret
  exact ⟨ret_int (by first | rfl | decide), _, rfl⟩
set_option maxRecDepth 100000 in
theorem ones_112 (w : World) : Calls Tryd.prog 118 #[.int .u16 112] w fun e w' => e = .returned (.int .i64 3) ∧ ∃ q, w' = w.drewN q := by
  have e1 : bits BinOp.and IntKind.u16 112 255 = 112 := by decide
  go_enter Tryd.func118, Tryd.ntmps118
  go_wp2_with fail
  go_quiet (fail)
  go_wp2_with fail
  go_ret
  exact ⟨ret_int (by first | rfl | decide), _, rfl⟩
set_option maxRecDepth 100000 in
theorem ones_184 (w : World) : Calls Tryd.prog 118 #[.int .u16 184] w fun e w' => e = .returned (.int .i64 4) ∧ ∃ q, w' = w.drewN q := by
  have e1 : bits BinOp.and IntKind.u16 184 255 = 184 := by decide
  go_enter Tryd.func118, Tryd.ntmps118
  go_wp2_with fail
  go_quiet (fail)
  go_wp2_with fail
  go_ret
  exact ⟨ret_int (by first | rfl | decide), _, rfl⟩

theorem addr_add0' (b j : Nat) : (⟨b, 0, none⟩ : Addr).add j = ⟨b, j, none⟩ := by unfold Addr.add; split <;> simp_all
theorem push_bytes (l : List UInt8) : ∀ a : ByteArray, List.foldl (fun r (n : Int) => r.push (UInt8.ofNat n.toNat)) a (List.map (fun b => (b.toNat : Int)) l) = ⟨a.data ++ l.toArray⟩ := by
  induction l with
  | nil => intro a; simp
  | cons x l ih =>
    intro a
    simp only [List.map_cons, List.foldl_cons]
    rw [ih]
    congr 1
    simp [ByteArray.push]
/-- Bytes of the call's own as a string. -/
theorem conv_bytes (w : World) (g n cp : Nat) (l : List UInt8) (hn : l.length = n) (hc : ∀ j, j < n → w.cell? ⟨g, j, none⟩ = (l.map fun b => Value.int .u8 b.toNat)[j]?) : (convert 148 9 (.slice (some ⟨g, 0, none⟩) n cp)).run Tryd.prog w = .ok (.string ⟨l.toArray⟩) w := by
  have hload : (loadCells ⟨g, 0, none⟩ n).run Tryd.prog w = .ok ((l.map fun b => (b.toNat : Int)).map (Value.int .u8)).toArray w := by
    have := run_loadCells_list (P := Tryd.prog) w ⟨g, 0, none⟩ (l.map fun b => Value.int .u8 b.toNat) (fun j v hj => by
      rw [addr_add0']
      have hj2 : j < n := by have := (List.getElem?_eq_some_iff.1 hj).1; simpa [hn] using this
      rw [hc j hj2]; exact hj)
    rw [List.length_map, hn] at this
    rw [this]
    simp [Function.comp_def]
  rw [run_convert_bytes_string _ 148 9 5 _ _ _ Tryd.underlying148 Tryd.underlying5 Tryd.underlying9, run_bytesToString _ ⟨g, 0, none⟩ n cp (l.map fun b => (b.toNat : Int)) hload]
  rw [push_bytes]
  simp

set_option maxRecDepth 100000 in
set_option maxHeartbeats 4000000 in
theorem digits_24 (w : World) : Calls Tryd.prog 119 #[.int .u16 24] w fun e w' => e = .returned (.string ⟨#[49, 50]⟩) ∧ Below w.heap.size w w' := by
  go_enter Tryd.func119, Tryd.ntmps119
  go_wp2_with fail
  refine wp_loop_rounds 10 ?_
  rw [rounds_succ]
  go_wp2_with (go_at_call 84; refine (only_48 _).mono ?_; rintro e w' ⟨rfl, rfl⟩)
  rw [rounds_succ]
  go_wp2_with (go_at_call 84; refine (only_49 _).mono ?_; rintro e w' ⟨rfl, rfl⟩)
  refine wp_loop_rounds 2 ?_
  rw [rounds_succ]
  go_wp2_with (go_at_call 84; refine (only_50 _).mono ?_; rintro e w' ⟨rfl, rfl⟩)
  rw [rounds_succ]
  have hcv0 : (convert 148 9 (.slice (some ⟨w.heap.size, 0, none⟩) 2 2)).run Tryd.prog (w.alloc (.cells #[.int .u8 49, .int .u8 50] 5)) = .ok (.string ⟨#[49, 50]⟩) (w.alloc (.cells #[.int .u8 49, .int .u8 50] 5)) := conv_bytes _ _ 2 _ [49, 50] rfl (fun j hj => by match j, hj with | 0, _ => (first | (go_simp; done) | (go_simp; rfl)) | 1, _ => (first | (go_simp; done) | (go_simp; rfl)))
  go_wp2_with (go_at_call 84; refine (only_51 _).mono ?_; rintro e w' ⟨rfl, rfl⟩)
  clear hcv0
  rw [rounds_succ]
  go_wp2_with (go_at_call 84; refine (only_51 _).mono ?_; rintro e w' ⟨rfl, rfl⟩)
  rw [rounds_succ]
  go_wp2_with (go_at_call 84; refine (only_52 _).mono ?_; rintro e w' ⟨rfl, rfl⟩)
  rw [rounds_succ]
  go_wp2_with (go_at_call 84; refine (only_53 _).mono ?_; rintro e w' ⟨rfl, rfl⟩)
  rw [rounds_succ]
  go_wp2_with (go_at_call 84; refine (only_54 _).mono ?_; rintro e w' ⟨rfl, rfl⟩)
  rw [rounds_succ]
  go_wp2_with (go_at_call 84; refine (only_55 _).mono ?_; rintro e w' ⟨rfl, rfl⟩)
  rw [rounds_succ]
  go_wp2_with (go_at_call 84; refine (only_56 _).mono ?_; rintro e w' ⟨rfl, rfl⟩)
  rw [rounds_succ]
  go_wp2_with (go_at_call 84; refine (only_57 _).mono ?_; rintro e w' ⟨rfl, rfl⟩)
  rw [rounds_succ]
  go_wp2_with fail
  go_ret
  exact ⟨rfl, (by (try show Below _ _ _); repeat (with_reducible first | exact Below.refl _ _ | assumption | exact Hid.out (by assumption) | refine ext_alloc ?_ | refine ext_drewN ?_ | refine ext_drew ?_ | refine ext_setCell ?_ (Nat.le_refl _) | refine ext_setCell ?_ (Nat.le_succ _) | refine ext_trans ?_ (by assumption) | (refine ext_setCell ?_ (by simp)) | (refine ext_setCell ?_ (by simp at *; omega))))⟩
set_option maxRecDepth 100000 in
set_option maxHeartbeats 4000000 in
theorem digits_2064 (w : World) : Calls Tryd.prog 119 #[.int .u16 2064] w fun e w' => e = .returned (.string ⟨#[50, 57]⟩) ∧ Below w.heap.size w w' := by
  go_enter Tryd.func119, Tryd.ntmps119
  go_wp2_with fail
  refine wp_loop_rounds 11 ?_
  rw [rounds_succ]
  go_wp2_with (go_at_call 84; refine (only_48 _).mono ?_; rintro e w' ⟨rfl, rfl⟩)
  rw [rounds_succ]
  go_wp2_with (go_at_call 84; refine (only_49 _).mono ?_; rintro e w' ⟨rfl, rfl⟩)
  rw [rounds_succ]
  go_wp2_with (go_at_call 84; refine (only_50 _).mono ?_; rintro e w' ⟨rfl, rfl⟩)
  refine wp_loop_rounds 1 ?_
  rw [rounds_succ]
  have hcv0 : (convert 148 9 (.slice (some ⟨w.heap.size, 0, none⟩) 1 1)).run Tryd.prog (w.alloc (.cells #[.int .u8 50] 5)) = .ok (.string ⟨#[50]⟩) (w.alloc (.cells #[.int .u8 50] 5)) := conv_bytes _ _ 1 _ [50] rfl (fun j hj => by match j, hj with | 0, _ => (first | (go_simp; done) | (go_simp; rfl)))
  go_wp2_with (go_at_call 84; refine (only_51 _).mono ?_; rintro e w' ⟨rfl, rfl⟩)
  clear hcv0
  rw [rounds_succ]
  go_wp2_with (go_at_call 84; refine (only_51 _).mono ?_; rintro e w' ⟨rfl, rfl⟩)
  rw [rounds_succ]
  go_wp2_with (go_at_call 84; refine (only_52 _).mono ?_; rintro e w' ⟨rfl, rfl⟩)
  rw [rounds_succ]
  go_wp2_with (go_at_call 84; refine (only_53 _).mono ?_; rintro e w' ⟨rfl, rfl⟩)
  rw [rounds_succ]
  go_wp2_with (go_at_call 84; refine (only_54 _).mono ?_; rintro e w' ⟨rfl, rfl⟩)
  rw [rounds_succ]
  go_wp2_with (go_at_call 84; refine (only_55 _).mono ?_; rintro e w' ⟨rfl, rfl⟩)
  rw [rounds_succ]
  go_wp2_with (go_at_call 84; refine (only_56 _).mono ?_; rintro e w' ⟨rfl, rfl⟩)
  rw [rounds_succ]
  go_wp2_with (go_at_call 84; refine (only_57 _).mono ?_; rintro e w' ⟨rfl, rfl⟩)
  refine wp_loop_rounds 1 ?_
  rw [rounds_succ]
  have hcv1 : (convert 148 9 (.slice (some ⟨w.heap.size + 1, 0, none⟩) 1 1)).run Tryd.prog ((w.alloc (.cells #[.int .u8 50] 5)).alloc (.cells #[.int .u8 57] 5)) = .ok (.string ⟨#[57]⟩) ((w.alloc (.cells #[.int .u8 50] 5)).alloc (.cells #[.int .u8 57] 5)) := conv_bytes _ _ 1 _ [57] rfl (fun j hj => by match j, hj with | 0, _ => (first | (go_simp; done) | (go_simp; rfl)))
  go_wp2_with fail
  clear hcv1
  rw [rounds_succ]
  go_wp2_with fail
  go_ret
  exact ⟨rfl, (by (try show Below _ _ _); repeat (with_reducible first | exact Below.refl _ _ | assumption | exact Hid.out (by assumption) | refine ext_alloc ?_ | refine ext_drewN ?_ | refine ext_drew ?_ | refine ext_setCell ?_ (Nat.le_refl _) | refine ext_setCell ?_ (Nat.le_succ _) | refine ext_trans ?_ (by assumption) | (refine ext_setCell ?_ (by simp)) | (refine ext_setCell ?_ (by simp at *; omega))))⟩
set_option maxRecDepth 100000 in
set_option maxHeartbeats 4000000 in
theorem digits_112 (w : World) : Calls Tryd.prog 119 #[.int .u16 112] w fun e w' => e = .returned (.string ⟨#[50, 45, 52]⟩) ∧ Below w.heap.size w w' := by
  go_enter Tryd.func119, Tryd.ntmps119
  go_wp2_with fail
  refine wp_loop_rounds 9 ?_
  rw [rounds_succ]
  go_wp2_with (go_at_call 84; refine (only_48 _).mono ?_; rintro e w' ⟨rfl, rfl⟩)
  rw [rounds_succ]
  go_wp2_with (go_at_call 84; refine (only_49 _).mono ?_; rintro e w' ⟨rfl, rfl⟩)
  rw [rounds_succ]
  go_wp2_with (go_at_call 84; refine (only_50 _).mono ?_; rintro e w' ⟨rfl, rfl⟩)
  refine wp_loop_rounds 3 ?_
  rw [rounds_succ]
  go_wp2_with (go_at_call 84; refine (only_51 _).mono ?_; rintro e w' ⟨rfl, rfl⟩)
  rw [rounds_succ]
  go_wp2_with (go_at_call 84; refine (only_52 _).mono ?_; rintro e w' ⟨rfl, rfl⟩)
  rw [rounds_succ]
  have hcv0 : (convert 148 9 (.slice (some ⟨w.heap.size, 0, none⟩) 3 3)).run Tryd.prog (w.alloc (.cells #[.int .u8 50, .int .u8 45, .int .u8 52] 5)) = .ok (.string ⟨#[50, 45, 52]⟩) (w.alloc (.cells #[.int .u8 50, .int .u8 45, .int .u8 52] 5)) := conv_bytes _ _ 3 _ [50, 45, 52] rfl (fun j hj => by match j, hj with | 0, _ => (first | (go_simp; done) | (go_simp; rfl)) | 1, _ => (first | (go_simp; done) | (go_simp; rfl)) | 2, _ => (first | (go_simp; done) | (go_simp; rfl)))
  go_wp2_with (go_at_call 84; refine (only_53 _).mono ?_; rintro e w' ⟨rfl, rfl⟩)
  clear hcv0
  rw [rounds_succ]
  go_wp2_with (go_at_call 84; refine (only_53 _).mono ?_; rintro e w' ⟨rfl, rfl⟩)
  rw [rounds_succ]
  go_wp2_with (go_at_call 84; refine (only_54 _).mono ?_; rintro e w' ⟨rfl, rfl⟩)
  rw [rounds_succ]
  go_wp2_with (go_at_call 84; refine (only_55 _).mono ?_; rintro e w' ⟨rfl, rfl⟩)
  rw [rounds_succ]
  go_wp2_with (go_at_call 84; refine (only_56 _).mono ?_; rintro e w' ⟨rfl, rfl⟩)
  rw [rounds_succ]
  go_wp2_with (go_at_call 84; refine (only_57 _).mono ?_; rintro e w' ⟨rfl, rfl⟩)
  rw [rounds_succ]
  go_wp2_with fail
  go_ret
  exact ⟨rfl, (by (try show Below _ _ _); repeat (with_reducible first | exact Below.refl _ _ | assumption | exact Hid.out (by assumption) | refine ext_alloc ?_ | refine ext_drewN ?_ | refine ext_drew ?_ | refine ext_setCell ?_ (Nat.le_refl _) | refine ext_setCell ?_ (Nat.le_succ _) | refine ext_trans ?_ (by assumption) | (refine ext_setCell ?_ (by simp)) | (refine ext_setCell ?_ (by simp at *; omega))))⟩
set_option maxRecDepth 100000 in
set_option maxHeartbeats 4000000 in
theorem digits_184 (w : World) : Calls Tryd.prog 119 #[.int .u16 184] w fun e w' => e = .returned (.string ⟨#[49, 45, 51, 53]⟩) ∧ Below w.heap.size w w' := by
  go_enter Tryd.func119, Tryd.ntmps119
  go_wp2_with fail
  refine wp_loop_rounds 9 ?_
  rw [rounds_succ]
  go_wp2_with (go_at_call 84; refine (only_48 _).mono ?_; rintro e w' ⟨rfl, rfl⟩)
  rw [rounds_succ]
  go_wp2_with (go_at_call 84; refine (only_49 _).mono ?_; rintro e w' ⟨rfl, rfl⟩)
  refine wp_loop_rounds 3 ?_
  rw [rounds_succ]
  go_wp2_with (go_at_call 84; refine (only_50 _).mono ?_; rintro e w' ⟨rfl, rfl⟩)
  rw [rounds_succ]
  go_wp2_with (go_at_call 84; refine (only_51 _).mono ?_; rintro e w' ⟨rfl, rfl⟩)
  rw [rounds_succ]
  have hcv0 : (convert 148 9 (.slice (some ⟨w.heap.size, 0, none⟩) 3 3)).run Tryd.prog (w.alloc (.cells #[.int .u8 49, .int .u8 45, .int .u8 51] 5)) = .ok (.string ⟨#[49, 45, 51]⟩) (w.alloc (.cells #[.int .u8 49, .int .u8 45, .int .u8 51] 5)) := conv_bytes _ _ 3 _ [49, 45, 51] rfl (fun j hj => by match j, hj with | 0, _ => (first | (go_simp; done) | (go_simp; rfl)) | 1, _ => (first | (go_simp; done) | (go_simp; rfl)) | 2, _ => (first | (go_simp; done) | (go_simp; rfl)))
  go_wp2_with (go_at_call 84; refine (only_52 _).mono ?_; rintro e w' ⟨rfl, rfl⟩)
  clear hcv0
  rw [rounds_succ]
  go_wp2_with (go_at_call 84; refine (only_52 _).mono ?_; rintro e w' ⟨rfl, rfl⟩)
  rw [rounds_succ]
  go_wp2_with (go_at_call 84; refine (only_53 _).mono ?_; rintro e w' ⟨rfl, rfl⟩)
  refine wp_loop_rounds 1 ?_
  rw [rounds_succ]
  have hcv1 : (convert 148 9 (.slice (some ⟨w.heap.size + 1, 0, none⟩) 1 1)).run Tryd.prog ((w.alloc (.cells #[.int .u8 49, .int .u8 45, .int .u8 51] 5)).alloc (.cells #[.int .u8 53] 5)) = .ok (.string ⟨#[53]⟩) ((w.alloc (.cells #[.int .u8 49, .int .u8 45, .int .u8 51] 5)).alloc (.cells #[.int .u8 53] 5)) := conv_bytes _ _ 1 _ [53] rfl (fun j hj => by match j, hj with | 0, _ => (first | (go_simp; done) | (go_simp; rfl)))
  go_wp2_with (go_at_call 84; refine (only_54 _).mono ?_; rintro e w' ⟨rfl, rfl⟩)
  clear hcv1
  rw [rounds_succ]
  go_wp2_with (go_at_call 84; refine (only_54 _).mono ?_; rintro e w' ⟨rfl, rfl⟩)
  rw [rounds_succ]
  go_wp2_with (go_at_call 84; refine (only_55 _).mono ?_; rintro e w' ⟨rfl, rfl⟩)
  rw [rounds_succ]
  go_wp2_with (go_at_call 84; refine (only_56 _).mono ?_; rintro e w' ⟨rfl, rfl⟩)
  rw [rounds_succ]
  go_wp2_with (go_at_call 84; refine (only_57 _).mono ?_; rintro e w' ⟨rfl, rfl⟩)
  rw [rounds_succ]
  go_wp2_with fail
  go_ret
  exact ⟨rfl, (by (try show Below _ _ _); repeat (with_reducible first | exact Below.refl _ _ | assumption | exact Hid.out (by assumption) | refine ext_alloc ?_ | refine ext_drewN ?_ | refine ext_drew ?_ | refine ext_setCell ?_ (Nat.le_refl _) | refine ext_setCell ?_ (Nat.le_succ _) | refine ext_trans ?_ (by assumption) | (refine ext_setCell ?_ (by simp)) | (refine ext_setCell ?_ (by simp at *; omega))))⟩
end Go.Proofs.YtkfflafhlgephaaDoor
