/- What is proved here: lemmas and contracts for the statement, put together out of smaller texts (PatElem, PatRead, PatMatch, NumberK, DplRule, Blk, DplRul, PatBefore). No condition beyond those stated. -/
import Derived.Test.YtkdadbpajhdelaaGreatDoorCePkA
import Derived.Test.YtkdadbpajhdelaaGreatDoorCePkB
import Derived.Test.YtkdadbpajhdelaaGreatDoorCePkD
import Derived.Deep.MidRow
import Derived.IntWalk
namespace Go.Proofs.YtkdadbpajhdelaaGreatDoor
open Go.RowKit
set_option linter.unusedVariables false
set_option linter.unusedSimpArgs false

theorem extract_take' (s : ByteArray) (k : Nat) : (s.extract 0 k).data.toList = s.data.toList.take k := by
  rw [Lib.extract_eq]; simp
theorem byte_at (s : ByteArray) (i : Nat) (b : UInt8) (h : i < s.size) (hb : s.data.toList[i]? = some b) : (s[i]'h).toNat = b.toNat := by
  have : s.data.toList[i]? = some (s[i]'h) := by
    rw [List.getElem?_eq_getElem (show i < s.data.toList.length by rw [Array.length_toList]; exact h)]
    rfl
  rw [hb] at this
  cases this
  rfl
theorem index_5 (rest : List UInt8) : Lib.indexByte (49 :: 50 :: 93 :: rest) 93 = 2 := by simp [Lib.indexByte, List.findIdx?_cons]
set_option maxRecDepth 100000 in
set_option maxHeartbeats 1000000 in
theorem readSet_5 (s : ByteArray) (rest : List UInt8) (hs : s.data.toList = 49 :: 50 :: 93 :: rest) (hr : rest.length ≤ 1000) (w : World) : Calls Tryz.prog 170 #[.string s] w fun e w' => e = .returned (.tuple #[.int .u16 24, .int .i64 3]) ∧ Below w.heap.size w w' := by
  have hix := fun w => Tryz.strings_IndexByte s 93 w
  rw [hs, show Lib.indexByte (49 :: 50 :: 93 :: rest) (93 : Int).toNat.toUInt8 = 2 from index_5 rest] at hix
  have HIX := Lib.hid hix
  have hsz : s.size = rest.length + 3 := by
    show s.data.size = _
    rw [← Array.length_toList, hs]; rfl
  have z0 : 2 < s.size := by omega
  have z1 : s.size ≤ 2000 := by omega
  have hcut : (s.extract 0 2).toList = [49, 50] := by
    rw [Go.ByteArray.toList_eq, extract_take' s, hs]
    simp
  have p0 : 0 < s.size := by omega
  have x0 : (s[0]'p0).toNat = 49 := byte_at s 0 49 p0 (by rw [hs]; rfl)
  have p1 : 1 < s.size := by omega
  have x1 : (s[1]'p1).toNat = 50 := byte_at s 1 50 p1 (by rw [hs]; rfl)
  clear hix hs hsz hr
  go_enter Tryz.func170, Tryz.ntmps170
  go_wp2_with (go_at_call 171; refine (HIX.out _).mono ?_; rintro e w' ⟨rfl, rfl⟩)
  go_loop [5, 6] (fun m i => (m = .int .u16 0 ∧ i = .int .i64 0) ∨ (m = .int .u16 8 ∧ i = .int .i64 1) ∨ (m = .int .u16 24 ∧ i = .int .i64 2)) (fun _ i => 2 - (intOf i).toNat)
  case atStart => exact Or.inl ⟨rfl, rfl⟩
  case round =>
    rcases hrel with ⟨rfl, rfl⟩ | ⟨rfl, rfl⟩ | ⟨rfl, rfl⟩
    · have eo : bits BinOp.or IntKind.u16 0 8 = 8 := by decide
      go_wp2_with (go_at_call 169; refine (from_49_49 _).mono ?_; rintro e w' ⟨rfl, rfl⟩)
      go_round
      case rel => exact Or.inr (Or.inl ⟨rfl, by go_num⟩)
      case measure => decide
    · have eo : bits BinOp.or IntKind.u16 8 16 = 24 := by decide
      go_wp2_with (go_at_call 169; refine (from_50_50 _).mono ?_; rintro e w' ⟨rfl, rfl⟩)
      go_round
      case rel => exact Or.inr (Or.inr (⟨rfl, by go_num⟩))
      case measure => decide
    · go_wp2_with fail
      refine region_seqI (S := fun _ => True) [(true, 0), (false, 1), (true, 2), (true, 3), (true, 4), (false, 5), (true, 6), (true, 7), (true, 8), (true, 9), (false, 10), (true, 11), (true, 12), (true, 13), (true, 14), (false, 15), (true, 16), (true, 17), (true, 18), (true, 19), (true, 21), (true, 22), (true, 23), (false, 20), (true, 24), (true, 25)] (by kernel_rfl) (by kernel_rfl) rfl (by kernel_rfl) trivial ?_
      simp only [seqOps, List.getD_cons_zero, List.getD_cons_succ]
      refine seqI_take (v := .int .u16 24) rfl (fun w9 _ => (by go_simp)) (fun _ _ _ h => h) ?_
      simp only [Act.put, List.setIfInBounds_toArray, List.set_cons_zero, List.set_cons_succ]
      refine seqI_call 194 #[.int .u16 24] rfl (by go_simp) (ones_24 _) ?_
      rintro e w9 ⟨rfl, nq, rfl⟩
      refine ⟨_, rfl, trivial, ?_⟩
      simp only [Act.put, List.setIfInBounds_toArray, List.set_cons_zero, List.set_cons_succ]
      refine seqI_take (v := .bool false) rfl (fun w9 _ => (by go_simp)) (fun _ _ _ h => h) ?_
      simp only [Act.put, List.setIfInBounds_toArray, List.set_cons_zero, List.set_cons_succ]
      refine seqI_take (v := .bool false) rfl (fun w9 _ => (by go_simp)) (fun _ _ _ h => h) ?_
      simp only [Act.put, List.setIfInBounds_toArray, List.set_cons_zero, List.set_cons_succ]
      refine seqI_take (v := .int .u16 24) rfl (fun w9 _ => (by go_simp)) (fun _ _ _ h => h) ?_
      simp only [Act.put, List.setIfInBounds_toArray, List.set_cons_zero, List.set_cons_succ]
      refine seqI_call 169 #[.int .u8 48, .int .u8 57] rfl (by go_simp) (from_48_57 _) ?_
      rintro e w9 ⟨rfl, rfl⟩
      refine ⟨_, rfl, trivial, ?_⟩
      simp only [Act.put, List.setIfInBounds_toArray, List.set_cons_zero, List.set_cons_succ]
      refine seqI_take (v := .bool false) rfl (fun w9 _ => (by go_simp)) (fun _ _ _ h => h) ?_
      simp only [Act.put, List.setIfInBounds_toArray, List.set_cons_zero, List.set_cons_succ]
      refine seqI_take (v := .bool false) rfl (fun w9 _ => (by go_simp)) (fun _ _ _ h => h) ?_
      simp only [Act.put, List.setIfInBounds_toArray, List.set_cons_zero, List.set_cons_succ]
      refine seqI_take (v := .bool false) rfl (fun w9 _ => (by go_simp)) (fun _ _ _ h => h) ?_
      simp only [Act.put, List.setIfInBounds_toArray, List.set_cons_zero, List.set_cons_succ]
      refine seqI_take (v := .int .u16 24) rfl (fun w9 _ => (by go_simp)) (fun _ _ _ h => h) ?_
      simp only [Act.put, List.setIfInBounds_toArray, List.set_cons_zero, List.set_cons_succ]
      refine seqI_call 169 #[.int .u8 49, .int .u8 57] rfl (by go_simp) (from_49_57 _) ?_
      rintro e w9 ⟨rfl, rfl⟩
      refine ⟨_, rfl, trivial, ?_⟩
      simp only [Act.put, List.setIfInBounds_toArray, List.set_cons_zero, List.set_cons_succ]
      refine seqI_take (v := .bool false) rfl (fun w9 _ => (by go_simp)) (fun _ _ _ h => h) ?_
      simp only [Act.put, List.setIfInBounds_toArray, List.set_cons_zero, List.set_cons_succ]
      refine seqI_take (v := .bool false) rfl (fun w9 _ => (by go_simp)) (fun _ _ _ h => h) ?_
      simp only [Act.put, List.setIfInBounds_toArray, List.set_cons_zero, List.set_cons_succ]
      refine seqI_take (v := .bool false) rfl (fun w9 _ => (by go_simp)) (fun _ _ _ h => h) ?_
      simp only [Act.put, List.setIfInBounds_toArray, List.set_cons_zero, List.set_cons_succ]
      refine seqI_take (v := .int .u16 24) rfl (fun w9 _ => (by go_simp)) (fun _ _ _ h => h) ?_
      simp only [Act.put, List.setIfInBounds_toArray, List.set_cons_zero, List.set_cons_succ]
      refine seqI_call 169 #[.int .u8 50, .int .u8 57] rfl (by go_simp) (from_29 _) ?_
      rintro e w9 ⟨rfl, rfl⟩
      refine ⟨_, rfl, trivial, ?_⟩
      simp only [Act.put, List.setIfInBounds_toArray, List.set_cons_zero, List.set_cons_succ]
      refine seqI_take (v := .bool false) rfl (fun w9 _ => (by go_simp)) (fun _ _ _ h => h) ?_
      simp only [Act.put, List.setIfInBounds_toArray, List.set_cons_zero, List.set_cons_succ]
      refine seqI_take (v := .bool false) rfl (fun w9 _ => (by go_simp)) (fun _ _ _ h => h) ?_
      simp only [Act.put, List.setIfInBounds_toArray, List.set_cons_zero, List.set_cons_succ]
      refine seqI_take (v := .bool false) rfl (fun w9 _ => (by go_simp)) (fun _ _ _ h => h) ?_
      simp only [Act.put, List.setIfInBounds_toArray, List.set_cons_zero, List.set_cons_succ]
      refine seqI_take (v := .int .u16 24) rfl (fun w9 _ => (by go_simp)) (fun _ _ _ h => h) ?_
      simp only [Act.put, List.setIfInBounds_toArray, List.set_cons_zero, List.set_cons_succ]
      refine seqI_take (v := .string s) rfl (fun w9 _ => (by go_simp)) (fun _ _ _ h => h) ?_
      simp only [Act.put, List.setIfInBounds_toArray, List.set_cons_zero, List.set_cons_succ]
      refine seqI_take (v := .int .i64 2) rfl (fun w9 _ => (by go_simp)) (fun _ _ _ h => h) ?_
      simp only [Act.put, List.setIfInBounds_toArray, List.set_cons_zero, List.set_cons_succ]
      refine seqI_take (v := .string (s.extract 0 2)) rfl (fun w9 _ => (by go_simp; intro h9; exfalso; omega)) (fun _ _ _ h => h) ?_
      simp only [Act.put, List.setIfInBounds_toArray, List.set_cons_zero, List.set_cons_succ]
      refine seqI_call 195 #[.int .u16 24] rfl (by go_simp) (digits_24 _) ?_
      rintro e w9 ⟨rfl, hB9⟩
      refine ⟨_, rfl, trivial, ?_⟩
      simp only [Act.put, List.setIfInBounds_toArray, List.set_cons_zero, List.set_cons_succ]
      refine seqI_take (v := .bool false) rfl (fun w9 _ => (by go_simp)) (fun _ _ _ h => h) ?_
      simp only [Act.put, List.setIfInBounds_toArray, List.set_cons_zero, List.set_cons_succ]
      refine seqI_take (v := .bool false) rfl (fun w9 _ => (by go_simp)) (fun _ _ _ h => h) ?_
      simp only [Act.put, List.setIfInBounds_toArray, List.set_cons_zero, List.set_cons_succ]
      refine seqI_nil ?_
      go_wp2_with fail
      go_ret2
      exact ⟨rfl, (by (try show Below _ _ _); repeat (with_reducible first | exact Below.refl _ _ | assumption | exact Hid.out (by assumption) | refine ext_alloc ?_ | refine ext_drewN ?_ | refine ext_drew ?_ | refine ext_setCell ?_ (Nat.le_refl _) | refine ext_setCell ?_ (Nat.le_succ _) | refine ext_trans ?_ (by assumption) | (refine ext_setCell ?_ (by simp)) | (refine ext_setCell ?_ (by simp at *; omega))))⟩
theorem index_6 (rest : List UInt8) : Lib.indexByte (50 :: 57 :: 93 :: rest) 93 = 2 := by simp [Lib.indexByte, List.findIdx?_cons]
set_option maxRecDepth 100000 in
set_option maxHeartbeats 1000000 in
theorem readSet_6 (s : ByteArray) (rest : List UInt8) (hs : s.data.toList = 50 :: 57 :: 93 :: rest) (hr : rest.length ≤ 1000) (w : World) : Calls Tryz.prog 170 #[.string s] w fun e w' => e = .returned (.tuple #[.int .u16 2064, .int .i64 3]) ∧ Below w.heap.size w w' := by
  have hix := fun w => Tryz.strings_IndexByte s 93 w
  rw [hs, show Lib.indexByte (50 :: 57 :: 93 :: rest) (93 : Int).toNat.toUInt8 = 2 from index_6 rest] at hix
  have HIX := Lib.hid hix
  have hsz : s.size = rest.length + 3 := by
    show s.data.size = _
    rw [← Array.length_toList, hs]; rfl
  have z0 : 2 < s.size := by omega
  have z1 : s.size ≤ 2000 := by omega
  have hcut : (s.extract 0 2).toList = [50, 57] := by
    rw [Go.ByteArray.toList_eq, extract_take' s, hs]
    simp
  have p0 : 0 < s.size := by omega
  have x0 : (s[0]'p0).toNat = 50 := byte_at s 0 50 p0 (by rw [hs]; rfl)
  have p1 : 1 < s.size := by omega
  have x1 : (s[1]'p1).toNat = 57 := byte_at s 1 57 p1 (by rw [hs]; rfl)
  clear hix hs hsz hr
  go_enter Tryz.func170, Tryz.ntmps170
  go_wp2_with (go_at_call 171; refine (HIX.out _).mono ?_; rintro e w' ⟨rfl, rfl⟩)
  go_loop [5, 6] (fun m i => (m = .int .u16 0 ∧ i = .int .i64 0) ∨ (m = .int .u16 16 ∧ i = .int .i64 1) ∨ (m = .int .u16 2064 ∧ i = .int .i64 2)) (fun _ i => 2 - (intOf i).toNat)
  case atStart => exact Or.inl ⟨rfl, rfl⟩
  case round =>
    rcases hrel with ⟨rfl, rfl⟩ | ⟨rfl, rfl⟩ | ⟨rfl, rfl⟩
    · have eo : bits BinOp.or IntKind.u16 0 16 = 16 := by decide
      go_wp2_with (go_at_call 169; refine (from_50_50 _).mono ?_; rintro e w' ⟨rfl, rfl⟩)
      go_round
      case rel => exact Or.inr (Or.inl ⟨rfl, by go_num⟩)
      case measure => decide
    · have eo : bits BinOp.or IntKind.u16 16 2048 = 2064 := by decide
      go_wp2_with (go_at_call 169; refine (from_57_57 _).mono ?_; rintro e w' ⟨rfl, rfl⟩)
      go_round
      case rel => exact Or.inr (Or.inr (⟨rfl, by go_num⟩))
      case measure => decide
    · go_wp2_with fail
      refine region_seqI (S := fun _ => True) [(true, 0), (false, 1), (true, 2), (true, 3), (true, 4), (false, 5), (true, 6), (true, 7), (true, 8), (true, 9), (false, 10), (true, 11), (true, 12), (true, 13), (true, 14), (false, 15), (true, 16), (true, 17), (true, 18), (true, 19), (true, 21), (true, 22), (true, 23), (false, 20), (true, 24), (true, 25)] (by kernel_rfl) (by kernel_rfl) rfl (by kernel_rfl) trivial ?_
      simp only [seqOps, List.getD_cons_zero, List.getD_cons_succ]
      refine seqI_take (v := .int .u16 2064) rfl (fun w9 _ => (by go_simp)) (fun _ _ _ h => h) ?_
      simp only [Act.put, List.setIfInBounds_toArray, List.set_cons_zero, List.set_cons_succ]
      refine seqI_call 194 #[.int .u16 2064] rfl (by go_simp) (ones_2064 _) ?_
      rintro e w9 ⟨rfl, nq, rfl⟩
      refine ⟨_, rfl, trivial, ?_⟩
      simp only [Act.put, List.setIfInBounds_toArray, List.set_cons_zero, List.set_cons_succ]
      refine seqI_take (v := .bool false) rfl (fun w9 _ => (by go_simp)) (fun _ _ _ h => h) ?_
      simp only [Act.put, List.setIfInBounds_toArray, List.set_cons_zero, List.set_cons_succ]
      refine seqI_take (v := .bool false) rfl (fun w9 _ => (by go_simp)) (fun _ _ _ h => h) ?_
      simp only [Act.put, List.setIfInBounds_toArray, List.set_cons_zero, List.set_cons_succ]
      refine seqI_take (v := .int .u16 2064) rfl (fun w9 _ => (by go_simp)) (fun _ _ _ h => h) ?_
      simp only [Act.put, List.setIfInBounds_toArray, List.set_cons_zero, List.set_cons_succ]
      refine seqI_call 169 #[.int .u8 48, .int .u8 57] rfl (by go_simp) (from_48_57 _) ?_
      rintro e w9 ⟨rfl, rfl⟩
      refine ⟨_, rfl, trivial, ?_⟩
      simp only [Act.put, List.setIfInBounds_toArray, List.set_cons_zero, List.set_cons_succ]
      refine seqI_take (v := .bool false) rfl (fun w9 _ => (by go_simp)) (fun _ _ _ h => h) ?_
      simp only [Act.put, List.setIfInBounds_toArray, List.set_cons_zero, List.set_cons_succ]
      refine seqI_take (v := .bool false) rfl (fun w9 _ => (by go_simp)) (fun _ _ _ h => h) ?_
      simp only [Act.put, List.setIfInBounds_toArray, List.set_cons_zero, List.set_cons_succ]
      refine seqI_take (v := .bool false) rfl (fun w9 _ => (by go_simp)) (fun _ _ _ h => h) ?_
      simp only [Act.put, List.setIfInBounds_toArray, List.set_cons_zero, List.set_cons_succ]
      refine seqI_take (v := .int .u16 2064) rfl (fun w9 _ => (by go_simp)) (fun _ _ _ h => h) ?_
      simp only [Act.put, List.setIfInBounds_toArray, List.set_cons_zero, List.set_cons_succ]
      refine seqI_call 169 #[.int .u8 49, .int .u8 57] rfl (by go_simp) (from_49_57 _) ?_
      rintro e w9 ⟨rfl, rfl⟩
      refine ⟨_, rfl, trivial, ?_⟩
      simp only [Act.put, List.setIfInBounds_toArray, List.set_cons_zero, List.set_cons_succ]
      refine seqI_take (v := .bool false) rfl (fun w9 _ => (by go_simp)) (fun _ _ _ h => h) ?_
      simp only [Act.put, List.setIfInBounds_toArray, List.set_cons_zero, List.set_cons_succ]
      refine seqI_take (v := .bool false) rfl (fun w9 _ => (by go_simp)) (fun _ _ _ h => h) ?_
      simp only [Act.put, List.setIfInBounds_toArray, List.set_cons_zero, List.set_cons_succ]
      refine seqI_take (v := .bool false) rfl (fun w9 _ => (by go_simp)) (fun _ _ _ h => h) ?_
      simp only [Act.put, List.setIfInBounds_toArray, List.set_cons_zero, List.set_cons_succ]
      refine seqI_take (v := .int .u16 2064) rfl (fun w9 _ => (by go_simp)) (fun _ _ _ h => h) ?_
      simp only [Act.put, List.setIfInBounds_toArray, List.set_cons_zero, List.set_cons_succ]
      refine seqI_call 169 #[.int .u8 50, .int .u8 57] rfl (by go_simp) (from_29 _) ?_
      rintro e w9 ⟨rfl, rfl⟩
      refine ⟨_, rfl, trivial, ?_⟩
      simp only [Act.put, List.setIfInBounds_toArray, List.set_cons_zero, List.set_cons_succ]
      refine seqI_take (v := .bool false) rfl (fun w9 _ => (by go_simp)) (fun _ _ _ h => h) ?_
      simp only [Act.put, List.setIfInBounds_toArray, List.set_cons_zero, List.set_cons_succ]
      refine seqI_take (v := .bool false) rfl (fun w9 _ => (by go_simp)) (fun _ _ _ h => h) ?_
      simp only [Act.put, List.setIfInBounds_toArray, List.set_cons_zero, List.set_cons_succ]
      refine seqI_take (v := .bool false) rfl (fun w9 _ => (by go_simp)) (fun _ _ _ h => h) ?_
      simp only [Act.put, List.setIfInBounds_toArray, List.set_cons_zero, List.set_cons_succ]
      refine seqI_take (v := .int .u16 2064) rfl (fun w9 _ => (by go_simp)) (fun _ _ _ h => h) ?_
      simp only [Act.put, List.setIfInBounds_toArray, List.set_cons_zero, List.set_cons_succ]
      refine seqI_take (v := .string s) rfl (fun w9 _ => (by go_simp)) (fun _ _ _ h => h) ?_
      simp only [Act.put, List.setIfInBounds_toArray, List.set_cons_zero, List.set_cons_succ]
      refine seqI_take (v := .int .i64 2) rfl (fun w9 _ => (by go_simp)) (fun _ _ _ h => h) ?_
      simp only [Act.put, List.setIfInBounds_toArray, List.set_cons_zero, List.set_cons_succ]
      refine seqI_take (v := .string (s.extract 0 2)) rfl (fun w9 _ => (by go_simp; intro h9; exfalso; omega)) (fun _ _ _ h => h) ?_
      simp only [Act.put, List.setIfInBounds_toArray, List.set_cons_zero, List.set_cons_succ]
      refine seqI_call 195 #[.int .u16 2064] rfl (by go_simp) (digits_2064 _) ?_
      rintro e w9 ⟨rfl, hB9⟩
      refine ⟨_, rfl, trivial, ?_⟩
      simp only [Act.put, List.setIfInBounds_toArray, List.set_cons_zero, List.set_cons_succ]
      refine seqI_take (v := .bool false) rfl (fun w9 _ => (by go_simp)) (fun _ _ _ h => h) ?_
      simp only [Act.put, List.setIfInBounds_toArray, List.set_cons_zero, List.set_cons_succ]
      refine seqI_take (v := .bool false) rfl (fun w9 _ => (by go_simp)) (fun _ _ _ h => h) ?_
      simp only [Act.put, List.setIfInBounds_toArray, List.set_cons_zero, List.set_cons_succ]
      refine seqI_nil ?_
      go_wp2_with fail
      go_ret2
      exact ⟨rfl, (by (try show Below _ _ _); repeat (with_reducible first | exact Below.refl _ _ | assumption | exact Hid.out (by assumption) | refine ext_alloc ?_ | refine ext_drewN ?_ | refine ext_drew ?_ | refine ext_setCell ?_ (Nat.le_refl _) | refine ext_setCell ?_ (Nat.le_succ _) | refine ext_trans ?_ (by assumption) | (refine ext_setCell ?_ (by simp)) | (refine ext_setCell ?_ (by simp at *; omega))))⟩
theorem index_7 (rest : List UInt8) : Lib.indexByte (50 :: 45 :: 52 :: 93 :: rest) 93 = 3 := by simp [Lib.indexByte, List.findIdx?_cons]
set_option maxRecDepth 100000 in
set_option maxHeartbeats 1000000 in
theorem readSet_7 (s : ByteArray) (rest : List UInt8) (hs : s.data.toList = 50 :: 45 :: 52 :: 93 :: rest) (hr : rest.length ≤ 1000) (w : World) : Calls Tryz.prog 170 #[.string s] w fun e w' => e = .returned (.tuple #[.int .u16 112, .int .i64 4]) ∧ Below w.heap.size w w' := by
  have hix := fun w => Tryz.strings_IndexByte s 93 w
  rw [hs, show Lib.indexByte (50 :: 45 :: 52 :: 93 :: rest) (93 : Int).toNat.toUInt8 = 3 from index_7 rest] at hix
  have HIX := Lib.hid hix
  have hsz : s.size = rest.length + 4 := by
    show s.data.size = _
    rw [← Array.length_toList, hs]; rfl
  have z0 : 3 < s.size := by omega
  have z1 : s.size ≤ 2000 := by omega
  have hcut : (s.extract 0 3).toList = [50, 45, 52] := by
    rw [Go.ByteArray.toList_eq, extract_take' s, hs]
    simp
  have p0 : 0 < s.size := by omega
  have x0 : (s[0]'p0).toNat = 50 := byte_at s 0 50 p0 (by rw [hs]; rfl)
  have p1 : 1 < s.size := by omega
  have x1 : (s[1]'p1).toNat = 45 := byte_at s 1 45 p1 (by rw [hs]; rfl)
  have p2 : 2 < s.size := by omega
  have x2 : (s[2]'p2).toNat = 52 := byte_at s 2 52 p2 (by rw [hs]; rfl)
  clear hix hs hsz hr
  go_enter Tryz.func170, Tryz.ntmps170
  go_wp2_with (go_at_call 171; refine (HIX.out _).mono ?_; rintro e w' ⟨rfl, rfl⟩)
  go_loop [5, 6] (fun m i => (m = .int .u16 0 ∧ i = .int .i64 0) ∨ (m = .int .u16 112 ∧ i = .int .i64 3)) (fun _ i => 3 - (intOf i).toNat)
  case atStart => exact Or.inl ⟨rfl, rfl⟩
  case round =>
    rcases hrel with ⟨rfl, rfl⟩ | ⟨rfl, rfl⟩
    · have eo : bits BinOp.or IntKind.u16 0 112 = 112 := by decide
      go_wp2_with (go_at_call 169; refine (from_50_52 _).mono ?_; rintro e w' ⟨rfl, rfl⟩)
      go_round
      case rel => exact Or.inr (⟨rfl, by go_num⟩)
      case measure => decide
    · go_wp2_with fail
      refine region_seqI (S := fun _ => True) [(true, 0), (false, 1), (true, 2), (true, 3), (true, 4), (false, 5), (true, 6), (true, 7), (true, 8), (true, 9), (false, 10), (true, 11), (true, 12), (true, 13), (true, 14), (false, 15), (true, 16), (true, 17), (true, 18), (true, 19), (true, 21), (true, 22), (true, 23), (false, 20), (true, 24), (true, 25)] (by kernel_rfl) (by kernel_rfl) rfl (by kernel_rfl) trivial ?_
      simp only [seqOps, List.getD_cons_zero, List.getD_cons_succ]
      refine seqI_take (v := .int .u16 112) rfl (fun w9 _ => (by go_simp)) (fun _ _ _ h => h) ?_
      simp only [Act.put, List.setIfInBounds_toArray, List.set_cons_zero, List.set_cons_succ]
      refine seqI_call 194 #[.int .u16 112] rfl (by go_simp) (ones_112 _) ?_
      rintro e w9 ⟨rfl, nq, rfl⟩
      refine ⟨_, rfl, trivial, ?_⟩
      simp only [Act.put, List.setIfInBounds_toArray, List.set_cons_zero, List.set_cons_succ]
      refine seqI_take (v := .bool false) rfl (fun w9 _ => (by go_simp)) (fun _ _ _ h => h) ?_
      simp only [Act.put, List.setIfInBounds_toArray, List.set_cons_zero, List.set_cons_succ]
      refine seqI_take (v := .bool false) rfl (fun w9 _ => (by go_simp)) (fun _ _ _ h => h) ?_
      simp only [Act.put, List.setIfInBounds_toArray, List.set_cons_zero, List.set_cons_succ]
      refine seqI_take (v := .int .u16 112) rfl (fun w9 _ => (by go_simp)) (fun _ _ _ h => h) ?_
      simp only [Act.put, List.setIfInBounds_toArray, List.set_cons_zero, List.set_cons_succ]
      refine seqI_call 169 #[.int .u8 48, .int .u8 57] rfl (by go_simp) (from_48_57 _) ?_
      rintro e w9 ⟨rfl, rfl⟩
      refine ⟨_, rfl, trivial, ?_⟩
      simp only [Act.put, List.setIfInBounds_toArray, List.set_cons_zero, List.set_cons_succ]
      refine seqI_take (v := .bool false) rfl (fun w9 _ => (by go_simp)) (fun _ _ _ h => h) ?_
      simp only [Act.put, List.setIfInBounds_toArray, List.set_cons_zero, List.set_cons_succ]
      refine seqI_take (v := .bool false) rfl (fun w9 _ => (by go_simp)) (fun _ _ _ h => h) ?_
      simp only [Act.put, List.setIfInBounds_toArray, List.set_cons_zero, List.set_cons_succ]
      refine seqI_take (v := .bool false) rfl (fun w9 _ => (by go_simp)) (fun _ _ _ h => h) ?_
      simp only [Act.put, List.setIfInBounds_toArray, List.set_cons_zero, List.set_cons_succ]
      refine seqI_take (v := .int .u16 112) rfl (fun w9 _ => (by go_simp)) (fun _ _ _ h => h) ?_
      simp only [Act.put, List.setIfInBounds_toArray, List.set_cons_zero, List.set_cons_succ]
      refine seqI_call 169 #[.int .u8 49, .int .u8 57] rfl (by go_simp) (from_49_57 _) ?_
      rintro e w9 ⟨rfl, rfl⟩
      refine ⟨_, rfl, trivial, ?_⟩
      simp only [Act.put, List.setIfInBounds_toArray, List.set_cons_zero, List.set_cons_succ]
      refine seqI_take (v := .bool false) rfl (fun w9 _ => (by go_simp)) (fun _ _ _ h => h) ?_
      simp only [Act.put, List.setIfInBounds_toArray, List.set_cons_zero, List.set_cons_succ]
      refine seqI_take (v := .bool false) rfl (fun w9 _ => (by go_simp)) (fun _ _ _ h => h) ?_
      simp only [Act.put, List.setIfInBounds_toArray, List.set_cons_zero, List.set_cons_succ]
      refine seqI_take (v := .bool false) rfl (fun w9 _ => (by go_simp)) (fun _ _ _ h => h) ?_
      simp only [Act.put, List.setIfInBounds_toArray, List.set_cons_zero, List.set_cons_succ]
      refine seqI_take (v := .int .u16 112) rfl (fun w9 _ => (by go_simp)) (fun _ _ _ h => h) ?_
      simp only [Act.put, List.setIfInBounds_toArray, List.set_cons_zero, List.set_cons_succ]
      refine seqI_call 169 #[.int .u8 50, .int .u8 57] rfl (by go_simp) (from_29 _) ?_
      rintro e w9 ⟨rfl, rfl⟩
      refine ⟨_, rfl, trivial, ?_⟩
      simp only [Act.put, List.setIfInBounds_toArray, List.set_cons_zero, List.set_cons_succ]
      refine seqI_take (v := .bool false) rfl (fun w9 _ => (by go_simp)) (fun _ _ _ h => h) ?_
      simp only [Act.put, List.setIfInBounds_toArray, List.set_cons_zero, List.set_cons_succ]
      refine seqI_take (v := .bool false) rfl (fun w9 _ => (by go_simp)) (fun _ _ _ h => h) ?_
      simp only [Act.put, List.setIfInBounds_toArray, List.set_cons_zero, List.set_cons_succ]
      refine seqI_take (v := .bool false) rfl (fun w9 _ => (by go_simp)) (fun _ _ _ h => h) ?_
      simp only [Act.put, List.setIfInBounds_toArray, List.set_cons_zero, List.set_cons_succ]
      refine seqI_take (v := .int .u16 112) rfl (fun w9 _ => (by go_simp)) (fun _ _ _ h => h) ?_
      simp only [Act.put, List.setIfInBounds_toArray, List.set_cons_zero, List.set_cons_succ]
      refine seqI_take (v := .string s) rfl (fun w9 _ => (by go_simp)) (fun _ _ _ h => h) ?_
      simp only [Act.put, List.setIfInBounds_toArray, List.set_cons_zero, List.set_cons_succ]
      refine seqI_take (v := .int .i64 3) rfl (fun w9 _ => (by go_simp)) (fun _ _ _ h => h) ?_
      simp only [Act.put, List.setIfInBounds_toArray, List.set_cons_zero, List.set_cons_succ]
      refine seqI_take (v := .string (s.extract 0 3)) rfl (fun w9 _ => (by go_simp; intro h9; exfalso; omega)) (fun _ _ _ h => h) ?_
      simp only [Act.put, List.setIfInBounds_toArray, List.set_cons_zero, List.set_cons_succ]
      refine seqI_call 195 #[.int .u16 112] rfl (by go_simp) (digits_112 _) ?_
      rintro e w9 ⟨rfl, hB9⟩
      refine ⟨_, rfl, trivial, ?_⟩
      simp only [Act.put, List.setIfInBounds_toArray, List.set_cons_zero, List.set_cons_succ]
      refine seqI_take (v := .bool false) rfl (fun w9 _ => (by go_simp)) (fun _ _ _ h => h) ?_
      simp only [Act.put, List.setIfInBounds_toArray, List.set_cons_zero, List.set_cons_succ]
      refine seqI_take (v := .bool false) rfl (fun w9 _ => (by go_simp)) (fun _ _ _ h => h) ?_
      simp only [Act.put, List.setIfInBounds_toArray, List.set_cons_zero, List.set_cons_succ]
      refine seqI_nil ?_
      go_wp2_with fail
      go_ret2
      exact ⟨rfl, (by (try show Below _ _ _); repeat (with_reducible first | exact Below.refl _ _ | assumption | exact Hid.out (by assumption) | refine ext_alloc ?_ | refine ext_drewN ?_ | refine ext_drew ?_ | refine ext_setCell ?_ (Nat.le_refl _) | refine ext_setCell ?_ (Nat.le_succ _) | refine ext_trans ?_ (by assumption) | (refine ext_setCell ?_ (by simp)) | (refine ext_setCell ?_ (by simp at *; omega))))⟩
theorem index_8 (rest : List UInt8) : Lib.indexByte (49 :: 45 :: 51 :: 53 :: 93 :: rest) 93 = 4 := by simp [Lib.indexByte, List.findIdx?_cons]
set_option maxRecDepth 100000 in
set_option maxHeartbeats 1000000 in
theorem readSet_8 (s : ByteArray) (rest : List UInt8) (hs : s.data.toList = 49 :: 45 :: 51 :: 53 :: 93 :: rest) (hr : rest.length ≤ 1000) (w : World) : Calls Tryz.prog 170 #[.string s] w fun e w' => e = .returned (.tuple #[.int .u16 184, .int .i64 5]) ∧ Below w.heap.size w w' := by
  have hix := fun w => Tryz.strings_IndexByte s 93 w
  rw [hs, show Lib.indexByte (49 :: 45 :: 51 :: 53 :: 93 :: rest) (93 : Int).toNat.toUInt8 = 4 from index_8 rest] at hix
  have HIX := Lib.hid hix
  have hsz : s.size = rest.length + 5 := by
    show s.data.size = _
    rw [← Array.length_toList, hs]; rfl
  have z0 : 4 < s.size := by omega
  have z1 : s.size ≤ 2000 := by omega
  have hcut : (s.extract 0 4).toList = [49, 45, 51, 53] := by
    rw [Go.ByteArray.toList_eq, extract_take' s, hs]
    simp
  have p0 : 0 < s.size := by omega
  have x0 : (s[0]'p0).toNat = 49 := byte_at s 0 49 p0 (by rw [hs]; rfl)
  have p1 : 1 < s.size := by omega
  have x1 : (s[1]'p1).toNat = 45 := byte_at s 1 45 p1 (by rw [hs]; rfl)
  have p2 : 2 < s.size := by omega
  have x2 : (s[2]'p2).toNat = 51 := byte_at s 2 51 p2 (by rw [hs]; rfl)
  have p3 : 3 < s.size := by omega
  have x3 : (s[3]'p3).toNat = 53 := byte_at s 3 53 p3 (by rw [hs]; rfl)
  clear hix hs hsz hr
  go_enter Tryz.func170, Tryz.ntmps170
  go_wp2_with (go_at_call 171; refine (HIX.out _).mono ?_; rintro e w' ⟨rfl, rfl⟩)
  go_loop [5, 6] (fun m i => (m = .int .u16 0 ∧ i = .int .i64 0) ∨ (m = .int .u16 56 ∧ i = .int .i64 3) ∨ (m = .int .u16 184 ∧ i = .int .i64 4)) (fun _ i => 4 - (intOf i).toNat)
  case atStart => exact Or.inl ⟨rfl, rfl⟩
  case round =>
    rcases hrel with ⟨rfl, rfl⟩ | ⟨rfl, rfl⟩ | ⟨rfl, rfl⟩
    · have eo : bits BinOp.or IntKind.u16 0 56 = 56 := by decide
      go_wp2_with (go_at_call 169; refine (from_49_51 _).mono ?_; rintro e w' ⟨rfl, rfl⟩)
      go_round
      case rel => exact Or.inr (Or.inl ⟨rfl, by go_num⟩)
      case measure => decide
    · have eo : bits BinOp.or IntKind.u16 56 128 = 184 := by decide
      go_wp2_with (go_at_call 169; refine (from_53_53 _).mono ?_; rintro e w' ⟨rfl, rfl⟩)
      go_round
      case rel => exact Or.inr (Or.inr (⟨rfl, by go_num⟩))
      case measure => decide
    · go_wp2_with fail
      refine region_seqI (S := fun _ => True) [(true, 0), (false, 1), (true, 2), (true, 3), (true, 4), (false, 5), (true, 6), (true, 7), (true, 8), (true, 9), (false, 10), (true, 11), (true, 12), (true, 13), (true, 14), (false, 15), (true, 16), (true, 17), (true, 18), (true, 19), (true, 21), (true, 22), (true, 23), (false, 20), (true, 24), (true, 25)] (by kernel_rfl) (by kernel_rfl) rfl (by kernel_rfl) trivial ?_
      simp only [seqOps, List.getD_cons_zero, List.getD_cons_succ]
      refine seqI_take (v := .int .u16 184) rfl (fun w9 _ => (by go_simp)) (fun _ _ _ h => h) ?_
      simp only [Act.put, List.setIfInBounds_toArray, List.set_cons_zero, List.set_cons_succ]
      refine seqI_call 194 #[.int .u16 184] rfl (by go_simp) (ones_184 _) ?_
      rintro e w9 ⟨rfl, nq, rfl⟩
      refine ⟨_, rfl, trivial, ?_⟩
      simp only [Act.put, List.setIfInBounds_toArray, List.set_cons_zero, List.set_cons_succ]
      refine seqI_take (v := .bool false) rfl (fun w9 _ => (by go_simp)) (fun _ _ _ h => h) ?_
      simp only [Act.put, List.setIfInBounds_toArray, List.set_cons_zero, List.set_cons_succ]
      refine seqI_take (v := .bool false) rfl (fun w9 _ => (by go_simp)) (fun _ _ _ h => h) ?_
      simp only [Act.put, List.setIfInBounds_toArray, List.set_cons_zero, List.set_cons_succ]
      refine seqI_take (v := .int .u16 184) rfl (fun w9 _ => (by go_simp)) (fun _ _ _ h => h) ?_
      simp only [Act.put, List.setIfInBounds_toArray, List.set_cons_zero, List.set_cons_succ]
      refine seqI_call 169 #[.int .u8 48, .int .u8 57] rfl (by go_simp) (from_48_57 _) ?_
      rintro e w9 ⟨rfl, rfl⟩
      refine ⟨_, rfl, trivial, ?_⟩
      simp only [Act.put, List.setIfInBounds_toArray, List.set_cons_zero, List.set_cons_succ]
      refine seqI_take (v := .bool false) rfl (fun w9 _ => (by go_simp)) (fun _ _ _ h => h) ?_
      simp only [Act.put, List.setIfInBounds_toArray, List.set_cons_zero, List.set_cons_succ]
      refine seqI_take (v := .bool false) rfl (fun w9 _ => (by go_simp)) (fun _ _ _ h => h) ?_
      simp only [Act.put, List.setIfInBounds_toArray, List.set_cons_zero, List.set_cons_succ]
      refine seqI_take (v := .bool false) rfl (fun w9 _ => (by go_simp)) (fun _ _ _ h => h) ?_
      simp only [Act.put, List.setIfInBounds_toArray, List.set_cons_zero, List.set_cons_succ]
      refine seqI_take (v := .int .u16 184) rfl (fun w9 _ => (by go_simp)) (fun _ _ _ h => h) ?_
      simp only [Act.put, List.setIfInBounds_toArray, List.set_cons_zero, List.set_cons_succ]
      refine seqI_call 169 #[.int .u8 49, .int .u8 57] rfl (by go_simp) (from_49_57 _) ?_
      rintro e w9 ⟨rfl, rfl⟩
      refine ⟨_, rfl, trivial, ?_⟩
      simp only [Act.put, List.setIfInBounds_toArray, List.set_cons_zero, List.set_cons_succ]
      refine seqI_take (v := .bool false) rfl (fun w9 _ => (by go_simp)) (fun _ _ _ h => h) ?_
      simp only [Act.put, List.setIfInBounds_toArray, List.set_cons_zero, List.set_cons_succ]
      refine seqI_take (v := .bool false) rfl (fun w9 _ => (by go_simp)) (fun _ _ _ h => h) ?_
      simp only [Act.put, List.setIfInBounds_toArray, List.set_cons_zero, List.set_cons_succ]
      refine seqI_take (v := .bool false) rfl (fun w9 _ => (by go_simp)) (fun _ _ _ h => h) ?_
      simp only [Act.put, List.setIfInBounds_toArray, List.set_cons_zero, List.set_cons_succ]
      refine seqI_take (v := .int .u16 184) rfl (fun w9 _ => (by go_simp)) (fun _ _ _ h => h) ?_
      simp only [Act.put, List.setIfInBounds_toArray, List.set_cons_zero, List.set_cons_succ]
      refine seqI_call 169 #[.int .u8 50, .int .u8 57] rfl (by go_simp) (from_29 _) ?_
      rintro e w9 ⟨rfl, rfl⟩
      refine ⟨_, rfl, trivial, ?_⟩
      simp only [Act.put, List.setIfInBounds_toArray, List.set_cons_zero, List.set_cons_succ]
      refine seqI_take (v := .bool false) rfl (fun w9 _ => (by go_simp)) (fun _ _ _ h => h) ?_
      simp only [Act.put, List.setIfInBounds_toArray, List.set_cons_zero, List.set_cons_succ]
      refine seqI_take (v := .bool false) rfl (fun w9 _ => (by go_simp)) (fun _ _ _ h => h) ?_
      simp only [Act.put, List.setIfInBounds_toArray, List.set_cons_zero, List.set_cons_succ]
      refine seqI_take (v := .bool false) rfl (fun w9 _ => (by go_simp)) (fun _ _ _ h => h) ?_
      simp only [Act.put, List.setIfInBounds_toArray, List.set_cons_zero, List.set_cons_succ]
      refine seqI_take (v := .int .u16 184) rfl (fun w9 _ => (by go_simp)) (fun _ _ _ h => h) ?_
      simp only [Act.put, List.setIfInBounds_toArray, List.set_cons_zero, List.set_cons_succ]
      refine seqI_take (v := .string s) rfl (fun w9 _ => (by go_simp)) (fun _ _ _ h => h) ?_
      simp only [Act.put, List.setIfInBounds_toArray, List.set_cons_zero, List.set_cons_succ]
      refine seqI_take (v := .int .i64 4) rfl (fun w9 _ => (by go_simp)) (fun _ _ _ h => h) ?_
      simp only [Act.put, List.setIfInBounds_toArray, List.set_cons_zero, List.set_cons_succ]
      refine seqI_take (v := .string (s.extract 0 4)) rfl (fun w9 _ => (by go_simp; intro h9; exfalso; omega)) (fun _ _ _ h => h) ?_
      simp only [Act.put, List.setIfInBounds_toArray, List.set_cons_zero, List.set_cons_succ]
      refine seqI_call 195 #[.int .u16 184] rfl (by go_simp) (digits_184 _) ?_
      rintro e w9 ⟨rfl, hB9⟩
      refine ⟨_, rfl, trivial, ?_⟩
      simp only [Act.put, List.setIfInBounds_toArray, List.set_cons_zero, List.set_cons_succ]
      refine seqI_take (v := .bool false) rfl (fun w9 _ => (by go_simp)) (fun _ _ _ h => h) ?_
      simp only [Act.put, List.setIfInBounds_toArray, List.set_cons_zero, List.set_cons_succ]
      refine seqI_take (v := .bool false) rfl (fun w9 _ => (by go_simp)) (fun _ _ _ h => h) ?_
      simp only [Act.put, List.setIfInBounds_toArray, List.set_cons_zero, List.set_cons_succ]
      refine seqI_nil ?_
      go_wp2_with fail
      go_ret2
      exact ⟨rfl, (by (try show Below _ _ _); repeat (with_reducible first | exact Below.refl _ _ | assumption | exact Hid.out (by assumption) | refine ext_alloc ?_ | refine ext_drewN ?_ | refine ext_drew ?_ | refine ext_setCell ?_ (Nat.le_refl _) | refine ext_setCell ?_ (Nat.le_succ _) | refine ext_trans ?_ (by assumption) | (refine ext_setCell ?_ (by simp)) | (refine ext_setCell ?_ (by simp at *; omega))))⟩

/-- What element answers. -/
def ElemPost (n : Nat) (w : World) (e : Ending) (w' : World) : Prop := e = .returned (.tuple #[.int .u16 (elM n), .int .i64 (elS n).length]) ∧ Below w.heap.size w w'
theorem tail_str (s : ByteArray) (l : List UInt8) (b : UInt8) (hs : s.data.toList = b :: l) : (s.extract 1 s.size).data.toList = l := by
  rw [Lib.extract_eq]
  have : s.size = l.length + 1 := by
    show s.data.size = _
    rw [← Array.length_toList, hs]; rfl
  rw [hs, this]
  simp
set_option maxRecDepth 100000 in
set_option maxHeartbeats 1000000 in
theorem element_at_0 (s : ByteArray) (rest : List UInt8) (hs : s.data.toList = 42 :: rest) (hr : rest.length ≤ 1000) (w : World) : Calls Tryz.prog 132 #[.string s] w (ElemPost 0 w) := by
  have hsz : s.size = rest.length + 1 := by
    show s.data.size = _
    rw [← Array.length_toList, hs]; rfl
  have p0 : 0 < s.size := by omega
  have x0 : (s[0]'p0).toNat = 42 := byte_at s 0 42 p0 (by rw [hs]; rfl)
  have z1 : s.size ≤ 2000 := by omega
  have hcon := fun w => signs_index 42 w
  rw [show Lib.indexByte signsL (42 : Int).toNat.toUInt8 = 1 by decide] at hcon
  have HC := Lib.hid hcon
  clear hs hsz hcon
  go_enter Tryz.func132, Tryz.ntmps132
  go_wp2_with (first | (go_at_call 171; refine (HC.out _).mono ?_; rintro e w' ⟨rfl, rfl⟩) | (go_at_call 172; refine (only_42 _).mono ?_; rintro e w' ⟨rfl, rfl⟩))
  go_ret2
  exact ⟨rfl, Below.refl _ _⟩
set_option maxRecDepth 100000 in
set_option maxHeartbeats 1000000 in
theorem element_at_1 (s : ByteArray) (rest : List UInt8) (hs : s.data.toList = 48 :: rest) (hr : rest.length ≤ 1000) (w : World) : Calls Tryz.prog 132 #[.string s] w (ElemPost 1 w) := by
  have hsz : s.size = rest.length + 1 := by
    show s.data.size = _
    rw [← Array.length_toList, hs]; rfl
  have p0 : 0 < s.size := by omega
  have x0 : (s[0]'p0).toNat = 48 := byte_at s 0 48 p0 (by rw [hs]; rfl)
  have z1 : s.size ≤ 2000 := by omega
  have hcon := fun w => signs_index 48 w
  rw [show Lib.indexByte signsL (48 : Int).toNat.toUInt8 = 2 by decide] at hcon
  have HC := Lib.hid hcon
  clear hs hsz hcon
  go_enter Tryz.func132, Tryz.ntmps132
  go_wp2_with (first | (go_at_call 171; refine (HC.out _).mono ?_; rintro e w' ⟨rfl, rfl⟩) | (go_at_call 172; refine (only_48 _).mono ?_; rintro e w' ⟨rfl, rfl⟩))
  go_ret2
  exact ⟨rfl, Below.refl _ _⟩
set_option maxRecDepth 100000 in
set_option maxHeartbeats 1000000 in
theorem element_at_2 (s : ByteArray) (rest : List UInt8) (hs : s.data.toList = 49 :: rest) (hr : rest.length ≤ 1000) (w : World) : Calls Tryz.prog 132 #[.string s] w (ElemPost 2 w) := by
  have hsz : s.size = rest.length + 1 := by
    show s.data.size = _
    rw [← Array.length_toList, hs]; rfl
  have p0 : 0 < s.size := by omega
  have x0 : (s[0]'p0).toNat = 49 := byte_at s 0 49 p0 (by rw [hs]; rfl)
  have z1 : s.size ≤ 2000 := by omega
  have hcon := fun w => signs_index 49 w
  rw [show Lib.indexByte signsL (49 : Int).toNat.toUInt8 = 3 by decide] at hcon
  have HC := Lib.hid hcon
  clear hs hsz hcon
  go_enter Tryz.func132, Tryz.ntmps132
  go_wp2_with (first | (go_at_call 171; refine (HC.out _).mono ?_; rintro e w' ⟨rfl, rfl⟩) | (go_at_call 172; refine (only_49 _).mono ?_; rintro e w' ⟨rfl, rfl⟩))
  go_ret2
  exact ⟨rfl, Below.refl _ _⟩
set_option maxRecDepth 100000 in
set_option maxHeartbeats 1000000 in
theorem element_at_3 (s : ByteArray) (rest : List UInt8) (hs : s.data.toList = 50 :: rest) (hr : rest.length ≤ 1000) (w : World) : Calls Tryz.prog 132 #[.string s] w (ElemPost 3 w) := by
  have hsz : s.size = rest.length + 1 := by
    show s.data.size = _
    rw [← Array.length_toList, hs]; rfl
  have p0 : 0 < s.size := by omega
  have x0 : (s[0]'p0).toNat = 50 := byte_at s 0 50 p0 (by rw [hs]; rfl)
  have z1 : s.size ≤ 2000 := by omega
  have hcon := fun w => signs_index 50 w
  rw [show Lib.indexByte signsL (50 : Int).toNat.toUInt8 = 4 by decide] at hcon
  have HC := Lib.hid hcon
  clear hs hsz hcon
  go_enter Tryz.func132, Tryz.ntmps132
  go_wp2_with (first | (go_at_call 171; refine (HC.out _).mono ?_; rintro e w' ⟨rfl, rfl⟩) | (go_at_call 172; refine (only_50 _).mono ?_; rintro e w' ⟨rfl, rfl⟩))
  go_ret2
  exact ⟨rfl, Below.refl _ _⟩
set_option maxRecDepth 100000 in
set_option maxHeartbeats 1000000 in
theorem element_at_4 (s : ByteArray) (rest : List UInt8) (hs : s.data.toList = 57 :: rest) (hr : rest.length ≤ 1000) (w : World) : Calls Tryz.prog 132 #[.string s] w (ElemPost 4 w) := by
  have hsz : s.size = rest.length + 1 := by
    show s.data.size = _
    rw [← Array.length_toList, hs]; rfl
  have p0 : 0 < s.size := by omega
  have x0 : (s[0]'p0).toNat = 57 := byte_at s 0 57 p0 (by rw [hs]; rfl)
  have z1 : s.size ≤ 2000 := by omega
  have hcon := fun w => signs_index 57 w
  rw [show Lib.indexByte signsL (57 : Int).toNat.toUInt8 = 11 by decide] at hcon
  have HC := Lib.hid hcon
  clear hs hsz hcon
  go_enter Tryz.func132, Tryz.ntmps132
  go_wp2_with (first | (go_at_call 171; refine (HC.out _).mono ?_; rintro e w' ⟨rfl, rfl⟩) | (go_at_call 172; refine (only_57 _).mono ?_; rintro e w' ⟨rfl, rfl⟩))
  go_ret2
  exact ⟨rfl, Below.refl _ _⟩
set_option maxRecDepth 100000 in
set_option maxHeartbeats 1000000 in
theorem element_at_5 (s : ByteArray) (rest : List UInt8) (hs : s.data.toList = 91 :: 49 :: 50 :: 93 :: rest) (hr : rest.length ≤ 1000) (w : World) : Calls Tryz.prog 132 #[.string s] w (ElemPost 5 w) := by
  have hsz : s.size = rest.length + 4 := by
    show s.data.size = _
    rw [← Array.length_toList, hs]; rfl
  have p0 : 0 < s.size := by omega
  have x0 : (s[0]'p0).toNat = 91 := byte_at s 0 91 p0 (by rw [hs]; rfl)
  have z1 : s.size ≤ 2000 := by omega
  have HS := Lib.hid (tail_str s _ _ hs)
  clear hs hsz
  go_enter Tryz.func132, Tryz.ntmps132
  go_wp2_with fail
  refine (readSet_5 _ rest HS.out hr _).mono ?_
  rintro e w1 ⟨rfl, hB1⟩
  go_wp2_with fail
  go_ret2
  exact ⟨rfl, hB1⟩
set_option maxRecDepth 100000 in
set_option maxHeartbeats 1000000 in
theorem element_at_6 (s : ByteArray) (rest : List UInt8) (hs : s.data.toList = 91 :: 50 :: 57 :: 93 :: rest) (hr : rest.length ≤ 1000) (w : World) : Calls Tryz.prog 132 #[.string s] w (ElemPost 6 w) := by
  have hsz : s.size = rest.length + 4 := by
    show s.data.size = _
    rw [← Array.length_toList, hs]; rfl
  have p0 : 0 < s.size := by omega
  have x0 : (s[0]'p0).toNat = 91 := byte_at s 0 91 p0 (by rw [hs]; rfl)
  have z1 : s.size ≤ 2000 := by omega
  have HS := Lib.hid (tail_str s _ _ hs)
  clear hs hsz
  go_enter Tryz.func132, Tryz.ntmps132
  go_wp2_with fail
  refine (readSet_6 _ rest HS.out hr _).mono ?_
  rintro e w1 ⟨rfl, hB1⟩
  go_wp2_with fail
  go_ret2
  exact ⟨rfl, hB1⟩
set_option maxRecDepth 100000 in
set_option maxHeartbeats 1000000 in
theorem element_at_7 (s : ByteArray) (rest : List UInt8) (hs : s.data.toList = 91 :: 50 :: 45 :: 52 :: 93 :: rest) (hr : rest.length ≤ 1000) (w : World) : Calls Tryz.prog 132 #[.string s] w (ElemPost 7 w) := by
  have hsz : s.size = rest.length + 5 := by
    show s.data.size = _
    rw [← Array.length_toList, hs]; rfl
  have p0 : 0 < s.size := by omega
  have x0 : (s[0]'p0).toNat = 91 := byte_at s 0 91 p0 (by rw [hs]; rfl)
  have z1 : s.size ≤ 2000 := by omega
  have HS := Lib.hid (tail_str s _ _ hs)
  clear hs hsz
  go_enter Tryz.func132, Tryz.ntmps132
  go_wp2_with fail
  refine (readSet_7 _ rest HS.out hr _).mono ?_
  rintro e w1 ⟨rfl, hB1⟩
  go_wp2_with fail
  go_ret2
  exact ⟨rfl, hB1⟩
set_option maxRecDepth 100000 in
set_option maxHeartbeats 1000000 in
theorem element_at_8 (s : ByteArray) (rest : List UInt8) (hs : s.data.toList = 91 :: 49 :: 45 :: 51 :: 53 :: 93 :: rest) (hr : rest.length ≤ 1000) (w : World) : Calls Tryz.prog 132 #[.string s] w (ElemPost 8 w) := by
  have hsz : s.size = rest.length + 6 := by
    show s.data.size = _
    rw [← Array.length_toList, hs]; rfl
  have p0 : 0 < s.size := by omega
  have x0 : (s[0]'p0).toNat = 91 := byte_at s 0 91 p0 (by rw [hs]; rfl)
  have z1 : s.size ≤ 2000 := by omega
  have HS := Lib.hid (tail_str s _ _ hs)
  clear hs hsz
  go_enter Tryz.func132, Tryz.ntmps132
  go_wp2_with fail
  refine (readSet_8 _ rest HS.out hr _).mono ?_
  rintro e w1 ⟨rfl, hB1⟩
  go_wp2_with fail
  go_ret2
  exact ⟨rfl, hB1⟩
set_option maxRecDepth 100000 in
set_option maxHeartbeats 1000000 in
theorem element_at_9 (s : ByteArray) (rest : List UInt8) (hs : s.data.toList = 78 :: rest) (hr : rest.length ≤ 1000) (w : World) : Calls Tryz.prog 132 #[.string s] w (ElemPost 9 w) := by
  have hsz : s.size = rest.length + 1 := by
    show s.data.size = _
    rw [← Array.length_toList, hs]; rfl
  have p0 : 0 < s.size := by omega
  have x0 : (s[0]'p0).toNat = 78 := byte_at s 0 78 p0 (by rw [hs]; rfl)
  have z1 : s.size ≤ 2000 := by omega
  clear hs hsz
  go_enter Tryz.func132, Tryz.ntmps132
  go_wp2_with (go_at_call 169; refine (from_29 _).mono ?_; rintro e w' ⟨rfl, rfl⟩)
  go_ret2
  exact ⟨rfl, Below.refl _ _⟩
set_option maxRecDepth 100000 in
set_option maxHeartbeats 1000000 in
theorem element_at_10 (s : ByteArray) (rest : List UInt8) (hs : s.data.toList = 90 :: rest) (hr : rest.length ≤ 1000) (w : World) : Calls Tryz.prog 132 #[.string s] w (ElemPost 10 w) := by
  have hsz : s.size = rest.length + 1 := by
    show s.data.size = _
    rw [← Array.length_toList, hs]; rfl
  have p0 : 0 < s.size := by omega
  have x0 : (s[0]'p0).toNat = 90 := byte_at s 0 90 p0 (by rw [hs]; rfl)
  have z1 : s.size ≤ 2000 := by omega
  clear hs hsz
  go_enter Tryz.func132, Tryz.ntmps132
  go_wp2_with (go_at_call 169; refine (from_49_57 _).mono ?_; rintro e w' ⟨rfl, rfl⟩)
  go_ret2
  exact ⟨rfl, Below.refl _ _⟩
set_option maxRecDepth 100000 in
set_option maxHeartbeats 1000000 in
theorem element_at_11 (s : ByteArray) (rest : List UInt8) (hs : s.data.toList = 88 :: rest) (hr : rest.length ≤ 1000) (w : World) : Calls Tryz.prog 132 #[.string s] w (ElemPost 11 w) := by
  have hsz : s.size = rest.length + 1 := by
    show s.data.size = _
    rw [← Array.length_toList, hs]; rfl
  have p0 : 0 < s.size := by omega
  have x0 : (s[0]'p0).toNat = 88 := byte_at s 0 88 p0 (by rw [hs]; rfl)
  have z1 : s.size ≤ 2000 := by omega
  clear hs hsz
  go_enter Tryz.func132, Tryz.ntmps132
  go_wp2_with (go_at_call 169; refine (from_48_57 _).mono ?_; rintro e w' ⟨rfl, rfl⟩)
  go_ret2
  exact ⟨rfl, Below.refl _ _⟩
theorem element_any (n : Nat) (hn : n < 12) (s : ByteArray) (rest : List UInt8) (hs : s.data.toList = elS n ++ rest) (hr : rest.length ≤ 1000) (w : World) : Calls Tryz.prog 132 #[.string s] w (ElemPost n w) := by
  match n, hn with
  | 0, _ => exact element_at_0 s rest hs hr w
  | 1, _ => exact element_at_1 s rest hs hr w
  | 2, _ => exact element_at_2 s rest hs hr w
  | 3, _ => exact element_at_3 s rest hs hr w
  | 4, _ => exact element_at_4 s rest hs hr w
  | 5, _ => exact element_at_5 s rest hs hr w
  | 6, _ => exact element_at_6 s rest hs hr w
  | 7, _ => exact element_at_7 s rest hs hr w
  | 8, _ => exact element_at_8 s rest hs hr w
  | 9, _ => exact element_at_9 s rest hs hr w
  | 10, _ => exact element_at_10 s rest hs hr w
  | 11, _ => exact element_at_11 s rest hs hr w
end Go.Proofs.YtkdadbpajhdelaaGreatDoor

set_option linter.unusedVariables false
set_option linter.unusedSimpArgs false
namespace Go.Proofs.YtkdadbpajhdelaaGreatDoor
open Go.RowKit

theorem own_slice0 {w : World} {base : Nat} {e : TypeId} {size : Nat} {v : Value} {n : Nat} {xs : List Value} (h : w.ownsRow base e size v n xs) : ∃ a c, v = .slice a n c := by
  rcases h.2 with ⟨rfl, rfl⟩ | ⟨g, cap, cur, rfl, _⟩
  · exact ⟨none, 0, rfl⟩
  · exact ⟨_, _, rfl⟩
theorem grownB_cell0 {X w1 : World} {row : Option Nat} (h : X.grownBy w1 row) {b : Nat} (hb : b < X.heap.size) (hn : row ≠ some b) (o : Nat) : w1.cell? ⟨b, o, none⟩ = X.cell? ⟨b, o, none⟩ := World.cell?_of_block (w := X) (a := ⟨b, o, none⟩) (h.block b hb (fun e => hn e.symm))
theorem grownB_frozen0 {X w1 : World} {row : Option Nat} (h : X.grownBy w1 row) {b : Nat} (hb : b < X.heap.size) (hn : row ≠ some b) (o : Nat) : w1.frozen? ⟨b, o, none⟩ = X.frozen? ⟨b, o, none⟩ := World.frozen?_of_block (w := X) (a := ⟨b, o, none⟩) (h.block b hb (fun e => hn e.symm))
def maskV (m : Nat) : Value := .int .u16 m
/-- What has been read so far lies in a block of its own. -/
structure RdG (w wr : World) (ms : List Nat) : Prop where
  row : ∃ v, wr.cell? ⟨w.heap.size + 1, 0, none⟩ = some v ∧ wr.ownsRow (w.heap.size + 2) 216 1 v ms.length (ms.map maskV)
  tail : wr.cell? ⟨w.heap.size + 1, 1, none⟩ = some (.int .u8 0)
  fro : ∀ j, wr.frozen? ⟨w.heap.size + 1, j, none⟩ = false
  res0 : wr.cell? ⟨w.heap.size, 0, none⟩ = some (.slice none 0 0)
  res1 : wr.cell? ⟨w.heap.size, 1, none⟩ = some (.int .u8 0)
  fro0 : ∀ j, wr.frozen? ⟨w.heap.size, j, none⟩ = false
  low : Below w.heap.size w wr
  size : w.heap.size + 2 ≤ wr.heap.size

theorem RdG.below {w wr w' : World} {ms : List Nat} (h : RdG w wr ms) (hb : Below wr.heap.size wr w') : RdG w w' ms := by
  have z := h.size
  obtain ⟨v, hv, ho⟩ := h.row
  have c := fun b o (hb' : b < wr.heap.size) => hb.cell (p := ⟨b, o, none⟩) hb'
  have f := fun b o (hb' : b < wr.heap.size) => hb.frozen (p := ⟨b, o, none⟩) hb'
  exact ⟨⟨v, (c _ _ (by omega)).trans hv, ho.kept_below hb⟩, (c _ _ (by omega)).trans h.tail, fun j => (f _ _ (by omega)).trans (h.fro j), (c _ _ (by omega)).trans h.res0, (c _ _ (by omega)).trans h.res1, fun j => (f _ _ (by omega)).trans (h.fro0 j), ext_trans h.low hb, Nat.le_trans z hb.size⟩

theorem rdg_next {w wr X w1 : World} {ms : List Nat} {m : Nat} {v : Value} {row : Option Nat} (h : RdG w wr ms) (hX : Below wr.heap.size wr X) (hg : X.grownBy w1 row) (hr : ∀ b, row = some b → w.heap.size + 2 ≤ b)
    (hown : w1.ownsRow (w.heap.size + 2) 216 1 v (ms.length + 1) (ms.map maskV ++ [maskV m])) : RdG w (w1.setCell ⟨w.heap.size + 1, 0, none⟩ v) (ms ++ [m]) := by
  have hb : ∀ b, b < w.heap.size + 2 → w1.heap[b]? = wr.heap[b]? := fun b hb => (hg.block b (by have := hX.size; have := h.size; omega) (fun e => by have := hr b e.symm; omega)).trans (hX.block b (by have := h.size; omega))
  have hc : ∀ b o, b < w.heap.size + 2 → w1.cell? ⟨b, o, none⟩ = wr.cell? ⟨b, o, none⟩ := fun b o h => World.cell?_of_block (w := wr) (a := ⟨b, o, none⟩) (hb b h)
  have hf : ∀ b o, b < w.heap.size + 2 → w1.frozen? ⟨b, o, none⟩ = wr.frozen? ⟨b, o, none⟩ := fun b o h => World.frozen?_of_block (w := wr) (a := ⟨b, o, none⟩) (hb b h)
  obtain ⟨v0, hv0, _⟩ := h.row
  refine ⟨⟨v, World.cell?_setCell_same _ _ _ ((hc _ _ (by omega)).trans hv0), ?_⟩, ?_, ?_, ?_, ?_, ?_, ?_, ?_⟩
  · rw [List.map_append, List.length_append]; exact ownsRow_setCell_below hown (by show w.heap.size + 1 < _; omega) v
  · exact (World.cell?_setCell_other _ _ _ _ (by simp)).trans ((hc _ _ (by omega)).trans h.tail)
  · intro j; rw [World.frozen?_setCell]; exact (hf _ _ (by omega)).trans (h.fro j)
  · exact (World.cell?_setCell_other _ _ _ _ (by simp)).trans ((hc _ _ (by omega)).trans h.res0)
  · exact (World.cell?_setCell_other _ _ _ _ (by simp)).trans ((hc _ _ (by omega)).trans h.res1)
  · intro j; rw [World.frozen?_setCell]; exact (hf _ _ (by omega)).trans (h.fro0 j)
  · exact ((h.low.trans (hX.mono (by have := h.size; omega))).grown hg (by have := h.size; have := hX.size; omega) (fun b e => by have := hr b e; omega)).setCell (by show w.heap.size ≤ w.heap.size + 1; omega) v
  · have := hg.size; have := hX.size; have := h.size; simp; omega

/-- A pattern in memory. -/
structure PatAt (w : World) (a : Option Addr) (n : Nat) (p : Pat) : Prop where
  len : n = p.sets.length
  row : n = 0 ∨ ∃ g, a = some ⟨g, 0, none⟩ ∧ g < w.heap.size ∧ ∀ i, i < n → w.cell? ⟨g, i, none⟩ = some (.int .u16 (p.sets.getD i 0))
theorem PatAt.below {w w' : World} {a : Option Addr} {n : Nat} {p : Pat} (h : PatAt w a n p) (hb : Below w.heap.size w w') : PatAt w' a n p := by
  refine ⟨h.len, h.row.imp id ?_⟩
  rintro ⟨g, ha, hg, hc⟩
  exact ⟨g, ha, Nat.lt_of_lt_of_le hg hb.size, fun i hi => (hb.cell (p := ⟨g, i, none⟩) hg).trans (hc i hi)⟩
theorem PatAt.set {w : World} {a : Option Addr} {n : Nat} {p : Pat} (h : PatAt w a n p) {q : Addr} (hq : ∀ g, a = some ⟨g, 0, none⟩ → g ≠ q.block) {u : Value} : PatAt (w.setCell q u) a n p := by
  refine ⟨h.len, h.row.imp id ?_⟩
  rintro ⟨g, ha, hg, hc⟩
  exact ⟨g, ha, by simpa using hg, fun i hi => (World.cell?_setCell_other _ _ _ _ (by intro e; exact hq g ha (by rw [e]))).trans (hc i hi)⟩
def patVal (a : Option Addr) (n cap : Nat) (p : Pat) : Value := .agg #[.slice a n cap, .int .u8 p.tail]
def ReadPat (p : Pat) (w : World) (e : Ending) (w' : World) : Prop := ∃ (a : Option Addr) (n cap : Nat), e = .returned (.tuple #[patVal a n cap p, .int .i64 0]) ∧ PatAt w' a n p ∧ Below w.heap.size w w'

theorem map_getD (ms : List Nat) (i : Nat) (hi : i < ms.length) : (ms.map maskV)[i]? = some (.int .u16 (ms.getD i 0)) := by
  simp [List.getD_eq_getElem?_getD, List.getElem?_eq_getElem hi, maskV]

theorem elS_len (x : Nat) : 1 ≤ (elS x).length ∧ (elS x).length ≤ 6 := by unfold elS; split <;> simp
theorem flat_lenE (l : List Nat) : (l.flatMap elS).length ≤ 6 * l.length := by
  induction l with
  | nil => simp
  | cons x l ih => have := (elS_len x).2; simp only [List.flatMap_cons, List.length_append, List.length_cons]; omega
theorem drop_flat (l : List Nat) (k : Nat) (h : k < l.length) : (l.drop k).flatMap elS = elS (l.getD k 0) ++ (l.drop (k + 1)).flatMap elS := by
  rw [List.drop_eq_getElem_cons h, List.flatMap_cons]
  simp [List.getD_eq_getElem?_getD, List.getElem?_eq_getElem h]
theorem rest_str (s : ByteArray) (n : Nat) (l : List UInt8) (m : List UInt8) (hs : s.data.toList = m ++ l) (hn : n = m.length) : (s.extract n s.size).data.toList = l := by
  rw [Lib.extract_eq]
  have : s.size = m.length + l.length := by
    show s.data.size = _
    rw [← Array.length_toList, hs]; simp
  rw [hs, this, hn]
  simp

theorem el_neq (x : Nat) (hx : x < 12) (r : List UInt8) : (elS x ++ r == []) = false ∧ (elS x ++ r == [46]) = false ∧ (elS x ++ r == [33]) = false ∧ (elS x ++ r).isEmpty = false := by
  have hx' : x = 0 ∨ x = 1 ∨ x = 2 ∨ x = 3 ∨ x = 4 ∨ x = 5 ∨ x = 6 ∨ x = 7 ∨ x = 8 ∨ x = 9 ∨ x = 10 ∨ x = 11 := by omega
  rcases hx' with rfl | rfl | rfl | rfl | rfl | rfl | rfl | rfl | rfl | rfl | rfl | rfl <;> simp [elS]
def sizeOfV : Value → Nat | .string s => s.size | _ => 0

set_option maxRecDepth 100000 in
set_option maxHeartbeats 4000000 in
theorem read_any (w : World) (e : Els) (he : ElsOk e) (str : ByteArray) (hstr : str.data.toList = e.str) : Calls Tryz.prog 82 #[.string str] w (ReadPat e.pat w) := by
  obtain ⟨i0, hi, hz0, hz1, hz2⟩ := info_parts Tryz.infoMask
  have HE := Lib.hid he
  have HST := Lib.hid hstr
  have hl4 := he.len
  have hl1 := he.len1
  have hsz : str.size ≤ 25 := by
    show str.data.size ≤ _
    rw [← Array.length_toList, hstr]
    unfold Els.str
    have := flat_lenE e.els
    have : (tlS e.tl).length ≤ 1 := by unfold tlS; split <;> simp
    rw [List.length_append]; omega
  clear he hstr
  go_enter Tryz.func82, Tryz.ntmps82
  go_wp2_with fail
  go_loopw [5] (fun s5 wr => ∃ (k : Nat) (s : ByteArray), s5 = .string s ∧ k ≤ e.els.length ∧ Hid (s.data.toList = (e.els.drop k).flatMap elS ++ tlS e.tl) ∧ Hid (RdG w wr ((e.els.take k).map elM))) (fun s5 _ => sizeOfV s5)
  case atStart => exact ⟨0, str, rfl, Nat.zero_le _, (by show _ = _; rw [HST.out]; rfl), ⟨⟨.slice none 0 0, by simp, World.ownsRow_nil _ _ _ _⟩, by simp, by simp, by simp, by simp, by simp, (by (try show Below _ _ _); repeat (with_reducible first | exact Below.refl _ _ | assumption | exact Hid.out (by assumption) | refine ext_alloc ?_ | refine ext_drewN ?_ | refine ext_drew ?_ | refine ext_setCell ?_ (Nat.le_refl _) | refine ext_setCell ?_ (Nat.le_succ _) | refine ext_trans ?_ (by assumption) | (refine ext_setCell ?_ (by simp)) | (refine ext_setCell ?_ (by simp at *; omega)))), by simp⟩⟩
  case round =>
    obtain ⟨k, s, rfl, hk, HS, HR⟩ := hrel
    obtain ⟨v, hv, hown⟩ := HR.out.row
    have hmk : ((e.els.take k).map elM).length = k := by rw [List.length_map, List.length_take]; omega
    have HMK := Lib.hid hmk
    rw [hmk] at hown
    clear hmk
    have HO := Lib.hid hown
    have t1 := HR.out.tail
    have t2 := HR.out.fro 0
    have t3 := HR.out.fro 1
    have zz := HR.out.size
    have zz1 : w.heap.size + 1 < wr.heap.size := by omega
    have zz0 : w.heap.size < wr.heap.size := by omega
    obtain ⟨ga, gc, rfl⟩ := own_slice0 hown
    clear hown
    by_cases hlt : k < e.els.length
    · have hx12 : e.els.getD k 0 < 12 := HE.out.each _ (by rw [List.getD_eq_getElem?_getD, List.getElem?_eq_getElem hlt]; exact List.getElem_mem hlt)
      have hs2 : s.data.toList = elS (e.els.getD k 0) ++ ((e.els.drop (k + 1)).flatMap elS ++ tlS e.tl) := by rw [HS.out, drop_flat _ _ hlt, List.append_assoc]
      have HS2 := Lib.hid hs2
      have hne := el_neq (e.els.getD k 0) hx12 ((e.els.drop (k + 1)).flatMap elS ++ tlS e.tl)
      rw [← hs2, ← Go.ByteArray.toList_eq] at hne
      obtain ⟨n1, n2, n3, n4⟩ := hne
      have hrl : ((e.els.drop (k + 1)).flatMap elS ++ tlS e.tl).length ≤ 1000 := by
        have h1 := flat_lenE (e.els.drop (k + 1))
        have h2 : (tlS e.tl).length ≤ 1 := by unfold tlS; split <;> simp
        rw [List.length_append]; rw [List.length_drop] at h1; omega
      clear hs2
      go_wp2_with fail
      refine (element_any _ hx12 s _ HS2.out hrl _).mono ?_
      rintro e1 w1 ⟨rfl, hB1⟩
      have HR1 := Lib.hid (HR.out.below hB1)
      have HO1 := Lib.hid (HO.out.kept_below hB1)
      have c1 := (hB1.cell (p := ⟨w.heap.size + 1, 0, none⟩) zz1).trans hv
      have f1 := (hB1.frozen (p := ⟨w.heap.size + 1, 0, none⟩) zz1).trans t2
      have zw1 : w.heap.size + 2 ≤ w1.heap.size := Nat.le_trans zz hB1.size
      have zw2 : w.heap.size + 1 < w1.heap.size := by omega
      have HNX : Hid ((s.extract (elS (e.els.getD k 0)).length s.size).data.toList = (e.els.drop (k + 1)).flatMap elS ++ tlS e.tl) := rest_str s _ _ _ HS2.out rfl
      have hln := elS_len (e.els.getD k 0)
      have hlsz : (elS (e.els.getD k 0)).length ≤ s.size := by
        show _ ≤ s.data.size
        rw [← Array.length_toList, HS2.out, List.length_append]; omega
      have HTK : Hid ((e.els.take (k + 1)).map elM = (e.els.take k).map elM ++ [elM (e.els.getD k 0)]) := by
        show _ = _
        rw [List.take_succ_eq_append_getElem hlt, List.map_append]
        simp [List.getD_eq_getElem?_getD, List.getElem?_eq_getElem hlt]
      have hssz : s.size ≤ 1000 := by
        show s.data.size ≤ _
        rw [← Array.length_toList, HS2.out, List.length_append]
        have := (elS_len (e.els.getD k 0)).2
        have h1 := flat_lenE (e.els.drop (k + 1))
        have h2 : (tlS e.tl).length ≤ 1 := by unfold tlS; split <;> simp
        rw [List.length_append]; rw [List.length_drop] at h1; omega
      clear hB1 HR HO hv t1 t2 t3 n1 n2 n3 n4
      generalize (e.els.take k).map elM = ms at HR1 HO1 HTK HMK
      generalize elM (e.els.getD k 0) = mx at HTK ⊢
      generalize hlen : (elS (e.els.getD k 0)).length = ln at HNX hln hlsz ⊢
      have HLEN := Lib.hid hlen
      clear hlen
      obtain ⟨ln0, ln1⟩ := hln
      have q0 : ((ln : Int) == 0) = false := by simp; omega
      have ng : (Value.slice ga k gc).ownBlock ≠ some (w.heap.size + 1) := fun e9 => by have := (HO1.out.lt _ e9).1; omega
      have NG := Lib.hid ng
      clear ng
      go_wp2_with fail
      go_region_law (refine step_append_lies _ rfl (.tmp 34) (.tmp 36) 160 rfl (w.heap.size + 2) 216 i0 (.int .u16 0) 1 2 Tryz.underlying160 hi hz0 hz1 hz2 rfl (by decide) (.slice ga k gc) k (ms.map maskV) (by simp [Act.eval, Act.put]) (by first | exact (HO1.out.drew).alloc _ | exact (HO1.out.alloc _).drew) ⟨w1.heap.size, 0, none⟩ 1 1 [maskV mx] (by simp [Act.eval, Act.put]) rfl (news_one (by first | (go_simp; done) | (go_simp; rfl))) (by simp [Value.oneCell', maskV]) (by omega) (by unfold maxLen; omega) (by omega) (by simp; omega) _ rfl ?_; intro g cap w2 hown2 hgr2 hwh2 hg2; have c9 : w2.cell? ⟨w.heap.size + 1, 0, none⟩ = some (.slice ga k gc) := (grownB_cell0 hgr2 (by simp; omega) NG.out 0).trans (by go_simp); have f9 : w2.frozen? ⟨w.heap.size + 1, 0, none⟩ = false := (grownB_frozen0 hgr2 (by simp; omega) NG.out 0).trans (by go_simp))
      all_goals
        go_simp
        go_wp2_with fail
        go_roundw
        case rel => exact ⟨k + 1, s.extract ln s.size, rfl, by omega, HNX, (by show RdG _ _ _; rw [HTK.out]; exact rdg_next HR1.out (by (try show Below _ _ _); repeat (with_reducible first | exact Below.refl _ _ | assumption | exact Hid.out (by assumption) | refine ext_alloc ?_ | refine ext_drewN ?_ | refine ext_drew ?_ | refine ext_setCell ?_ (Nat.le_refl _) | refine ext_setCell ?_ (Nat.le_succ _) | refine ext_trans ?_ (by assumption) | (refine ext_setCell ?_ (by simp)) | (refine ext_setCell ?_ (by simp at *; omega)))) hgr2 (fun b e9 => (HO1.out.lt _ e9).1) (by rw [HMK.out]; exact hown2))⟩
        case measure => simp [sizeOfV, ByteArray.size_extract]; omega
    · obtain rfl : k = e.els.length := by omega
      have hlast : s.data.toList = tlS e.tl := by rw [HS.out, List.drop_length]; rfl
      have hrow : PatAt wr ga e.els.length e.pat := by
        refine ⟨by simp [Els.pat], ?_⟩
        rcases HO.out.2 with ⟨h9, h9'⟩ | ⟨g, cap, cur, h9, hb, hg, _⟩
        · exact Or.inl h9'
        · cases h9
          refine Or.inr ⟨g, rfl, (HO.out.lt g rfl).2, fun i hi => ?_⟩
          rw [HO.out.cellAt i (by omega), map_getD _ i (by rw [HMK.out]; exact hi)]
          rw [List.take_length]; rfl
      have HROW := Lib.hid hrow
      have gne : ∀ g o, ga = some ⟨g, o, none⟩ → w.heap.size + 2 ≤ g := fun g o e9 => by subst e9; exact (HO.out.lt g rfl).1
      have HG := Lib.hid gne
      have r0 := HR.out.res0
      have r1 := HR.out.res1
      have r2 := HR.out.fro0 0
      have r3 := HR.out.fro0 1
      have HLOW := Lib.hid HR.out.low
      have htl := HE.out.tl0
      have htl1 := HE.out.tl1
      have hcase : e.tl = 13 ∨ e.tl = 12 ∨ e.tl = 14 := by omega
      clear hrow gne htl htl1
      rcases hcase with hc | hc | hc
      · have n1 : s.toList = [] := by rw [Go.ByteArray.toList_eq, hlast, hc]; rfl
        have HT : Hid (e.pat.tail = 0) := by show tlB e.tl = 0; rw [hc]; rfl
        clear hlast hc
        go_wp2_with fail
        refine bodyPost_ret (v := .tuple #[.agg #[.slice ga e.els.length gc, .int .u8 0], .int .i64 0]) (by simp [results, Tryz.results82, go_sem, r0, r1]) rfl ⟨ga, e.els.length, gc, ?_, ?_, ?_⟩
        · rw [patVal, HT.out]; rfl
        · exact ((HROW.out).set (fun g e9 => by have := HG.out g 0 e9; show g ≠ w.heap.size; omega)).set (fun g e9 => by have := HG.out g 0 e9; show g ≠ w.heap.size; omega)
        · exact ext_setCell (ext_setCell HLOW.out (Nat.le_refl _)) (Nat.le_refl _)
      · have n1 : s.toList = [46] := by rw [Go.ByteArray.toList_eq, hlast, hc]; rfl
        have HT : Hid (e.pat.tail = 46) := by show tlB e.tl = 46; rw [hc]; rfl
        have hss : s.size = 1 := by
          show s.data.size = _
          rw [← Array.length_toList, hlast, hc]; rfl
        have p0 : 0 < s.size := by omega
        have x0 : (s[0]'p0).toNat = 46 := byte_at s 0 46 p0 (by rw [hlast, hc]; rfl)
        clear hlast hc hss
        go_wp2_with fail
        refine bodyPost_ret (v := .tuple #[.agg #[.slice ga e.els.length gc, .int .u8 46], .int .i64 0]) (by simp [results, Tryz.results82, go_sem, r0, r1]) rfl ⟨ga, e.els.length, gc, ?_, ?_, ?_⟩
        · rw [patVal, HT.out]; rfl
        · exact ((HROW.out.set (fun g e9 => by have := HG.out g 0 e9; show g ≠ w.heap.size + 1; omega)).set (fun g e9 => by have := HG.out g 0 e9; show g ≠ w.heap.size; omega)).set (fun g e9 => by have := HG.out g 0 e9; show g ≠ w.heap.size; omega)
        · exact ext_setCell (ext_setCell (ext_setCell HLOW.out (by show w.heap.size ≤ w.heap.size + 1; omega)) (Nat.le_refl _)) (Nat.le_refl _)
      · have n1 : s.toList = [33] := by rw [Go.ByteArray.toList_eq, hlast, hc]; rfl
        have HT : Hid (e.pat.tail = 33) := by show tlB e.tl = 33; rw [hc]; rfl
        have hss : s.size = 1 := by
          show s.data.size = _
          rw [← Array.length_toList, hlast, hc]; rfl
        have p0 : 0 < s.size := by omega
        have x0 : (s[0]'p0).toNat = 33 := byte_at s 0 33 p0 (by rw [hlast, hc]; rfl)
        clear hlast hc hss
        go_wp2_with fail
        refine bodyPost_ret (v := .tuple #[.agg #[.slice ga e.els.length gc, .int .u8 33], .int .i64 0]) (by simp [results, Tryz.results82, go_sem, r0, r1]) rfl ⟨ga, e.els.length, gc, ?_, ?_, ?_⟩
        · rw [patVal, HT.out]; rfl
        · exact ((HROW.out.set (fun g e9 => by have := HG.out g 0 e9; show g ≠ w.heap.size + 1; omega)).set (fun g e9 => by have := HG.out g 0 e9; show g ≠ w.heap.size; omega)).set (fun g e9 => by have := HG.out g 0 e9; show g ≠ w.heap.size; omega)
        · exact ext_setCell (ext_setCell (ext_setCell HLOW.out (by show w.heap.size ≤ w.heap.size + 1; omega)) (Nat.le_refl _)) (Nat.le_refl _)
end Go.Proofs.YtkdadbpajhdelaaGreatDoor

set_option linter.unusedVariables false
set_option linter.unusedSimpArgs false
namespace Go.Proofs.YtkdadbpajhdelaaGreatDoor
open Go.RowKit

set_option maxRecDepth 100000 in
set_option maxHeartbeats 1000000 in
theorem takes_any (w : World) (a : Option Addr) (n cap : Nat) (p : Pat) (h : PatAt w a n p) (hp : PatOk p) (i : Nat) (hi : i ≤ 1000) :
    Calls Tryz.prog 133 #[patVal a n cap p, .int .i64 i] w fun e w' => e = .returned (.tuple #[.int .u16 (p.at_ i), .bool (p.fin i)]) ∧ Below w.heap.size w w' := by
  have hn : n ≤ 4 := by have := hp.len; have := h.len; omega
  unfold patVal
  by_cases hlt : i < n
  · have e1 : p.at_ i = p.sets.getD i 0 := by unfold Pat.at_; rw [if_pos (by rw [← h.len]; exact hlt)]
    have e2 : p.fin i = false := by unfold Pat.fin; rw [if_pos (by rw [← h.len]; exact hlt)]
    rcases h.row with h0 | ⟨g, rfl, hg, hc⟩
    · omega
    have c0 := hc i hlt
    rw [e1, e2]
    clear e1 e2 hc h
    generalize p.sets.getD i 0 = m at c0 ⊢
    go_enter Tryz.func133, Tryz.ntmps133
    go_wp2_with fail
    go_ret2
    exact ⟨rfl, (by (try show Below _ _ _); repeat (with_reducible first | exact Below.refl _ _ | assumption | exact Hid.out (by assumption) | refine ext_alloc ?_ | refine ext_drewN ?_ | refine ext_drew ?_ | refine ext_setCell ?_ (Nat.le_refl _) | refine ext_setCell ?_ (Nat.le_succ _) | refine ext_trans ?_ (by assumption) | (refine ext_setCell ?_ (by simp)) | (refine ext_setCell ?_ (by simp at *; omega))))⟩
  · have hlt2 : ¬ i < p.sets.length := by rw [← h.len]; exact hlt
    have e1 : p.at_ i = if p.tail = 0 then 0 else 4095 := by unfold Pat.at_; rw [if_neg hlt2]
    have e2 : p.fin i = if p.tail = 46 then decide (n < i) else if p.tail = 33 then true else decide (i = n) := by unfold Pat.fin; rw [if_neg hlt2, ← h.len]
    rcases hp.tail with ht | ht | ht
    · rw [ht] at e1 e2 ⊢
      rw [e1, e2]
      clear e1 e2 ht h
      have hni : ¬ (i : Int) < n := by omega
      go_enter Tryz.func133, Tryz.ntmps133
      go_wp2_with fail
      go_quiet (fail)
      go_wp2_with fail
      go_ret2
      refine ⟨?_, (by (try show Below _ _ _); repeat (with_reducible first | exact Below.refl _ _ | assumption | exact Hid.out (by assumption) | refine ext_alloc ?_ | refine ext_drewN ?_ | refine ext_drew ?_ | refine ext_setCell ?_ (Nat.le_refl _) | refine ext_setCell ?_ (Nat.le_succ _) | refine ext_trans ?_ (by assumption) | (refine ext_setCell ?_ (by simp)) | (refine ext_setCell ?_ (by simp at *; omega))))⟩
      simp
      rw [Bool.eq_iff_iff]; simp; omega
    · rw [ht] at e1 e2 ⊢
      rw [e1, e2]
      clear e1 e2 ht h
      have hni : ¬ (i : Int) < n := by omega
      go_enter Tryz.func133, Tryz.ntmps133
      go_wp2_with fail
      go_quiet (fail)
      go_wp2_with fail
      go_ret2
      refine ⟨?_, (by (try show Below _ _ _); repeat (with_reducible first | exact Below.refl _ _ | assumption | exact Hid.out (by assumption) | refine ext_alloc ?_ | refine ext_drewN ?_ | refine ext_drew ?_ | refine ext_setCell ?_ (Nat.le_refl _) | refine ext_setCell ?_ (Nat.le_succ _) | refine ext_trans ?_ (by assumption) | (refine ext_setCell ?_ (by simp)) | (refine ext_setCell ?_ (by simp at *; omega))))⟩
      simp
    · rw [ht] at e1 e2 ⊢
      rw [e1, e2]
      clear e1 e2 ht h
      have hni : ¬ (i : Int) < n := by omega
      go_enter Tryz.func133, Tryz.ntmps133
      go_wp2_with fail
      go_ret2
      refine ⟨?_, (by (try show Below _ _ _); repeat (with_reducible first | exact Below.refl _ _ | assumption | exact Hid.out (by assumption) | refine ext_alloc ?_ | refine ext_drewN ?_ | refine ext_drew ?_ | refine ext_setCell ?_ (Nat.le_refl _) | refine ext_setCell ?_ (Nat.le_succ _) | refine ext_trans ?_ (by assumption) | (refine ext_setCell ?_ (by simp)) | (refine ext_setCell ?_ (by simp at *; omega))))⟩
      simp

theorem u16_and (m i : Nat) (hm : m < 4096) (hi : i < 12) : bits BinOp.and IntKind.u16 (m : Int) ((2 ^ i : Nat) : Int) = if m.testBit i then ((2 ^ i : Nat) : Int) else 0 := by
  have hb : m &&& 2 ^ i = if m.testBit i then 2 ^ i else 0 := by
    apply Nat.eq_of_testBit_eq
    intro j
    rw [Nat.testBit_and, Nat.testBit_two_pow]
    by_cases hij : i = j
    · subst hij
      cases hb : m.testBit i
      · simp
      · simp [Nat.testBit_two_pow]
    · cases m.testBit i <;> simp [hij, Nat.testBit_two_pow]
  have hpow : 2 ^ i < 4096 := Nat.pow_lt_pow_right (a := 2) (by omega) (show i < 12 from hi)
  show IntKind.u16.wrap (((BitVec.ofInt 16 m &&& BitVec.ofInt 16 ((2 ^ i : Nat) : Int)).toNat : Nat) : Int) = _
  rw [BitVec.toNat_and, BitVec.ofInt_natCast, BitVec.ofInt_natCast, BitVec.toNat_ofNat, BitVec.toNat_ofNat, Nat.mod_eq_of_lt (by omega), Nat.mod_eq_of_lt (by omega), hb, IntKind.wrap_u16]
  generalize 2 ^ i = pw at *
  split <;> omega

def BeginsPost (b : Bool) (w : World) (e : Ending) (w' : World) : Prop := ∃ x : Bool, e = .returned (.tuple #[.bool x, .bool b]) ∧ Below w.heap.size w w'
theorem match_no {p : Pat} {d : List Nat} {k : Nat} (hk : k < d.length) (h : (p.at_ k).testBit (d.getD k 0) = false) : matchB p d = false := by
  cases hm : matchB p d
  · rfl
  · rw [(matchB_iff.1 hm).1 k hk] at h; cases h
theorem match_yes {p : Pat} {d : List Nat} (h : ∀ i, i < d.length → (p.at_ i).testBit (d.getD i 0) = true) : matchB p d = p.fin d.length := by
  cases hm : p.fin d.length
  · cases hq : matchB p d
    · rfl
    · rw [(matchB_iff.1 hq).2] at hm; cases hm
  · exact matchB_iff.2 ⟨h, hm⟩

def boxP (a : Option Addr) (n cap : Nat) (t : Nat) : Obj := .cells #[.slice a n cap, .int .u8 t] 162
/-! ### What is dialled -/
theorem drop_all (l cs : List UInt8) (h : ∀ c ∈ l, c ∈ cs) : l.dropWhile (cs.contains ·) = [] := by
  induction l with
  | nil => rfl
  | cons x l ih =>
    have hx : cs.contains x = true := by simpa using h x (by simp)
    rw [List.dropWhile_cons, if_pos hx]
    exact ih (fun c hc => h c (by simp [hc]))
theorem trim_all (l cs : List UInt8) (h : ∀ c ∈ l, c ∈ cs) : Lib.trimS l cs = [] := by
  unfold Lib.trimS Lib.trimRightS Lib.trimLeftS
  rw [drop_all l.reverse cs (fun c hc => h c (by simpa using hc))]
  rfl
theorem trim_signs (s : ByteArray) (w : World) (hs : s.size ≤ 1000) (h : ∀ c ∈ s.data.toList, c ∈ signsL) :
    Calls Tryz.prog 80 #[.string s, .string ⟨#[35, 42, 48, 49, 50, 51, 52, 53, 54, 55, 56, 57]⟩] w fun e w' => e = .returned (.string ⟨#[]⟩) ∧ Below w.heap.size w w' := by
  have := Tryz.strings_Trim_set s ⟨#[35, 42, 48, 49, 50, 51, 52, 53, 54, 55, 56, 57]⟩ w (by omega) (by decide) (by
    intro j b hj
    have hm := List.mem_of_getElem? hj
    have : ∀ b ∈ signsL, b.toNat < 128 := by decide
    exact this b hm)
  have e : Lib.trimS s.data.toList signsL = [] := trim_all _ _ h
  have e2 : Lib.trimS s.data.toList (⟨#[35, 42, 48, 49, 50, 51, 52, 53, 54, 55, 56, 57]⟩ : ByteArray).data.toList = [] := e
  rw [e2] at this
  exact this
theorem sign_mem (d : List Nat) (hd : ∀ j, j < d.length → d.getD j 0 < 12) : ∀ c ∈ d.map signN, c ∈ signsL := by
  intro c hc
  obtain ⟨i, hi, rfl⟩ := List.mem_map.1 hc
  obtain ⟨j, hj, rfl⟩ := List.getElem_of_mem hi
  have := hd j hj
  rw [List.getD_eq_getElem?_getD, List.getElem?_eq_getElem hj, Option.getD_some] at this
  unfold signN
  rw [List.getD_eq_getElem?_getD, List.getElem?_eq_getElem (show d[j] < signsL.length from this)]
  exact List.getElem_mem _

set_option maxHeartbeats 1000000 in
theorem isDialled_yes (w : World) (s : ByteArray) (d : List Nat) (hs : s.data.toList = d.map signN) (hd : ∀ j, j < d.length → d.getD j 0 < 12) (h1 : 1 ≤ d.length) (h2 : d.length ≤ 30) :
    Calls Tryz.prog 179 #[.string s, .int .i64 1] w fun e w' => e = .returned (.bool true) ∧ Below w.heap.size w w' := by
  have hsz : s.size = d.length := by
    show s.data.size = _
    rw [← Array.length_toList, hs, List.length_map]
  have z1 : 1 ≤ s.size := by omega
  have z2 : s.size ≤ 30 := by omega
  have HT : Hid (∀ w, Calls Tryz.prog 80 #[.string s, .string ⟨#[35, 42, 48, 49, 50, 51, 52, 53, 54, 55, 56, 57]⟩] w fun e w' => e = .returned (.string ⟨#[]⟩) ∧ Below w.heap.size w w') := fun w => trim_signs s w (by omega) (by rw [hs]; exact sign_mem d hd)
  clear hs hd hsz h1 h2
  go_enter Tryz.func179, Tryz.ntmps179
  go_wp2_with fail
  refine (HT.out _).mono ?_
  rintro e w1 ⟨rfl, hB1⟩
  go_wp2_with fail
  go_ret
  exact ⟨rfl, hB1⟩

end Go.Proofs.YtkdadbpajhdelaaGreatDoor

namespace Go.Proofs.YtkdadbpajhdelaaGreatDoor
open Go.RowKit

def isKeyB (l : List UInt8) : Bool := decide (1 ≤ l.length) && (decide (l.length ≤ 40) && (decide (97 ≤ (l.headD 0).toNat) && (decide ((l.headD 0).toNat ≤ 122) && allIn l keySet)))

theorem trim_keys (s : ByteArray) (w : World) (hs : s.size ≤ 9223372036854775807) :
    Calls Tryz.prog 80 #[.string s, .string ⟨#[97, 98, 99, 100, 101, 102, 103, 104, 105, 106, 107, 108, 109, 110, 111, 112, 113, 114, 115, 116, 117, 118, 119, 120, 121, 122, 48, 49, 50, 51, 52, 53, 54, 55, 56, 57, 45, 95]⟩] w fun e w' => e = .returned (.string ⟨(Lib.trimS s.data.toList keySet).toArray⟩) ∧ Below w.heap.size w w' :=
  Tryz.strings_Trim_set s ⟨#[97, 98, 99, 100, 101, 102, 103, 104, 105, 106, 107, 108, 109, 110, 111, 112, 113, 114, 115, 116, 117, 118, 119, 120, 121, 122, 48, 49, 50, 51, 52, 53, 54, 55, 56, 57, 45, 95]⟩ w hs (by decide) (Go.Proofs.ascii_of_all (by decide))

theorem isKey_any (l : List UInt8) (w : World) (hs : l.length ≤ 9223372036854775807) :
    Calls Tryz.prog 30 #[.string ⟨l.toArray⟩] w fun e w' => e = .returned (.bool (isKeyB l)) ∧ Below w.heap.size w w' := by
  have hcon := trim_keys ⟨l.toArray⟩ w hs

  cases l with
  | nil =>
    go_enter Tryz.func30, Tryz.ntmps30
    go_wp2_with (go_at_call 80; refine hcon.mono ?_; rintro e w' ⟨rfl, hB⟩)
    go_ret
    exact ⟨rfl, Below.refl _ _⟩
  | cons c l' =>
    have hd : Hid (isKeyB (c :: l') = (decide (1 ≤ (c :: l').length) && (decide ((c :: l').length ≤ 40) && (decide (97 ≤ c.toNat) && (decide (c.toNat ≤ 122) && (Lib.trimS (c :: l') keySet).isEmpty))))) := by rfl
    generalize Lib.trimS (c :: l') keySet = r at hcon hd
    go_enter Tryz.func30, Tryz.ntmps30
    go_wp2_with (go_at_call 80; refine hcon.mono ?_; rintro e w' ⟨rfl, hB⟩)
    · have g1 : (l'.length : Int) + 1 ≤ 40 := by assumption
      have g2 : (97 : Int) ≤ (c.toNat : Int) := by assumption
      have g3 : (c.toNat : Int) ≤ 122 := by assumption
      go_ret
      exact ⟨by rw [hd.out, decide_eq_true (by simp), decide_eq_true (show (c :: l').length ≤ 40 by simp; omega), decide_eq_true (show 97 ≤ c.toNat by omega), decide_eq_true (show c.toNat ≤ 122 by omega)]; rfl, hB⟩
    · have g3 : (122 : Int) < (c.toNat : Int) := by assumption
      go_ret
      exact ⟨by rw [hd.out, decide_eq_false (show ¬ c.toNat ≤ 122 by omega)]; simp, Below.refl _ _⟩
    · have g2 : (c.toNat : Int) < 97 := by assumption
      go_ret
      exact ⟨by rw [hd.out, decide_eq_false (show ¬ 97 ≤ c.toNat by omega)]; simp, Below.refl _ _⟩
    · have g1 : 40 < (l'.length : Int) + 1 := by assumption
      go_ret
      exact ⟨by rw [hd.out, decide_eq_false (show ¬ (c :: l').length ≤ 40 by simp; omega)]; simp, Below.refl _ _⟩

def isMomB (n : Int) : Bool := decide (0 ≤ n) && decide (n < 345686400000)

theorem isMoment_any (n : Int) (w : World) :
    Calls Tryz.prog 31 #[.int .i64 n] w fun e w' => e = .returned (.bool (isMomB n)) ∧ w = w' := by
  by_cases h1 : 0 ≤ n
  · have hd : Hid (isMomB n = decide (n < 345686400000)) := by show isMomB n = _; unfold isMomB; rw [decide_eq_true h1]; simp
    go_enter Tryz.func31, Tryz.ntmps31
    go_wp2
    go_ret
    exact ⟨by rw [hd.out]; rfl, rfl⟩
  · have hd : Hid (isMomB n = false) := by show isMomB n = _; unfold isMomB; rw [decide_eq_false h1]; simp
    go_enter Tryz.func31, Tryz.ntmps31
    go_wp2
    go_ret
    exact ⟨by rw [hd.out]; rfl, rfl⟩
end Go.Proofs.YtkdadbpajhdelaaGreatDoor

set_option linter.unusedVariables false
set_option linter.unusedSimpArgs false
namespace Go.Proofs.YtkdadbpajhdelaaGreatDoor
open Go.RowKit Go.Lib

set_option maxRecDepth 100000 in
set_option maxHeartbeats 1000000 in
theorem checkPattern_any (w : World) (e : Els) (he : ElsOk e) : Calls Tryz.prog 178 #[.string ⟨e.str.toArray⟩] w (IntP 0 w) := by
  have HR := Lib.hid (read_any w e he ⟨e.str.toArray⟩ rfl)
  clear he
  generalize e.pat = p at HR
  generalize e.str = s at HR ⊢
  obtain ⟨sets, tail⟩ := p
  go_enter Tryz.func178, Tryz.ntmps178
  go_wp2_with fail
  refine HR.out.mono ?_
  rintro e w1 ⟨a, n, cap, rfl, -, hb⟩
  have HB := Lib.hid hb
  clear hb
  unfold patVal
  go_wp2_with fail
  go_ret
  exact ⟨rfl, (by (try show Below _ _ _); repeat (with_reducible first | exact Below.refl _ _ | assumption | exact Hid.out (by assumption) | refine ext_alloc ?_ | refine ext_drewN ?_ | refine ext_drew ?_ | refine ext_setCell ?_ (Nat.le_refl _) | refine ext_setCell ?_ (Nat.le_succ _) | refine ext_trans ?_ (by assumption) | (refine ext_setCell ?_ (by simp)) | (refine ext_setCell ?_ (by simp at *; omega))))⟩
theorem named_any (t : Nat) (h : 1 ≤ t ∧ t ≤ 6) (w : World) : Calls Tryz.prog 180 #[.int .i64 t] w fun e w' => e = .returned (.bool (decide (3 ≤ t) && decide (t ≤ 5))) ∧ w = w' := by
  have h9 : t = 1 ∨ t = 2 ∨ t = 3 ∨ t = 4 ∨ t = 5 ∨ t = 6 := by omega
  clear h
  rcases h9 with rfl | rfl | rfl | rfl | rfl | rfl <;>
  · go_enter Tryz.func180, Tryz.ntmps180
    go_wp2_with fail
    go_ret
    exact ⟨rfl, rfl⟩
theorem pre_any (s : List UInt8) (hs : s ∈ ([[], [48], [42, 49]] : List (List UInt8))) (w : World) : Calls Tryz.prog 179 #[.string ⟨s.toArray⟩, .int .i64 0] w (BoolP true w) := by
  have HT : Hid (∀ w, Calls Tryz.prog 80 #[.string ⟨s.toArray⟩, .string ⟨#[35, 42, 48, 49, 50, 51, 52, 53, 54, 55, 56, 57]⟩] w fun e w' => e = .returned (.string ⟨#[]⟩) ∧ Below w.heap.size w w') := fun w => trim_signs ⟨s.toArray⟩ w (by
    simp only [List.mem_cons, List.not_mem_nil, or_false] at hs
    rcases hs with rfl | rfl | rfl <;> decide) (by
    simp only [List.mem_cons, List.not_mem_nil, or_false] at hs
    rcases hs with rfl | rfl | rfl <;> decide)
  have z1 : s.length ≤ 2 := by
    simp only [List.mem_cons, List.not_mem_nil, or_false] at hs
    rcases hs with rfl | rfl | rfl <;> decide
  clear hs
  go_enter Tryz.func179, Tryz.ntmps179
  go_wp2_with fail
  refine (HT.out _).mono ?_
  rintro e w1 ⟨rfl, hB1⟩
  go_wp2_with fail
  go_ret
  exact ⟨rfl, hB1⟩
end Go.Proofs.YtkdadbpajhdelaaGreatDoor

set_option linter.unusedVariables false
set_option linter.unusedSimpArgs false
namespace Go.Proofs.YtkdadbpajhdelaaGreatDoor
open Go.RowKit

/-- Block B holds just these cells. -/
structure Blk (w : World) (B : Nat) (cs : List Value) (ty : TypeId) : Prop where
  at_ : w.heap[B]? = some (.cells cs.toArray ty (0, 0))
theorem Blk.lt {w : World} {B : Nat} {cs : List Value} {ty : TypeId} (h : Blk w B cs ty) : B < w.heap.size := (Array.getElem?_eq_some_iff.1 h.at_).1
theorem Blk.cell {w : World} {B : Nat} {cs : List Value} {ty : TypeId} (h : Blk w B cs ty) (i : Nat) {v : Value} (hv : cs[i]? = some v) : w.cell? ⟨B, i, none⟩ = some v := by
  simp [World.cell?, h.at_, hv]
theorem Blk.fr {w : World} {B : Nat} {cs : List Value} {ty : TypeId} (h : Blk w B cs ty) (j : Nat) : w.frozen? ⟨B, j, none⟩ = false := by
  simp [World.frozen?, h.at_]
theorem Blk.same {w w' : World} {B : Nat} {cs : List Value} {ty : TypeId} (h : Blk w B cs ty) (hb : w'.heap[B]? = w.heap[B]?) : Blk w' B cs ty := ⟨hb.trans h.at_⟩
theorem Blk.keeps {S : Nat} {w w' : World} {B : Nat} {cs : List Value} {ty : TypeId} (h : Blk w B cs ty) (hk : Keeps S w w') (hn : B ≠ S) : Blk w' B cs ty := h.same (hk.block B h.lt hn)
theorem Blk.below {w w' : World} {B : Nat} {cs : List Value} {ty : TypeId} (h : Blk w B cs ty) (hb : Below w.heap.size w w') : Blk w' B cs ty := h.same (hb.block B h.lt)
theorem Blk.grown {w w' : World} {B : Nat} {cs : List Value} {ty : TypeId} {row : Option Nat} (h : Blk w B cs ty) (hg : w.grownBy w' row) (hn : row ≠ some B) : Blk w' B cs ty := h.same (hg.block B h.lt (fun e => hn e.symm))
theorem Blk.far {w : World} {B : Nat} {cs : List Value} {ty : TypeId} {p : Addr} {u : Value} (h : Blk w B cs ty) (hn : p.block ≠ B) : Blk (w.setCell p u) B cs ty := h.same (Below.heap_setCell _ _ _ _ (Ne.symm hn))
theorem Blk.alloc {w : World} {B : Nat} {cs : List Value} {ty : TypeId} (h : Blk w B cs ty) (o : Obj) : Blk (w.alloc o) B cs ty := h.same (Below.heap_alloc _ _ _ h.lt)
theorem Blk.new (w : World) (cs : List Value) (ty : TypeId) : Blk (w.alloc (.cells cs.toArray ty)) w.heap.size cs ty := ⟨by
  show (w.heap.push _)[w.heap.size]? = _
  simp⟩
theorem Blk.put {w : World} {B : Nat} {cs : List Value} {ty : TypeId} (h : Blk w B cs ty) (i : Nat) (u : Value) : Blk (w.setCell ⟨B, i, none⟩ u) B (cs.set i u) ty := ⟨by
  simp [World.setCell, Array.getElem?_modify, h.at_]⟩
theorem Blk.size {w : World} {B : Nat} {cs : List Value} {ty : TypeId} (h : Blk w B cs ty) : (w.cell? ⟨B, cs.length, none⟩) = none := by
  simp [World.cell?, h.at_]
theorem Blk.th {w : World} {B : Nat} {cs : List Value} {ty : TypeId} (h : Blk w B cs ty) (n : Nat) (hn : n ≤ cs.length) : w.there B 0 n := fun j hj => by
  refine ⟨?_, ?_⟩
  · simp [World.cell?, h.at_]; omega
  · simp [World.frozen?, h.at_]
end Go.Proofs.YtkdadbpajhdelaaGreatDoor

set_option linter.unusedVariables false
set_option linter.unusedSimpArgs false
namespace Go.Proofs.YtkdadbpajhdelaaGreatDoor
open Go.RowKit Go.Lib

theorem Tryz.druleSz : (Tryz.prog.info? 62).map (·.size) = some 6 := by kernel_rfl
theorem Blk.rng {w : World} {B : Nat} {vs : List Value} {ty : TypeId} (h : Blk w B vs ty) : w.rangeAt B 0 vs := fun j v hj => by rw [Nat.zero_add]; exact h.cell j hj
theorem Blk.put6 {w : World} {B : Nat} {c0 c1 c2 c3 c4 c5 : Value} {ty : TypeId} (h : Blk w B [c0, c1, c2, c3, c4, c5] ty) (v0 v1 v2 v3 v4 v5 : Value) : Blk (w.setCells B 0 [v0, v1, v2, v3, v4, v5]) B [v0, v1, v2, v3, v4, v5] ty := (((((h.put 0 v0).put 1 v1).put 2 v2).put 3 v3).put 4 v4).put 5 v5
theorem below_setCellsD {N : Nat} : ∀ {B : Nat} (hB : N ≤ B) (vs : List Value) (w : World) (k : Nat), Below N w (w.setCells B k vs)
  | _, _, [], _, _ => Below.refl _ _
  | B, hB, v :: vs, w, k => ((Below.refl N w).setCell (p := ⟨B, k, none⟩) hB v).trans (below_setCellsD hB vs _ (k + 1))
theorem belowW_put {w W : World} {G : Nat} (hG : w.heap.size ≤ G) (h : Below w.heap.size w W) (vs : List Value) : Below w.heap.size w (W.setCells G 0 vs) := h.trans (below_setCellsD hG vs W 0)
theorem rule_range {w : World} {b o : Nat} {v0 v1 v2 v3 v4 v5 : Value} (h0 : w.cell? ⟨b, o, none⟩ = some v0) (h1 : w.cell? ⟨b, o + 1, none⟩ = some v1) (h2 : w.cell? ⟨b, o + 2, none⟩ = some v2) (h3 : w.cell? ⟨b, o + 3, none⟩ = some v3) (h4 : w.cell? ⟨b, o + 4, none⟩ = some v4) (h5 : w.cell? ⟨b, o + 5, none⟩ = some v5) : w.rangeAt b o [v0, v1, v2, v3, v4, v5] := fun j v hj => by
  match j, hj with
  | 0, hj => injection hj with hj; subst hj; exact h0
  | 1, hj => injection hj with hj; subst hj; exact h1
  | 2, hj => injection hj with hj; subst hj; exact h2
  | 3, hj => injection hj with hj; subst hj; exact h3
  | 4, hj => injection hj with hj; subst hj; exact h4
  | 5, hj => injection hj with hj; subst hj; exact h5
  | j + 6, hj => cases hj
theorem named_yes (t : Nat) (h : 3 ≤ t) (h2 : t ≤ 5) (w : World) : Calls Tryz.prog 180 #[.int .i64 t] w fun e w' => e = .returned (.bool true) ∧ w = w' := by
  have := named_any t (by omega) w
  rw [decide_eq_true h, decide_eq_true h2] at this
  exact this
theorem named_no (t : Nat) (h0 : 1 ≤ t ∧ t ≤ 6) (h : t < 3 ∨ 5 < t) (w : World) : Calls Tryz.prog 180 #[.int .i64 t] w fun e w' => e = .returned (.bool false) ∧ w = w' := by
  have := named_any t h0 w
  rw [show (decide (3 ≤ t) && decide (t ≤ 5)) = false by rcases h with h | h <;> simp <;> omega] at this
  exact this
theorem name_key {s : List UInt8} (h : s ∈ ([[109, 97, 105, 110], [104, 101, 108, 112]] : List (List UInt8))) : isKeyB s = true ∧ s.length ≤ 10 := by
  simp only [List.mem_cons, List.not_mem_nil, or_false] at h
  rcases h with rfl | rfl <;> exact ⟨by decide, by decide⟩
theorem not_both {a b c d : List UInt8} (h : ¬ (a = b ∧ c = d)) (hb : a = b) : (c == d) = false := beq_eq_false_iff_ne.2 fun e => h ⟨hb, e⟩
theorem not_same {a b : List UInt8} (h : a ≠ b) : (a == b) = false := beq_eq_false_iff_ne.2 h
set_option maxRecDepth 100000 in
set_option maxHeartbeats 8000000 in
theorem checkRule_any (w : World) (p : DPlan) (hp : DPlanFine w p) (i : Nat) (hi : i < 3) (k : Nat) (hk : k < (p.ctxs.getD i noDCtx).rn) : Calls Tryz.prog 145 #[.agg p.cells.toArray, .agg (p.ctxs.getD i noDCtx).cells.toArray, .int .i64 k] w (IntP 0 w) := by
  have HHH : Hid (∀ W, Below w.heap.size w W → ∀ s, s ∈ ([[], [104, 97], [104, 98]] : List (List UInt8)) → Calls Tryz.prog 75 #[.agg p.cells.toArray, .string ⟨s.toArray⟩] W (BoolP true W)) := fun W hW s hs => hasHours_any W p (hp.below hW) s hs
  have hc := hp.each i hi
  clear hp
  generalize p.ctxs.getD i noDCtx = c at hc hk ⊢
  obtain ⟨ca, cn, cc, ctxs, ha, hn, hcp, hrs⟩ := p
  obtain ⟨key, ra, rn, rc, rules, ia, inn, ic, incs⟩ := c
  have hr := hc.rules
  have hcap := hc.cap
  have honce := hc.once
  simp only at hr hcap honce hk
  have hlen := hr.len
  have hok := hr.each k (by omega)
  have hfew := hr.few
  obtain ⟨b, off, rfl, hbl, hcl⟩ := hr.at (by omega)
  clear hr hc
  have HRC : Hid (∀ j, j < k → ∀ W, Below w.heap.size w W → W.rangeAt b (off + j * 6) ((rules.getD j noDRule).cells)) := fun j hj W hW => by
    obtain ⟨q0, q1, q2, q3, q4, q5⟩ := hcl j (by omega)
    exact rule_range ((hW.cell (p := ⟨b, off + j * 6, none⟩) hbl).trans q0) ((hW.cell (p := ⟨b, off + j * 6 + 1, none⟩) hbl).trans q1) ((hW.cell (p := ⟨b, off + j * 6 + 2, none⟩) hbl).trans q2) ((hW.cell (p := ⟨b, off + j * 6 + 3, none⟩) hbl).trans q3) ((hW.cell (p := ⟨b, off + j * 6 + 4, none⟩) hbl).trans q4) ((hW.cell (p := ⟨b, off + j * 6 + 5, none⟩) hbl).trans q5)
  have HON : Hid (∀ j, j < k → ¬ ((rules.getD j noDRule).els.str = (rules.getD k noDRule).els.str ∧ (rules.getD j noDRule).hours = (rules.getD k noDRule).hours)) := fun j hj => honce j k hj (by omega)
  have HRK : Hid (∀ W, Below w.heap.size w W → W.rangeAt b (off + k * 6) ((rules.getD k noDRule).cells)) := fun W hW => by
    obtain ⟨q0, q1, q2, q3, q4, q5⟩ := hcl k (by omega)
    exact rule_range ((hW.cell (p := ⟨b, off + k * 6, none⟩) hbl).trans q0) ((hW.cell (p := ⟨b, off + k * 6 + 1, none⟩) hbl).trans q1) ((hW.cell (p := ⟨b, off + k * 6 + 2, none⟩) hbl).trans q2) ((hW.cell (p := ⟨b, off + k * 6 + 3, none⟩) hbl).trans q3) ((hW.cell (p := ⟨b, off + k * 6 + 4, none⟩) hbl).trans q4) ((hW.cell (p := ⟨b, off + k * 6 + 5, none⟩) hbl).trans q5)
  clear hcl honce hlen
  generalize rules.getD k noDRule = r at hok HON HRK
  obtain ⟨rel, rn_, rp, rt, rm, rh⟩ := r
  obtain ⟨hels, hstrip, hpre, hto, hnamed, hbare, hhours⟩ := hok
  simp only at hels hstrip hpre hto hnamed hbare hhours
  unfold DRule.cells at HRK HRC
  simp only at HRK HON
  have HCP : Hid (∀ W, Calls Tryz.prog 178 #[.string ⟨rel.str.toArray⟩] W (IntP 0 W)) := fun W => checkPattern_any W rel hels
  generalize rel.str = rs at HCP HRK HON
  have HPR := Lib.hid (pre_any rp hpre)
  have HHX := Lib.hid (fun W hW => HHH.out W hW rh hhours)
  have HNM : Hid (3 ≤ rt → rt ≤ 5 → isKeyB rm = true ∧ rm.length ≤ 10) := fun h1 h2 => name_key (hnamed h1 h2)
  have HBR := Lib.hid hbare
  clear HHH hels hpre hhours hnamed hbare
  show Calls Tryz.prog 145 #[.agg #[.slice ca cn cc, .slice ha hn hcp], .agg #[.string ⟨key.toArray⟩, .slice (some ⟨b, off, none⟩) rn rc, .slice ia inn ic], .int .i64 k] w _
  have HHX2 : Hid (∀ W, Below w.heap.size w W → Calls Tryz.prog 75 #[.agg #[.slice ca cn cc, .slice ha hn hcp], .string ⟨rh.toArray⟩] W (BoolP true W)) := HHX.out
  clear HHX
  have P1 : Hid (Blk ((w.alloc (.cells #[.slice ca cn cc, .slice ha hn hcp] 29)).alloc (.cells #[.string ⟨key.toArray⟩, .slice (some ⟨b, off, none⟩) rn rc, .slice ia inn ic] 59)) w.heap.size [.slice ca cn cc, .slice ha hn hcp] 29) := (Blk.new w _ _).alloc _
  have C1 : Hid (Blk ((w.alloc (.cells #[.slice ca cn cc, .slice ha hn hcp] 29)).alloc (.cells #[.string ⟨key.toArray⟩, .slice (some ⟨b, off, none⟩) rn rc, .slice ia inn ic] 59)) (w.heap.size + 1) [.string ⟨key.toArray⟩, .slice (some ⟨b, off, none⟩) rn rc, .slice ia inn ic] 59) := by
    have := Blk.new (w.alloc (.cells #[.slice ca cn cc, .slice ha hn hcp] 29)) [.string ⟨key.toArray⟩, .slice (some ⟨b, off, none⟩) rn rc, .slice ia inn ic] 59
    rw [show (w.alloc (.cells #[.slice ca cn cc, .slice ha hn hcp] 29)).heap.size = w.heap.size + 1 by simp] at this
    exact this
  have HB1 : Hid (Below w.heap.size w ((w.alloc (.cells #[.slice ca cn cc, .slice ha hn hcp] 29)).alloc (.cells #[.string ⟨key.toArray⟩, .slice (some ⟨b, off, none⟩) rn rc, .slice ia inn ic] 59))) := ext_alloc (ext_alloc (Below.refl _ _))
  go_enter Tryz.func145, Tryz.ntmps145
  go_upto_region 1 with (fail)
  generalize ((w.alloc (.cells #[.slice ca cn cc, .slice ha hn hcp] 29)).alloc (.cells #[.string ⟨key.toArray⟩, .slice (some ⟨b, off, none⟩) rn rc, .slice ia inn ic] 59)) = w1 at P1 C1 HB1 ⊢
  generalize w.heap.size + 1 = C at C1 ⊢
  obtain ⟨P, hP⟩ : ∃ P, P = w.heap.size := ⟨_, rfl⟩
  rw [← hP] at P1
  simp only [← hP]
  clear hP
  have hk0 : ¬ ((k : Int) < 0) := by omega
  have hkn : (k : Int) < (rn : Int) := by omega
  have c0 := C1.out.cell 0 rfl
  have c1 := C1.out.cell 1 rfl
  have c2 := C1.out.cell 2 rfl
  have HRG : Hid (w1.rangeAt b (off + k * 6) [.string ⟨rs.toArray⟩, .int .i64 rn_, .string ⟨rp.toArray⟩, .int .i64 rt, .string ⟨rm.toArray⟩, .string ⟨rh.toArray⟩]) := HRK.out w1 HB1.out
  have hz0 := Blk.new w1 [.string ⟨#[]⟩, .int .i64 0, .string ⟨#[]⟩, .int .i64 0, .string ⟨#[]⟩, .string ⟨#[]⟩] 62
  have HTH : Hid (World.there (w1.alloc (.cells #[.string ⟨#[]⟩, .int .i64 0, .string ⟨#[]⟩, .int .i64 0, .string ⟨#[]⟩, .string ⟨#[]⟩] 62)) w1.heap.size 0 6) := hz0.th 6 (Nat.le_refl 6)
  have hA : Below w1.heap.size w1 (w1.alloc (.cells #[.string ⟨#[]⟩, .int .i64 0, .string ⟨#[]⟩, .int .i64 0, .string ⟨#[]⟩, .string ⟨#[]⟩] 62)) := ext_alloc (Below.refl _ _)
  have hV : Below w1.heap.size w1 (World.setCells (w1.alloc (.cells #[.string ⟨#[]⟩, .int .i64 0, .string ⟨#[]⟩, .int .i64 0, .string ⟨#[]⟩, .string ⟨#[]⟩] 62)) w1.heap.size 0 [.string ⟨rs.toArray⟩, .int .i64 rn_, .string ⟨rp.toArray⟩, .int .i64 rt, .string ⟨rm.toArray⟩, .string ⟨rh.toArray⟩]) := belowW_put (Nat.le_refl _) hA _
  have R2 : Hid (Blk (World.setCells (w1.alloc (.cells #[.string ⟨#[]⟩, .int .i64 0, .string ⟨#[]⟩, .int .i64 0, .string ⟨#[]⟩, .string ⟨#[]⟩] 62)) w1.heap.size 0 [.string ⟨rs.toArray⟩, .int .i64 rn_, .string ⟨rp.toArray⟩, .int .i64 rt, .string ⟨rm.toArray⟩, .string ⟨rh.toArray⟩]) w1.heap.size [.string ⟨rs.toArray⟩, .int .i64 rn_, .string ⟨rp.toArray⟩, .int .i64 rt, .string ⟨rm.toArray⟩, .string ⟨rh.toArray⟩] 62) := hz0.put6 (.string ⟨rs.toArray⟩) (.int .i64 rn_) (.string ⟨rp.toArray⟩) (.int .i64 rt) (.string ⟨rm.toArray⟩) (.string ⟨rh.toArray⟩)
  have P2 := Lib.hid (P1.out.below hV)
  have C2 := Lib.hid (C1.out.below hV)
  have HB2 := Lib.hid (ext_trans HB1.out hV)
  clear hz0 hA hV P1 C1 HB1
  as_aux_lemma =>
    go_wp2_with (first | (refine wpList_load_mid rfl 62 (.tmp 14) rfl b (off + k * 6) rfl [.string ⟨rs.toArray⟩, .int .i64 rn_, .string ⟨rp.toArray⟩, .int .i64 rt, .string ⟨rm.toArray⟩, .string ⟨rh.toArray⟩] _ HRG.out Tryz.underlying62 rfl Tryz.druleSz ?_) | (refine wpList_store_mid rfl 62 (.tmp 7) (.tmp 15) rfl w1.heap.size 0 #[.string ⟨rs.toArray⟩, .int .i64 rn_, .string ⟨rp.toArray⟩, .int .i64 rt, .string ⟨rm.toArray⟩, .string ⟨rh.toArray⟩] rfl rfl HTH.out Tryz.druleSz (by simp [Value.oneCell']) ?_; generalize (World.setCells (w1.alloc (.cells #[.string ⟨#[]⟩, .int .i64 0, .string ⟨#[]⟩, .int .i64 0, .string ⟨#[]⟩, .string ⟨#[]⟩] 62)) w1.heap.size 0 [.string ⟨rs.toArray⟩, .int .i64 rn_, .string ⟨rp.toArray⟩, .int .i64 rt, .string ⟨rm.toArray⟩, .string ⟨rh.toArray⟩]) = w2 at P2 C2 R2 HB2 ⊢; clear HTH HRG; refine Hid.out ?_))
    refine Lib.hid ?_
    generalize w1.heap.size = R at R2 ⊢
    clear c0 c1 c2
    have r0 := R2.out.cell 0 rfl
    have r1 := R2.out.cell 1 rfl
    have r2 := R2.out.cell 2 rfl
    have r3 := R2.out.cell 3 rfl
    have r4 := R2.out.cell 4 rfl
    have r5 := R2.out.cell 5 rfl
    as_aux_lemma =>
      go_wp2_with fail
      refine (HCP.out _).mono ?_
      rintro e w3 ⟨rfl, hb⟩
      clear r0 r1 r2 r3 r4 r5
      have HB3 := Lib.hid (ext_trans HB2.out hb)
      have P3 := Lib.hid (P2.out.below hb)
      have C3 := Lib.hid (C2.out.below hb)
      have R3 := Lib.hid (R2.out.below hb)
      clear hb HB2 P2 C2 R2
      have r0 := R3.out.cell 0 rfl
      have r1 := R3.out.cell 1 rfl
      have r2 := R3.out.cell 2 rfl
      have r3 := R3.out.cell 3 rfl
      have r4 := R3.out.cell 4 rfl
      have r5 := R3.out.cell 5 rfl
      as_aux_lemma =>
        go_wp2_with (go_at_call 74; refine (within_d _ _ _ _ (by omega) (by omega)).mono ?_; rintro e w' ⟨rfl, rfl⟩)
        refine (HPR.out _).mono ?_
        rintro e w4 ⟨rfl, hb⟩
        clear r0 r1 r2 r3 r4 r5
        have HB4 := Lib.hid (ext_trans HB3.out hb)
        have P4 := Lib.hid (P3.out.below hb)
        have C4 := Lib.hid (C3.out.below hb)
        have R4 := Lib.hid (R3.out.below hb)
        clear hb HB3 P3 C3 R3
        have r0 := R4.out.cell 0 rfl
        have r1 := R4.out.cell 1 rfl
        have r2 := R4.out.cell 2 rfl
        have r3 := R4.out.cell 3 rfl
        have r4 := R4.out.cell 4 rfl
        have r5 := R4.out.cell 5 rfl
        have hto1 := hto.1
        have hto2 := hto.2
        by_cases hN : 3 ≤ rt ∧ rt ≤ 5
        case pos =>
          obtain ⟨hkey, hkl⟩ := HNM.out hN.1 hN.2
          have HIK := Lib.hid (fun W => isKey_any rm W (by omega))
          rw [hkey] at HIK
          clear hkey
          as_aux_lemma =>
            go_wp2_with (first | (go_at_call 74; refine (within_d _ _ _ _ (by omega) (by omega)).mono ?_; rintro e w' ⟨rfl, rfl⟩) | (go_at_call 180; refine (named_yes _ hN.1 hN.2 _).mono ?_; rintro e w' ⟨rfl, rfl⟩))
            refine (HIK.out _).mono ?_
            rintro e w5 ⟨rfl, hb⟩
            clear r0 r1 r2 r3 r4 r5
            have HB5 := Lib.hid (ext_trans HB4.out hb)
            have P5 := Lib.hid (P4.out.below hb)
            have C5 := Lib.hid (C4.out.below hb)
            have R5 := Lib.hid (R4.out.below hb)
            clear hb HB4 P4 C4 R4
            have p0 := P5.out.cell 0 rfl
            have p1 := P5.out.cell 1 rfl
            have r0 := R5.out.cell 0 rfl
            have r1 := R5.out.cell 1 rfl
            have r2 := R5.out.cell 2 rfl
            have r3 := R5.out.cell 3 rfl
            have r4 := R5.out.cell 4 rfl
            have r5 := R5.out.cell 5 rfl
            have c0 := C5.out.cell 0 rfl
            have c1 := C5.out.cell 1 rfl
            have c2 := C5.out.cell 2 rfl
            as_aux_lemma =>
              go_wp2_with (first | (go_at_call 74; refine (within_d _ _ _ _ (by omega) (by omega)).mono ?_; rintro e w' ⟨rfl, rfl⟩) | (go_at_call 180; refine (named_yes _ hN.1 hN.2 _).mono ?_; rintro e w' ⟨rfl, rfl⟩))
              refine (HHX2.out _ HB5.out).mono ?_
              rintro e w6 ⟨rfl, hb⟩
              clear p0 p1
              clear r0 r1 r2 r3 r4 r5
              clear c0 c1 c2
              have HB6 := Lib.hid (ext_trans HB5.out hb)
              have P6 := Lib.hid (P5.out.below hb)
              have C6 := Lib.hid (C5.out.below hb)
              have R6 := Lib.hid (R5.out.below hb)
              clear hb HB5 P5 C5 R5
              have c0 := C6.out.cell 0 rfl
              have c1 := C6.out.cell 1 rfl
              have c2 := C6.out.cell 2 rfl
              have r0 := R6.out.cell 0 rfl
              have r1 := R6.out.cell 1 rfl
              have r2 := R6.out.cell 2 rfl
              have r3 := R6.out.cell 3 rfl
              have r4 := R6.out.cell 4 rfl
              have r5 := R6.out.cell 5 rfl
              have hkc : (k : Int) ≤ (rc : Int) := by omega
              clear HPR HCP HRK HNM HBR HHX2
              as_aux_lemma =>
                go_wp2_with fail
                go_loopw [68] (fun it wr => ∃ j : Nat, j ≤ k ∧ it = .int .i64 j ∧ Hid (Below w6.heap.size w6 wr)) (fun it _ => k - (intOf it).toNat)
                case atStart => exact ⟨0, Nat.zero_le _, rfl, Below.refl _ _⟩
                case round =>
                  obtain ⟨j, hj, rfl, HJ⟩ := hrel
                  by_cases hlt : j < k
                  · have hne := HON.out j hlt
                    have HRG : Hid (wr.rangeAt b (off + j * 6) _) := HRC.out j hlt wr (ext_trans HB6.out HJ.out)
                    clear c0 c1 c2 r0 r1 r2 r3 r4 r5
                    have HRJ := Lib.hid (R6.out.below HJ.out)
                    generalize rules.getD j noDRule = x at hne HRG
                    obtain ⟨xel, xn, xp, xt, xm, xh⟩ := x
                    simp only at hne HRG
                    generalize xel.str = xs at hne HRG
                    have hj0 : ¬ ((j : Int) < 0) := by omega
                    have hjk : (j : Int) < (k : Int) := by omega
                    have hz0 := Blk.new wr [.string ⟨#[]⟩, .int .i64 0, .string ⟨#[]⟩, .int .i64 0, .string ⟨#[]⟩, .string ⟨#[]⟩] 62
                    have HTH : Hid (World.there (wr.alloc (.cells #[.string ⟨#[]⟩, .int .i64 0, .string ⟨#[]⟩, .int .i64 0, .string ⟨#[]⟩, .string ⟨#[]⟩] 62)) wr.heap.size 0 6) := hz0.th 6 (Nat.le_refl 6)
                    have hA : Below wr.heap.size wr (wr.alloc (.cells #[.string ⟨#[]⟩, .int .i64 0, .string ⟨#[]⟩, .int .i64 0, .string ⟨#[]⟩, .string ⟨#[]⟩] 62)) := ext_alloc (Below.refl _ _)
                    have hV : Below wr.heap.size wr (World.setCells (wr.alloc (.cells #[.string ⟨#[]⟩, .int .i64 0, .string ⟨#[]⟩, .int .i64 0, .string ⟨#[]⟩, .string ⟨#[]⟩] 62)) wr.heap.size 0 [.string ⟨xs.toArray⟩, .int .i64 xn, .string ⟨xp.toArray⟩, .int .i64 xt, .string ⟨xm.toArray⟩, .string ⟨xh.toArray⟩]) := belowW_put (Nat.le_refl _) hA _
                    have X2 : Hid (Blk (World.setCells (wr.alloc (.cells #[.string ⟨#[]⟩, .int .i64 0, .string ⟨#[]⟩, .int .i64 0, .string ⟨#[]⟩, .string ⟨#[]⟩] 62)) wr.heap.size 0 [.string ⟨xs.toArray⟩, .int .i64 xn, .string ⟨xp.toArray⟩, .int .i64 xt, .string ⟨xm.toArray⟩, .string ⟨xh.toArray⟩]) wr.heap.size [.string ⟨xs.toArray⟩, .int .i64 xn, .string ⟨xp.toArray⟩, .int .i64 xt, .string ⟨xm.toArray⟩, .string ⟨xh.toArray⟩] 62) := hz0.put6 (.string ⟨xs.toArray⟩) (.int .i64 xn) (.string ⟨xp.toArray⟩) (.int .i64 xt) (.string ⟨xm.toArray⟩) (.string ⟨xh.toArray⟩)
                    have R2 := Lib.hid (HRJ.out.below hV)
                    have HJ2 := Lib.hid (ext_trans HJ.out hV)
                    clear hz0 hA hV HRJ
                    as_aux_lemma =>
                      go_wp2_with (first | (refine wpList_load_mid rfl 62 (.tmp 70) rfl b (off + j * 6) rfl [.string ⟨xs.toArray⟩, .int .i64 xn, .string ⟨xp.toArray⟩, .int .i64 xt, .string ⟨xm.toArray⟩, .string ⟨xh.toArray⟩] _ HRG.out Tryz.underlying62 rfl Tryz.druleSz ?_) | (refine wpList_store_mid rfl 62 (.tmp 10) (.tmp 71) rfl wr.heap.size 0 #[.string ⟨xs.toArray⟩, .int .i64 xn, .string ⟨xp.toArray⟩, .int .i64 xt, .string ⟨xm.toArray⟩, .string ⟨xh.toArray⟩] rfl rfl HTH.out Tryz.druleSz (by simp [Value.oneCell']) ?_; generalize World.setCells (wr.alloc (.cells #[.string ⟨#[]⟩, .int .i64 0, .string ⟨#[]⟩, .int .i64 0, .string ⟨#[]⟩, .string ⟨#[]⟩] 62)) wr.heap.size 0 [.string ⟨xs.toArray⟩, .int .i64 xn, .string ⟨xp.toArray⟩, .int .i64 xt, .string ⟨xm.toArray⟩, .string ⟨xh.toArray⟩] = wx at R2 X2 HJ2 ⊢; clear HTH HRG; refine Hid.out ?_))
                      refine Lib.hid ?_
                      generalize wr.heap.size = X at X2 ⊢
                      have r0 := R2.out.cell 0 rfl
                      have r5 := R2.out.cell 5 rfl
                      have x0 := X2.out.cell 0 rfl
                      have x5 := X2.out.cell 5 rfl
                      clear R2 X2
                      by_cases hs : xs = rs
                      · have hnh := not_both hne hs
                        subst hs
                        clear hne
                        as_aux_lemma =>
                          go_wp2_with fail
                          go_roundw
                          case rel => exact ⟨j + 1, by omega, by go_num, HJ2.out⟩
                          case measure => simp [intOf]; omega
                      · have hns := not_same hs
                        clear hne hs
                        as_aux_lemma =>
                          go_wp2_with fail
                          go_roundw
                          case rel => exact ⟨j + 1, by omega, by go_num, HJ2.out⟩
                          case measure => simp [intOf]; omega
                  · have hjj : j = k := by omega
                    have hnn : ¬ (j : Int) < (k : Int) := by omega
                    have HE := Lib.hid (ext_trans HB6.out HJ.out)
                    clear c0 c1 c2 r0 r1 r2 r3 r4 r5 HRC HON
                    as_aux_lemma =>
                      go_wp2_with fail
                      go_ret
                      exact ⟨rfl, HE.out⟩
        case neg =>
          have hN : rt < 3 ∨ 5 < rt := by omega
          have hm := HBR.out hN
          subst hm
          clear r0 r1 r2 r3 r4 r5
          have p0 := P4.out.cell 0 rfl
          have p1 := P4.out.cell 1 rfl
          have r0 := R4.out.cell 0 rfl
          have r1 := R4.out.cell 1 rfl
          have r2 := R4.out.cell 2 rfl
          have r3 := R4.out.cell 3 rfl
          have r4 := R4.out.cell 4 rfl
          have r5 := R4.out.cell 5 rfl
          have c0 := C4.out.cell 0 rfl
          have c1 := C4.out.cell 1 rfl
          have c2 := C4.out.cell 2 rfl
          as_aux_lemma =>
            go_wp2_with (first | (go_at_call 74; refine (within_d _ _ _ _ (by omega) (by omega)).mono ?_; rintro e w' ⟨rfl, rfl⟩) | (go_at_call 180; refine (named_no _ hto hN _).mono ?_; rintro e w' ⟨rfl, rfl⟩))
            refine (HHX2.out _ HB4.out).mono ?_
            rintro e w5 ⟨rfl, hb⟩
            clear p0 p1
            clear r0 r1 r2 r3 r4 r5
            clear c0 c1 c2
            have HB5 := Lib.hid (ext_trans HB4.out hb)
            have P5 := Lib.hid (P4.out.below hb)
            have C5 := Lib.hid (C4.out.below hb)
            have R5 := Lib.hid (R4.out.below hb)
            clear hb HB4 P4 C4 R4
            have c0 := C5.out.cell 0 rfl
            have c1 := C5.out.cell 1 rfl
            have c2 := C5.out.cell 2 rfl
            have r0 := R5.out.cell 0 rfl
            have r1 := R5.out.cell 1 rfl
            have r2 := R5.out.cell 2 rfl
            have r3 := R5.out.cell 3 rfl
            have r4 := R5.out.cell 4 rfl
            have r5 := R5.out.cell 5 rfl
            have hkc : (k : Int) ≤ (rc : Int) := by omega
            clear HPR HCP HRK HNM HBR HHX2
            as_aux_lemma =>
              go_wp2_with fail
              go_loopw [68] (fun it wr => ∃ j : Nat, j ≤ k ∧ it = .int .i64 j ∧ Hid (Below w5.heap.size w5 wr)) (fun it _ => k - (intOf it).toNat)
              case atStart => exact ⟨0, Nat.zero_le _, rfl, Below.refl _ _⟩
              case round =>
                obtain ⟨j, hj, rfl, HJ⟩ := hrel
                by_cases hlt : j < k
                · have hne := HON.out j hlt
                  have HRG : Hid (wr.rangeAt b (off + j * 6) _) := HRC.out j hlt wr (ext_trans HB5.out HJ.out)
                  clear c0 c1 c2 r0 r1 r2 r3 r4 r5
                  have HRJ := Lib.hid (R5.out.below HJ.out)
                  generalize rules.getD j noDRule = x at hne HRG
                  obtain ⟨xel, xn, xp, xt, xm, xh⟩ := x
                  simp only at hne HRG
                  generalize xel.str = xs at hne HRG
                  have hj0 : ¬ ((j : Int) < 0) := by omega
                  have hjk : (j : Int) < (k : Int) := by omega
                  have hz0 := Blk.new wr [.string ⟨#[]⟩, .int .i64 0, .string ⟨#[]⟩, .int .i64 0, .string ⟨#[]⟩, .string ⟨#[]⟩] 62
                  have HTH : Hid (World.there (wr.alloc (.cells #[.string ⟨#[]⟩, .int .i64 0, .string ⟨#[]⟩, .int .i64 0, .string ⟨#[]⟩, .string ⟨#[]⟩] 62)) wr.heap.size 0 6) := hz0.th 6 (Nat.le_refl 6)
                  have hA : Below wr.heap.size wr (wr.alloc (.cells #[.string ⟨#[]⟩, .int .i64 0, .string ⟨#[]⟩, .int .i64 0, .string ⟨#[]⟩, .string ⟨#[]⟩] 62)) := ext_alloc (Below.refl _ _)
                  have hV : Below wr.heap.size wr (World.setCells (wr.alloc (.cells #[.string ⟨#[]⟩, .int .i64 0, .string ⟨#[]⟩, .int .i64 0, .string ⟨#[]⟩, .string ⟨#[]⟩] 62)) wr.heap.size 0 [.string ⟨xs.toArray⟩, .int .i64 xn, .string ⟨xp.toArray⟩, .int .i64 xt, .string ⟨xm.toArray⟩, .string ⟨xh.toArray⟩]) := belowW_put (Nat.le_refl _) hA _
                  have X2 : Hid (Blk (World.setCells (wr.alloc (.cells #[.string ⟨#[]⟩, .int .i64 0, .string ⟨#[]⟩, .int .i64 0, .string ⟨#[]⟩, .string ⟨#[]⟩] 62)) wr.heap.size 0 [.string ⟨xs.toArray⟩, .int .i64 xn, .string ⟨xp.toArray⟩, .int .i64 xt, .string ⟨xm.toArray⟩, .string ⟨xh.toArray⟩]) wr.heap.size [.string ⟨xs.toArray⟩, .int .i64 xn, .string ⟨xp.toArray⟩, .int .i64 xt, .string ⟨xm.toArray⟩, .string ⟨xh.toArray⟩] 62) := hz0.put6 (.string ⟨xs.toArray⟩) (.int .i64 xn) (.string ⟨xp.toArray⟩) (.int .i64 xt) (.string ⟨xm.toArray⟩) (.string ⟨xh.toArray⟩)
                  have R2 := Lib.hid (HRJ.out.below hV)
                  have HJ2 := Lib.hid (ext_trans HJ.out hV)
                  clear hz0 hA hV HRJ
                  as_aux_lemma =>
                    go_wp2_with (first | (refine wpList_load_mid rfl 62 (.tmp 70) rfl b (off + j * 6) rfl [.string ⟨xs.toArray⟩, .int .i64 xn, .string ⟨xp.toArray⟩, .int .i64 xt, .string ⟨xm.toArray⟩, .string ⟨xh.toArray⟩] _ HRG.out Tryz.underlying62 rfl Tryz.druleSz ?_) | (refine wpList_store_mid rfl 62 (.tmp 10) (.tmp 71) rfl wr.heap.size 0 #[.string ⟨xs.toArray⟩, .int .i64 xn, .string ⟨xp.toArray⟩, .int .i64 xt, .string ⟨xm.toArray⟩, .string ⟨xh.toArray⟩] rfl rfl HTH.out Tryz.druleSz (by simp [Value.oneCell']) ?_; generalize World.setCells (wr.alloc (.cells #[.string ⟨#[]⟩, .int .i64 0, .string ⟨#[]⟩, .int .i64 0, .string ⟨#[]⟩, .string ⟨#[]⟩] 62)) wr.heap.size 0 [.string ⟨xs.toArray⟩, .int .i64 xn, .string ⟨xp.toArray⟩, .int .i64 xt, .string ⟨xm.toArray⟩, .string ⟨xh.toArray⟩] = wx at R2 X2 HJ2 ⊢; clear HTH HRG; refine Hid.out ?_))
                    refine Lib.hid ?_
                    generalize wr.heap.size = X at X2 ⊢
                    have r0 := R2.out.cell 0 rfl
                    have r5 := R2.out.cell 5 rfl
                    have x0 := X2.out.cell 0 rfl
                    have x5 := X2.out.cell 5 rfl
                    clear R2 X2
                    by_cases hs : xs = rs
                    · have hnh := not_both hne hs
                      subst hs
                      clear hne
                      as_aux_lemma =>
                        go_wp2_with fail
                        go_roundw
                        case rel => exact ⟨j + 1, by omega, by go_num, HJ2.out⟩
                        case measure => simp [intOf]; omega
                    · have hns := not_same hs
                      clear hne hs
                      as_aux_lemma =>
                        go_wp2_with fail
                        go_roundw
                        case rel => exact ⟨j + 1, by omega, by go_num, HJ2.out⟩
                        case measure => simp [intOf]; omega
                · have hjj : j = k := by omega
                  have hnn : ¬ (j : Int) < (k : Int) := by omega
                  have HE := Lib.hid (ext_trans HB5.out HJ.out)
                  clear c0 c1 c2 r0 r1 r2 r3 r4 r5 HRC HON
                  as_aux_lemma =>
                    go_wp2_with fail
                    go_ret
                    exact ⟨rfl, HE.out⟩
end Go.Proofs.YtkdadbpajhdelaaGreatDoor

set_option linter.unusedVariables false
set_option linter.unusedSimpArgs false
namespace Go.Proofs.YtkdadbpajhdelaaGreatDoor
open Go.RowKit

/-- The signs of a set, in order, up to the k-th. -/
def rkTo (m k : Nat) : List UInt8 := ((List.range k).filter (fun i => m.testBit i)).map signN
theorem rkTo_succ (m k : Nat) : rkTo m (k + 1) = rkTo m k ++ if m.testBit k then [signN k] else [] := by
  unfold rkTo
  rw [List.range_succ, List.filter_append, List.map_append]
  cases h : m.testBit k <;> simp [h]
theorem rkTo_len (m k : Nat) : (rkTo m k).length ≤ k := by
  unfold rkTo
  rw [List.length_map]
  exact Nat.le_trans (List.length_filter_le _ _) (by simp)
/-- What rank answers: a number, and a string. -/
def Pat.key (p : Pat) (i : Nat) : Int × List UInt8 :=
  if i < p.sets.length then ((rkTo (p.sets.getD i 0) 12).length, rkTo (p.sets.getD i 0) 12)
  else if i = p.sets.length ∧ p.tail = 46 then (100, []) else if i = p.sets.length ∧ p.tail = 33 then (102, []) else (101, [])

theorem u16_shift (m i : Nat) (hm : m < 4096) (hi : i < 12) : bits BinOp.and IntKind.u16 ((m : Int) / 2 ^ i) 1 = if m.testBit i then 1 else 0 := by
  have h1 := u16_and (m / 2 ^ i) 0 (Nat.lt_of_le_of_lt (Nat.div_le_self _ _) hm) (by omega)
  have e : (m / 2 ^ i).testBit 0 = m.testBit i := by rw [Nat.testBit_div_two_pow]; simp
  rw [e] at h1
  have e2 : ((m / 2 ^ i : Nat) : Int) = (m : Int) / 2 ^ i := by simp
  rw [e2] at h1
  simpa using h1

theorem sign_app (x : List UInt8) (k : Nat) (hk : k < 12) : ((⟨x.toArray⟩ : ByteArray) ++ (⟨#[35, 42, 48, 49, 50, 51, 52, 53, 54, 55, 56, 57]⟩ : ByteArray).extract k (k + 1)) = ⟨(x ++ [signN k]).toArray⟩ := by
  have h : ∀ k, k < 12 → (signsL.drop k).take 1 = [signN k] := by decide
  have e : ((⟨#[35, 42, 48, 49, 50, 51, 52, 53, 54, 55, 56, 57]⟩ : ByteArray).extract k (k + 1)) = ⟨#[signN k]⟩ := by
    rw [Lib.extract_eq, show k + 1 - k = 1 by omega]
    exact congrArg (fun l : List UInt8 => (⟨l.toArray⟩ : ByteArray)) (h k hk)
  rw [e]
  apply ByteArray.ext
  simp
def RankPost (x : Int × List UInt8) (w : World) (e : Ending) (w' : World) : Prop := e = .returned (.tuple #[.int .i64 x.1, .string ⟨x.2.toArray⟩]) ∧ Below w.heap.size w w'
def cmpI (a b : Int) : Int := if a < b then -1 else if b < a then 1 else 0
def orI (a b : Int) : Int := if a = 0 then b else a
def OrPost (x : Int) (w : World) (e : Ending) (w' : World) : Prop := e = .returned (.int .i64 x) ∧ w = w'
/-! ### The order of two patterns of a stream -/
def keyCmp (x y : Int × List UInt8) : Int := orI (cmpI x.1 y.1) (Lib.compareBytes x.2 y.2)
def keyNE (n : Nat) : Int × List UInt8 := if n < 12 then ((rkTo (elM n) 12).length, rkTo (elM n) 12) else if n = 12 then (100, []) else if n = 14 then (102, []) else (101, [])
theorem key_order : ∀ x, x < 15 → ∀ y, y < 15 → keyCmp (keyNE x) (keyNE y) = if x < y then -1 else if y < x then 1 else 0 := by decide +kernel
theorem key_els {e : Els} (he : ElsOk e) (i : Nat) : e.pat.key i = keyNE (e.rk i) ∧ e.rk i < 15 := by
  have h0 := he.tl0
  have h1 := he.tl1
  unfold Pat.key Els.rk
  have hl : e.pat.sets.length = e.els.length := by simp [Els.pat]
  rw [hl]
  by_cases hi : i < e.els.length
  · rw [if_pos hi, if_pos hi]
    have hx := he.each (e.els.getD i 0) (by rw [List.getD_eq_getElem?_getD, List.getElem?_eq_getElem hi]; exact List.getElem_mem hi)
    have hg : e.pat.sets.getD i 0 = elM (e.els.getD i 0) := by simp [Els.pat, List.getD_eq_getElem?_getD, List.getElem?_eq_getElem hi]
    rw [hg]
    exact ⟨by unfold keyNE; rw [if_pos hx], by omega⟩
  · rw [if_neg hi, if_neg hi]
    by_cases he : i = e.els.length
    · have ht : e.pat.tail = tlB e.tl := rfl
      rw [if_pos he, ht]
      have hc : e.tl = 12 ∨ e.tl = 13 ∨ e.tl = 14 := by omega
      rcases hc with hc | hc | hc <;> rw [hc] <;> simp [tlB, keyNE, he]
    · rw [if_neg he, if_neg (fun h => he h.1), if_neg (fun h => he h.1)]
      exact ⟨by simp [keyNE], by omega⟩

def BefPost (x : Int) (w : World) (e : Ending) (w' : World) : Prop := e = .returned (.int .i64 x) ∧ Below w.heap.size w w'
def BeforePost (x : Int) (w : World) (e : Ending) (w' : World) : Prop := e = .returned (.tuple #[.int .i64 x, .int .i64 0]) ∧ Below w.heap.size w w'
end Go.Proofs.YtkdadbpajhdelaaGreatDoor
